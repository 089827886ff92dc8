/- The law's own small functions: printed and refused, by the contracts of Print and Sort; a term's value (IsT). -/
import Derived.Test.YtjcdpmoabkfchaaDoorMParse
set_option linter.unusedSimpArgs false
set_option linter.unusedVariables false
namespace Go.Proofs.YtjcdpmoabkfchaaDoor
open Go.RowKit Go.Lib Go.Proofs.YtjcdpmoabkfchaaDoorW.PrintWords Go.Proofs.YtjcdpmoabkfchaaDoor.PTermMatchesReference

theorem Gd.now {B : Nat} {w : World} (h : Gd B w) : Gd w.heap.size w := ⟨Nat.le_trans h.lo h.size, Nat.le_refl _, h.tab, h.syn, h.rng⟩

/-- A value that reads as a term. -/
def IsT (w : World) (v : Value) (t : S24) : Prop :=
  ∃ A c, v = .agg #[.int .i64 t.f0, .int .i64 t.f1, .int .i64 t.f2, .slice A t.f3.length c] ∧ t.f3.length ≤ c ∧ Kd.C k24 w A t.f3.length t.f3
theorem IsT.below {w w' : World} {v : Value} {t : S24} (h : IsT w v t) (hb : Below w.heap.size w w') : IsT w' v t := by
  obtain ⟨A, c, e, hl, hC⟩ := h
  exact ⟨A, c, e, hl, Kd.C_below hC hb⟩

/-- A block that holds a term. -/
def Blk (w : World) (g : Nat) (t : S24) : Prop :=
  ∃ A c, w.heap[g]? = some (.cells #[.int .i64 t.f0, .int .i64 t.f1, .int .i64 t.f2, .slice A t.f3.length c] 24 (0, 0)) ∧ t.f3.length ≤ c ∧ Kd.C k24 w A t.f3.length t.f3
theorem Blk.below {w w' : World} {g : Nat} {t : S24} (h : Blk w g t) (hb : Below w.heap.size w w') : Blk w' g t := by
  obtain ⟨A, c, e, hl, hC⟩ := h
  exact ⟨A, c, below_blk hb e, hl, Kd.C_below hC hb⟩
theorem Blk.lt {w : World} {g : Nat} {t : S24} (h : Blk w g t) : g < w.heap.size := by
  obtain ⟨A, c, e, hl, hC⟩ := h
  exact blk_lt' e
/-- A term that is put into a new block. -/
theorem Blk.new {w : World} {a b c : Int} {A : Option Addr} {cap : Nat} {l : List S24} (hl : l.length ≤ cap) (hC : Kd.C k24 w A l.length l) :
    Blk (w.alloc (.cells #[.int .i64 a, .int .i64 b, .int .i64 c, .slice A l.length cap] 24)) w.heap.size ⟨a, b, c, l⟩ :=
  ⟨A, cap, heap_alloc_new _ _, hl, Kd.C_alloc hC _⟩
/-- The slice of one block's term. -/
theorem Blk.one {w : World} {g : Nat} {t : S24} (h : Blk w g t) : Kd.C k24 w (some ⟨g, 0, none⟩) 1 [t] := by
  obtain ⟨A, c, e, hl, hC⟩ := h
  refine ⟨rfl, by omega, fun _ => ⟨_, rfl, fun j p hj => ?_⟩⟩
  have hj0 : j = 0 := by
    have := (List.getElem?_eq_some_iff.1 hj).1
    simpa using this
  subst hj0
  obtain rfl : t = p := Option.some.inj hj
  obtain ⟨q0, q1, q2, q3⟩ := cells70 e
  refine ⟨_, rfl, k24_mk w t hl hC, fun i u hi => ?_⟩
  have hi4 : i < 4 := (List.getElem?_eq_some_iff.1 hi).1
  rcases (by omega : i = 0 ∨ i = 1 ∨ i = 2 ∨ i = 3) with rfl | rfl | rfl | rfl
  · cases hi; exact q0
  · cases hi; exact q1
  · cases hi; exact q2
  · cases hi; exact q3
/-- The slice of two terms in one new block. -/
theorem two_new {w : World} {g : Nat} {a b c a' b' c' : Int} {A A' : Option Addr} {cap cap' : Nat} {l l' : List S24} (hl : l.length ≤ cap) (hC : Kd.C k24 w A l.length l) (hl' : l'.length ≤ cap') (hC' : Kd.C k24 w A' l'.length l')
    (hg : w.heap[g]? = some (.cells #[.int .i64 a, .int .i64 b, .int .i64 c, .slice A l.length cap, .int .i64 a', .int .i64 b', .int .i64 c', .slice A' l'.length cap'] 24 (0, 0))) :
    Kd.C k24 w (some ⟨g, 0, none⟩) 2 [⟨a, b, c, l⟩, ⟨a', b', c', l'⟩] := by
  refine ⟨rfl, by omega, fun _ => ⟨_, rfl, fun j p hj => ?_⟩⟩
  have hj2 : j < 2 := (List.getElem?_eq_some_iff.1 hj).1
  rcases (by omega : j = 0 ∨ j = 1) with rfl | rfl
  · obtain rfl := Option.some.inj hj
    refine ⟨_, rfl, k24_mk w ⟨a, b, c, l⟩ hl hC, fun i u hi => ?_⟩
    have hi4 : i < 4 := (List.getElem?_eq_some_iff.1 hi).1
    rcases (by omega : i = 0 ∨ i = 1 ∨ i = 2 ∨ i = 3) with rfl | rfl | rfl | rfl
    · cases hi; exact (Lib.cell_of_heap hg 0)
    · cases hi; exact (Lib.cell_of_heap hg 1)
    · cases hi; exact (Lib.cell_of_heap hg 2)
    · cases hi; exact (Lib.cell_of_heap hg 3)
  · obtain rfl := Option.some.inj hj
    refine ⟨_, rfl, k24_mk w ⟨a', b', c', l'⟩ hl' hC', fun i u hi => ?_⟩
    have hi4 : i < 4 := (List.getElem?_eq_some_iff.1 hi).1
    rcases (by omega : i = 0 ∨ i = 1 ∨ i = 2 ∨ i = 3) with rfl | rfl | rfl | rfl
    · cases hi; exact (Lib.cell_of_heap hg 4)
    · cases hi; exact (Lib.cell_of_heap hg 5)
    · cases hi; exact (Lib.cell_of_heap hg 6)
    · cases hi; exact (Lib.cell_of_heap hg 7)

/-- Terms that lie in the blocks from base on: whatever is written below base leaves them as they are. -/
def Up (w : World) (base : Nat) (A : Option Addr) (l : List S24) : Prop :=
  ∀ W' : World, (∀ k, base ≤ k → k < w.heap.size → W'.heap[k]? = w.heap[k]?) → Kd.C k24 W' A l.length l
theorem Up.reads {w : World} {base : Nat} {A : Option Addr} {l : List S24} (h : Up w base A l) : Kd.C k24 w A l.length l := h w (fun _ _ _ => rfl)
theorem Up.nil (w : World) (base : Nat) : Up w base none [] := fun W' _ => Kd.C_nil _ _
theorem Up.to {w w' : World} {base b : Nat} {A : Option Addr} {l : List S24} (h : Up w b A l) (hb : base ≤ b) (hs : w.heap.size ≤ w'.heap.size) (hk : ∀ k, b ≤ k → k < w.heap.size → w'.heap[k]? = w.heap[k]?) : Up w' base A l :=
  fun W' hW => h W' (fun k h1 h2 => (hW k (by omega) (by omega)).trans (hk k h1 h2))
theorem Up.below {w w' : World} {base b : Nat} {A : Option Addr} {l : List S24} (h : Up w b A l) (hb : base ≤ b) (hk : Below w.heap.size w w') : Up w' base A l :=
  h.to hb hk.size (fun k _ h2 => hk.block k h2)
theorem Up.set {w : World} {base b : Nat} {A : Option Addr} {l : List S24} (h : Up w b A l) (hb : base ≤ b) (p : Addr) (hp : p.block < b) (v : Value) : Up (w.setCell p v) base A l :=
  h.to hb (by simp [World.setCell]) (fun k h1 _ => Below.heap_setCell w p v k (by omega))
theorem Up.one {w : World} {base g : Nat} {a b c : Int} {A : Option Addr} {cap : Nat} {l : List S24} (h : Up w base A l) (hl : l.length ≤ cap) (hg : base ≤ g)
    (hb : w.heap[g]? = some (.cells #[.int .i64 a, .int .i64 b, .int .i64 c, .slice A l.length cap] 24 (0, 0))) : Up w base (some ⟨g, 0, none⟩) [⟨a, b, c, l⟩] :=
  fun W' hW => Blk.one ⟨A, cap, (hW g hg (blk_lt' hb)).trans hb, hl, h W' hW⟩
theorem Up.two {w : World} {base g : Nat} {a b c a' b' c' : Int} {A A' : Option Addr} {cap cap' : Nat} {l l' : List S24} (h : Up w base A l) (hl : l.length ≤ cap) (h' : Up w base A' l') (hl' : l'.length ≤ cap') (hg : base ≤ g)
    (hb : w.heap[g]? = some (.cells #[.int .i64 a, .int .i64 b, .int .i64 c, .slice A l.length cap, .int .i64 a', .int .i64 b', .int .i64 c', .slice A' l'.length cap'] 24 (0, 0))) :
    Up w base (some ⟨g, 0, none⟩) [⟨a, b, c, l⟩, ⟨a', b', c', l'⟩] :=
  fun W' hW => two_new hl (h W' hW) hl' (h' W' hW) ((hW g hg (blk_lt' hb)).trans hb)

/-- A value that reads as a term, all of it from base on. -/
def UpT (w : World) (base : Nat) (v : Value) (t : S24) : Prop :=
  ∃ A c, v = .agg #[.int .i64 t.f0, .int .i64 t.f1, .int .i64 t.f2, .slice A t.f3.length c] ∧ t.f3.length ≤ c ∧ Up w base A t.f3
theorem UpT.isT {w : World} {base : Nat} {v : Value} {t : S24} (h : UpT w base v t) : IsT w v t := by
  obtain ⟨A, c, e, hl, hC⟩ := h
  exact ⟨A, c, e, hl, hC.reads⟩

theorem Up.oneT {w : World} {base g : Nat} {t : S24} {A : Option Addr} {cap : Nat} (h : Up w base A t.f3) (hl : t.f3.length ≤ cap) (hg : base ≤ g)
    (hb : w.heap[g]? = some (.cells #[.int .i64 t.f0, .int .i64 t.f1, .int .i64 t.f2, .slice A t.f3.length cap] 24 (0, 0))) : Up w base (some ⟨g, 0, none⟩) [t] := by
  cases t; exact Up.one h hl hg hb
theorem Blk.newT {w : World} {t : S24} {A : Option Addr} {cap : Nat} (hl : t.f3.length ≤ cap) (hC : Kd.C k24 w A t.f3.length t.f3) :
    Blk (w.alloc (.cells #[.int .i64 t.f0, .int .i64 t.f1, .int .i64 t.f2, .slice A t.f3.length cap] 24)) w.heap.size t := by
  cases t; exact Blk.new hl hC
/-- A block that holds a term, whose kids lie behind it. -/
def UBlk (w : World) (g : Nat) (t : S24) : Prop :=
  ∃ A c, w.heap[g]? = some (.cells #[.int .i64 t.f0, .int .i64 t.f1, .int .i64 t.f2, .slice A t.f3.length c] 24 (0, 0)) ∧ t.f3.length ≤ c ∧ Up w (g + 1) A t.f3
theorem UBlk.below {w w' : World} {g : Nat} {t : S24} (h : UBlk w g t) (hb : Below w.heap.size w w') : UBlk w' g t := by
  obtain ⟨A, c, hg, hl, hU⟩ := h
  exact ⟨A, c, below_blk hb hg, hl, hU.below (Nat.le_refl _) hb⟩

/-- The text of a term; the empty text with an error. -/
def ptx (t : S24) : List UInt8 := if good t then txt 6 t else []

set_option maxHeartbeats 2000000 in
theorem printed_calls (v : Value) (t : S24) (w : World) (hT : IsT w v t) (hd : Gd w.heap.size w) :
    Calls Tryd.prog 18 #[v] w fun e w' => e = .returned (Sv (ptx t)) ∧ Below w.heap.size w w' := by
  obtain ⟨t0, t1, t2, l⟩ := t
  obtain ⟨A, c, rfl, hl, hC⟩ := hT
  simp only at hl hC ⊢
  have HC0 := Lib.hid hC
  have HD := Lib.hid hd
  clear hC hd
  unfold ptx
  have hgg : good ⟨t0, t1, t2, l⟩ = true ∨ good ⟨t0, t1, t2, l⟩ = false := by cases good ⟨t0, t1, t2, l⟩ <;> simp
  rcases hgg with hg | hg
  all_goals (
    rw [hg]
    have HGo := Lib.hid hg
    clear hg
    go_enter Tryd.func18, Tryd.ntmps18
    go_wp2_with fail
    have HB := Lib.hid ((Below.refl w.heap.size w).alloc (Nat.le_refl _) (.cells #[.int .i64 t0, .int .i64 t1, .int .i64 t2, .slice A l.length c] 24))
    generalize w.alloc (.cells #[.int .i64 t0, .int .i64 t1, .int .i64 t2, .slice A l.length c] 24) = w1 at *
    refine (print_calls t0 t1 t2 A c l _ (Kd.C_below HC0.out HB.out) (HD.out.below HB.out).now).mono ?_
    rintro e w2 ⟨rfl, hb2⟩
    rw [HGo.out]
    simp only [if_true, Bool.false_eq_true, if_false]
    have HB2 := Lib.hid (HB.out.trans (hb2.mono HB.out.size))
    clear hb2
    go_wp2
    go_ret
    exact ⟨rfl, HB2.out⟩)

set_option maxHeartbeats 2000000 in
theorem refused_calls (v : Value) (t : S24) (w : World) (hT : IsT w v t) (hd : Gd w.heap.size w) :
    Calls Tryd.prog 22 #[v] w fun e w' => e = .returned (.bool (!good t)) ∧ Below w.heap.size w w' := by
  obtain ⟨t0, t1, t2, l⟩ := t
  obtain ⟨A, c, rfl, hl, hC⟩ := hT
  simp only at hl hC ⊢
  have HC0 := Lib.hid hC
  have HD := Lib.hid hd
  clear hC hd
  have hgg : good ⟨t0, t1, t2, l⟩ = true ∨ good ⟨t0, t1, t2, l⟩ = false := by cases good ⟨t0, t1, t2, l⟩ <;> simp
  rcases hgg with hg | hg
  all_goals (
    rw [hg]
    have HGo := Lib.hid hg
    clear hg
    go_enter Tryd.func22, Tryd.ntmps22
    go_wp2_with fail
    have HB := Lib.hid ((Below.refl w.heap.size w).alloc (Nat.le_refl _) (.cells #[.int .i64 t0, .int .i64 t1, .int .i64 t2, .slice A l.length c] 24))
    have HG := Lib.hid (heap_alloc_new w (.cells #[.int .i64 t0, .int .i64 t1, .int .i64 t2, .slice A l.length c] 24))
    generalize w.alloc (.cells #[.int .i64 t0, .int .i64 t1, .int .i64 t2, .slice A l.length c] 24) = w1 at *
    refine (print_calls t0 t1 t2 A c l _ (Kd.C_below HC0.out HB.out) (HD.out.below HB.out).now).mono ?_
    rintro e w2 ⟨rfl, hb2⟩
    rw [HGo.out]
    simp only [if_true, Bool.false_eq_true, if_false]
    have HG2 := Lib.hid (below_blk hb2 HG.out)
    have HB2 := Lib.hid (HB.out.trans (hb2.mono HB.out.size))
    clear hb2 HG HB
    obtain ⟨q0, q1, q2, q3⟩ := cells70 HG2.out
    unfold Sv
    go_wp2_with fail
    refine (sort_calls t0 t1 t2 A c l _ (Kd.C_below HC0.out HB2.out)).mono ?_
    rintro e w3 ⟨rfl, hb3⟩
    rw [HGo.out]
    simp only [if_true, Bool.false_eq_true, if_false]
    have HB3 := Lib.hid (HB2.out.trans (hb3.mono HB2.out.size))
    clear hb3 HG2 HB2 q0 q1 q2 q3
    go_wp2
    go_ret
    exact ⟨rfl, HB3.out⟩)
end Go.Proofs.YtjcdpmoabkfchaaDoor
