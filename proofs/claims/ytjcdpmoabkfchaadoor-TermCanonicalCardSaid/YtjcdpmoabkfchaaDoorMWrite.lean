/- term.write, term.Print: the text of a right term. -/
import Derived.Test.YtjcdpmoabkfchaaDoorMSize
import Derived.Test.YtjcdpmoabkfchaaDoorMBuild
import Derived.Test.YtjcdpmoabkfchaaDoorMNum
import Derived.Lib.ItoaLen
set_option linter.unusedSimpArgs false
set_option linter.unusedVariables false
namespace Go.Proofs.YtjcdpmoabkfchaaDoor
open Go.RowKit Go.Lib Go.Proofs.YtjcdpmoabkfchaaDoorW.PrintWords Go.Proofs.YtjcdpmoabkfchaaDoor.PTermMatchesReference

/-- Numbers, each behind a blank. -/
def numsTxt : List Int → List UInt8
  | [] => []
  | x :: xs => 32 :: Lib.itoa x ++ numsTxt xs
/-- Texts, each behind a blank. -/
def kidsTxt (f : S24 → List UInt8) : List S24 → List UInt8
  | [] => []
  | k :: ks => 32 :: f k ++ kidsTxt f ks
/-- The text of a right term. -/
def txt : Nat → S24 → List UInt8
  | 0, _ => []
  | n + 1, t => (40 :: (shpD t.f0).word) ++ (numsTxt ([t.f1, t.f2].take (shpD t.f0).numbers) ++ (kidsTxt (txt n) t.f3 ++ [41]))

theorem kidsSz_ne {f : S24 → Nat} : ∀ {ks : List S24} {qs : List Int} {acc : Nat}, ks.length = qs.length → kidsSz f ks qs acc ≠ 0 → ∀ k ∈ ks, f k ≠ 0
  | [], _, _, _, _ => by simp
  | k :: ks, [], _, h, _ => by simp at h
  | k :: ks, q :: qs, acc, hl, h => by
    rw [kidsSz] at h
    split at h
    · exact absurd rfl h
    · rename_i hk
      intro x hx
      rcases List.mem_cons.1 hx with rfl | hx
      · exact fun h0 => hk (.inl h0)
      · exact kidsSz_ne (by simpa using hl) h x hx
/-- What a right term is like. -/
theorem sz_inv {n : Nat} {t : S24} (h : sz (n + 1) t ≠ 0) : ∃ s, shp t.f0 = some s ∧ t.f3.length = s.kids.length ∧ numsOk s t.f1 t.f2 ∧ ∀ k ∈ t.f3, sz n k ≠ 0 := by
  cases hs : shp t.f0 with
  | none => exact absurd (sz_none hs) h
  | some s =>
    rw [sz_some hs] at h
    split at h
    · rename_i hx
      exact ⟨s, rfl, hx.1, hx.2, kidsSz_ne hx.1 h⟩
    · exact absurd rfl h
theorem nums_le {a : Int} {s : Shape} (h : shpD a = s) : s.numbers ≤ 2 := by
  have hall : ∀ s ∈ tab, s.numbers ≤ 2 := by decide
  unfold shpD shp at h
  split at h
  · cases ht : tab[a.toNat - 1]? with
    | none => rw [ht] at h; rw [← h]; simp
    | some s' => rw [ht] at h; rw [← h]; exact hall _ (List.mem_of_getElem? ht)
  · rw [← h]; simp
theorem grownBy_of {w w' : World} (h : Below w.heap.size w w') : w.grownBy w' none := ⟨h.os, h.tape, h.output, h.size, fun k hk _ => h.block k hk⟩
theorem isB_below {T e : TypeId} {B b : Nat} {bs : List Value} {w w' : World} (h : Lib.IsBuilderF T e B b bs w) (hb : Below w.heap.size w w') : Lib.IsBuilderF T e B b bs w' := by
  rcases h with ⟨hB, v, h1, hown, hne⟩ | ⟨hB, v, h1, hown, hne⟩
  · exact .inl ⟨hB, v, below_blk hb h1, hown.kept (grownBy_of hb) (by cases hv : v.ownBlock <;> simp), hne⟩
  · exact .inr ⟨hB, v, below_blk hb h1, hown.kept (grownBy_of hb) (by cases hv : v.ownBlock <;> simp), hne⟩
theorem isB_lt {T e : TypeId} {B b : Nat} {bs : List Value} {w : World} (h : Lib.IsBuilderF T e B b bs w) : b < w.heap.size := h.elim (·.lt) (·.lt)
theorem ok_below {bb : Nat} {w w' : World} (h : Below w.heap.size w w') : Lib.OthersKept 5 (some bb) w w' := fun k o hk _ _ => below_blk h hk
theorem ok_blk {bb k : Nat} {w w' : World} {cs : Array Value} {T : TypeId} {f : Nat × Nat} (h : Lib.OthersKept 5 (some bb) w w') (hk : w.heap[k]? = some (.cells cs T f)) (hT : T ≠ 5) (hb : k ≠ bb) : w'.heap[k]? = some (.cells cs T f) :=
  h k _ hk (fun e => hb (Option.some.inj e)) (fun c fz e => by injection e with _ h2 _; exact hT h2)
/-- What stands while a text is written: the builder's bytes, and the rest of the world. -/
structure WI (w0 w : World) (bb : Nat) (q : List UInt8) (wx : World) : Prop where
  b : Lib.IsBuilderF 66 5 w0.heap.size bb (Lib.byteCells q) wx
  bw : Below w0.heap.size w wx
  ok : Lib.OthersKept 5 (some bb) w wx
  gd : Gd w0.heap.size wx
  lo : w0.heap.size ≤ w.heap.size
theorem WI.below {w0 w : World} {bb : Nat} {q : List UInt8} {wx wy : World} (h : WI w0 w bb q wx) (hb : Below wx.heap.size wx wy) : WI w0 w bb q wy :=
  ⟨isB_below h.b hb, h.bw.trans (hb.mono (Nat.le_trans h.lo h.bw.size)), h.ok.trans (ok_below hb), h.gd.grows hb, h.lo⟩
theorem WI.put {w0 w : World} {bb : Nat} {q q' : List UInt8} {wx wy : World} (h : WI w0 w bb q wx) (h1 : Lib.IsBuilderF 66 5 w0.heap.size bb (Lib.byteCells q') wy) (h2 : Below w0.heap.size wx wy) (h3 : Lib.OthersKept 5 (some bb) wx wy) : WI w0 w bb q' wy :=
  ⟨h1, h.bw.trans h2, h.ok.trans h3, h.gd.below h2, h.lo⟩
theorem nums_round {L : List Int} {j : Nat} {x : Int} (h : L[j]? = some x) : numsTxt (L.drop j) = 32 :: (Lib.itoa x ++ numsTxt (L.drop (j + 1))) := by
  obtain ⟨hj, he⟩ := List.getElem?_eq_some_iff.1 h
  rw [List.drop_eq_getElem_cons hj, he]
  rfl
theorem kidsTxt_round {f : S24 → List UInt8} {l : List S24} {k : Nat} {t : S24} (ht : rd_T24 l (k : Int) = t) (hk : k < l.length) : kidsTxt f (l.drop k) = 32 :: (f t ++ kidsTxt f (l.drop (k + 1))) := by
  rw [List.drop_eq_getElem_cons hk]
  have : l[k] = t := by
    rw [← ht]
    simp [rd_T24, List.getD_eq_getElem?_getD, List.getElem?_eq_getElem hk]
  rw [this]
  rfl
theorem add_str (x y : List UInt8) (h : x.length + y.length ≤ 140737488355328) (w : World) :
    (binOp .add 9 (.string ⟨x.toArray⟩) (.string ⟨y.toArray⟩)).run Tryd.prog w = .ok (.string ⟨(x ++ y).toArray⟩) w := by
  have h1 : (⟨x.toArray⟩ : ByteArray).size + (⟨y.toArray⟩ : ByteArray).size ≤ 140737488355328 := by simpa [ByteArray.size] using h
  rw [binOp_string_add, run_string_add_if, if_neg (by omega), ByteArray.mk_append_mk]

set_option maxHeartbeats 2000000 in
set_option maxRecDepth 100000 in
theorem write_step (n : Nat) (w0 : World) (bb : Nat) (ih : ∀ m, m + 1 = n → ∀ (a b c : Int) (A : Option Addr) (cap : Nat) (l : List S24), Kd.C k24 w0 A l.length l → ∀ (p : List UInt8) (w : World), Below w0.heap.size w0 w → Gd w0.heap.size w →
      Lib.IsBuilderF 66 5 w0.heap.size bb (Lib.byteCells p) w → sz m ⟨a, b, c, l⟩ ≠ 0 → (p ++ txt m ⟨a, b, c, l⟩).length ≤ 140737488355328 →
      Calls Tryd.prog 32 #[.pointer (some ⟨bb, 0, none⟩), .agg #[.int .i64 a, .int .i64 b, .int .i64 c, .slice A l.length cap]] w fun e w' => e = .returned (.tuple #[]) ∧
        Lib.IsBuilderF 66 5 w0.heap.size bb (Lib.byteCells (p ++ txt m ⟨a, b, c, l⟩)) w' ∧ Below w0.heap.size w w' ∧ Lib.OthersKept 5 (some bb) w w')
    (a b c : Int) (A : Option Addr) (cap : Nat) (l : List S24) (hC : Kd.C k24 w0 A l.length l) (p : List UInt8) (w : World) (hb0 : Below w0.heap.size w0 w) (hd : Gd w0.heap.size w)
    (hB : Lib.IsBuilderF 66 5 w0.heap.size bb (Lib.byteCells p) w) (hsz : sz n ⟨a, b, c, l⟩ ≠ 0) (hlen : (p ++ txt n ⟨a, b, c, l⟩).length ≤ 140737488355328) :
      Calls Tryd.prog 32 #[.pointer (some ⟨bb, 0, none⟩), .agg #[.int .i64 a, .int .i64 b, .int .i64 c, .slice A l.length cap]] w fun e w' => e = .returned (.tuple #[]) ∧
        Lib.IsBuilderF 66 5 w0.heap.size bb (Lib.byteCells (p ++ txt n ⟨a, b, c, l⟩)) w' ∧ Below w0.heap.size w w' ∧ Lib.OthersKept 5 (some bb) w w' := by
  have HC0 := Lib.hid hC
  clear hC
  cases n with
  | zero => exact absurd rfl hsz
  | succ n =>
    obtain ⟨s, hs1, hkl, hnums, hkids⟩ := sz_inv hsz
    have HSZ := Lib.hid hkids
    have hs : shpD a = s := by simp [shpD, show shp a = some s from hs1]
    have IH := Lib.hid (ih n rfl)
    clear ih hsz hs1
    obtain ⟨T, hT⟩ : ∃ T, p ++ txt (n + 1) ⟨a, b, c, l⟩ = T := ⟨_, rfl⟩
    have HT := Lib.hid (show (p ++ (40 :: s.word)) ++ (numsTxt ([b, c].take s.numbers) ++ (kidsTxt (txt n) l ++ [41])) = T by
      rw [← hT, txt]
      simp only [hs, List.append_assoc])
    rw [hT] at hlen ⊢
    have HLen := Lib.hid hlen
    clear hlen hT
    have HL := Lib.hid (fun (W : World) B (h : ShapesAt W B) => lookup_any h a)
    rw [hs] at HL
    have HS := Lib.hid hs
    have HN := Lib.hid hnums
    have HKL := Lib.hid hkl
    have hbw := isB_lt hB
    have hw0 := hb0.size
    have HB0 := Lib.hid hB
    have HD0 := Lib.hid hd
    have HW0 := Lib.hid hb0
    clear hs hnums hkids hkl hB hd hb0
    go_enter Tryd.func32, Tryd.ntmps32
    go_wp2_with fail
    have HB := Lib.hid ((Below.refl w.heap.size w).alloc (Nat.le_refl _) (.cells #[.int .i64 a, .int .i64 b, .int .i64 c, .slice A l.length cap] 24))
    have HG := Lib.hid (heap_alloc_new w (.cells #[.int .i64 a, .int .i64 b, .int .i64 c, .slice A l.length cap] 24))
    generalize w.alloc (.cells #[.int .i64 a, .int .i64 b, .int .i64 c, .slice A l.length cap] 24) = w1 at *
    obtain ⟨g3, hg3⟩ : ∃ g3, w.heap.size = g3 := ⟨_, rfl⟩
    rw [hg3] at HG
    rw [hg3]
    go_cut [4] (fun v4 wc => ∃ (g5 : Nat), v4 = .pointer (some ⟨g5, 0, none⟩) ∧ Hid (Got w1 wc s g5) ∧ Hid (Below w1.heap.size w1 wc))
    case first =>
      have hc0 : w1.cell? ⟨g3, 0, none⟩ = some (.int .i64 a) := Lib.cell_of_heap HG.out 0
      have hlt : g3 < w1.heap.size := blk_lt' HG.out
      go_region_held3 (fun w' => w'.cell? ⟨g3, 0, none⟩ = some (.int .i64 a)) (repeat (first | with_reducible exact hc0 | (with_reducible refine ck_drew ?_) | (with_reducible refine ck_alloc ?_ _) | (with_reducible refine ck_set ?_ ?hne _; case hne => (simp <;> omega)) | (with_reducible refine (hb2.cell ?hlt).trans ?_; case hlt => (simp <;> omega)))) (first
        | (go_at_call 35; (with_reducible refine (shapes_calls w1.drew).mono ?_); rintro e w2 ⟨B, rfl, hS, hBB, hb2⟩; obtain ⟨A5, c5, hl, hk, hc5⟩ := HL.out _ _ hS; have hl1 := (hl w2 (Below.refl _ _)).2; have hl2 := (hl _ ((Below.refl _ _).alloc (Nat.le_refl _) (.cells #[.string ⟨#[]⟩, .int .i64 0, .slice none 0 0, .int .i64 0] 70))).2; have HK := Lib.hid hk; have HC := Lib.hid hc5; have HN := Lib.hid (got_new (w1 := w1) ((Below.refl w1.heap.size w1).drew.trans hb2) hk hc5); clear hl hS hBB hk hc5)
        | (go_at_call 35; (with_reducible refine (shapes_calls (w1.alloc (.cells #[.string ⟨#[]⟩, .int .i64 0, .slice none 0 0, .int .i64 0] 70)).drew).mono ?_); rintro e w2 ⟨B, rfl, hS, hBB, hb2⟩; obtain ⟨A5, c5, hl, hk, hc5⟩ := HL.out _ _ hS; have hl1 := (hl w2 (Below.refl _ _)).2; have hz := below_blk hb2 (show ((w1.alloc (.cells #[.string ⟨#[]⟩, .int .i64 0, .slice none 0 0, .int .i64 0] 70)).drew).heap[w1.heap.size]? = _ from heap_alloc_new w1 (.cells #[.string ⟨#[]⟩, .int .i64 0, .slice none 0 0, .int .i64 0] 70)); obtain ⟨hz0, hz1, hz2, hz3⟩ := cells70 hz; obtain ⟨hy0, hy1, hy2, hy3⟩ := frozen70 hz; have HN := Lib.hid (got_set hz (((Below.refl w1.heap.size w1).alloc (Nat.le_refl _) (.cells #[.string ⟨#[]⟩, .int .i64 0, .slice none 0 0, .int .i64 0] 70)).drew.trans (hb2.mono (by simp))) hk hc5); clear hl hS hBB hk hc5 hz))
      all_goals go_wp2_with fail
      all_goals go_meet
      all_goals exact ⟨_, rfl, HN.out.1, HN.out.2⟩
    case rest =>
      obtain ⟨g5, rfl, HGot, HBw⟩ := hcut
      have HG2 := Lib.hid (below_blk HBw.out HG.out)
      have HB2 := Lib.hid (HB.out.trans (HBw.out.mono HB.out.size))
      obtain ⟨A5, c5, hb5, hk5, hc5, hg5⟩ := HGot.out
      have h13 : g3 < w1.heap.size := blk_lt' HG.out
      clear HG HBw HL HGot hk5 hc5
      have H5 := Lib.hid hb5
      obtain ⟨q0, q1, q2, q3⟩ := cells70 HG2.out
      obtain ⟨p0, p1, p2, p3⟩ := cells70 hb5
      clear hb5
      replace p0 := p0.trans (rfl : _ = some (Value.string ⟨s.word.toArray⟩))
      have hTL : p.length + (s.word.length + 1) + (numsTxt ([b, c].take s.numbers)).length + (kidsTxt (txt n) l).length + 1 ≤ 140737488355328 := by
        have h1 := congrArg List.length HT.out
        have h2 := HLen.out
        simp only [List.length_append, List.length_cons, List.length_nil] at h1
        omega
      have hadd : ∀ w, (binOp .add 9 (.string ⟨#[40]⟩) (.string ⟨s.word.toArray⟩)).run Tryd.prog w = .ok (.string ⟨(40 :: s.word).toArray⟩) w := add_str [40] s.word (by simp; omega)
      go_wp2_with fail
      clear hadd
      have HI2 := Lib.hid (show WI w0 w bb p wc from ⟨isB_below HB0.out HB2.out, HB2.out.mono hw0, ok_below HB2.out, HD0.out.below (HB2.out.mono hw0), hw0⟩)
      clear HB2 HB0 HD0
      have g3b : g3 ≠ bb := by omega
      have g5b : g5 ≠ bb := by omega
      refine (writeString_calls w0.heap.size bb (Lib.byteCells p) _ _ HI2.out.b (by rw [Lib.byteCells_length]; simp [ByteArray.size]; omega) (by have := HI2.out.bw.size; omega)).mono ?_
      rintro e w2 ⟨rfl, hbA, hbB, hbK⟩
      rw [ByteArray.mk_append_mk [40] s.word, Lib.strCells_eq, List.toList_toArray, ← Lib.byteCells_append] at hbA
      have HI3 := Lib.hid (HI2.out.put (q' := p ++ 40 :: s.word) (.inr hbA) hbB hbK)
      have HG3 := Lib.hid (ok_blk hbK HG2.out (by decide) g3b)
      have H53 := Lib.hid (ok_blk hbK H5.out (by decide) g5b)
      clear HI2 HG2 H5 hbA hbB hbK q0 q1 q2 q3 p0 p1 p2 p3 hTL
      obtain ⟨q0, q1, q2, q3⟩ := cells70 HG3.out
      obtain ⟨p0, p1, p2, p3⟩ := cells70 H53.out
      have hnn := nums_le HS.out
      have hnn1 : (0 : Int) ≤ (s.numbers : Int) := by omega
      have hnn2 : (s.numbers : Int) ≤ 2 := by omega
      have p1' := ck_alloc p1 (.cells #[.int .i64 b, .int .i64 c] 3)
      go_wp2_with fail
      clear q0 q1 q2 q3 p0 p1 p2 p3 p1'
      have hab : Below w2.heap.size w2 (w2.alloc (.cells #[.int .i64 b, .int .i64 c] 3)) := (Below.refl _ _).alloc (Nat.le_refl _) _
      have HI4 := Lib.hid (HI3.out.below hab)
      have HG4 := Lib.hid (below_blk hab HG3.out)
      have HS4 := Lib.hid (heap_alloc_new w2 (.cells #[.int .i64 b, .int .i64 c] 3))
      have gsb : w2.heap.size ≠ bb := by have := isB_lt HI3.out.b; omega
      clear HI3 HG3 H53 hab
      generalize w2.alloc (.cells #[.int .i64 b, .int .i64 c] 3) = wn at *
      generalize w2.heap.size = gs at *
      go_loopg [6, 27] s.numbers (fun g _ v27 wx => ∃ (j : Nat) (q : List UInt8), j + g = s.numbers ∧ v27 = .int .i64 j ∧ Hid (WI w0 w bb q wx) ∧ Hid (wx.heap[gs]? = some (.cells #[.int .i64 b, .int .i64 c] 3 (0, 0))) ∧ Hid (wx.heap[g3]? = some (.cells #[.int .i64 a, .int .i64 b, .int .i64 c, .slice A l.length cap] 24 (0, 0))) ∧
        Hid (q ++ (numsTxt (([b, c].take s.numbers).drop j) ++ (kidsTxt (txt n) l ++ [41])) = T))
      case atStart => exact ⟨0, _, by omega, rfl, HI4, HS4, HG4, HT⟩
      case round =>
        clear HI4 HS4 HG4 HT
        obtain ⟨j, q, hjg, rfl, HI, HS1, HGx, HR⟩ := hrel
        by_cases hj : j < s.numbers
        · cases gk with
          | zero => omega
          | succ g =>
            have hj01 : j = 0 ∨ j = 1 := by omega
            rcases hj01 with rfl | rfl
            · have hx0 : 0 ≤ b ∧ b ≤ 65535 := ⟨HN.out.1.1, HN.out.1.2.1⟩
              have n0 := (Lib.cell_of_heap HS1.out 0).trans (rfl : _ = some (Value.int .i64 b))
              have hL : ([b, c].take s.numbers)[0]? = some b := by
                rw [List.getElem?_take_of_lt (by omega)]; rfl
              have HR2 := Lib.hid (show (q ++ 32 :: Lib.itoa b) ++ (numsTxt (([b, c].take s.numbers).drop 1) ++ (kidsTxt (txt n) l ++ [41])) = T by
                rw [← HR.out, nums_round hL]
                simp only [List.append_assoc, List.cons_append])
              clear HR hL
              have hTL : q.length + (Lib.itoa b).length + 1 ≤ 140737488355328 := by
                have h1 := congrArg List.length HR2.out
                have h2 := HLen.out
                simp only [List.length_append, List.length_cons, List.length_nil] at h1
                omega
              have m1 : decide ((0 : Int) < (s.numbers : Int)) = true := decide_eq_true (by omega)
              have m2 : ((0 : Nat) : Int) < (s.numbers : Int) := by omega
              have HX := Lib.hid hx0
              clear hx0
              go_wp2_with fail
              refine (itoa_calls b HX.out.1 HX.out.2 _ HI.out.gd).mono ?_
              rintro e w4 ⟨rfl, hb4⟩
              rw [show Sv (Lib.itoa b) = Value.string ⟨(Lib.itoa b).toArray⟩ from rfl]
              have HI4 := Lib.hid (HI.out.below hb4)
              have HS4 := Lib.hid (below_blk hb4 HS1.out)
              have HG4 := Lib.hid (below_blk hb4 HGx.out)
              clear HI HS1 HGx hb4 n0
              have hadd : ∀ w, (binOp .add 9 (.string ⟨#[32]⟩) (.string ⟨(Lib.itoa b).toArray⟩)).run Tryd.prog w = .ok (.string ⟨(32 :: Lib.itoa b).toArray⟩) w := add_str [32] (Lib.itoa b) (by simp; omega)
              go_wp2_with fail
              clear hadd
              refine (writeString_calls w0.heap.size bb (Lib.byteCells q) _ _ HI4.out.b (by rw [Lib.byteCells_length]; simp [ByteArray.size]; omega) (by have := HI4.out.bw.size; have := HI4.out.lo; omega)).mono ?_
              rintro e w5 ⟨rfl, hbA, hbB, hbK⟩
              rw [ByteArray.mk_append_mk [32] (Lib.itoa b), Lib.strCells_eq, List.toList_toArray, ← Lib.byteCells_append] at hbA
              have HI5 := Lib.hid (HI4.out.put (.inr hbA) hbB hbK)
              have HS5 := Lib.hid (ok_blk hbK HS4.out (by decide) gsb)
              have HG5 := Lib.hid (ok_blk hbK HG4.out (by decide) g3b)
              clear HI4 HS4 HG4 hbA hbB hbK
              go_wp2
              go_roundg g
              case measure => omega
              case rel => exact ⟨1, q ++ 32 :: Lib.itoa b, by omega, rfl, HI5, HS5, HG5, HR2⟩
            · have hx0 : 0 ≤ c ∧ c ≤ 65535 := ⟨HN.out.2.1, HN.out.2.2.1⟩
              have n0 := (Lib.cell_of_heap HS1.out 1).trans (rfl : _ = some (Value.int .i64 c))
              have hL : ([b, c].take s.numbers)[1]? = some c := by
                rw [List.getElem?_take_of_lt (by omega)]; rfl
              have HR2 := Lib.hid (show (q ++ 32 :: Lib.itoa c) ++ (numsTxt (([b, c].take s.numbers).drop 2) ++ (kidsTxt (txt n) l ++ [41])) = T by
                rw [← HR.out, nums_round hL]
                simp only [List.append_assoc, List.cons_append])
              clear HR hL
              have hTL : q.length + (Lib.itoa c).length + 1 ≤ 140737488355328 := by
                have h1 := congrArg List.length HR2.out
                have h2 := HLen.out
                simp only [List.length_append, List.length_cons, List.length_nil] at h1
                omega
              have m1 : decide ((1 : Int) < (s.numbers : Int)) = true := decide_eq_true (by omega)
              have m2 : ((1 : Nat) : Int) < (s.numbers : Int) := by omega
              have HX := Lib.hid hx0
              clear hx0
              go_wp2_with fail
              refine (itoa_calls c HX.out.1 HX.out.2 _ HI.out.gd).mono ?_
              rintro e w4 ⟨rfl, hb4⟩
              rw [show Sv (Lib.itoa c) = Value.string ⟨(Lib.itoa c).toArray⟩ from rfl]
              have HI4 := Lib.hid (HI.out.below hb4)
              have HS4 := Lib.hid (below_blk hb4 HS1.out)
              have HG4 := Lib.hid (below_blk hb4 HGx.out)
              clear HI HS1 HGx hb4 n0
              have hadd : ∀ w, (binOp .add 9 (.string ⟨#[32]⟩) (.string ⟨(Lib.itoa c).toArray⟩)).run Tryd.prog w = .ok (.string ⟨(32 :: Lib.itoa c).toArray⟩) w := add_str [32] (Lib.itoa c) (by simp; omega)
              go_wp2_with fail
              clear hadd
              refine (writeString_calls w0.heap.size bb (Lib.byteCells q) _ _ HI4.out.b (by rw [Lib.byteCells_length]; simp [ByteArray.size]; omega) (by have := HI4.out.bw.size; have := HI4.out.lo; omega)).mono ?_
              rintro e w5 ⟨rfl, hbA, hbB, hbK⟩
              rw [ByteArray.mk_append_mk [32] (Lib.itoa c), Lib.strCells_eq, List.toList_toArray, ← Lib.byteCells_append] at hbA
              have HI5 := Lib.hid (HI4.out.put (.inr hbA) hbB hbK)
              have HS5 := Lib.hid (ok_blk hbK HS4.out (by decide) gsb)
              have HG5 := Lib.hid (ok_blk hbK HG4.out (by decide) g3b)
              clear HI4 HS4 HG4 hbA hbB hbK
              go_wp2
              go_roundg g
              case measure => omega
              case rel => exact ⟨2, q ++ 32 :: Lib.itoa c, by omega, rfl, HI5, HS5, HG5, HR2⟩
        · have hjn : j = s.numbers := by omega
          subst hjn
          have HR2 := Lib.hid (show q ++ (kidsTxt (txt n) l ++ [41]) = T by
            rw [← HR.out, List.drop_of_length_le (by simp; omega)]
            rfl)
          clear HR HS1
          obtain ⟨q0, q1, q2, q3⟩ := cells70 HGx.out
          have m1 : decide ((s.numbers : Int) < (s.numbers : Int)) = false := decide_eq_false (by omega)
          go_wp2_with fail
          clear q0 q1 q2 q3 m1
          generalize wr = w3 at *
          go_loopg [8, 40] l.length (fun g _ v40 wx => ∃ (k : Nat) (q : List UInt8), k + g = l.length ∧ v40 = .int .i64 k ∧ Hid (WI w0 w bb q wx) ∧ Hid (q ++ (kidsTxt (txt n) (l.drop k) ++ [41]) = T))
          case atStart => exact ⟨0, q, by omega, rfl, HI, HR2⟩
          case round =>
            clear HI HR2
            obtain ⟨k, q, hkg, rfl, HI, HR⟩ := hrel
            by_cases hk : k < l.length
            · cases gk with
              | zero => omega
              | succ g =>
                obtain ⟨ad, A3, c3, hA, x0, x1, x2, x3, hl4, hC3⟩ := at_T24 HC0.out (k : Int) (by omega) (by omega)
                subst hA
                have hy := HW0.out.trans HI.out.bw
                replace x0 := (hy.cell (World.block_lt_of_cell? w0 _ x0)).trans x0
                replace x1 := (hy.cell (World.block_lt_of_cell? w0 _ x1)).trans x1
                replace x2 := (hy.cell (World.block_lt_of_cell? w0 _ x2)).trans x2
                replace x3 := (hy.cell (World.block_lt_of_cell? w0 _ x3)).trans x3
                have HC3 := Lib.hid hC3
                clear hC3 hy
                obtain ⟨t, ht⟩ : ∃ t, rd_T24 l (k : Int) = t := ⟨_, rfl⟩
                rw [ht] at x0 x1 x2 x3 hl4 HC3
                have htl : t ∈ l := by
                  rw [← ht]
                  simp [rd_T24, List.getD_eq_getElem?_getD, List.getElem?_eq_getElem hk]
                have HZ := Lib.hid (show sz n ⟨t.f0, t.f1, t.f2, t.f3⟩ ≠ 0 from (show sz n ⟨t.f0, t.f1, t.f2, t.f3⟩ = sz n t by cases t; rfl) ▸ HSZ.out t htl)
                have HR2 := Lib.hid (show ((q ++ [32]) ++ txt n ⟨t.f0, t.f1, t.f2, t.f3⟩) ++ (kidsTxt (txt n) (l.drop (k + 1)) ++ [41]) = T by
                  rw [← HR.out, kidsTxt_round ht hk, show txt n ⟨t.f0, t.f1, t.f2, t.f3⟩ = txt n t by cases t; rfl]
                  simp only [List.append_assoc, List.cons_append, List.nil_append])
                clear HR ht htl
                rw [Int.toNat_natCast] at x0 x1 x2 x3
                have p0 : (0 : Int) ≤ (k : Int) := by omega
                have HTL := Lib.hid (show ((q ++ [32]) ++ txt n ⟨t.f0, t.f1, t.f2, t.f3⟩).length ≤ 140737488355328 ∧ q.length + 1 ≤ 140737488355328 by
                  have h1 := congrArg List.length HR2.out
                  have h2 := HLen.out
                  simp only [List.length_append, List.length_cons, List.length_nil] at h1 ⊢
                  omega)
                go_wp2_with fail
                have hab : Below wr.heap.size wr (wr.alloc (.cells #[.int .i64 t.f0, .int .i64 t.f1, .int .i64 t.f2, .slice A3 t.f3.length c3] 24)) := (Below.refl _ _).alloc (Nat.le_refl _) _
                have HI4 := Lib.hid (HI.out.below hab)
                have HT4 := Lib.hid (heap_alloc_new wr (.cells #[.int .i64 t.f0, .int .i64 t.f1, .int .i64 t.f2, .slice A3 t.f3.length c3] 24))
                have gtb : wr.heap.size ≠ bb := by have := isB_lt HI.out.b; omega
                clear HI hab x0 x1 x2 x3
                generalize wr.alloc (.cells #[.int .i64 t.f0, .int .i64 t.f1, .int .i64 t.f2, .slice A3 t.f3.length c3] 24) = w4 at *
                generalize wr.heap.size = gt at *
                refine (writeByte_calls w0.heap.size bb (Lib.byteCells q) 32 _ HI4.out.b (by rw [Lib.byteCells_length]; exact HTL.out.2) (by have := HI4.out.bw.size; have := HI4.out.lo; omega)).mono ?_
                rintro e w5 ⟨rfl, hbA, hbB, hbK⟩
                have HI5 := Lib.hid (HI4.out.put (q' := q ++ [32]) (.inr (by rw [Lib.byteCells_append]; exact hbA)) hbB hbK)
                have HT5 := Lib.hid (ok_blk hbK HT4.out (by decide) gtb)
                clear HI4 HT4 hbA hbB hbK
                obtain ⟨z0, z1, z2, z3⟩ := cells70 HT5.out
                go_wp2_with fail
                refine (IH.out t.f0 t.f1 t.f2 A3 c3 t.f3 HC3.out (q ++ [32]) _ (HW0.out.trans HI5.out.bw) HI5.out.gd HI5.out.b HZ.out HTL.out.1).mono ?_
                rintro e w6 ⟨rfl, hbA, hbB, hbK⟩
                have HI6 := Lib.hid (HI5.out.put hbA hbB hbK)
                clear HI5 HT5 z0 z1 z2 z3 hbA hbB hbK
                have hl2 : (k : Int) ≤ 1 := by have h1 := kids_le HS.out; have h2 := HKL.out; omega
                go_wp2
                go_roundg g
                case measure => omega
                case rel => exact ⟨k + 1, _, by omega, by first | rfl | (congr 1; exact IntWalk.i64_in _ (by omega)) | (congr 1; unfold wrap64; omega), HI6, HR2⟩
            · have hkl : k = l.length := by omega
              subst hkl
              have HR2 := Lib.hid (show q ++ [41] = T by
                rw [← HR.out, List.drop_length]
                rfl)
              have hq1 : q.length + 1 ≤ 140737488355328 := by
                have h1 := congrArg List.length HR2.out
                have h2 := HLen.out
                simp only [List.length_append, List.length_cons, List.length_nil] at h1
                omega
              clear HR
              go_wp2_with fail
              refine (writeByte_calls w0.heap.size bb (Lib.byteCells q) 41 _ HI.out.b (by rw [Lib.byteCells_length]; exact hq1) (by have := HI.out.bw.size; have := HI.out.lo; omega)).mono ?_
              rintro e w5 ⟨rfl, hbA, hbB, hbK⟩
              have HI5 := Lib.hid (HI.out.put (q' := q ++ [41]) (.inr (by rw [Lib.byteCells_append]; exact hbA)) hbB hbK)
              rw [HR2.out] at HI5
              clear HI hbA hbB hbK
              go_wp2
              go_end0
              exact ⟨rfl, HI5.out.b, HI5.out.bw, HI5.out.ok⟩

/-- term.write. -/
theorem write_calls (w0 : World) (bb : Nat) : ∀ (n : Nat) (a b c : Int) (A : Option Addr) (cap : Nat) (l : List S24), Kd.C k24 w0 A l.length l → ∀ (p : List UInt8) (w : World), Below w0.heap.size w0 w → Gd w0.heap.size w →
      Lib.IsBuilderF 66 5 w0.heap.size bb (Lib.byteCells p) w → sz n ⟨a, b, c, l⟩ ≠ 0 → (p ++ txt n ⟨a, b, c, l⟩).length ≤ 140737488355328 →
      Calls Tryd.prog 32 #[.pointer (some ⟨bb, 0, none⟩), .agg #[.int .i64 a, .int .i64 b, .int .i64 c, .slice A l.length cap]] w fun e w' => e = .returned (.tuple #[]) ∧
        Lib.IsBuilderF 66 5 w0.heap.size bb (Lib.byteCells (p ++ txt n ⟨a, b, c, l⟩)) w' ∧ Below w0.heap.size w w' ∧ Lib.OthersKept 5 (some bb) w w'
  | 0, a, b, c, A, cap, l, hC, p, w, hb0, hd, hB, hsz, hlen => write_step 0 w0 bb (fun m h => by omega) a b c A cap l hC p w hb0 hd hB hsz hlen
  | n + 1, a, b, c, A, cap, l, hC, p, w, hb0, hd, hB, hsz, hlen => write_step (n + 1) w0 bb (fun m h => by
      obtain rfl : m = n := by omega
      exact write_calls w0 bb m) a b c A cap l hC p w hb0 hd hB hsz hlen

theorem word_le {a : Int} {s : Shape} (h : shpD a = s) : s.word.length ≤ 12 := by
  have hall : ∀ s ∈ tab, s.word.length ≤ 12 := by decide
  unfold shpD shp at h
  split at h
  · cases ht : tab[a.toNat - 1]? with
    | none => rw [ht] at h; rw [← h]; simp
    | some s' => rw [ht] at h; rw [← h]; exact hall _ (List.mem_of_getElem? ht)
  · rw [← h]; simp
theorem numsTxt_le : ∀ (L : List Int), (∀ x ∈ L, 0 ≤ x ∧ x ≤ 65535) → (numsTxt L).length ≤ L.length * 22
  | [], _ => by simp [numsTxt]
  | x :: xs, h => by
    have h1 := numsTxt_le xs (fun y hy => h y (List.mem_cons_of_mem _ hy))
    have h2 := h x (List.mem_cons_self)
    have h3 := Lib.itoa_length_le x (by omega) (by omega)
    simp only [numsTxt, List.length_append, List.length_cons]
    omega
theorem kidsTxt_le (f : S24 → List UInt8) (M : Nat) : ∀ l : List S24, (∀ t ∈ l, (f t).length ≤ M) → (kidsTxt f l).length ≤ l.length * (M + 1)
  | [], _ => by simp [kidsTxt]
  | k :: ks, h => by
    have h1 := kidsTxt_le f M ks (fun y hy => h y (List.mem_cons_of_mem _ hy))
    have h2 := h k List.mem_cons_self
    simp only [kidsTxt, List.length_append, List.length_cons, Nat.add_mul, Nat.one_mul]
    omega
theorem txt_le : ∀ (n : Nat) (t : S24), sz n t ≠ 0 → (txt n t).length ≤ 100 * 3 ^ n
  | 0, t, h => by simp [txt]
  | n + 1, t, h => by
    obtain ⟨s, hs, hl, hn, hk⟩ := sz_inv h
    have hD : shpD t.f0 = s := by simp [shpD, hs]
    have h0 := kidsTxt_le (txt n) (100 * 3 ^ n) t.f3 (fun k hk' => txt_le n k (hk k hk'))
    have h1 := kids_le hD
    have h2 := word_le hD
    have h3 := nums_le hD
    have h4 : (numsTxt ([t.f1, t.f2].take s.numbers)).length ≤ 2 * 22 := by
      refine Nat.le_trans (numsTxt_le _ (fun x hx => ?_)) (Nat.mul_le_mul_right _ (by simp; omega))
      have := List.mem_of_mem_take hx
      simp only [List.mem_cons, List.mem_nil_iff, or_false] at this
      rcases this with rfl | rfl
      · exact ⟨hn.1.1, hn.1.2.1⟩
      · exact ⟨hn.2.1, hn.2.2.1⟩
    have h5 : t.f3.length * (100 * 3 ^ n + 1) ≤ 2 * (100 * 3 ^ n + 1) := Nat.mul_le_mul_right _ (by omega)
    have h6 : 1 ≤ 3 ^ n := Nat.pow_pos (by omega)
    rw [txt, hD, Nat.pow_succ]
    simp only [List.length_append, List.length_cons, List.length_nil]
    omega

/-- term.Print. -/
theorem print_calls (a b c : Int) (A : Option Addr) (cap : Nat) (l : List S24) (w : World) (hC : Kd.C k24 w A l.length l) (hd : Gd w.heap.size w) :
    Calls Tryd.prog 13 #[.agg #[.int .i64 a, .int .i64 b, .int .i64 c, .slice A l.length cap]] w fun e w' =>
      e = .returned (.tuple #[Sv (if good ⟨a, b, c, l⟩ then txt 6 ⟨a, b, c, l⟩ else []), .int .i64 (if good ⟨a, b, c, l⟩ then 0 else 160)]) ∧ Below w.heap.size w w' := by
  have HC0 := Lib.hid hC
  have HD := Lib.hid hd
  clear hC hd
  obtain ⟨g, hg⟩ : ∃ g, good ⟨a, b, c, l⟩ = g := ⟨_, rfl⟩
  rw [hg]
  go_enter Tryd.func13, Tryd.ntmps13
  go_wp2_with fail
  have HB := Lib.hid ((Below.refl w.heap.size w).alloc (Nat.le_refl _) (.cells #[.int .i64 a, .int .i64 b, .int .i64 c, .slice A l.length cap] 24))
  have HG := Lib.hid (heap_alloc_new w (.cells #[.int .i64 a, .int .i64 b, .int .i64 c, .slice A l.length cap] 24))
  generalize w.alloc (.cells #[.int .i64 a, .int .i64 b, .int .i64 c, .slice A l.length cap] 24) = w1 at *
  refine (right_calls a b c A cap l _ (Kd.C_below HC0.out HB.out)).mono ?_
  rintro e w2 ⟨rfl, hb2⟩
  rw [hg]
  have HG2 := Lib.hid (below_blk hb2 HG.out)
  have HB2 := Lib.hid (HB.out.trans (hb2.mono HB.out.size))
  clear hb2 HG HB
  cases g with
  | false =>
    go_wp2
    go_ret2
    exact ⟨rfl, HB2.out⟩
  | true =>
    have hab : Below w2.heap.size w2 (w2.alloc (.cells #[.pointer none, .slice none 0 0] 66)) := (Below.refl _ _).alloc (Nat.le_refl _) _
    have HG3 := Lib.hid (below_blk hab HG2.out)
    have HB3 := Lib.hid (HB2.out.trans (hab.mono HB2.out.size))
    have HBl := Lib.hid (show Lib.IsBuilderF 66 5 w.heap.size w2.heap.size (Lib.byteCells []) (w2.alloc (.cells #[.pointer none, .slice none 0 0] 66)) from
      .inl ⟨HB2.out.size, .slice none 0 0, heap_alloc_new _ _, ⟨by simp [Lib.byteCells], .inl ⟨rfl, rfl⟩⟩, by simp [Value.ownBlock]⟩)
    obtain ⟨z0, z1, z2, z3⟩ := cells70 HG2.out
    have y0 := ck_alloc z0 (.cells #[.pointer none, .slice none 0 0] 66)
    have y1 := ck_alloc z1 (.cells #[.pointer none, .slice none 0 0] 66)
    have y2 := ck_alloc z2 (.cells #[.pointer none, .slice none 0 0] 66)
    have y3 := ck_alloc z3 (.cells #[.pointer none, .slice none 0 0] 66)
    clear z0 z1 z2 z3 hab
    have hg0 : sz 6 ⟨a, b, c, l⟩ ≠ 0 := by
      have : 0 < sz 6 ⟨a, b, c, l⟩ := by
        unfold good at hg
        simp only [Bool.and_eq_true, decide_eq_true_eq] at hg
        exact hg.1
      omega
    have hgl := txt_le 6 _ hg0
    go_wp2_with fail
    clear y0 y1 y2 y3
    refine (write_calls w w2.heap.size 6 a b c A cap l HC0.out [] _ HB3.out (HD.out.below HB3.out) HBl.out hg0 (by rw [List.nil_append]; omega)).mono ?_
    rintro e w4 ⟨rfl, hbA, hbB, hbK⟩
    rw [List.nil_append] at hbA
    go_wp2_with (go_at_call 33; refine (Tryd.Builder_String_any_f w.heap.size w2.heap.size _ _ hbA (by have := HB3.out.size; have := hbB.size; omega)).mono ?_; rintro e w5 ⟨rfl, _, hb5⟩)
    go_ret2
    exact ⟨rfl, (HB3.out.trans hbB).trans hb5⟩
end Go.Proofs.YtjcdpmoabkfchaaDoor
