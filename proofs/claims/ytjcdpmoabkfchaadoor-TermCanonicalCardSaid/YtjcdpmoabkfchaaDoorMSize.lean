/- term.size, term.right: how many nodes a term has that is right but for this number; 0 for others. -/
import Derived.Test.YtjcdpmoabkfchaaDoorMLook
import Derived.Test.YtjcdpmoabkfchaaDoorPTermMatchesReferencex0
import Derived.Deep.RegionHeld3
import Derived.Deep.DeepCutAuto
import Derived.Deep.LoopGhost
import Derived.Deep.QuietTactic
import Derived.BigQuiet
import Derived.BigGuardPart
import Derived.Outline
set_option linter.unusedSimpArgs false
set_option linter.unusedVariables false
namespace Go.Proofs.YtjcdpmoabkfchaaDoor
open Go.RowKit Go.Lib Go.Proofs.YtjcdpmoabkfchaaDoorW.PrintWords Go.Proofs.YtjcdpmoabkfchaaDoor.PTermMatchesReference

/-- The sort of an operator. -/
def sortOf (op : Int) : Int := (shpD op).sort
/-- The numbers fit. -/
def numsOk (s : Shape) (a b : Int) : Prop := (0 ≤ a ∧ a ≤ 65535 ∧ (s.numbers = 0 → a = 0)) ∧ 0 ≤ b ∧ b ≤ 65535 ∧ (s.numbers ≤ 1 → b = 0)
instance (s : Shape) (a b : Int) : Decidable (numsOk s a b) := by unfold numsOk; infer_instance
/-- The nodes of kids, and so many more; 0 if a kid is not right, or of another sort. -/
def kidsSz (f : S24 → Nat) : List S24 → List Int → Nat → Nat
  | k :: ks, q :: qs, acc => if f k = 0 ∨ sortOf k.f0 ≠ q then 0 else kidsSz f ks qs (acc + f k)
  | _, _, acc => acc
/-- The nodes of a term of at most so great a depth. -/
def sz : Nat → S24 → Nat
  | 0, _ => 0
  | n + 1, t => match shp t.f0 with
    | none => 0
    | some s => if t.f3.length = s.kids.length ∧ numsOk s t.f1 t.f2 then kidsSz (sz n) t.f3 s.kids 1 else 0

/-- The numbers before the k-th fit. -/
def numsUpto (s : Shape) (b c : Int) (k : Nat) : Prop := (0 < k → 0 ≤ b ∧ b ≤ 65535 ∧ (s.numbers = 0 → b = 0)) ∧ (1 < k → 0 ≤ c ∧ c ≤ 65535 ∧ (s.numbers ≤ 1 → c = 0))
theorem sz_some {n : Nat} {t : S24} {s : Shape} (h : shp t.f0 = some s) : sz (n + 1) t = if t.f3.length = s.kids.length ∧ numsOk s t.f1 t.f2 then kidsSz (sz n) t.f3 s.kids 1 else 0 := by
  rw [sz, h]
theorem sz_none {n : Nat} {t : S24} (h : shp t.f0 = none) : sz n t = 0 := by
  cases n with
  | zero => rfl
  | succ n => rw [sz, h]
theorem shp_of {op : Int} {s : Shape} (h : shpD op = s) (ho : (shp op).isSome = true) : shp op = some s := by
  unfold shpD at h
  cases hs : shp op with
  | none => rw [hs] at ho; cases ho
  | some s' => rw [hs] at h; rw [← h]; rfl
theorem sz_nums {n : Nat} {t : S24} {s : Shape} {a b c : Int} (h : shpD a = s) (h1 : t.f1 = b) (h2 : t.f2 = c) (h3 : t.f0 = a) (hn : ¬ numsOk s b c) : sz (n + 1) t = 0 := by
  cases hs : shp a with
  | none => exact sz_none (by rw [h3]; exact hs)
  | some s' =>
    have he : s' = s := by rw [← h]; simp [shpD, hs]
    subst he
    rw [sz_some (s := s') (by rw [h3]; exact hs), h1, h2, if_neg (fun h => hn h.2)]
theorem sz_len {n : Nat} {t : S24} {s : Shape} {a : Int} (h : shpD a = s) (h3 : t.f0 = a) (hn : ¬ t.f3.length = s.kids.length) : sz (n + 1) t = 0 := by
  cases hs : shp a with
  | none => exact sz_none (by rw [h3]; exact hs)
  | some s' =>
    have he : s' = s := by rw [← h]; simp [shpD, hs]
    subst he
    rw [sz_some (s := s') (by rw [h3]; exact hs), if_neg (fun h => hn h.1)]
theorem kids_le {a : Int} {s : Shape} (h : shpD a = s) : s.kids.length ≤ 2 := by
  have hall : ∀ s ∈ tab, s.kids.length ≤ 2 := by decide
  unfold shpD shp at h
  split at h
  · cases ht : tab[a.toNat - 1]? with
    | none => rw [ht] at h; rw [← h]; simp
    | some s' => rw [ht] at h; rw [← h]; exact hall _ (List.mem_of_getElem? ht)
  · rw [← h]; simp
theorem kidsSz_le (f : S24 → Nat) (M : Nat) (hf : ∀ t, f t ≤ M) : ∀ (ks : List S24) (qs : List Int) (acc : Nat), kidsSz f ks qs acc ≤ acc + qs.length * M
  | [], _, acc => by simp [kidsSz]
  | _ :: _, [], acc => by simp [kidsSz]
  | k :: ks, q :: qs, acc => by
    rw [kidsSz]
    have h1 := kidsSz_le f M hf ks qs (acc + f k)
    have h2 := hf k
    have h3 : (qs.length + 1) * M = qs.length * M + M := by rw [Nat.add_mul, Nat.one_mul]
    split
    · omega
    · rw [List.length_cons, h3]
      omega
theorem sz_pow : ∀ (n : Nat) (t : S24), sz n t + 1 ≤ 2 ^ n
  | 0, _ => by simp [sz]
  | n + 1, t => by
    have hp : 0 < 2 ^ n := Nat.pow_pos (by omega)
    have ih : ∀ t, sz n t ≤ 2 ^ n - 1 := fun t => by have := sz_pow n t; omega
    rw [sz]
    rw [Nat.pow_succ]
    cases hs : shp t.f0 with
    | none => simp only; omega
    | some s =>
      simp only
      split
      · have h1 := kidsSz_le (sz n) (2 ^ n - 1) ih t.f3 s.kids 1
        have h2 : s.kids.length ≤ 2 := kids_le (a := t.f0) (by simp [shpD, hs])
        have h3 : s.kids.length * (2 ^ n - 1) ≤ 2 * (2 ^ n - 1) := Nat.mul_le_mul_right _ h2
        omega
      · omega
theorem sz_le (n : Nat) (t : S24) (hn : n ≤ 6) : sz n t ≤ 63 := by
  have h1 := sz_pow n t
  have h2 : 2 ^ n ≤ 2 ^ 6 := Nat.pow_le_pow_right (by omega) hn
  omega
theorem kids_round {f : S24 → Nat} {l : List S24} {qs : List Int} {k acc R : Nat} {t : S24} {q : Int} (ht : rd_T24 l (k : Int) = t) (hq : qs[k]? = some q) (hk : k < l.length) (h : kidsSz f (l.drop k) (qs.drop k) acc = R) :
    (if f t = 0 ∨ sortOf t.f0 ≠ q then 0 else kidsSz f (l.drop (k + 1)) (qs.drop (k + 1)) (acc + f t)) = R := by
  have hkq := (List.getElem?_eq_some_iff.1 hq).1
  have h1 : l.drop k = t :: l.drop (k + 1) := by
    rw [List.drop_eq_getElem_cons hk]
    congr 1
    rw [← ht]
    simp [rd_T24, List.getD_eq_getElem?_getD, List.getElem?_eq_getElem hk]
  have h2 : qs.drop k = q :: qs.drop (k + 1) := by
    rw [List.drop_eq_getElem_cons hkq]
    congr 1
    exact (List.getElem?_eq_some_iff.1 hq).2
  rw [h1, h2, kidsSz] at h
  exact h
theorem ck_drew {w : World} {p : Addr} {v : Value} (h : w.cell? p = some v) : w.drew.cell? p = some v := h
theorem ck_alloc {w : World} {p : Addr} {v : Value} (h : w.cell? p = some v) (o : Obj) : (w.alloc o).cell? p = some v :=
  (((Below.refl w.heap.size w).alloc (Nat.le_refl _) o).cell (World.block_lt_of_cell? w p h)).trans h
theorem ck_set {w : World} {p q : Addr} {v : Value} (h : w.cell? p = some v) (hne : q.block ≠ p.block) (u : Value) : (w.setCell q u).cell? p = some v := by
  rw [World.cell?, Below.heap_setCell w q u p.block (Ne.symm hne)]
  exact h

theorem keep1 {w4 w2 : World} {p : Addr} {u : Value} (hb : Below w4.drew.heap.size w4.drew w2) (z0 : w4.cell? p = some u) : w2.cell? p = some u :=
  (hb.cell (World.block_lt_of_cell? w4 _ z0)).trans z0
theorem keep3 {w4 w2 : World} {p q r : Addr} {u v x : Value} (hb : Below w4.drew.heap.size w4.drew w2) (z0 : w4.cell? p = some u) (z1 : w4.cell? q = some v) (z2 : w4.cell? r = some x) :
    w2.cell? p = some u ∧ w2.cell? q = some v ∧ w2.cell? r = some x :=
  ⟨(hb.cell (World.block_lt_of_cell? w4 _ z0)).trans z0, (hb.cell (World.block_lt_of_cell? w4 _ z1)).trans z1, (hb.cell (World.block_lt_of_cell? w4 _ z2)).trans z2⟩
theorem field70 (x : ByteArray) (n : Int) (A : Option Addr) (k c : Nat) (q : Int) (w : World) : (Instr.field 70 (.agg #[.string x, .int .i64 n, .slice A k c, .int .i64 q]) 3).run Tryd.prog w = .ok (.int .i64 q) w := by
  kernel_rfl
theorem cells70 {w : World} {k : Nat} {v0 v1 v2 v3 : Value} {t : TypeId} {f : Nat × Nat} (h : w.heap[k]? = some (.cells #[v0, v1, v2, v3] t f)) :
    w.cell? ⟨k, 0, none⟩ = some v0 ∧ w.cell? ⟨k, 1, none⟩ = some v1 ∧ w.cell? ⟨k, 2, none⟩ = some v2 ∧ w.cell? ⟨k, 3, none⟩ = some v3 :=
  ⟨Lib.cell_of_heap h 0, Lib.cell_of_heap h 1, Lib.cell_of_heap h 2, Lib.cell_of_heap h 3⟩
theorem frozen70 {w : World} {k : Nat} {cs : Array Value} {t : TypeId} (h : w.heap[k]? = some (.cells cs t (0, 0))) :
    w.frozen? ⟨k, 0, none⟩ = false ∧ w.frozen? ⟨k, 1, none⟩ = false ∧ w.frozen? ⟨k, 2, none⟩ = false ∧ w.frozen? ⟨k, 3, none⟩ = false :=
  ⟨Lib.frozen_of_heap h 0, Lib.frozen_of_heap h 1, Lib.frozen_of_heap h 2, Lib.frozen_of_heap h 3⟩

set_option maxHeartbeats 2000000 in
set_option maxRecDepth 100000 in
theorem size_step (n : Nat) (ih : ∀ m, m + 1 = n → ∀ (d a b c : Int), d + m = 7 → ∀ (A : Option Addr) (cap : Nat) (l : List S24) (w : World), Kd.C k24 w A l.length l →
      Calls Tryd.prog 46 #[.agg #[.int .i64 a, .int .i64 b, .int .i64 c, .slice A l.length cap], .int .i64 d] w fun e w' => e = .returned (.int .i64 (sz m ⟨a, b, c, l⟩)) ∧ Below w.heap.size w w')
    (d a b c : Int) (hd : d + n = 7) (hn : n ≤ 6) (A : Option Addr) (cap : Nat) (l : List S24) (w : World) (hC : Kd.C k24 w A l.length l) :
    Calls Tryd.prog 46 #[.agg #[.int .i64 a, .int .i64 b, .int .i64 c, .slice A l.length cap], .int .i64 d] w fun e w' => e = .returned (.int .i64 (sz n ⟨a, b, c, l⟩)) ∧ Below w.heap.size w w' := by
  have HC0 := Lib.hid hC
  clear hC
  obtain ⟨s, hs⟩ : ∃ s, shpD a = s := ⟨_, rfl⟩
  obtain ⟨ok, ho⟩ : ∃ ok, (shp a).isSome = ok := ⟨_, rfl⟩
  have HL := Lib.hid (fun (W : World) B (h : ShapesAt W B) => lookup_any h a)
  rw [hs, ho] at HL
  have HS := Lib.hid hs
  have HO := Lib.hid ho
  clear hs ho
  go_enter Tryd.func46, Tryd.ntmps46
  go_wp2_with fail
  have HB := Lib.hid ((Below.refl w.heap.size w).alloc (Nat.le_refl _) (.cells #[.int .i64 a, .int .i64 b, .int .i64 c, .slice A l.length cap] 24))
  have HG := Lib.hid (heap_alloc_new w (.cells #[.int .i64 a, .int .i64 b, .int .i64 c, .slice A l.length cap] 24))
  generalize w.alloc (.cells #[.int .i64 a, .int .i64 b, .int .i64 c, .slice A l.length cap] 24) = w1 at *
  go_cut [5, 6] (fun v5 v6 wc => ∃ (g5 : Nat), v5 = .pointer (some ⟨g5, 0, none⟩) ∧ v6 = .bool ok ∧ Hid (Got w1 wc s g5) ∧ Hid (Below w1.heap.size w1 wc))
  case first =>
    have hc0 : w1.cell? ⟨w.heap.size, 0, none⟩ = some (.int .i64 a) := Lib.cell_of_heap HG.out 0
    have hlt : w.heap.size < w1.heap.size := blk_lt' HG.out
    go_region_held3 (fun w' => w'.cell? ⟨w.heap.size, 0, none⟩ = some (.int .i64 a)) (repeat (first | with_reducible exact hc0 | (with_reducible refine ck_drew ?_) | (with_reducible refine ck_alloc ?_ _) | (with_reducible refine ck_set ?_ ?hne _; case hne => (simp <;> omega)) | (with_reducible refine (hb2.cell ?hlt).trans ?_; case hlt => (simp <;> omega)))) (first
        | (go_at_call 35; (with_reducible refine (shapes_calls w1.drew).mono ?_); rintro e w2 ⟨B, rfl, hS, hBB, hb2⟩; obtain ⟨A5, c5, hl, hk, hc5⟩ := HL.out _ _ hS; have hl1 := (hl w2 (Below.refl _ _)).1; have hl2 := (hl _ ((Below.refl _ _).alloc (Nat.le_refl _) (.cells #[.string ⟨#[]⟩, .int .i64 0, .slice none 0 0, .int .i64 0] 70))).1; have HK := Lib.hid hk; have HC := Lib.hid hc5; have HN := Lib.hid (got_new (w1 := w1) ((Below.refl w1.heap.size w1).drew.trans hb2) hk hc5); clear hl hS hBB hk hc5)
        | (go_at_call 35; (with_reducible refine (shapes_calls (w1.alloc (.cells #[.string ⟨#[]⟩, .int .i64 0, .slice none 0 0, .int .i64 0] 70)).drew).mono ?_); rintro e w2 ⟨B, rfl, hS, hBB, hb2⟩; obtain ⟨A5, c5, hl, hk, hc5⟩ := HL.out _ _ hS; have hl1 := (hl w2 (Below.refl _ _)).1; have hz := below_blk hb2 (show ((w1.alloc (.cells #[.string ⟨#[]⟩, .int .i64 0, .slice none 0 0, .int .i64 0] 70)).drew).heap[w1.heap.size]? = _ from heap_alloc_new w1 (.cells #[.string ⟨#[]⟩, .int .i64 0, .slice none 0 0, .int .i64 0] 70)); obtain ⟨hz0, hz1, hz2, hz3⟩ := cells70 hz; obtain ⟨hy0, hy1, hy2, hy3⟩ := frozen70 hz; have HN := Lib.hid (got_set hz (((Below.refl w1.heap.size w1).alloc (Nat.le_refl _) (.cells #[.string ⟨#[]⟩, .int .i64 0, .slice none 0 0, .int .i64 0] 70)).drew.trans (hb2.mono (by simp))) hk hc5); clear hl hS hBB hk hc5 hz))
    all_goals go_wp2_with fail
    all_goals go_meet
    all_goals exact ⟨_, rfl, rfl, HN.out.1, HN.out.2⟩
  case rest =>
    obtain ⟨g5, rfl, rfl, HGot, HBw⟩ := hcut
    have HG2 := Lib.hid (below_blk HBw.out HG.out)
    have HB2 := Lib.hid (HB.out.trans (HBw.out.mono HB.out.size))
    clear HG HB HBw HL
    obtain ⟨A5, c5, hb5, hk5, hc5, _⟩ := HGot.out
    clear HGot
    have H5 := Lib.hid hb5
    have HK := Lib.hid hk5
    have HC := Lib.hid hc5
    obtain ⟨q0, q1, q2, q3⟩ := cells70 HG2.out
    obtain ⟨p0, p1, p2, p3⟩ := cells70 hb5
    clear hb5 hk5 hc5
    cases ok with
    | false =>
      go_wp2
      go_ret
      exact ⟨by rw [sz_none (t := ⟨a, b, c, l⟩) (by simpa using HO.out)]; rfl, HB2.out⟩
    | true =>
      cases n with
      | zero =>
        obtain rfl : d = 7 := by omega
        go_wp2
        go_ret
        exact ⟨rfl, HB2.out⟩
      | succ n =>
        have IH := Lib.hid (ih n rfl)
        clear ih
        have hd6 : d ≤ 6 := by omega
        by_cases hlen : l.length = s.kids.length
        · have HLen := Lib.hid hlen
          have hl2 : (l.length == s.kids.length) = true := by simp [hlen]
          have hl3 : ((l.length : Int) != (s.kids.length : Int)) = false := by simp [hlen]
          clear hlen
          go_wp2_with fail
          have hab : Below wc.heap.size wc (wc.alloc (.cells #[.int .i64 b, .int .i64 c] 3)) := (Below.refl _ _).alloc (Nat.le_refl _) _
          have HG3 := Lib.hid (below_blk hab HG2.out)
          have HB3 := Lib.hid (HB2.out.trans (hab.mono HB2.out.size))
          have H53 := Lib.hid (below_blk hab H5.out)
          have HK3 := Lib.hid (HK.out.below hab)
          have HN3 := Lib.hid (heap_alloc_new wc (.cells #[.int .i64 b, .int .i64 c] 3))
          clear HG2 HB2 H5 HK hab q0 q1 q2 q3 p0 p1 p2 p3
          generalize wc.alloc (.cells #[.int .i64 b, .int .i64 c] 3) = wn at *
          obtain ⟨gn, hgn⟩ : ∃ gn, wc.heap.size = gn := ⟨_, rfl⟩
          rw [hgn] at HN3
          rw [hgn]
          clear hgn
          go_loopg [7, 8, 41] 2 (fun g _ _ v41 wx => ∃ k : Nat, k + g = 2 ∧ v41 = .int .i64 k ∧ wx = wn ∧ Hid (numsUpto s b c k))
          case atStart => exact ⟨0, by omega, rfl, rfl, ⟨fun h => by omega, fun h => by omega⟩⟩
          case round =>
            obtain ⟨k, hkg, rfl, rfl, HU⟩ := hrel
            obtain ⟨q0, q1, q2, q3⟩ := cells70 HG3.out
            obtain ⟨p0, p1, p2, p3⟩ := cells70 H53.out
            have n0 := (Lib.cell_of_heap HN3.out 0).trans (rfl : _ = some (Value.int .i64 b))
            have n1 := (Lib.cell_of_heap HN3.out 1).trans (rfl : _ = some (Value.int .i64 c))
            have hk3 : k = 0 ∨ k = 1 ∨ k = 2 := by omega
            rcases hk3 with rfl | rfl | rfl
            · cases gk with
              | zero => omega
              | succ g =>
                by_cases hok : (0 ≤ b ∧ b ≤ 65535 ∧ (s.numbers = 0 → b = 0))
                · have HOK := Lib.hid hok
                  have x1 : decide (b < 0) = false := decide_eq_false (by omega)
                  have x2 : decide (65535 < b) = false := decide_eq_false (by omega)
                  by_cases hnm : s.numbers = 0
                  · obtain rfl : b = 0 := hok.2.2 hnm
                    clear hok
                    go_wp2
                    go_roundg g
                    case measure => omega
                    case rel => exact ⟨1, by omega, rfl, rfl, ⟨fun _ => ⟨by omega, by omega, fun _ => rfl⟩, fun h => by omega⟩⟩
                  · clear hok
                    go_wp2
                    go_roundg g
                    case measure => omega
                    case rel => exact ⟨1, by omega, rfl, rfl, ⟨fun _ => HOK.out, fun h => by omega⟩⟩
                · have hz : ∀ t : S24, t.f1 = b → t.f2 = c → t.f0 = a → sz (n + 1) t = 0 := fun t h1 h2 h3 => sz_nums HS.out h1 h2 h3 (fun h => hok h.1)
                  have HZ := Lib.hid hz
                  clear hz
                  by_cases y1 : b < 0
                  · clear hok
                    go_wp2
                    go_ret
                    exact ⟨by rw [HZ.out _ rfl rfl rfl]; rfl, HB3.out⟩
                  · by_cases y2 : 65535 < b
                    · clear hok
                      go_wp2
                      go_ret
                      exact ⟨by rw [HZ.out _ rfl rfl rfl]; rfl, HB3.out⟩
                    · have hnm : s.numbers = 0 ∧ b ≠ 0 := by
                        by_cases h1 : s.numbers = 0
                        · exact ⟨h1, fun h2 => hok ⟨by omega, by omega, fun _ => h2⟩⟩
                        · exact absurd ⟨by omega, by omega, fun h => absurd h h1⟩ hok
                      have x4 : (b != 0) = true := by rw [bne_iff_ne]; exact hnm.2
                      have hn0 := hnm.1
                      clear hok hnm
                      go_wp2
                      go_ret
                      exact ⟨by rw [HZ.out _ rfl rfl rfl]; rfl, HB3.out⟩
            · cases gk with
              | zero => omega
              | succ g =>
                by_cases hok : (0 ≤ c ∧ c ≤ 65535 ∧ (s.numbers ≤ 1 → c = 0))
                · have HOK := Lib.hid hok
                  have x1 : decide (c < 0) = false := decide_eq_false (by omega)
                  have x2 : decide (65535 < c) = false := decide_eq_false (by omega)
                  by_cases hnm : s.numbers ≤ 1
                  · obtain rfl : c = 0 := hok.2.2 hnm
                    have x3 : decide ((s.numbers : Int) ≤ 1) = true := decide_eq_true (by omega)
                    clear hok hnm
                    go_wp2
                    go_roundg g
                    case measure => omega
                    case rel => exact ⟨2, by omega, rfl, rfl, ⟨fun _ => HU.out.1 (by omega), fun _ => ⟨by omega, by omega, fun _ => rfl⟩⟩⟩
                  · have x3 : decide ((s.numbers : Int) ≤ 1) = false := decide_eq_false (by omega)
                    clear hok hnm
                    go_wp2
                    go_roundg g
                    case measure => omega
                    case rel => exact ⟨2, by omega, rfl, rfl, ⟨fun _ => HU.out.1 (by omega), fun _ => HOK.out⟩⟩
                · have hz : ∀ t : S24, t.f1 = b → t.f2 = c → t.f0 = a → sz (n + 1) t = 0 := fun t h1 h2 h3 => sz_nums HS.out h1 h2 h3 (fun h => hok h.2)
                  have HZ := Lib.hid hz
                  clear hz
                  by_cases y1 : c < 0
                  · clear hok
                    go_wp2
                    go_ret
                    exact ⟨by rw [HZ.out _ rfl rfl rfl]; rfl, HB3.out⟩
                  · by_cases y2 : 65535 < c
                    · clear hok
                      go_wp2
                      go_ret
                      exact ⟨by rw [HZ.out _ rfl rfl rfl]; rfl, HB3.out⟩
                    · have hnm : s.numbers ≤ 1 ∧ c ≠ 0 := by
                        by_cases h1 : s.numbers ≤ 1
                        · exact ⟨h1, fun h2 => hok ⟨by omega, by omega, fun _ => h2⟩⟩
                        · exact absurd ⟨by omega, by omega, fun h => absurd h h1⟩ hok
                      have x3 : decide ((s.numbers : Int) ≤ 1) = true := decide_eq_true (by omega)
                      have x4 : (c != 0) = true := by rw [bne_iff_ne]; exact hnm.2
                      clear hok hnm
                      go_wp2
                      go_ret
                      exact ⟨by rw [HZ.out _ rfl rfl rfl]; rfl, HB3.out⟩
            · obtain ⟨R, hR⟩ : ∃ R, sz (n + 1) ⟨a, b, c, l⟩ = R := ⟨_, rfl⟩
              have HR := Lib.hid (show kidsSz (sz n) (l.drop 0) (s.kids.drop 0) 1 = R by
                rw [← hR, sz_some (t := ⟨a, b, c, l⟩) (shp_of HS.out HO.out), if_pos ⟨HLen.out, HU.out.1 (by omega), HU.out.2 (by omega)⟩]
                rfl)
              have HRR := Lib.hid hR
              clear hR HU hkg HN3 n0 n1
              have hs2 := kids_le HS.out
              go_wp2_with fail
              clear q0 q1 q2 q3 p0 p1 p2 p3
              generalize wr = w3 at *
              go_loopg [9, 10, 11, 12, 66] l.length (fun g v9 _ _ _ v66 wx => ∃ k acc : Nat, k + g = l.length ∧ v66 = .int .i64 k ∧ v9 = .int .i64 acc ∧ acc ≤ 1 + k * 63 ∧ Hid (kidsSz (sz n) (l.drop k) (s.kids.drop k) acc = R) ∧ Hid (Below w3.heap.size w3 wx))
              case atStart => exact ⟨0, 1, by omega, rfl, rfl, by omega, HR, Below.refl _ _⟩
              case round =>
                clear HR
                obtain ⟨k, acc, hkg, rfl, rfl, hacc, HR, HB4⟩ := hrel
                have HG4 := Lib.hid (below_blk HB4.out HG3.out)
                have H54 := Lib.hid (below_blk HB4.out H53.out)
                have HK4 := Lib.hid (HK3.out.below HB4.out)
                have HB5 := Lib.hid (HB3.out.trans (HB4.out.mono HB3.out.size))
                by_cases hk : k < l.length
                · cases gk with
                  | zero => omega
                  | succ g =>
                    obtain ⟨ad, A3, c3, hA, x0, x1, x2, x3, hl4, hC3⟩ := at_T24 HC0.out (k : Int) (by omega) (by omega)
                    subst hA
                    have hy := HB5.out
                    replace x0 := (hy.cell (World.block_lt_of_cell? w _ x0)).trans x0
                    replace x1 := (hy.cell (World.block_lt_of_cell? w _ x1)).trans x1
                    replace x2 := (hy.cell (World.block_lt_of_cell? w _ x2)).trans x2
                    replace x3 := (hy.cell (World.block_lt_of_cell? w _ x3)).trans x3
                    have HC3 := Lib.hid hC3
                    clear hC3 hy
                    obtain ⟨t, ht⟩ : ∃ t, rd_T24 l (k : Int) = t := ⟨_, rfl⟩
                    rw [ht] at x0 x1 x2 x3 hl4 HC3
                    have HT := Lib.hid ht
                    clear ht
                    rw [Int.toNat_natCast] at x0 x1 x2 x3
                    have p0 : (0 : Int) ≤ (k : Int) := by omega
                    go_wp2_with fail
                    refine (IH.out (d + 1) t.f0 t.f1 t.f2 (by omega) A3 c3 t.f3 _ (Kd.C_below HC3.out (HB5.out.alloc HB5.out.size _))).mono ?_
                    rintro e w4 ⟨rfl, hb4⟩
                    have hab : Below wr.heap.size wr (wr.alloc (.cells #[.int .i64 t.f0, .int .i64 t.f1, .int .i64 t.f2, .slice A3 t.f3.length c3] 24)) := (Below.refl _ _).alloc (Nat.le_refl _) _
                    have hb45 : Below wr.heap.size wr w4 := hab.trans (hb4.mono (by simp))
                    have HB6 := Lib.hid (HB5.out.trans (hb45.mono HB5.out.size))
                    have HB7 := Lib.hid (HB4.out.trans (hb45.mono HB4.out.size))
                    have HT4 := Lib.hid (below_blk hb4 (heap_alloc_new wr (.cells #[.int .i64 t.f0, .int .i64 t.f1, .int .i64 t.f2, .slice A3 t.f3.length c3] 24)))
                    have H55 := Lib.hid (below_blk hb45 H54.out)
                    have HK5 := Lib.hid (HK4.out.below hb45)
                    clear hab hb4 hb45 x0 x1 x2 x3 hl4 HC3
                    obtain ⟨gt, hgt⟩ : ∃ gt, wr.heap.size = gt := ⟨_, rfl⟩
                    rw [hgt] at HT4
                    rw [hgt]
                    clear hgt
                    obtain ⟨m, hm⟩ : ∃ m, sz n t = m := ⟨_, rfl⟩
                    have hm63 : m ≤ 63 := by rw [← hm]; exact sz_le n t (by omega)
                    rw [show sz n ⟨t.f0, t.f1, t.f2, t.f3⟩ = m from (show sz n ⟨t.f0, t.f1, t.f2, t.f3⟩ = sz n t by cases t; rfl).trans hm]
                    have HM := Lib.hid hm
                    clear hm
                    have hkk : k < s.kids.length := by rw [← HLen.out]; exact hk
                    obtain ⟨q, hq⟩ : ∃ q, s.kids[k]'hkk = q := ⟨_, rfl⟩
                    have HQ := Lib.hid (show s.kids[k]? = some q by rw [List.getElem?_eq_getElem hkk, hq])
                    clear hq
                    have HR2 := Lib.hid (kids_round (f := sz n) (acc := acc) HT.out HQ.out hk HR.out)
                    rw [HM.out] at HR2
                    clear HR HT
                    by_cases hm0 : m = 0
                    · have hm1 : ((m : Int) == 0) = true := by simp [hm0]
                      have HRR0 := Lib.hid (show R = 0 by rw [← HR2.out, if_pos (.inl hm0)])
                      clear HR2 hm0
                      go_wp2_with fail
                      go_quiet (fail)
                      go_wp2
                      go_ret
                      exact ⟨by rw [HRR.out, HRR0.out]; rfl, HB6.out.trans (drewN_belowB _ _ _)⟩
                    · have hm1 : ((m : Int) == 0) = false := by rw [beq_eq_false_iff_ne]; omega
                      obtain ⟨ad5, hA5, hc5', _⟩ := HK5.out k q HQ.out
                      subst hA5
                      have z0 := (Lib.cell_of_heap HT4.out 0).trans (rfl : _ = some (Value.int .i64 t.f0))
                      have z1 := (Lib.cell_of_heap H55.out 2).trans (rfl : _ = some (Value.slice (some ad5) s.kids.length c5))
                      have z2 : w4.cell? (ad5.add k) = some (.int .i64 q) := hc5'
                      have p5 : k < c5 := by have := HC.out; omega
                      clear hc5'
                      go_wp2_with fail
                      obtain ⟨b5, hb5⟩ : ∃ b : Bool, ((shpD t.f0).sort != q) = b := ⟨_, rfl⟩
                      go_cut [89] (fun v89 wc' => v89 = .bool b5 ∧ Hid (Below w4.heap.size w4 wc'))
                      case first =>
                        have hfd := field70
                        go_region_held3 (fun w' => w'.cell? ⟨gt, 0, none⟩ = some (.int .i64 t.f0) ∧ w'.cell? ⟨g5, 2, none⟩ = some (.slice (some ad5) s.kids.length c5) ∧ w'.cell? (ad5.add k) = some (.int .i64 q)) (first | exact ⟨z0, z1, z2⟩ | exact keep3 hb2 z0 z1 z2) (
                          (go_at_call 35; (with_reducible refine (shapes_calls w4.drew).mono ?_); rintro e w2 ⟨B, rfl, hS, hBB, hb2⟩; obtain ⟨A6, c6, hl, _, _⟩ := lookup_any hS t.f0; have hl1 := (hl w2 (Below.refl _ _)).2; have HN := Lib.hid hb2; clear hl hS hBB))
                        all_goals go_wp2_with fail
                        all_goals go_meet
                        all_goals exact ⟨by first | rfl | (rw [← hb5]; rfl) | (rw [hb5]) | (rw [← hb5]; simp), (drewN_belowB w4.heap.size w4 1).trans HN.out⟩
                      case rest =>
                        obtain ⟨rfl, HB8⟩ := hcut
                        have HB9 := Lib.hid (HB6.out.trans (HB8.out.mono HB6.out.size))
                        have HBA := Lib.hid (HB7.out.trans (HB8.out.mono HB7.out.size))
                        clear z0 z1 z2 HB8
                        cases b5 with
                        | true =>
                          have HRR0 := Lib.hid (show R = 0 by rw [← HR2.out, if_pos (.inr (bne_iff_ne.1 hb5))])
                          clear HR2 hb5 hm0
                          go_wp2
                          go_ret
                          exact ⟨by rw [HRR.out, HRR0.out]; rfl, HB9.out⟩
                        | false =>
                          have h7 : sortOf t.f0 = q := by
                            have := hb5
                            simpa [sortOf] using this
                          have HR3 := Lib.hid (show kidsSz (sz n) (l.drop (k + 1)) (s.kids.drop (k + 1)) (acc + m) = R by rw [← HR2.out, if_neg (fun h => h.elim hm0 (fun h => h h7))])
                          clear HR2 hb5 hm0 h7
                          go_wp2
                          go_roundg g
                          case measure => omega
                          case rel => exact ⟨k + 1, acc + m, by omega, rfl, rfl, by omega, HR3, HBA.out⟩
                · have hkl : k = l.length := by omega
                  subst hkl
                  have HRA := Lib.hid (show acc = R by
                    have := HR.out
                    rw [List.drop_length] at this
                    exact this)
                  clear HR
                  obtain ⟨q0, q1, q2, q3⟩ := cells70 HG4.out
                  go_wp2
                  go_ret
                  exact ⟨by rw [HRR.out, ← HRA.out]; rfl, HB5.out⟩
        · have hl3 : ((l.length : Int) != (s.kids.length : Int)) = true := by rw [bne_iff_ne]; omega
          have HLen := Lib.hid hlen
          clear hlen
          go_wp2
          go_ret
          exact ⟨by rw [sz_len (t := ⟨a, b, c, l⟩) HS.out rfl HLen.out]; rfl, HB2.out⟩

/-- term.size. -/
theorem size_calls : ∀ (n : Nat) (d a b c : Int), d + n = 7 → n ≤ 6 → ∀ (A : Option Addr) (cap : Nat) (l : List S24) (w : World), Kd.C k24 w A l.length l →
    Calls Tryd.prog 46 #[.agg #[.int .i64 a, .int .i64 b, .int .i64 c, .slice A l.length cap], .int .i64 d] w fun e w' => e = .returned (.int .i64 (sz n ⟨a, b, c, l⟩)) ∧ Below w.heap.size w w'
  | 0, d, a, b, c, hd, hn, A, cap, l, w, hC => size_step 0 (fun m h => by omega) d a b c hd hn A cap l w hC
  | n + 1, d, a, b, c, hd, hn, A, cap, l, w, hC => size_step (n + 1) (fun m h => by
      obtain rfl : m = n := by omega
      exact fun d a b c hd A cap l w hC => size_calls m d a b c hd (by omega) A cap l w hC) d a b c hd hn A cap l w hC

/-- Whether a term is right. -/
def good (t : S24) : Bool := decide (0 < sz 6 t) && decide (sz 6 t ≤ 20)
set_option maxHeartbeats 1000000 in
/-- term.right. -/
theorem right_calls (a b c : Int) (A : Option Addr) (cap : Nat) (l : List S24) (w : World) (hC : Kd.C k24 w A l.length l) :
    Calls Tryd.prog 29 #[.agg #[.int .i64 a, .int .i64 b, .int .i64 c, .slice A l.length cap]] w fun e w' => e = .returned (.bool (good ⟨a, b, c, l⟩)) ∧ Below w.heap.size w w' := by
  have HC0 := Lib.hid hC
  clear hC
  go_enter Tryd.func29, Tryd.ntmps29
  go_wp2_with (go_at_call 46; refine (size_calls 6 1 a b c rfl (by omega) A cap l _ (Kd.C_below HC0.out ((Below.refl _ _).alloc (Nat.le_refl _) _))).mono ?_; rintro e w2 ⟨rfl, hb2⟩)
  all_goals (
    have HB := Lib.hid (((Below.refl w.heap.size w).alloc (Nat.le_refl _) (.cells #[.int .i64 a, .int .i64 b, .int .i64 c, .slice A l.length cap] 24)).trans (hb2.mono (by simp)))
    obtain ⟨m, hm⟩ : ∃ m, sz 6 ⟨a, b, c, l⟩ = m := ⟨_, rfl⟩
    have HM := Lib.hid (show good ⟨a, b, c, l⟩ = (decide (0 < m) && decide (m ≤ 20)) by unfold good; rw [hm])
    rw [hm])
  all_goals go_ret
  all_goals refine ⟨?_, HB.out⟩
  all_goals (
    rw [HM.out]
    refine congrArg (fun b => Ending.returned (Value.bool b)) ?_
    rw [Bool.eq_iff_iff]
    simp
    omega)

/-- term.Sort. -/
theorem sort_calls (a b c : Int) (A : Option Addr) (cap : Nat) (l : List S24) (w : World) (hC : Kd.C k24 w A l.length l) :
    Calls Tryd.prog 15 #[.agg #[.int .i64 a, .int .i64 b, .int .i64 c, .slice A l.length cap]] w fun e w' =>
      e = .returned (.tuple #[.int .i64 (if good ⟨a, b, c, l⟩ then sortOf a else 0), .int .i64 (if good ⟨a, b, c, l⟩ then 0 else 160)]) ∧ Below w.heap.size w w' := by
  have HC0 := Lib.hid hC
  clear hC
  obtain ⟨g, hg⟩ : ∃ g, good ⟨a, b, c, l⟩ = g := ⟨_, rfl⟩
  rw [hg]
  go_enter Tryd.func15, Tryd.ntmps15
  go_wp2_with fail
  have HB := Lib.hid ((Below.refl w.heap.size w).alloc (Nat.le_refl _) (.cells #[.int .i64 a, .int .i64 b, .int .i64 c, .slice A l.length cap] 24))
  have HG := Lib.hid (heap_alloc_new w (.cells #[.int .i64 a, .int .i64 b, .int .i64 c, .slice A l.length cap] 24))
  generalize w.alloc (.cells #[.int .i64 a, .int .i64 b, .int .i64 c, .slice A l.length cap] 24) = w1 at *
  refine (right_calls a b c A cap l _ (Kd.C_below HC0.out HB.out)).mono ?_
  rintro e w2 ⟨rfl, hb2⟩
  rw [hg]
  have HG2 := Lib.hid (below_blk hb2 HG.out)
  have HB2 := Lib.hid (HB.out.trans (hb2.mono HB.out.size))
  clear hb2 HG HB
  cases g with
  | false =>
    go_wp2
    go_ret2
    exact ⟨rfl, HB2.out⟩
  | true =>
    have z0 := (Lib.cell_of_heap HG2.out 0).trans (rfl : _ = some (Value.int .i64 a))
    go_wp2_with fail
    have hfd := field70
    go_region_held3 (fun w' => w'.cell? ⟨w.heap.size, 0, none⟩ = some (.int .i64 a)) (first | exact z0 | exact keep1 hb2 z0) (
       (go_at_call 35; (with_reducible refine (shapes_calls w2.drew).mono ?_); rintro e w3 ⟨B, rfl, hS, hBB, hb2⟩; obtain ⟨A6, c6, hl, _, _⟩ := lookup_any hS a; have hl1 := (hl w3 (Below.refl _ _)).2; have HN := Lib.hid hb2; clear hl hS hBB))
    all_goals go_wp2_with fail
    all_goals go_ret2
    all_goals exact ⟨rfl, HB2.out.trans (((drewN_belowB w2.heap.size w2 1).trans HN.out).mono HB2.out.size)⟩
end Go.Proofs.YtjcdpmoabkfchaaDoor
