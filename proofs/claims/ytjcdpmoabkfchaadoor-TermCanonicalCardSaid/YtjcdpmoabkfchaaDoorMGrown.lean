/- grown: the flat term for a code with so many nodes. -/
import Derived.Test.YtjcdpmoabkfchaaDoorMLaw
set_option linter.unusedSimpArgs false
set_option linter.unusedVariables false
namespace Go.Proofs.YtjcdpmoabkfchaaDoor
open Go.RowKit Go.Lib Go.Proofs.YtjcdpmoabkfchaaDoorW.PrintWords Go.Proofs.YtjcdpmoabkfchaaDoor.PTermMatchesReference

def grownT : Nat → Int → S24
  | 0, _ => ⟨12, 2, 0, []⟩
  | f + 1, n => if n ≤ 1 then ⟨12, 2, 0, []⟩ else if n = 2 then ⟨16, 0, 0, [grownT f 1]⟩ else ⟨21, 0, 0, [grownT f ((n - 1) / 2), grownT f (n - 1 - (n - 1) / 2)]⟩

theorem size_alloc (w : World) (o : Obj) : (w.alloc o).heap.size = w.heap.size + 1 := by simp
theorem grown_ret (tmps : Array Value) (w0 w : World) (g : Nat) (a b c : Int) (A : Option Addr) (cap : Nat) (l : List S24) (K : Ending → World → Prop) (hp : tmps.getD 2 undef = .pointer (some ⟨g, 0, none⟩))
    (hg : w.heap[g]? = some (.cells #[.int .i64 a, .int .i64 b, .int .i64 c, .slice A l.length cap] 24 (0, 0))) (hl : l.length ≤ cap) (hC : Up w w0.heap.size A l)
    (hK : ∀ v, UpT w w0.heap.size v ⟨a, b, c, l⟩ → K (.returned v) w) : bodyPost Tryd.prog Tryd.f24 K .ret ⟨tmps, []⟩ w := by
  refine bodyPost_ret (results_cell_row (fn := Tryd.f24) rfl _ _ g 24 _ (0, 0) _ hp hg Tryd.underlying24 rfl (by kernel_rfl)) rfl ?_
  exact hK _ ⟨A, cap, rfl, hl, hC⟩

set_option maxHeartbeats 4000000 in
theorem grown_leaf (n : Int) (w : World) (h : n ≤ 1) : Calls Tryd.prog 24 #[.int .i64 n] w fun e w' => (∃ v, e = .returned v ∧ UpT w' w.heap.size v ⟨12, 2, 0, []⟩) ∧ Below w.heap.size w w' := by
  have m1 : decide (n ≤ (1 : Int)) = true := decide_eq_true (by omega)
  go_enter Tryd.func24, Tryd.ntmps24
  go_wp2
  have hb : Below w.heap.size w (w.alloc (.cells #[.int .i64 12, .int .i64 2, .int .i64 0, .slice none 0 0] 24)) := (Below.refl _ _).alloc (Nat.le_refl _) _
  exact grown_ret _ w _ w.heap.size 12 2 0 none 0 [] _ rfl (heap_alloc_new _ _) (Nat.le_refl _) (Up.nil _ _) (fun v hv => ⟨⟨v, rfl, hv⟩, hb⟩)

set_option maxHeartbeats 8000000 in
theorem grown_calls : ∀ (f : Nat) (n : Int) (w : World), 0 ≤ n → n ≤ f + 1 → n ≤ 1000 →
    Calls Tryd.prog 24 #[.int .i64 n] w fun e w' => (∃ v, e = .returned v ∧ UpT w' w.heap.size v (grownT f n)) ∧ Below w.heap.size w w' := by
  intro f
  induction f with
  | zero =>
    intro n w h0 h1 h2
    exact grown_leaf n w (by omega)
  | succ f ih =>
    intro n w h0 h1 h2
    by_cases ha : n ≤ 1
    · have hgr : grownT (f + 1) n = ⟨12, 2, 0, []⟩ := by rw [grownT, if_pos ha]
      rw [hgr]
      exact grown_leaf n w (by omega)
    · by_cases hb : n = 2
      · have hgr : grownT (f + 1) n = ⟨16, 0, 0, [grownT f 1]⟩ := by rw [grownT, if_neg ha, if_pos hb]
        rw [hgr]
        have m1 : decide (n ≤ (1 : Int)) = false := decide_eq_false (by omega)
        have m2 : (n == (2 : Int)) = true := beq_iff_eq.2 hb
        have IH := Lib.hid (ih 1)
        have HN := Lib.hid (show (1 : Int) ≤ f + 1 by omega)
        clear ih h1 ha hgr
        generalize grownT f 1 = u at *
        go_enter Tryd.func24, Tryd.ntmps24
        go_wp2_with fail
        have hg0 := heap_alloc_new w (.cells #[.int .i64 0, .int .i64 0, .int .i64 0, .slice none 0 0] 24)
        have hb0 : Below w.heap.size w (w.alloc (.cells #[.int .i64 0, .int .i64 0, .int .i64 0, .slice none 0 0] 24)) := (Below.refl _ _).alloc (Nat.le_refl _) _
        refine (IH.out _ (by omega) HN.out (by omega)).mono ?_
        rintro e w2 ⟨⟨v, rfl, A, c, rfl, hl, hC⟩, hb2⟩
        have HB2 := Lib.hid (hb0.trans (hb2.mono hb0.size))
        have hg2 := below_blk hb2 hg0
        obtain ⟨u0, u1, u2, u3⟩ := u
        simp only at hl hC ⊢
        rw [size_alloc] at hC
        have hg3 := blk_alloc (o' := .cells #[.int .i64 u0, .int .i64 u1, .int .i64 u2, .slice A u3.length c] 24) hg2
        obtain ⟨z0, z1, z2, z3⟩ := cells70 hg3
        obtain ⟨y0, y1, y2, y3⟩ := frozen70 hg3
        have HUp := Lib.hid (Up.one (g := w2.heap.size) (a := u0) (b := u1) (c := u2) (hC.below (Nat.le_refl _) ((Below.refl _ _).alloc (Nat.le_refl _) (.cells #[.int .i64 u0, .int .i64 u1, .int .i64 u2, .slice A u3.length c] 24))) hl (by have := blk_lt' hg2; omega) (heap_alloc_new _ _))
        have HB3 := Lib.hid (HB2.out.alloc (HB2.out.size) (.cells #[.int .i64 u0, .int .i64 u1, .int .i64 u2, .slice A u3.length c] 24))
        have HG3 := Lib.hid hg3
        clear hg2 hb2 hg0 hb0 HB2 hg3 hC IH HN
        go_wp2
        generalize w2.alloc (.cells #[.int .i64 u0, .int .i64 u1, .int .i64 u2, .slice A u3.length c] 24) = w3 at *
        have hbb : Below w.heap.size w ((((w3.setCell ⟨w.heap.size, 0, none⟩ (.int .i64 16)).setCell ⟨w.heap.size, 1, none⟩ (.int .i64 0)).setCell ⟨w.heap.size, 2, none⟩ (.int .i64 0)).setCell ⟨w.heap.size, 3, none⟩ (.slice (some ⟨w2.heap.size, 0, none⟩) 1 1)) :=
          (((HB3.out.setCell (Nat.le_refl _) _).setCell (Nat.le_refl _) _).setCell (Nat.le_refl _) _).setCell (Nat.le_refl _) _
        exact grown_ret _ w _ w.heap.size 16 0 0 _ 1 [⟨u0, u1, u2, u3⟩] _ rfl (blk_set4 HG3.out) (Nat.le_refl _)
          ((((HUp.out.set (Nat.le_refl _) _ (Nat.lt_succ_self _) _).set (Nat.le_refl _) _ (Nat.lt_succ_self _) _).set (Nat.le_refl _) _ (Nat.lt_succ_self _) _).set (Nat.le_succ _) _ (Nat.lt_succ_self _) _) (fun v hv => ⟨⟨v, rfl, hv⟩, hbb⟩)
      · have hgr : grownT (f + 1) n = ⟨21, 0, 0, [grownT f ((n - 1) / 2), grownT f (n - 1 - (n - 1) / 2)]⟩ := by rw [grownT, if_neg ha, if_neg hb]
        rw [hgr]
        have m1 : decide (n ≤ (1 : Int)) = false := decide_eq_false (by omega)
        have m2 : (n == (2 : Int)) = false := beq_eq_false_iff_ne.2 hb
        have IH1 := Lib.hid (fun w => ih ((n - 1) / 2) w (by omega) (by omega) (by omega))
        have IH2 := Lib.hid (fun w => ih (n - 1 - (n - 1) / 2) w (by omega) (by omega) (by omega))
        clear ih hgr
        generalize grownT f ((n - 1) / 2) = u at *
        generalize grownT f (n - 1 - (n - 1) / 2) = t at *
        go_enter Tryd.func24, Tryd.ntmps24
        go_wp2_with fail
        have hg0 := heap_alloc_new w (.cells #[.int .i64 0, .int .i64 0, .int .i64 0, .slice none 0 0] 24)
        have hb0 : Below w.heap.size w (w.alloc (.cells #[.int .i64 0, .int .i64 0, .int .i64 0, .slice none 0 0] 24)) := (Below.refl _ _).alloc (Nat.le_refl _) _
        refine (IH1.out _).mono ?_
        rintro e w2 ⟨⟨v, rfl, A, c, rfl, hl, hC⟩, hb2⟩
        have HB2 := Lib.hid (hb0.trans (hb2.mono hb0.size))
        have HG2 := Lib.hid (below_blk hb2 hg0)
        obtain ⟨u0, u1, u2, u3⟩ := u
        simp only at hl hC ⊢
        rw [size_alloc] at hC
        have HC2 := Lib.hid hC
        clear hb2 hg0 hb0 hC IH1
        go_wp2_with fail
        refine (IH2.out _).mono ?_
        rintro e w3 ⟨⟨v, rfl, A', c', rfl, hl', hC'⟩, hb3⟩
        have HB3 := Lib.hid (HB2.out.trans (hb3.mono HB2.out.size))
        have hg3 := below_blk hb3 HG2.out
        obtain ⟨t0, t1, t2, t3⟩ := t
        simp only at hl' hC' ⊢
        have hlt := blk_lt' HG2.out
        have hC3 := HC2.out.below (Nat.le_refl _) hb3
        have hC3' : Up w3 (w.heap.size + 1) A' t3 := hC'.to hlt (Nat.le_refl _) (fun _ _ _ => rfl)
        have hg4 := blk_alloc (o' := .cells #[.int .i64 u0, .int .i64 u1, .int .i64 u2, .slice A u3.length c, .int .i64 t0, .int .i64 t1, .int .i64 t2, .slice A' t3.length c'] 24) hg3
        obtain ⟨z0, z1, z2, z3⟩ := cells70 hg4
        obtain ⟨y0, y1, y2, y3⟩ := frozen70 hg4
        have hbA : Below w3.heap.size w3 (w3.alloc (.cells #[.int .i64 u0, .int .i64 u1, .int .i64 u2, .slice A u3.length c, .int .i64 t0, .int .i64 t1, .int .i64 t2, .slice A' t3.length c'] 24)) := (Below.refl _ _).alloc (Nat.le_refl _) _
        have HUp := Lib.hid (Up.two (g := w3.heap.size) (a := u0) (b := u1) (c := u2) (a' := t0) (b' := t1) (c' := t2) (hC3.below (Nat.le_refl _) hbA) hl (hC3'.below (Nat.le_refl _) hbA) hl' (by have := blk_lt' hg3; omega) (heap_alloc_new _ _))
        have HB4 := Lib.hid (HB3.out.trans (hbA.mono HB3.out.size))
        have HG4 := Lib.hid hg4
        clear hg3 hb3 HB2 hg4 hC3 hC3' hC' HC2 IH2 HB3 HG2 hbA
        go_wp2
        generalize w3.alloc (.cells #[.int .i64 u0, .int .i64 u1, .int .i64 u2, .slice A u3.length c, .int .i64 t0, .int .i64 t1, .int .i64 t2, .slice A' t3.length c'] 24) = w4 at *
        have hbb : Below w.heap.size w ((((w4.setCell ⟨w.heap.size, 0, none⟩ (.int .i64 21)).setCell ⟨w.heap.size, 1, none⟩ (.int .i64 0)).setCell ⟨w.heap.size, 2, none⟩ (.int .i64 0)).setCell ⟨w.heap.size, 3, none⟩ (.slice (some ⟨w3.heap.size, 0, none⟩) 2 2)) :=
          (((HB4.out.setCell (Nat.le_refl _) _).setCell (Nat.le_refl _) _).setCell (Nat.le_refl _) _).setCell (Nat.le_refl _) _
        exact grown_ret _ w _ w.heap.size 21 0 0 _ 2 [⟨u0, u1, u2, u3⟩, ⟨t0, t1, t2, t3⟩] _ rfl (blk_set4 HG4.out) (Nat.le_refl _)
          ((((HUp.out.set (Nat.le_refl _) _ (Nat.lt_succ_self _) _).set (Nat.le_refl _) _ (Nat.lt_succ_self _) _).set (Nat.le_refl _) _ (Nat.lt_succ_self _) _).set (Nat.le_succ _) _ (Nat.lt_succ_self _) _) (fun v hv => ⟨⟨v, rfl, hv⟩, hbb⟩)
end Go.Proofs.YtjcdpmoabkfchaaDoor
