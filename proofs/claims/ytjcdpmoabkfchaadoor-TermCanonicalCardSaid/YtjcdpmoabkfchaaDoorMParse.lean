/- term.Parse: the term with a text; no term, and error 5, for any other text. -/
import Derived.Test.YtjcdpmoabkfchaaDoorMTerm
import Derived.Test.YtjcdpmoabkfchaaDoorMCatch
set_option linter.unusedSimpArgs false
set_option linter.unusedVariables false
namespace Go.Proofs.YtjcdpmoabkfchaaDoor
open Go.RowKit Go.Lib Go.Proofs.YtjcdpmoabkfchaaDoorW.PrintWords Go.Proofs.YtjcdpmoabkfchaaDoor.PTermMatchesReference

/-- What Parse hands back. -/
def parseS (s : List UInt8) : S24 × Int :=
  if 4000 < s.length then (z24, 5) else match pterm 6 s with
    | none => (z24, 5)
    | some (t, q) => if tok q = [] ∧ good t = true then (t, 0) else (z24, 5)

/-- What a call of Parse ends with. -/
def ParseEnd (w : World) (r : S24 × Int) (e : Ending) (w' : World) : Prop :=
  Below w.heap.size w w' ∧ ∃ v, e = .returned (.tuple #[.agg #[.int .i64 r.1.f0, .int .i64 r.1.f1, .int .i64 r.1.f2, v], .int .i64 r.2]) ∧ KR w' w.heap.size v r.1.f3

theorem results10 (tmps : Array Value) (w : World) (p q : Nat) (v0 v1 v2 v3 x : Value) (hp : tmps.getD 2 undef = .pointer (some ⟨p, 0, none⟩)) (hq : tmps.getD 3 undef = .pointer (some ⟨q, 0, none⟩))
    (h1 : w.heap[p]? = some (.cells #[v0, v1, v2, v3] 24 (0, 0))) (h2 : w.heap[q]? = some (.cells #[x] 26 (0, 0))) : (results Tryd.f10 tmps).run Tryd.prog w = .ok (.tuple #[.agg #[v0, v1, v2, v3], x]) w := by
  have hp' : tmps[2]?.getD undef = .pointer (some ⟨p, 0, none⟩) := by simpa using hp
  have hq' : tmps[3]?.getD undef = .pointer (some ⟨q, 0, none⟩) := by simpa using hq
  obtain ⟨z0, z1, z2, z3⟩ := cells70 h1
  have y0 := (Lib.cell_of_heap h2 0).trans (rfl : _ = some x)
  simp [results, Tryd.results10, hp', hq', asAddr, go_sem, z0, z1, z2, z3, y0]
theorem blk_set_other {w : World} {k : Nat} {o : Obj} (h : w.heap[k]? = some o) {p : Addr} (hp : k ≠ p.block) (v : Value) : (w.setCell p v).heap[k]? = some o := (Below.heap_setCell w p v k hp).trans h

set_option maxHeartbeats 4000000 in
set_option maxRecDepth 100000 in
theorem parse_calls (s : List UInt8) (hs : s.length ≤ 1000000) (w : World) (hd : Gd w.heap.size w) :
    Calls Tryd.prog 10 #[Sv s] w (ParseEnd w (parseS s)) := by
  have HD := Lib.hid hd
  clear hd
  have hmf : ∀ (fn : Fn) (first cap : Array Value) (w : World), (Instr.makeFunc fn first cap).run Tryd.prog w = .ok (.func fn first cap) w := fun _ _ _ _ => rfl
  obtain ⟨R, hR⟩ : ∃ R, parseS s = R := ⟨_, rfl⟩
  have HR := Lib.hid hR
  rw [hR]
  clear hR
  unfold Sv
  go_enter_defers Tryd.func10, Tryd.ntmps10
  by_cases hlen : 4000 < s.length
  · have m1 : decide ((4000 : Int) < (s.length : Int)) = true := decide_eq_true (by omega)
    go_wp2
    have HRN := Lib.hid (show R = (z24, 5) by
      rw [← HR.out]
      simp only [parseS, hlen, if_true])
    refine (show Leaves _ _ _ _ [] .returning _ from ⟨_, results10 _ _ w.heap.size (w.heap.size + 1) (.int .i64 0) (.int .i64 0) (.int .i64 0) (.slice none 0 0) (.int .i64 5) rfl rfl (blk_alloc (heap_alloc_new _ _)) (by
      have := heap_alloc_new (w.alloc (.cells #[.int .i64 0, .int .i64 0, .int .i64 0, .slice none 0 0] 24)) (.cells #[.int .i64 5] 26)
      simpa using this), ?_⟩)
    rw [HRN.out]
    exact ⟨((Below.refl w.heap.size w).alloc (Nat.le_refl _) _).alloc (by simp) _, _, rfl, Kd.R_nil _ _ _ _ _⟩
  · have m1 : decide ((4000 : Int) < (s.length : Int)) = false := decide_eq_false (by omega)
    go_wp2_with fail
    have HB3 := Lib.hid ((((Below.refl w.heap.size w).alloc (Nat.le_refl _) (.cells #[.int .i64 0, .int .i64 0, .int .i64 0, .slice none 0 0] 24)).alloc (by simp) (.cells #[.int .i64 0] 26)).alloc (by simp; omega) (.cells #[.string ⟨s.toArray⟩] 59))
    have HP1 := Lib.hid (blk_alloc (o' := .cells #[.string ⟨s.toArray⟩] 59) (blk_alloc (o' := .cells #[.int .i64 0] 26) (heap_alloc_new w (.cells #[.int .i64 0, .int .i64 0, .int .i64 0, .slice none 0 0] 24))))
    have HP2 := Lib.hid (show (((w.alloc (.cells #[.int .i64 0, .int .i64 0, .int .i64 0, .slice none 0 0] 24)).alloc (.cells #[.int .i64 0] 26)).alloc (.cells #[.string ⟨s.toArray⟩] 59)).heap[w.heap.size + 1]? = some (.cells #[.int .i64 0] 26 (0, 0)) from
      blk_alloc (by have := heap_alloc_new (w.alloc (.cells #[.int .i64 0, .int .i64 0, .int .i64 0, .slice none 0 0] 24)) (.cells #[.int .i64 0] 26); simpa using this))
    have HP3 := Lib.hid (show (((w.alloc (.cells #[.int .i64 0, .int .i64 0, .int .i64 0, .slice none 0 0] 24)).alloc (.cells #[.int .i64 0] 26)).alloc (.cells #[.string ⟨s.toArray⟩] 59)).heap[w.heap.size + 1 + 1]? = some (.cells #[Sv s] 59 (0, 0)) from
      (by have := heap_alloc_new ((w.alloc (.cells #[.int .i64 0, .int .i64 0, .int .i64 0, .slice none 0 0] 24)).alloc (.cells #[.int .i64 0] 26)) (.cells #[.string ⟨s.toArray⟩] 59); simpa [Sv] using this))
    generalize ((w.alloc (.cells #[.int .i64 0, .int .i64 0, .int .i64 0, .slice none 0 0] 24)).alloc (.cells #[.int .i64 0] 26)).alloc (.cells #[.string ⟨s.toArray⟩] 59) = w3 at *
    refine (term_calls w.heap.size (w.heap.size + 1 + 1) (by omega) 6 1 rfl (by omega) s hs w3 (HD.out.below HB3.out) HP3.out).mono ?_
    intro e w4 h4
    obtain ⟨hf4, h4⟩ := h4
    have HQ1 := Lib.hid (hf4.blk HP1.out (by omega))
    have HQ2 := Lib.hid (hf4.blk HP2.out (by omega))
    have HB4 := Lib.hid (HB3.out.trans (hf4.toBelow (by omega) HB3.out.size))
    cases hp : pterm 6 s with
    | none =>
      rw [hp] at h4
      obtain rfl := h4
      have HRN := Lib.hid (show R = (z24, 5) by
        rw [← HR.out]
        simp only [parseS, hlen, if_false, hp])
      refine leaves_cons (f := 26) (args := #[.pointer (some ⟨w.heap.size, 0, none⟩), .pointer (some ⟨w.heap.size + 1, 0, none⟩)]) (by simp) (by simp [go_sem]) ?_
      refine (catch_gave w.heap.size (w.heap.size + 1) [] w4 0 0 0 _ 0 HQ1.out HQ2.out (by omega)).mono ?_
      rintro e u' w'' ⟨rfl, rfl, o, rfl⟩
      have hne : w.heap.size ≠ w.heap.size + 1 := by omega
      have q1 := blk_set_other (p := ⟨w.heap.size + 1, 0, none⟩) (blk_set4 (v0 := .int .i64 0) (v1 := .int .i64 0) (v2 := .int .i64 0) (v3 := .slice none 0 0) (blk_alloc (o' := o) HQ1.out)) hne (.int .i64 5)
      have q2 := blk_set1 (v := .int .i64 5) (blk_set_other (p := ⟨w.heap.size, 3, none⟩) (blk_set_other (p := ⟨w.heap.size, 2, none⟩) (blk_set_other (p := ⟨w.heap.size, 1, none⟩) (blk_set_other (p := ⟨w.heap.size, 0, none⟩) (blk_alloc (o' := o) HQ2.out) hne.symm (.int .i64 0)) hne.symm (.int .i64 0)) hne.symm (.int .i64 0)) hne.symm (.slice none 0 0))
      refine (show Leaves _ _ _ _ [] .returning _ from ⟨_, results10 _ _ w.heap.size (w.heap.size + 1) _ _ _ _ _ rfl rfl q1 q2, ?_⟩)
      rw [HRN.out]
      exact ⟨(((((HB4.out.alloc HB4.out.size _).setCell (p := ⟨w.heap.size, 0, none⟩) (Nat.le_refl _) _).setCell (p := ⟨w.heap.size, 1, none⟩) (Nat.le_refl _) _).setCell (p := ⟨w.heap.size, 2, none⟩) (Nat.le_refl _) _).setCell (p := ⟨w.heap.size, 3, none⟩) (Nat.le_refl _) _).setCell (p := ⟨w.heap.size + 1, 0, none⟩) (Nat.le_succ _) _, _, rfl, Kd.R_nil _ _ _ _ _⟩
    | some x =>
      obtain ⟨t, q⟩ := x
      rw [hp] at h4
      obtain ⟨v, rfl, hg4, hK4, hq4⟩ := h4
      obtain ⟨A, c, rfl⟩ := Kd.R_slice hK4
      have HK4 := Lib.hid hK4
      have hb1 : w.heap.size < w3.heap.size := blk_lt' HP1.out
      have hb2 : w.heap.size + 1 < w3.heap.size := blk_lt' HP2.out
      have hb3 : w.heap.size + 1 + 1 < w3.heap.size := blk_lt' HP3.out
      have HG4 := Lib.hid hg4
      have HP := Lib.hid hp
      obtain ⟨z0, z1, z2, z3⟩ := cells70 HQ1.out
      obtain ⟨y0, y1, y2, y3⟩ := frozen70 HQ1.out
      clear hf4 hg4 hK4 hp HP1 HP2 HP3
      go_wp2_with fail
      clear z0 z1 z2 z3 y0 y1 y2 y3
      have hne : w.heap.size + 1 ≠ w.heap.size := by omega
      have hne2 : w.heap.size + 1 + 1 ≠ w.heap.size := by omega
      have H1 := Lib.hid (blk_set4 (v0 := .int .i64 t.f0) (v1 := .int .i64 t.f1) (v2 := .int .i64 t.f2) (v3 := .slice A t.f3.length c) HQ1.out)
      have H2 := Lib.hid (blk_set_other (p := ⟨w.heap.size, 3, none⟩) (blk_set_other (p := ⟨w.heap.size, 2, none⟩) (blk_set_other (p := ⟨w.heap.size, 1, none⟩) (blk_set_other (p := ⟨w.heap.size, 0, none⟩) HQ2.out hne (.int .i64 t.f0)) hne (.int .i64 t.f1)) hne (.int .i64 t.f2)) hne (.slice A t.f3.length c))
      have H3 := Lib.hid (blk_set_other (p := ⟨w.heap.size, 3, none⟩) (blk_set_other (p := ⟨w.heap.size, 2, none⟩) (blk_set_other (p := ⟨w.heap.size, 1, none⟩) (blk_set_other (p := ⟨w.heap.size, 0, none⟩) HG4.out hne2 (.int .i64 t.f0)) hne2 (.int .i64 t.f1)) hne2 (.int .i64 t.f2)) hne2 (.slice A t.f3.length c))
      have HK5 := Lib.hid (kr_far (kr_far (kr_far (kr_far HK4.out (p := ⟨w.heap.size, 0, none⟩) hb1 (.int .i64 t.f0)) (p := ⟨w.heap.size, 1, none⟩) hb1 (.int .i64 t.f1)) (p := ⟨w.heap.size, 2, none⟩) hb1 (.int .i64 t.f2)) (p := ⟨w.heap.size, 3, none⟩) hb1 (.slice A t.f3.length c))
      have HB5 := Lib.hid ((((HB4.out.setCell (p := ⟨w.heap.size, 0, none⟩) (Nat.le_refl _) (.int .i64 t.f0)).setCell (p := ⟨w.heap.size, 1, none⟩) (Nat.le_refl _) (.int .i64 t.f1)).setCell (p := ⟨w.heap.size, 2, none⟩) (Nat.le_refl _) (.int .i64 t.f2)).setCell (p := ⟨w.heap.size, 3, none⟩) (Nat.le_refl _) (.slice A t.f3.length c))
      clear HQ1 HQ2 HG4 HB4 HK4
      generalize ((((w4.setCell ⟨w.heap.size, 0, none⟩ (.int .i64 t.f0)).setCell ⟨w.heap.size, 1, none⟩ (.int .i64 t.f1)).setCell ⟨w.heap.size, 2, none⟩ (.int .i64 t.f2)).setCell ⟨w.heap.size, 3, none⟩ (.slice A t.f3.length c)) = w5 at *
      refine (next_calls (w.heap.size + 1 + 1) q hq4 w5 H3.out).mono ?_
      rintro e w6 ⟨rfl, _, hf6⟩
      have H16 := Lib.hid (hf6.blk H1.out (by omega))
      have H26 := Lib.hid (hf6.blk H2.out (by omega))
      have HK6 := Lib.hid (kr_fr HK5.out hf6 hb3)
      have HB6 := Lib.hid (HB5.out.trans (hf6.toBelow (by omega) HB5.out.size))
      clear H1 H2 H3 HK5 HB5 hf6
      have hsv : ∀ l : List UInt8, Sv l = .string ⟨l.toArray⟩ := fun _ => rfl
      rw [hsv]
      clear hsv
      obtain ⟨z0, z1, z2, z3⟩ := cells70 H16.out
      obtain ⟨y0, y1, y2, y3⟩ := frozen70 H16.out
      have x0 := (Lib.cell_of_heap H26.out 0).trans (rfl : _ = some (Value.int .i64 0))
      have x1 := Lib.frozen_of_heap H26.out 0
      have hw3 := HB3.out.size
      by_cases htq : tok q = []
      · have HTQ := Lib.hid htq
        rw [htq]
        clear htq
        go_wp2_with fail
        clear z0 z1 z2 z3 y0 y1 y2 y3 x0 x1
        refine (right_calls t.f0 t.f1 t.f2 A c t.f3 w6 (Kd.R_reads' HK6.out).2.2).mono ?_
        rintro e w7 ⟨rfl, hb7⟩
        rw [show (⟨t.f0, t.f1, t.f2, t.f3⟩ : S24) = t by cases t; rfl]
        have H17 := Lib.hid (below_blk hb7 H16.out)
        have H27 := Lib.hid (below_blk hb7 H26.out)
        have HK7 := Lib.hid (kr_below HK6.out hb7)
        have HB7 := Lib.hid (HB6.out.trans (hb7.mono HB6.out.size))
        clear H16 H26 HK6 HB6 hb7
        obtain ⟨z0, z1, z2, z3⟩ := cells70 H17.out
        obtain ⟨y0, y1, y2, y3⟩ := frozen70 H17.out
        have x0 := (Lib.cell_of_heap H27.out 0).trans (rfl : _ = some (Value.int .i64 0))
        have x1 := Lib.frozen_of_heap H27.out 0
        obtain ⟨b, hb⟩ : ∃ b, good t = b := ⟨_, rfl⟩
        have HG := Lib.hid hb
        rw [hb]
        clear hb
        cases b with
        | true =>
          have HRN := Lib.hid (show R = (t, 0) by
            rw [← HR.out]
            simp only [parseS, hlen, if_false, HP.out, HTQ.out, HG.out, and_self, if_true])
          go_wp2
          clear z0 z1 z2 z3 y0 y1 y2 y3 x0 x1
          refine leaves_cons (f := 26) (args := #[.pointer (some ⟨w.heap.size, 0, none⟩), .pointer (some ⟨w.heap.size + 1, 0, none⟩)]) (by simp) (by simp [go_sem]) ?_
          refine (catch_idle ⟨w.heap.size, 0, none⟩ ⟨w.heap.size + 1, 0, none⟩ _).mono ?_
          rintro e u' w'' ⟨rfl, rfl, rfl⟩
          have hne' : w.heap.size ≠ w.heap.size + 1 := by omega
          have q1 := blk_set_other (p := ⟨w.heap.size + 1, 0, none⟩) (blk_set4 (v0 := (.int .i64 t.f0)) (v1 := (.int .i64 t.f1)) (v2 := (.int .i64 t.f2)) (v3 := (.slice A t.f3.length c)) H17.out) hne' (.int .i64 0)
          have q2 := blk_set1 (v := .int .i64 0) (blk_set_other (p := ⟨w.heap.size, 3, none⟩) (blk_set_other (p := ⟨w.heap.size, 2, none⟩) (blk_set_other (p := ⟨w.heap.size, 1, none⟩) (blk_set_other (p := ⟨w.heap.size, 0, none⟩) H27.out hne'.symm ((.int .i64 t.f0))) hne'.symm ((.int .i64 t.f1))) hne'.symm ((.int .i64 t.f2))) hne'.symm ((.slice A t.f3.length c)))
          refine (show Leaves _ _ _ _ [] .returning _ from ⟨_, results10 _ _ w.heap.size (w.heap.size + 1) _ _ _ _ _ rfl rfl q1 q2, ?_⟩)
          rw [HRN.out]
          exact ⟨((((HB7.out.setCell (p := ⟨w.heap.size, 0, none⟩) (Nat.le_refl _) _).setCell (p := ⟨w.heap.size, 1, none⟩) (Nat.le_refl _) _).setCell (p := ⟨w.heap.size, 2, none⟩) (Nat.le_refl _) _).setCell (p := ⟨w.heap.size, 3, none⟩) (Nat.le_refl _) _).setCell (p := ⟨w.heap.size + 1, 0, none⟩) (Nat.le_succ _) _, _, rfl, Kd.R_lower (kr_far (kr_far (kr_far (kr_far (kr_far HK7.out (p := ⟨w.heap.size, 0, none⟩) hb1 _) (p := ⟨w.heap.size, 1, none⟩) hb1 _) (p := ⟨w.heap.size, 2, none⟩) hb1 _) (p := ⟨w.heap.size, 3, none⟩) hb1 _) (p := ⟨w.heap.size + 1, 0, none⟩) hb2 _) hw3⟩
        | false =>
          have HRN := Lib.hid (show R = (z24, 5) by
            rw [← HR.out]
            simp [parseS, hlen, HP.out, HG.out])
          go_wp2
          clear z0 z1 z2 z3 y0 y1 y2 y3 x0 x1
          refine leaves_cons (f := 26) (args := #[.pointer (some ⟨w.heap.size, 0, none⟩), .pointer (some ⟨w.heap.size + 1, 0, none⟩)]) (by simp) (by simp [go_sem]) ?_
          refine (catch_idle ⟨w.heap.size, 0, none⟩ ⟨w.heap.size + 1, 0, none⟩ _).mono ?_
          rintro e u' w'' ⟨rfl, rfl, rfl⟩
          have hne' : w.heap.size ≠ w.heap.size + 1 := by omega
          have q1 := blk_set_other (p := ⟨w.heap.size + 1, 0, none⟩) (blk_set4 (v0 := (.int .i64 0)) (v1 := (.int .i64 0)) (v2 := (.int .i64 0)) (v3 := (.slice none 0 0)) H17.out) hne' (.int .i64 5)
          have q2 := blk_set1 (v := .int .i64 5) (blk_set_other (p := ⟨w.heap.size, 3, none⟩) (blk_set_other (p := ⟨w.heap.size, 2, none⟩) (blk_set_other (p := ⟨w.heap.size, 1, none⟩) (blk_set_other (p := ⟨w.heap.size, 0, none⟩) H27.out hne'.symm ((.int .i64 0))) hne'.symm ((.int .i64 0))) hne'.symm ((.int .i64 0))) hne'.symm ((.slice none 0 0)))
          refine (show Leaves _ _ _ _ [] .returning _ from ⟨_, results10 _ _ w.heap.size (w.heap.size + 1) _ _ _ _ _ rfl rfl q1 q2, ?_⟩)
          rw [HRN.out]
          exact ⟨((((HB7.out.setCell (p := ⟨w.heap.size, 0, none⟩) (Nat.le_refl _) _).setCell (p := ⟨w.heap.size, 1, none⟩) (Nat.le_refl _) _).setCell (p := ⟨w.heap.size, 2, none⟩) (Nat.le_refl _) _).setCell (p := ⟨w.heap.size, 3, none⟩) (Nat.le_refl _) _).setCell (p := ⟨w.heap.size + 1, 0, none⟩) (Nat.le_succ _) _, _, rfl, Kd.R_nil _ _ _ _ _⟩
      · have m2 : (!tok q == []) = true := by simp [htq]
        have m3 : (tok q).isEmpty = false := by simp [htq]
        have HRN := Lib.hid (show R = (z24, 5) by
          rw [← HR.out]
          simp [parseS, hlen, HP.out, htq])
        go_wp2
        clear z0 z1 z2 z3 y0 y1 y2 y3 x0 x1
        refine leaves_cons (f := 26) (args := #[.pointer (some ⟨w.heap.size, 0, none⟩), .pointer (some ⟨w.heap.size + 1, 0, none⟩)]) (by simp) (by simp [go_sem]) ?_
        refine (catch_idle ⟨w.heap.size, 0, none⟩ ⟨w.heap.size + 1, 0, none⟩ _).mono ?_
        rintro e u' w'' ⟨rfl, rfl, rfl⟩
        have hne' : w.heap.size ≠ w.heap.size + 1 := by omega
        have q1 := blk_set_other (p := ⟨w.heap.size + 1, 0, none⟩) (blk_set4 (v0 := (.int .i64 0)) (v1 := (.int .i64 0)) (v2 := (.int .i64 0)) (v3 := (.slice none 0 0)) H16.out) hne' (.int .i64 5)
        have q2 := blk_set1 (v := .int .i64 5) (blk_set_other (p := ⟨w.heap.size, 3, none⟩) (blk_set_other (p := ⟨w.heap.size, 2, none⟩) (blk_set_other (p := ⟨w.heap.size, 1, none⟩) (blk_set_other (p := ⟨w.heap.size, 0, none⟩) H26.out hne'.symm ((.int .i64 0))) hne'.symm ((.int .i64 0))) hne'.symm ((.int .i64 0))) hne'.symm ((.slice none 0 0)))
        refine (show Leaves _ _ _ _ [] .returning _ from ⟨_, results10 _ _ w.heap.size (w.heap.size + 1) _ _ _ _ _ rfl rfl q1 q2, ?_⟩)
        rw [HRN.out]
        exact ⟨((((HB6.out.setCell (p := ⟨w.heap.size, 0, none⟩) (Nat.le_refl _) _).setCell (p := ⟨w.heap.size, 1, none⟩) (Nat.le_refl _) _).setCell (p := ⟨w.heap.size, 2, none⟩) (Nat.le_refl _) _).setCell (p := ⟨w.heap.size, 3, none⟩) (Nat.le_refl _) _).setCell (p := ⟨w.heap.size + 1, 0, none⟩) (Nat.le_succ _) _, _, rfl, Kd.R_nil _ _ _ _ _⟩
end Go.Proofs.YtjcdpmoabkfchaaDoor
