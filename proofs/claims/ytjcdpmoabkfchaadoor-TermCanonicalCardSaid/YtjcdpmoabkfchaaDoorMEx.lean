/- examples: the fixed calls of every law answer as they should. -/
import Derived.Test.YtjcdpmoabkfchaaDoorMGrown
import Derived.Test.YtjcdpmoabkfchaaDoorPTermMatchesReferencex3
set_option linter.unusedSimpArgs false
set_option linter.unusedVariables false
namespace Go.Proofs.YtjcdpmoabkfchaaDoor
open Go.RowKit Go.Lib Go.Proofs.YtjcdpmoabkfchaaDoorW.PrintWords Go.Proofs.YtjcdpmoabkfchaaDoor.PTermMatchesReference

theorem same_calls (k : Nat) (v1 v2 : Value) (t1 t2 : S24) (r : Bool) (w : World) (h1 : IsT w v1 t1) (h2 : IsT w v2 t2)
    (h : plexusref16_Same.f k t1.f0 t1.f1 t1.f2 t1.f3 t2.f0 t2.f1 t2.f2 t2.f3 = some r) :
    Calls Tryd.prog 12 #[v1, v2] w fun e w' => e = .returned (.bool r) ∧ Below w.heap.size w w' := by
  obtain ⟨A1, c1, rfl, hl1, hC1⟩ := h1
  obtain ⟨A2, c2, rfl, hl2, hC2⟩ := h2
  exact plexusref16_Same.calls k _ _ _ A1 c1 _ _ _ _ A2 c2 _ r w hC1 hl1 hC2 hl2 h

/-- Parse, by IsT. -/
theorem parse_isT (s : List UInt8) (hs : s.length ≤ 1000000) (w : World) (hd : Gd w.heap.size w) (t : S24) (err : Int) (hp : parseS s = (t, err)) :
    Calls Tryd.prog 10 #[Sv s] w fun e w' => ∃ A c, e = .returned (.tuple #[.agg #[.int .i64 t.f0, .int .i64 t.f1, .int .i64 t.f2, .slice A t.f3.length c], .int .i64 err]) ∧ t.f3.length ≤ c ∧ Kd.C k24 w' A t.f3.length t.f3 ∧ Below w.heap.size w w' := by
  refine (parse_calls s hs w hd).mono ?_
  rintro e w' ⟨hb, v, rfl, hR⟩
  rw [hp] at hR ⊢
  obtain ⟨A, c, rfl, hl, hC⟩ := Kd.R_reads hR
  exact ⟨A, c, rfl, hl, hC, hb⟩

set_option maxHeartbeats 8000000 in
set_option maxRecDepth 100000 in
theorem examples_calls (w : World) (hd : Gd w.heap.size w) :
    Calls Tryd.prog 9 #[] w fun e w' => e = .returned (.bool true) ∧ Below w.heap.size w w' := by
  have HD := Lib.hid hd
  clear hd
  go_enter Tryd.func9, Tryd.ntmps9
  go_wp2_with fail
  have hC1 := (Blk.new (w := w) (a := 1) (b := 2) (c := 0) (A := none) (cap := 0) (l := []) (Nat.le_refl _) (Kd.C_nil _ _)).one
  have HK1 := Lib.hid (Blk.new (w := w.alloc (.cells #[.int .i64 1, .int .i64 2, .int .i64 0, .slice none 0 0] 24)) (a := 7) (b := 0) (c := 0) (cap := 1) (l := [⟨1, 2, 0, []⟩]) (Nat.le_refl _) hC1)
  have HB1 := Lib.hid (((Below.refl w.heap.size w).alloc (Nat.le_refl _) (.cells #[.int .i64 1, .int .i64 2, .int .i64 0, .slice none 0 0] 24)).alloc (by simp) (.cells #[.int .i64 7, .int .i64 0, .int .i64 0, .slice (some ⟨w.heap.size, 0, none⟩) 1 1] 24))
  have hz := size_alloc w (.cells #[.int .i64 1, .int .i64 2, .int .i64 0, .slice none 0 0] 24)
  rw [hz] at HK1
  clear hz hC1
  generalize hg1 : w.heap.size + 1 = g1 at *
  simp only [List.length_cons, List.length_nil, Nat.zero_add] at HK1
  generalize (w.alloc (.cells #[.int .i64 1, .int .i64 2, .int .i64 0, .slice none 0 0] 24)).alloc (.cells #[.int .i64 7, .int .i64 0, .int .i64 0, .slice (some ⟨w.heap.size, 0, none⟩) 1 1] 24) = w1 at *
  refine (parse_isT [40, 100, 101, 114, 105, 118, 101, 100, 32, 48, 40, 100, 101, 118, 101, 108, 111, 112, 32, 55, 32, 49, 49, 41, 41] (by decide) _ (HD.out.below HB1.out).now ⟨8, 0, 0, [⟨4, 7, 11, []⟩]⟩ 0 (by kernel_rfl)).mono ?_
  rintro e w2 ⟨A2, c2, rfl, hl2, hC2, hb2⟩
  have HK2 := Lib.hid (HK1.out.below hb2)
  have HB2 := Lib.hid (HB1.out.trans (hb2.mono HB1.out.size))
  clear hb2 HK1 HB1
  go_wp2_with fail
  have hb3 : Below w2.heap.size w2 (w2.alloc (.cells #[.int .i64 8, .int .i64 0, .int .i64 0, .slice A2 1 c2] 24)) := (Below.refl _ _).alloc (Nat.le_refl _) _
  have HK3 := Lib.hid (HK2.out.below hb3)
  have HL3 : Hid (Blk (w2.alloc (.cells #[.int .i64 8, .int .i64 0, .int .i64 0, .slice A2 1 c2] 24)) w2.heap.size ⟨8, 0, 0, [⟨4, 7, 11, []⟩]⟩) := Lib.hid (Blk.new (a := 8) (b := 0) (c := 0) hl2 hC2)
  have HB3 := Lib.hid (HB2.out.trans (hb3.mono HB2.out.size))
  clear hb3 HK2 HB2 hC2
  generalize w2.heap.size = g2 at *
  generalize w2.alloc (.cells #[.int .i64 8, .int .i64 0, .int .i64 0, .slice A2 1 c2] 24) = w3 at *
  refine (parse_isT [40, 100, 111, 117, 98, 108, 101, 32, 40, 101, 118, 101, 110, 32, 51, 41, 41] (by decide) _ (HD.out.below HB3.out).now z24 5 (by kernel_rfl)).mono ?_
  rintro e w4 ⟨A4, c4, rfl, hl4, hC4, hb4⟩
  have hb5 := hb4.trans ((((Below.refl _ _).alloc (Nat.le_refl w4.heap.size) (.cells #[.int .i64 0, .int .i64 0, .int .i64 0, .slice A4 0 c4] 24))).mono hb4.size)
  have HK5 := Lib.hid (HK3.out.below hb5)
  have HL5 := Lib.hid (HL3.out.below hb5)
  have HB5 := Lib.hid (HB3.out.trans (hb5.mono HB3.out.size))
  clear hb4 hb5 HK3 HL3 HB3 hC4 hl4
  simp only [z24, List.length_nil]
  go_wp2_with fail
  generalize w4.alloc (.cells #[.int .i64 0, .int .i64 0, .int .i64 0, .slice A4 0 c4] 24) = w5 at *
  refine (parse_isT [40, 100, 117, 97, 108, 32, 40, 101, 118, 101, 110, 32, 51, 41, 41] (by decide) _ (HD.out.below HB5.out).now z24 5 (by kernel_rfl)).mono ?_
  rintro e w6 ⟨A6, c6, rfl, hl6, hC6, hb6⟩
  have hb7 := hb6.trans ((((Below.refl _ _).alloc (Nat.le_refl w6.heap.size) (.cells #[.int .i64 0, .int .i64 0, .int .i64 0, .slice A6 0 c6] 24))).mono hb6.size)
  have HK7 := Lib.hid (HK5.out.below hb7)
  have HL7 := Lib.hid (HL5.out.below hb7)
  have HB7 := Lib.hid (HB5.out.trans (hb7.mono HB5.out.size))
  clear hb6 hb7 HK5 HL5 HB5 hC6 hl6
  obtain ⟨A, c, hg, hl, hC⟩ := HK7.out
  obtain ⟨q0, q1, q2, q3⟩ := cells70 hg
  simp only at hl hC q0 q1 q2 q3
  simp only [List.length_cons, List.length_nil, Nat.zero_add] at hl q3
  clear hg
  simp only [z24, List.length_nil]
  go_wp2_with fail
  generalize w6.alloc (.cells #[.int .i64 0, .int .i64 0, .int .i64 0, .slice A6 0 c6] 24) = w7 at *
  refine (sort_calls 7 0 0 A c [⟨1, 2, 0, []⟩] _ hC).mono ?_
  rintro e w8 ⟨rfl, hb8⟩
  rw [show good ⟨7, 0, 0, [⟨1, 2, 0, []⟩]⟩ = true from by kernel_rfl, show sortOf 7 = 1 from by kernel_rfl]
  simp only [if_true]
  have HK8 := Lib.hid (HK7.out.below hb8)
  have HL8 := Lib.hid (HL7.out.below hb8)
  have HB8 := Lib.hid (HB7.out.trans (hb8.mono HB7.out.size))
  clear HK7 HL7 HB7 q0 q1 q2 q3 hC hb8 hl
  have hC1 := (Blk.new (w := w8) (a := 4) (b := 7) (c := 11) (A := none) (cap := 0) (l := []) (Nat.le_refl _) (Kd.C_nil _ _)).one
  have hM := (Blk.new (w := w8.alloc (.cells #[.int .i64 4, .int .i64 7, .int .i64 11, .slice none 0 0] 24)) (a := 8) (b := 0) (c := 0) (cap := 1) (l := [⟨4, 7, 11, []⟩]) (Nat.le_refl _) hC1)
  rw [size_alloc] at hM
  have HM9 := Lib.hid hM
  have hb9 := (((Below.refl w8.heap.size w8).alloc (Nat.le_refl _) (.cells #[.int .i64 4, .int .i64 7, .int .i64 11, .slice none 0 0] 24)).alloc (by simp) (.cells #[.int .i64 8, .int .i64 0, .int .i64 0, .slice (some ⟨w8.heap.size, 0, none⟩) 1 1] 24))
  have HK9 := Lib.hid (HK8.out.below hb9)
  have HL9 := Lib.hid (HL8.out.below hb9)
  have HB9 := Lib.hid (HB8.out.trans (hb9.mono HB8.out.size))
  clear HK8 HL8 HB8 hC1 hM hb9
  obtain ⟨A9, c9, hg9, hl9, hC9⟩ := HK9.out
  obtain ⟨q0, q1, q2, q3⟩ := cells70 hg9
  have hI9 : IsT _ _ _ := ⟨A9, c9, rfl, hl9, hC9⟩
  have HI9 := Lib.hid hI9
  simp only [List.length_cons, List.length_nil, Nat.zero_add] at hl9 hC9 q0 q1 q2 q3 HI9
  simp only [List.length_cons, List.length_nil, Nat.zero_add] at HM9
  clear hg9 hC9 hI9
  go_wp2_with fail
  refine (printed_calls _ ⟨7, 0, 0, [⟨1, 2, 0, []⟩]⟩ _ HI9.out (HD.out.below HB9.out).now).mono ?_
  rintro e w10 ⟨rfl, hb10⟩
  rw [show ptx ⟨7, 0, 0, [⟨1, 2, 0, []⟩]⟩ = [40, 100, 117, 97, 108, 32, 40, 112, 108, 97, 110, 101, 32, 50, 41, 41] from by kernel_rfl]
  have HL10 := Lib.hid (HL9.out.below hb10)
  have HM10 := Lib.hid (HM9.out.below hb10)
  have HB10 := Lib.hid (HB9.out.trans (hb10.mono HB9.out.size))
  clear HL9 HM9 HB9 HK9 HI9 q0 q1 q2 q3 hl9 hb10
  obtain ⟨Ax, cx, hgx, hlx, hCx⟩ := HL10.out
  obtain ⟨Ay, cy, hgy, hly, hCy⟩ := HM10.out
  obtain ⟨x0, x1, x2, x3⟩ := cells70 hgx
  obtain ⟨y0, y1, y2, y3⟩ := cells70 hgy
  have HCx := Lib.hid hCx
  have HCy := Lib.hid hCy
  simp only [List.length_cons, List.length_nil, Nat.zero_add] at x0 x1 x2 x3 y0 y1 y2 y3
  clear hgx hgy hCx hCy
  unfold Sv
  go_wp2_with fail
  refine (same_calls 20 _ _ ⟨8, 0, 0, [⟨4, 7, 11, []⟩]⟩ ⟨8, 0, 0, [⟨4, 7, 11, []⟩]⟩ true _ ⟨Ax, cx, rfl, hlx, HCx.out⟩ ⟨Ay, cy, rfl, hly, HCy.out⟩ (by kernel_rfl)).mono ?_
  rintro e w11 ⟨rfl, hb11⟩
  have HB11 := Lib.hid (HB10.out.trans (hb11.mono HB10.out.size))
  clear hb11 x0 x1 x2 x3 y0 y1 y2 y3
  go_wp2_with fail
  refine (refused_calls _ ⟨0, 0, 0, []⟩ _ ⟨none, 0, rfl, Nat.le_refl _, Kd.C_nil _ _⟩ (HD.out.below HB11.out).now).mono ?_
  rintro e w12 ⟨rfl, hb12⟩
  rw [show good ⟨0, 0, 0, []⟩ = false from by kernel_rfl]
  go_wp2
  go_ret
  exact ⟨rfl, HB11.out.trans (hb12.mono HB11.out.size)⟩
end Go.Proofs.YtjcdpmoabkfchaaDoor
