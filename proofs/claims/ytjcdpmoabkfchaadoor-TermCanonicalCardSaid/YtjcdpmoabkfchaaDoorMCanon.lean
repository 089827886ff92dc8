/- TermCanonical, walked: it returns true for any string. -/
import Derived.Test.YtjcdpmoabkfchaaDoorMEx
import Derived.Test.YtjcdpmoabkfchaaDoorMGood
import Derived.Test.YtjcdpmoabkfchaaDoorMTok
import Derived.Test.YtjcdpmoabkfchaaDoorMSame
import Derived.Test.YtjcdpmoabkfchaaDoorMEqual
set_option linter.unusedSimpArgs false
set_option linter.unusedVariables false
namespace Go.Proofs.YtjcdpmoabkfchaaDoor
open Go.RowKit Go.Lib Go.Proofs.YtjcdpmoabkfchaaDoorW.PrintWords Go.Proofs.YtjcdpmoabkfchaaDoor.PTermMatchesReference

theorem same_good (v1 v2 : Value) (t : S24) (w : World) (hg : good t = true) (h1 : IsT w v1 t) (h2 : IsT w v2 t) :
    Calls Tryd.prog 12 #[v1, v2] w fun e w' => e = .returned (.bool true) ∧ Below w.heap.size w w' :=
  same_calls 36 v1 v2 t t true w h1 h2 (same_self 6 t (good_sz hg).1 36 (by omega))

/-- The reference's Tokens. -/
theorem tokens_at (l : List UInt8) (hl : l.length ≤ 1000000) (w : World) :
    Calls Tryd.prog 20 #[Sv l] w fun e w' => ∃ A c, e = .returned (.slice A ((toks l).map mkS).length c) ∧ ((toks l).map mkS).length ≤ c ∧ Kd.C Kd.string w' A ((toks l).map mkS).length ((toks l).map mkS) ∧ Below w.heap.size w w' := by
  obtain ⟨k, hk⟩ := tokens_toks l hl
  refine (plexusref16_Tokens.calls k _ _ w hk).mono ?_
  rintro e w' ⟨v, rfl, hR, hb⟩
  obtain ⟨A, c, rfl, h1, h2⟩ := Kd.R_reads hR
  exact ⟨A, c, rfl, h1, h2, hb⟩
theorem toks_length (l : List UInt8) : (toks l).length ≤ l.length := by
  generalize hn : l.length = n
  induction n using Nat.strongRecOn generalizing l with
  | _ n ih =>
    by_cases h : tok l = []
    · rw [toks_nil h]; simp
    · rw [toks_cons h]
      have := rest_lt h
      have h2 := ih (rest l).length (by omega) (rest l) rfl
      simp only [List.length_cons]
      omega

theorem equal_at (A0 A1 : Option Addr) (c0 c1 : Nat) (l : List ByteArray) (hl : l.length ≤ 1000000000) (w : World) (h0 : Kd.C Kd.string w A0 l.length l) (k0 : l.length ≤ c0) (h1 : Kd.C Kd.string w A1 l.length l) (k1 : l.length ≤ c1) :
    Calls Tryd.prog 19 #[.slice A0 l.length c0, .slice A1 l.length c1] w fun e w' => e = .returned (.bool true) ∧ Drawn0 w w' := by
  obtain ⟨ke, hke⟩ := equal_self l hl
  exact PTermCanonical.plexusref16_Equal.calls ke A0 c0 l A1 c1 l true w h0 k0 h1 k1 hke

set_option maxHeartbeats 8000000 in
set_option maxRecDepth 100000 in
theorem termCanonical_walk (s : List UInt8) (w : World) (hd : Gd w.heap.size w) :
    Calls Tryd.prog 5 #[Sv s] w fun e w' => e = .returned (.bool true) ∧ Below w.heap.size w w' := by
  have HD := Lib.hid hd
  clear hd
  by_cases hs : 5000 < s.length
  · have x1 : decide ((5000 : Int) < (s.length : Int)) = true := decide_eq_true (by omega)
    unfold Sv
    go_enter Tryd.func5, Tryd.ntmps5
    go_wp2_with fail
    refine (examples_calls _ HD.out).mono ?_
    rintro e w1 ⟨rfl, hb1⟩
    go_wp2
    go_ret
    exact ⟨rfl, hb1⟩
  · have x1 : decide ((5000 : Int) < (s.length : Int)) = false := decide_eq_false (by omega)
    unfold Sv
    go_enter Tryd.func5, Tryd.ntmps5
    go_wp2_with fail
    refine (examples_calls _ HD.out).mono ?_
    rintro e w1 ⟨rfl, hb1⟩
    have HB1 := Lib.hid hb1
    clear hb1
    go_wp2_with fail
    rcases parse_cases s with hp | ⟨t, hp, hg, hl4, htk⟩
    · refine (parse_isT s (by omega) _ (HD.out.below HB1.out).now _ _ hp).mono ?_
      rintro e w2 ⟨A2, c2, rfl, hl2, hC2, hb2⟩
      simp only [z24, List.length_nil]
      clear hp hC2 hl2
      go_wp2
      go_ret
      exact ⟨rfl, (HB1.out.trans (hb2.mono HB1.out.size)).alloc (by have := hb2.size; have := HB1.out.size; omega) _⟩
    · refine (parse_isT s (by omega) _ (HD.out.below HB1.out).now _ _ hp).mono ?_
      rintro e w2 ⟨A2, c2, rfl, hl2, hC2, hb2⟩
      have HGo := Lib.hid hg
      have HTk := Lib.hid htk
      clear hp hg htk
      have HK3 := Lib.hid (Blk.newT (w := w2) (t := t) hl2 hC2)
      have hb3 := hb2.trans ((((Below.refl _ _).alloc (Nat.le_refl w2.heap.size) (.cells #[.int .i64 t.f0, .int .i64 t.f1, .int .i64 t.f2, .slice A2 t.f3.length c2] 24))).mono hb2.size)
      have HB3 := Lib.hid (HB1.out.trans (hb3.mono HB1.out.size))
      clear hb2 hb3 hC2 hl2 HB1
      obtain ⟨A4, c4, hg4, hl4', hC4⟩ := HK3.out
      obtain ⟨q0, q1, q2, q3⟩ := cells70 hg4
      have HI4 := Lib.hid hC4
      have x2 : decide ((s.length : Int) ≤ (4000 : Int)) = true := decide_eq_true (by omega)
      clear hg4 hC4
      go_wp2_with fail
      refine (printed_calls _ t _ ⟨A4, c4, rfl, hl4', HI4.out⟩ (HD.out.below HB3.out).now).mono ?_
      rintro e w5 ⟨rfl, hb5⟩
      rw [ptx_good HGo.out]
      have HK5 := Lib.hid (HK3.out.below hb5)
      have HB5 := Lib.hid (HB3.out.trans (hb5.mono HB3.out.size))
      clear hb5 HK3 HB3 HI4 q0 q1 q2 q3 hl4'
      have hlen := good_len HGo.out
      have HPa := Lib.hid (good_parse HGo.out)
      have HTu := Lib.hid (good_toks HGo.out)
      go_wp2_with fail
      refine (parse_isT (txt 6 t) (by omega) _ (HD.out.below HB5.out).now _ _ HPa.out).mono ?_
      rintro e w6 ⟨A6, c6, rfl, hl6, hC6, hb6⟩
      have HL7 := Lib.hid (Blk.newT (w := w6) (t := t) hl6 hC6)
      have hb7 := hb6.trans ((((Below.refl _ _).alloc (Nat.le_refl w6.heap.size) (.cells #[.int .i64 t.f0, .int .i64 t.f1, .int .i64 t.f2, .slice A6 t.f3.length c6] 24))).mono hb6.size)
      have HK7 := Lib.hid (HK5.out.below hb7)
      have HB7 := Lib.hid (HB5.out.trans (hb7.mono HB5.out.size))
      clear hb6 hb7 hC6 hl6 HB5 HK5
      obtain ⟨A4, c4, hg4, hl4', hC4⟩ := HK7.out
      obtain ⟨q0, q1, q2, q3⟩ := cells70 hg4
      have HI7 := Lib.hid hC4
      clear hg4 hC4
      go_wp2_with fail
      refine (sort_calls t.f0 t.f1 t.f2 A4 c4 t.f3 _ HI7.out).mono ?_
      rintro e w8 ⟨rfl, hb8⟩
      have hgt : good ⟨t.f0, t.f1, t.f2, t.f3⟩ = true := by cases t; exact HGo.out
      rw [hgt]
      simp only [if_true]
      clear hgt
      have HK8 := Lib.hid (HK7.out.below hb8)
      have HL8 := Lib.hid (HL7.out.below hb8)
      have HB8 := Lib.hid (HB7.out.trans (hb8.mono HB7.out.size))
      clear hb8 HK7 HL7 HB7 HI7 q0 q1 q2 q3 hl4'
      go_wp2_with fail
      refine (tokens_at (txt 6 t) (by omega) _).mono ?_
      rintro e w9 ⟨A9, c9, rfl, hl9, hC9, hb9⟩
      rw [HTu.out, ← HTk.out] at hl9 hC9 ⊢
      have htl := toks_length s
      obtain ⟨L, hL⟩ : ∃ L, (toks s).map mkS = L := ⟨_, rfl⟩
      have hLl : L.length ≤ 1000000 := by rw [← hL]; simp; omega
      rw [hL] at hl9 hC9 ⊢
      have HL0 := Lib.hid hL
      clear hL htl
      have HC9 := Lib.hid hC9
      have HK9 := Lib.hid (HK8.out.below hb9)
      have HL9 := Lib.hid (HL8.out.below hb9)
      have HB9 := Lib.hid (HB8.out.trans (hb9.mono HB8.out.size))
      clear hb9 HK8 HL8 HB8 hC9
      go_wp2_with fail
      refine (tokens_at s (by omega) _).mono ?_
      rintro e w10 ⟨A10, c10, rfl, hl10, hC10, hb10⟩
      rw [HL0.out] at hl10 hC10 ⊢
      have HC10 := Lib.hid (Kd.C_below HC9.out hb10)
      have HD10 := Lib.hid hC10
      have HK10 := Lib.hid (HK9.out.below hb10)
      have HL10 := Lib.hid (HL9.out.below hb10)
      have HB10 := Lib.hid (HB9.out.trans (hb10.mono HB9.out.size))
      clear hb10 HK9 HL9 HB9 hC10 HC9
      go_wp2_with fail
      refine (equal_at A9 A10 c9 c10 L (by omega) _ HC10.out hl9 HD10.out hl10).mono ?_
      rintro e w11 ⟨rfl, hd11⟩
      have hb11 : Below w10.heap.size w10 w11 := by
        obtain ⟨n, rfl⟩ := hd11
        exact drewN_below _ _
      have HK11 := Lib.hid (HK10.out.below hb11)
      have HL11 := Lib.hid (HL10.out.below hb11)
      have HB11 := Lib.hid (HB10.out.trans (hb11.mono HB10.out.size))
      clear hb11 hd11 HK10 HL10 HB10 HC10 HD10
      obtain ⟨Ax, cx, hgx, hlx, hCx⟩ := HL11.out
      obtain ⟨Ay, cy, hgy, hly, hCy⟩ := HK11.out
      obtain ⟨r0, r1, r2, r3⟩ := cells70 hgx
      obtain ⟨y0, y1, y2, y3⟩ := cells70 hgy
      have HCx := Lib.hid hCx
      have HCy := Lib.hid hCy
      clear hgx hgy hCx hCy
      go_wp2_with fail
      refine (same_good _ _ t _ HGo.out ⟨Ax, cx, rfl, hlx, HCx.out⟩ ⟨Ay, cy, rfl, hly, HCy.out⟩).mono ?_
      rintro e w12 ⟨rfl, hb12⟩
      go_wp2
      go_ret
      exact ⟨rfl, HB11.out.trans (hb12.mono HB11.out.size)⟩
end Go.Proofs.YtjcdpmoabkfchaaDoor
