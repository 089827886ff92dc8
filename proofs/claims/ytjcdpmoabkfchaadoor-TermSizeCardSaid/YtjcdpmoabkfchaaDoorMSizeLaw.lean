/- TermSize, walked: it returns true for any two bytes. -/
import Derived.Test.YtjcdpmoabkfchaaDoorMEx
import Derived.Test.YtjcdpmoabkfchaaDoorPTermMatchesReferencex7
set_option linter.unusedSimpArgs false
set_option linter.unusedVariables false
namespace Go.Proofs.YtjcdpmoabkfchaaDoor
open Go.RowKit Go.Lib Go.Proofs.YtjcdpmoabkfchaaDoorW.PrintWords Go.Proofs.YtjcdpmoabkfchaaDoor.PTermMatchesReference

def cT : Nat → S24
  | 0 => ⟨1, 3, 0, []⟩
  | i + 1 => ⟨6, 0, 0, [cT i]⟩
def cS : Nat → List UInt8
  | 0 => [40, 112, 108, 97, 110, 101, 32, 51, 41]
  | i + 1 => [40, 99, 111, 109, 112, 108, 101, 109, 101, 110, 116, 32] ++ cS i ++ [41]
theorem cS_length : ∀ i, (cS i).length = 9 + 13 * i
  | 0 => rfl
  | i + 1 => by simp [cS, cS_length i]; omega

theorem c_good : ∀ k, k ≤ 5 → parseS (cS k) = (cT k, 0) ∧ ptx (cT k) = cS k ∧ plexusref16_Same.f 40 (cT k).f0 (cT k).f1 (cT k).f2 (cT k).f3 (cT k).f0 (cT k).f1 (cT k).f2 (cT k).f3 = some true := by
  intro k hk
  rcases (by omega : k = 0 ∨ k = 1 ∨ k = 2 ∨ k = 3 ∨ k = 4 ∨ k = 5) with rfl | rfl | rfl | rfl | rfl | rfl
  all_goals exact ⟨by kernel_rfl, by kernel_rfl, by kernel_rfl⟩
theorem c_bad : ∀ k, 6 ≤ k → k ≤ 11 → parseS (cS k) = (z24, 5) ∧ ptx (cT k) = [] ∧ good (cT k) = false := by
  intro k hk hk2
  rcases (by omega : k = 6 ∨ k = 7 ∨ k = 8 ∨ k = 9 ∨ k = 10 ∨ k = 11) with rfl | rfl | rfl | rfl | rfl | rfl
  all_goals exact ⟨by kernel_rfl, by kernel_rfl, by kernel_rfl⟩

theorem g_small : ∀ N : Int, 1 ≤ N → N ≤ 20 → parseS (ptx (grownT 40 N)) = (grownT 40 N, 0) ∧ (ptx (grownT 40 N)).length ≤ 1000000 ∧
    plexusref16_Same.f 100 (grownT 40 N).f0 (grownT 40 N).f1 (grownT 40 N).f2 (grownT 40 N).f3 (grownT 40 N).f0 (grownT 40 N).f1 (grownT 40 N).f2 (grownT 40 N).f3 = some true ∧
    plexusref16_Nodes.f 100 (grownT 40 N).f0 (grownT 40 N).f1 (grownT 40 N).f2 (grownT 40 N).f3 = some N := by
  intro N h1 h2
  rcases (by omega : N = 1 ∨ N = 2 ∨ N = 3 ∨ N = 4 ∨ N = 5 ∨ N = 6 ∨ N = 7 ∨ N = 8 ∨ N = 9 ∨ N = 10 ∨ N = 11 ∨ N = 12 ∨ N = 13 ∨ N = 14 ∨ N = 15 ∨ N = 16 ∨ N = 17 ∨ N = 18 ∨ N = 19 ∨ N = 20) with rfl | rfl | rfl | rfl | rfl | rfl | rfl | rfl | rfl | rfl | rfl | rfl | rfl | rfl | rfl | rfl | rfl | rfl | rfl | rfl
  all_goals exact ⟨by kernel_rfl, of_decide_eq_true (by kernel_rfl), by kernel_rfl, by kernel_rfl⟩
theorem g_great : ∀ N : Int, 21 ≤ N → N ≤ 40 → good (grownT 40 N) = false := by
  intro N h1 h2
  rcases (by omega : N = 21 ∨ N = 22 ∨ N = 23 ∨ N = 24 ∨ N = 25 ∨ N = 26 ∨ N = 27 ∨ N = 28 ∨ N = 29 ∨ N = 30 ∨ N = 31 ∨ N = 32 ∨ N = 33 ∨ N = 34 ∨ N = 35 ∨ N = 36 ∨ N = 37 ∨ N = 38 ∨ N = 39 ∨ N = 40) with rfl | rfl | rfl | rfl | rfl | rfl | rfl | rfl | rfl | rfl | rfl | rfl | rfl | rfl | rfl | rfl | rfl | rfl | rfl | rfl
  all_goals kernel_rfl

theorem Up.oneT {w : World} {base g : Nat} {t : S24} {A : Option Addr} {cap : Nat} (h : Up w base A t.f3) (hl : t.f3.length ≤ cap) (hg : base ≤ g)
    (hb : w.heap[g]? = some (.cells #[.int .i64 t.f0, .int .i64 t.f1, .int .i64 t.f2, .slice A t.f3.length cap] 24 (0, 0))) : Up w base (some ⟨g, 0, none⟩) [t] := by
  cases t; exact Up.one h hl hg hb
theorem Blk.newT {w : World} {t : S24} {A : Option Addr} {cap : Nat} (hl : t.f3.length ≤ cap) (hC : Kd.C k24 w A t.f3.length t.f3) :
    Blk (w.alloc (.cells #[.int .i64 t.f0, .int .i64 t.f1, .int .i64 t.f2, .slice A t.f3.length cap] 24)) w.heap.size t := by
  cases t; exact Blk.new hl hC
/-- A block that holds a term, whose kids lie behind it. -/
def UBlk (w : World) (g : Nat) (t : S24) : Prop :=
  ∃ A c, w.heap[g]? = some (.cells #[.int .i64 t.f0, .int .i64 t.f1, .int .i64 t.f2, .slice A t.f3.length c] 24 (0, 0)) ∧ t.f3.length ≤ c ∧ Up w (g + 1) A t.f3
theorem UBlk.below {w w' : World} {g : Nat} {t : S24} (h : UBlk w g t) (hb : Below w.heap.size w w') : UBlk w' g t := by
  obtain ⟨A, c, hg, hl, hU⟩ := h
  exact ⟨A, c, below_blk hb hg, hl, hU.below (Nat.le_refl _) hb⟩

set_option maxHeartbeats 8000000 in
set_option maxRecDepth 100000 in
theorem termSize_walk (d n : Int) (h0 : 0 ≤ d) (h1 : d ≤ 255) (k0 : 0 ≤ n) (k1 : n ≤ 255) (w : World) (hd : Gd w.heap.size w) :
    Calls Tryd.prog 8 #[.int .u8 d, .int .u8 n] w fun e w' => e = .returned (.bool true) ∧ Below w.heap.size w w' := by
  have HD := Lib.hid hd
  clear hd
  go_enter Tryd.func8, Tryd.ntmps8
  go_wp2_with fail
  refine (examples_calls _ HD.out).mono ?_
  rintro e w1 ⟨rfl, hb1⟩
  have HB1 := Lib.hid hb1
  clear hb1
  go_wp2_with fail
  have HB2 := Lib.hid (HB1.out.alloc HB1.out.size (.cells #[.int .i64 1, .int .i64 3, .int .i64 0, .slice none 0 0] 24))
  have HU2 := Lib.hid (show UBlk (w1.alloc (.cells #[.int .i64 1, .int .i64 3, .int .i64 0, .slice none 0 0] 24)) w1.heap.size (cT 0) from ⟨none, 0, heap_alloc_new _ _, Nat.le_refl _, Up.nil _ _⟩)
  have HL2 := Lib.hid HB1.out.size
  clear HB1
  generalize w1.alloc (.cells #[.int .i64 1, .int .i64 3, .int .i64 0, .slice none 0 0] 24) = w2 at *
  generalize w1.heap.size = g7 at *
  obtain ⟨m, hm⟩ : ∃ m : Nat, 1 + d % 12 = (m : Int) := ⟨(1 + d % 12).toNat, by omega⟩
  rw [hm]
  have hm1 : 1 ≤ m := by omega
  have hm2 : m ≤ 12 := by omega
  clear hm
  go_loopg [8, 9] (m - 1) (fun g v8 v9 wx => ∃ k : Nat, k + 1 + g = m ∧ v8 = Sv (cS k) ∧ v9 = .int .i64 ((k : Int) + 1) ∧ Hid (UBlk wx g7 (cT k)) ∧ Hid (Below w.heap.size w wx))
  case atStart => exact ⟨0, by omega, rfl, rfl, HU2, HB2⟩
  case round =>
    clear HU2 HB2
    obtain ⟨k, hkg, rfl, rfl, HU, HB⟩ := hrel
    by_cases hk : k + 1 < m
    · cases gk with
      | zero => omega
      | succ g =>
        have x1 : decide ((k : Int) + 1 < (m : Int)) = true := decide_eq_true (by omega)
        obtain ⟨A, c, hg, hl, hU⟩ := HU.out
        obtain ⟨q0, q1, q2, q3⟩ := cells70 hg
        have hg3 := blk_alloc (o' := .cells #[.int .i64 (cT k).f0, .int .i64 (cT k).f1, .int .i64 (cT k).f2, .slice A (cT k).f3.length c] 24) hg
        obtain ⟨z0, z1, z2, z3⟩ := cells70 hg3
        obtain ⟨y0, y1, y2, y3⟩ := frozen70 hg3
        have hS : (cS k).length ≤ 1000 := by rw [cS_length]; omega
        have hadd1 : ∀ w, (binOp .add 9 (.string ⟨#[40, 99, 111, 109, 112, 108, 101, 109, 101, 110, 116, 32]⟩) (.string ⟨(cS k).toArray⟩)).run Tryd.prog w = .ok (.string ⟨([40, 99, 111, 109, 112, 108, 101, 109, 101, 110, 116, 32] ++ cS k).toArray⟩) w := add_str [40, 99, 111, 109, 112, 108, 101, 109, 101, 110, 116, 32] (cS k) (by simp; omega)
        have hadd2 : ∀ w, (binOp .add 9 (.string ⟨([40, 99, 111, 109, 112, 108, 101, 109, 101, 110, 116, 32] ++ cS k).toArray⟩) (.string ⟨#[41]⟩)).run Tryd.prog w = .ok (.string ⟨(cS (k + 1)).toArray⟩) w := add_str ([40, 99, 111, 109, 112, 108, 101, 109, 101, 110, 116, 32] ++ cS k) [41] (by simp; omega)
        unfold Sv
        go_wp2
        clear hadd1 hadd2 z0 z1 z2 z3 y0 y1 y2 y3 q0 q1 q2 q3
        go_roundg g
        case measure => omega
        case rel =>
          refine ⟨k + 1, by omega, ?_, by simp, ?_, ?_⟩
          · show Value.string _ = Value.string _
            rw [ByteArray.mk_append_mk [40, 99, 111, 109, 112, 108, 101, 109, 101, 110, 116, 32] (cS k), ByteArray.mk_append_mk _ [41]]
            rfl
          · have hlt := blk_lt' hg
            have hUp := Up.oneT (g := wr.heap.size) (t := cT k) (hU.below (Nat.le_refl _) ((Below.refl _ _).alloc (Nat.le_refl _) (.cells #[.int .i64 (cT k).f0, .int .i64 (cT k).f1, .int .i64 (cT k).f2, .slice A (cT k).f3.length c] 24))) hl (by omega) (heap_alloc_new _ _)
            exact Lib.hid ⟨_, 1, blk_set4 hg3, Nat.le_refl _, (((hUp.set (Nat.le_refl _) _ (Nat.lt_succ_self _) _).set (Nat.le_refl _) _ (Nat.lt_succ_self _) _).set (Nat.le_refl _) _ (Nat.lt_succ_self _) _).set (Nat.le_refl _) _ (Nat.lt_succ_self _) _⟩
          · exact Lib.hid (((((HB.out.alloc HB.out.size _).setCell HL2.out _).setCell HL2.out _).setCell HL2.out _).setCell HL2.out _)
    · obtain rfl : m = k + 1 := by omega
      have x1 : decide ((k : Int) + 1 < ((k + 1 : Nat) : Int)) = false := decide_eq_false (by omega)
      go_wp2_with fail
      by_cases hk6 : k ≤ 5
      · obtain ⟨f1, f2, f3⟩ := c_good k hk6
        have F2 := Lib.hid f2
        have F3 := Lib.hid f3
        refine (parse_isT (cS k) (by rw [cS_length]; omega) _ (HD.out.below HB.out).now _ _ f1).mono ?_
        clear f1 f2 f3
        rintro e w3 ⟨A3, c3, rfl, hl3, hC3, hb3⟩
        have HK3 := Lib.hid (Blk.newT (w := w3) (t := cT k) hl3 hC3)
        have hb4 := hb3.trans ((((Below.refl _ _).alloc (Nat.le_refl w3.heap.size) (.cells #[.int .i64 (cT k).f0, .int .i64 (cT k).f1, .int .i64 (cT k).f2, .slice A3 (cT k).f3.length c3] 24))).mono hb3.size)
        have HU4 := Lib.hid (HU.out.below hb4)
        have HB4 := Lib.hid (HB.out.trans (hb4.mono HB.out.size))
        clear HU HB hb3 hb4 hC3 hl3
        obtain ⟨A4, c4, hg4, hl4, hU4⟩ := HU4.out
        obtain ⟨q0, q1, q2, q3⟩ := cells70 hg4
        have HI4 := Lib.hid hU4.reads
        have x2 : decide ((k : Int) + 1 ≤ 6) = true := decide_eq_true (by omega)
        have x3 : decide (6 < (k : Int) + 1) = false := decide_eq_false (by omega)
        clear hg4 hU4
        go_wp2_with fail
        refine (printed_calls _ (cT k) _ ⟨A4, c4, rfl, hl4, HI4.out⟩ (HD.out.below HB4.out).now).mono ?_
        rintro e w5 ⟨rfl, hb5⟩
        rw [F2.out]
        have HK5 := Lib.hid (HK3.out.below hb5)
        have HU5 := Lib.hid (HU4.out.below hb5)
        have HB5 := Lib.hid (HB4.out.trans (hb5.mono HB4.out.size))
        clear HK3 HU4 HB4 HI4 q0 q1 q2 q3 hl4 hb5
        obtain ⟨Ax, cx, hgx, hlx, hCx⟩ := HK5.out
        obtain ⟨Ay, cy, hgy, hly, hUy⟩ := HU5.out
        obtain ⟨r0, r1, r2, r3⟩ := cells70 hgx
        obtain ⟨y0, y1, y2, y3⟩ := cells70 hgy
        have HCx := Lib.hid hCx
        have HCy := Lib.hid hUy.reads
        clear hgx hgy hCx hUy
        unfold Sv
        go_wp2_with fail
        refine (same_calls 40 _ _ (cT k) (cT k) true _ ⟨Ax, cx, rfl, hlx, HCx.out⟩ ⟨Ay, cy, rfl, hly, HCy.out⟩ F3.out).mono ?_
        rintro e w6 ⟨rfl, hb6⟩
        have HB6 := Lib.hid (HB5.out.trans (hb6.mono HB5.out.size))
        clear hb6 HK5 HU5 HB5 HCx HCy r0 r1 r2 r3 y0 y1 y2 y3 hlx hly
        go_wp2_with fail
        generalize hN : 1 + n % 40 = N
        have hN1 : 1 ≤ N := by omega
        have hN2 : N ≤ 40 := by omega
        clear hN
        refine (grown_calls 40 N _ (by omega) (by omega) (by omega)).mono ?_
        rintro e w7 ⟨⟨v, rfl, hv⟩, hb7⟩
        obtain ⟨G, hG⟩ : ∃ G, grownT 40 N = G := ⟨_, rfl⟩
        have HG := Lib.hid hG
        rw [hG] at hv
        clear hG
        obtain ⟨A7, c7, rfl, hl7, hU7⟩ := hv
        have hb8 := hb7.trans ((((Below.refl _ _).alloc (Nat.le_refl w7.heap.size) (.cells #[.int .i64 G.f0, .int .i64 G.f1, .int .i64 G.f2, .slice A7 G.f3.length c7] 24))).mono hb7.size)
        have HK8 := Lib.hid (Blk.newT (w := w7) (t := G) hl7 hU7.reads)
        have HB8 := Lib.hid (HB6.out.trans (hb8.mono HB6.out.size))
        clear hb7 hb8 hU7 hl7 HB6
        obtain ⟨A8, c8, hg8, hl8, hC8⟩ := HK8.out
        obtain ⟨q0, q1, q2, q3⟩ := cells70 hg8
        have HI8 := Lib.hid hC8
        clear hg8 hC8
        by_cases hN20 : 20 < N
        · have x9 : decide (20 < N) = true := decide_eq_true hN20
          have HBad := Lib.hid (g_great N (by omega) hN2)
          go_wp2_with fail
          refine (refused_calls _ G _ ⟨A8, c8, rfl, hl8, HI8.out⟩ (HD.out.below HB8.out).now).mono ?_
          rintro e w9 ⟨rfl, hb9⟩
          rw [← HG.out, HBad.out]
          go_wp2
          go_ret
          exact ⟨rfl, HB8.out.trans (hb9.mono HB8.out.size)⟩
        · have x9 : decide (20 < N) = false := decide_eq_false hN20
          have x10 : (N == N) = true := beq_self_eq_true N
          obtain ⟨j1, j2, j3, j4⟩ := g_small N hN1 (by omega)
          rw [HG.out] at j1 j2 j3 j4
          have J1 := Lib.hid j1
          have J2 := Lib.hid j2
          have J3 := Lib.hid j3
          have J4 := Lib.hid j4
          clear j1 j2 j3 j4
          go_wp2_with fail
          refine (printed_calls _ G _ ⟨A8, c8, rfl, hl8, HI8.out⟩ (HD.out.below HB8.out).now).mono ?_
          rintro e w9 ⟨rfl, hb9⟩
          have HK9 := Lib.hid (HK8.out.below hb9)
          have HB9 := Lib.hid (HB8.out.trans (hb9.mono HB8.out.size))
          clear hb9 HK8 HB8 HI8 q0 q1 q2 q3 hl8
          go_wp2_with fail
          refine (parse_isT (ptx G) J2.out _ (HD.out.below HB9.out).now _ _ J1.out).mono ?_
          rintro e w10 ⟨A10, c10, rfl, hl10, hC10, hb10⟩
          have hK11 := Blk.newT (w := w10) (t := G) hl10 hC10
          have hb11 := hb10.trans ((((Below.refl _ _).alloc (Nat.le_refl w10.heap.size) (.cells #[.int .i64 G.f0, .int .i64 G.f1, .int .i64 G.f2, .slice A10 G.f3.length c10] 24))).mono hb10.size)
          have HL11 := Lib.hid hK11
          have HK11 := Lib.hid (HK9.out.below hb11)
          have HB11 := Lib.hid (HB9.out.trans (hb11.mono HB9.out.size))
          clear hK11 hb10 hb11 hC10 hl10 HK9 HB9
          obtain ⟨Aa, ca, hga, hla, hCa⟩ := HL11.out
          obtain ⟨Ab, cb, hgb, hlb, hCb⟩ := HK11.out
          obtain ⟨r0, r1, r2, r3⟩ := cells70 hga
          obtain ⟨y0, y1, y2, y3⟩ := cells70 hgb
          have HCa := Lib.hid hCa
          have HCb := Lib.hid hCb
          clear hga hgb hCa hCb
          go_wp2_with fail
          refine (same_calls 100 _ _ G G true _ ⟨Aa, ca, rfl, hla, HCa.out⟩ ⟨Ab, cb, rfl, hlb, HCb.out⟩ J3.out).mono ?_
          rintro e w12 ⟨rfl, hb12⟩
          have HL12 := Lib.hid (HL11.out.below hb12)
          have HB12 := Lib.hid (HB11.out.trans (hb12.mono HB11.out.size))
          clear hb12 HL11 HK11 HB11 HCa HCb r0 r1 r2 r3 y0 y1 y2 y3 hla hlb
          obtain ⟨Ad, cd, hgd, hld, hCd⟩ := HL12.out
          obtain ⟨r0, r1, r2, r3⟩ := cells70 hgd
          have HCd := Lib.hid hCd
          clear hgd hCd
          go_wp2_with fail
          refine (plexusref16_Nodes.calls 100 _ _ _ Ad cd _ _ _ HCd.out hld J4.out).mono ?_
          rintro e w13 ⟨rfl, hb13⟩
          go_wp2
          go_ret
          exact ⟨rfl, HB12.out.trans (hb13.mono HB12.out.size)⟩
      · obtain ⟨f1, f2, f3⟩ := c_bad k (by omega) (by omega)
        have F2 := Lib.hid f2
        have F3 := Lib.hid f3
        refine (parse_isT (cS k) (by rw [cS_length]; omega) _ (HD.out.below HB.out).now _ _ f1).mono ?_
        clear f1 f2 f3
        rintro e w3 ⟨A3, c3, rfl, hl3, hC3, hb3⟩
        have hb4 := hb3.trans ((((Below.refl _ _).alloc (Nat.le_refl w3.heap.size) (.cells #[.int .i64 0, .int .i64 0, .int .i64 0, .slice A3 0 c3] 24))).mono hb3.size)
        have HU4 := Lib.hid (HU.out.below hb4)
        have HB4 := Lib.hid (HB.out.trans (hb4.mono HB.out.size))
        clear HU HB hb3 hb4 hC3 hl3
        obtain ⟨A4, c4, hg4, hl4, hU4⟩ := HU4.out
        obtain ⟨q0, q1, q2, q3⟩ := cells70 hg4
        have HI4 := Lib.hid hU4.reads
        have x2 : decide ((k : Int) + 1 ≤ 6) = false := decide_eq_false (by omega)
        have x3 : decide (6 < (k : Int) + 1) = true := decide_eq_true (by omega)
        clear hg4 hU4
        simp only [z24, List.length_nil]
        go_wp2_with fail
        refine (printed_calls _ (cT k) _ ⟨A4, c4, rfl, hl4, HI4.out⟩ (HD.out.below HB4.out).now).mono ?_
        rintro e w5 ⟨rfl, hb5⟩
        rw [F2.out]
        have HU5 := Lib.hid (HU4.out.below hb5)
        have HB5 := Lib.hid (HB4.out.trans (hb5.mono HB4.out.size))
        clear HU4 HB4 HI4 q0 q1 q2 q3 hl4 hb5
        obtain ⟨Ay, cy, hgy, hly, hUy⟩ := HU5.out
        obtain ⟨y0, y1, y2, y3⟩ := cells70 hgy
        have HCy := Lib.hid hUy.reads
        clear hgy hUy
        have hne : (cS k).isEmpty = false := by
          have := cS_length k
          cases hc : cS k with
          | nil => rw [hc] at this; simp at this; omega
          | cons _ _ => rfl
        unfold Sv
        go_wp2_with fail
        refine (refused_calls _ (cT k) _ ⟨Ay, cy, rfl, hly, HCy.out⟩ (HD.out.below HB5.out).now).mono ?_
        rintro e w6 ⟨rfl, hb6⟩
        rw [F3.out]
        have HB6 := Lib.hid (HB5.out.trans (hb6.mono HB5.out.size))
        clear hb6 HU5 HB5 HCy y0 y1 y2 y3 hly
        go_wp2_with fail
        generalize hN : 1 + n % 40 = N
        have hN1 : 1 ≤ N := by omega
        have hN2 : N ≤ 40 := by omega
        clear hN
        refine (grown_calls 40 N _ (by omega) (by omega) (by omega)).mono ?_
        rintro e w7 ⟨⟨v, rfl, hv⟩, hb7⟩
        obtain ⟨G, hG⟩ : ∃ G, grownT 40 N = G := ⟨_, rfl⟩
        have HG := Lib.hid hG
        rw [hG] at hv
        clear hG
        obtain ⟨A7, c7, rfl, hl7, hU7⟩ := hv
        have hb8 := hb7.trans ((((Below.refl _ _).alloc (Nat.le_refl w7.heap.size) (.cells #[.int .i64 G.f0, .int .i64 G.f1, .int .i64 G.f2, .slice A7 G.f3.length c7] 24))).mono hb7.size)
        have HK8 := Lib.hid (Blk.newT (w := w7) (t := G) hl7 hU7.reads)
        have HB8 := Lib.hid (HB6.out.trans (hb8.mono HB6.out.size))
        clear hb7 hb8 hU7 hl7 HB6
        obtain ⟨A8, c8, hg8, hl8, hC8⟩ := HK8.out
        obtain ⟨q0, q1, q2, q3⟩ := cells70 hg8
        have HI8 := Lib.hid hC8
        clear hg8 hC8
        by_cases hN20 : 20 < N
        · have x9 : decide (20 < N) = true := decide_eq_true hN20
          have HBad := Lib.hid (g_great N (by omega) hN2)
          go_wp2_with fail
          refine (refused_calls _ G _ ⟨A8, c8, rfl, hl8, HI8.out⟩ (HD.out.below HB8.out).now).mono ?_
          rintro e w9 ⟨rfl, hb9⟩
          rw [← HG.out, HBad.out]
          go_wp2
          go_ret
          exact ⟨rfl, HB8.out.trans (hb9.mono HB8.out.size)⟩
        · have x9 : decide (20 < N) = false := decide_eq_false hN20
          have x10 : (N == N) = true := beq_self_eq_true N
          obtain ⟨j1, j2, j3, j4⟩ := g_small N hN1 (by omega)
          rw [HG.out] at j1 j2 j3 j4
          have J1 := Lib.hid j1
          have J2 := Lib.hid j2
          have J3 := Lib.hid j3
          have J4 := Lib.hid j4
          clear j1 j2 j3 j4
          go_wp2_with fail
          refine (printed_calls _ G _ ⟨A8, c8, rfl, hl8, HI8.out⟩ (HD.out.below HB8.out).now).mono ?_
          rintro e w9 ⟨rfl, hb9⟩
          have HK9 := Lib.hid (HK8.out.below hb9)
          have HB9 := Lib.hid (HB8.out.trans (hb9.mono HB8.out.size))
          clear hb9 HK8 HB8 HI8 q0 q1 q2 q3 hl8
          go_wp2_with fail
          refine (parse_isT (ptx G) J2.out _ (HD.out.below HB9.out).now _ _ J1.out).mono ?_
          rintro e w10 ⟨A10, c10, rfl, hl10, hC10, hb10⟩
          have hK11 := Blk.newT (w := w10) (t := G) hl10 hC10
          have hb11 := hb10.trans ((((Below.refl _ _).alloc (Nat.le_refl w10.heap.size) (.cells #[.int .i64 G.f0, .int .i64 G.f1, .int .i64 G.f2, .slice A10 G.f3.length c10] 24))).mono hb10.size)
          have HL11 := Lib.hid hK11
          have HK11 := Lib.hid (HK9.out.below hb11)
          have HB11 := Lib.hid (HB9.out.trans (hb11.mono HB9.out.size))
          clear hK11 hb10 hb11 hC10 hl10 HK9 HB9
          obtain ⟨Aa, ca, hga, hla, hCa⟩ := HL11.out
          obtain ⟨Ab, cb, hgb, hlb, hCb⟩ := HK11.out
          obtain ⟨r0, r1, r2, r3⟩ := cells70 hga
          obtain ⟨y0, y1, y2, y3⟩ := cells70 hgb
          have HCa := Lib.hid hCa
          have HCb := Lib.hid hCb
          clear hga hgb hCa hCb
          go_wp2_with fail
          refine (same_calls 100 _ _ G G true _ ⟨Aa, ca, rfl, hla, HCa.out⟩ ⟨Ab, cb, rfl, hlb, HCb.out⟩ J3.out).mono ?_
          rintro e w12 ⟨rfl, hb12⟩
          have HL12 := Lib.hid (HL11.out.below hb12)
          have HB12 := Lib.hid (HB11.out.trans (hb12.mono HB11.out.size))
          clear hb12 HL11 HK11 HB11 HCa HCb r0 r1 r2 r3 y0 y1 y2 y3 hla hlb
          obtain ⟨Ad, cd, hgd, hld, hCd⟩ := HL12.out
          obtain ⟨r0, r1, r2, r3⟩ := cells70 hgd
          have HCd := Lib.hid hCd
          clear hgd hCd
          go_wp2_with fail
          refine (plexusref16_Nodes.calls 100 _ _ _ Ad cd _ _ _ HCd.out hld J4.out).mono ?_
          rintro e w13 ⟨rfl, hb13⟩
          go_wp2
          go_ret
          exact ⟨rfl, HB12.out.trans (hb13.mono HB12.out.size)⟩
end Go.Proofs.YtjcdpmoabkfchaaDoor
