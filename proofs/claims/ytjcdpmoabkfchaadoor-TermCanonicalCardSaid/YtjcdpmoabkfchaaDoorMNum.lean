/- The parser's number: the number in the range whose decimal digits the next token is; it gives up at any other token. -/
import Derived.Test.YtjcdpmoabkfchaaDoorMNext
namespace Go.Proofs.YtjcdpmoabkfchaaDoor
open Go.RowKit Go.Lib

/-- The number in the range that has these digits. -/
def num? (t : List UInt8) : Option Int := match Lib.atoiAll t with
  | .ok v => if 0 ≤ v ∧ v ≤ 65535 ∧ Lib.itoa v = t then some v else none
  | _ => none

theorem grow_below (w : World) (k : Nat) (os : Array Obj) : Below w.heap.size w (Go.Sort.grow (w.drewN k) os) :=
  ⟨rfl, rfl, rfl, by simp [Go.Sort.grow, World.drewN], fun i hi => by
    show (w.heap ++ os)[i]? = w.heap[i]?
    rw [Array.getElem?_append_left hi]⟩

theorem itoa_calls {B : Nat} (n : Int) (h0 : 0 ≤ n) (h1 : n ≤ 65535) (w : World) (hd : Gd B w) :
    Calls Tryd.prog 52 #[.int .i64 n] w fun e w' => e = .returned (Sv (Lib.itoa n)) ∧ Below w.heap.size w w' := by
  refine (Tryd.strconv_Itoa n (by omega) (by omega) w hd.tab).mono ?_
  rintro e w' ⟨rfl, k, os, rfl⟩
  exact ⟨rfl, grow_below _ _ _⟩

theorem bytesWorld_below (w : World) (t : ByteArray) : Below w.heap.size w (Lib.bytesWorld w 5 t) :=
  ⟨rfl, rfl, rfl, by rw [Lib.bytesWorld_size]; omega, fun i hi => Lib.bytesWorld_at_old w 5 t i hi⟩

theorem atoi_ok (t : List UInt8) (ht : t.length ≤ 1000000) (v : Int) (h : Lib.atoiAll t = .ok v) (w : World) :
    Calls Tryd.prog 57 #[Sv t] w fun e w' => e = .returned (.tuple #[.int .i64 v, .nilIface]) ∧ Below w.heap.size w w' := by
  refine (Tryd.strconv_Atoi_ok _ (by show t.toArray.size ≤ _; simp; omega) v h w).mono ?_
  rintro e w' ⟨rfl, rfl | ⟨s, rfl⟩⟩
  · exact ⟨rfl, Below.refl _ _⟩
  · exact ⟨rfl, bytesWorld_below _ _⟩

theorem atoi_bad {B : Nat} (t : List UInt8) (ht : t.length ≤ 1000000) (h : ∀ v, Lib.atoiAll t ≠ .ok v) (w : World) (hd : Gd B w) :
    Calls Tryd.prog 57 #[Sv t] w fun e w' => (∃ x p, e = .returned (.tuple #[.int .i64 x, .iface 122 p])) ∧ Below w.heap.size w w' := by
  by_cases ha : Lib.atoiAll t = .range
  · obtain ⟨tp, p, hv⟩ := hd.rng
    refine (Tryd.strconv_Atoi_range_var _ (by show t.toArray.size ≤ _; simp; omega) ha tp p w hv).mono ?_
    rintro e w' ⟨N, rfl, _, _, hb⟩
    exact ⟨⟨_, _, rfl⟩, hb⟩
  · obtain ⟨tp, p, hv⟩ := hd.syn
    refine (Tryd.strconv_Atoi_syntax_var _ (by show t.toArray.size ≤ _; simp; omega) h ha tp p w hv).mono ?_
    rintro e w' ⟨N, rfl, _, _, hb⟩
    exact ⟨⟨_, _, rfl⟩, hb⟩

set_option maxHeartbeats 1000000 in
theorem number_ok {B : Nat} (g : Nat) (hB : B ≤ g) (l : List UInt8) (hl : l.length ≤ 1000000) (w : World) (hd : Gd B w) (hg : w.heap[g]? = some (.cells #[Sv l] 59 (0, 0))) (v : Int) (hv : num? (tok l) = some v) :
    Calls Tryd.prog 43 #[.pointer (some ⟨g, 0, none⟩)] w fun e w' => e = .returned (.int .i64 v) ∧ w'.heap[g]? = some (.cells #[Sv (rest l)] 59 (0, 0)) ∧ Fr g w w' := by
  have HG := Lib.hid hg
  have HD := Lib.hid hd
  have htl := tok_length l
  unfold num? at hv
  cases ha : Lib.atoiAll (tok l) with
  | ok u =>
    rw [ha] at hv
    simp only at hv
    split at hv
    case isFalse => cases hv
    rename_i hu
    obtain ⟨h0, h1, h2⟩ := hu
    obtain rfl := Option.some.inj hv
    have HA := Lib.hid ha
    have H2 := Lib.hid h2
    clear ha hv h2 hg hd
    go_enter Tryd.func43, Tryd.ntmps43
    go_wp2_with (go_at_call 28; refine (next_calls g l hl _ HG.out).mono ?_; rintro e w1 ⟨rfl, h1, h2⟩; have K1 := Lib.hid h1; have K2 := Lib.hid h2; clear h1 h2)
    refine (atoi_ok _ (by omega) u HA.out _).mono ?_
    rintro e w2 ⟨rfl, hb2⟩
    have K3 := Lib.hid (K2.out.below hb2)
    have K4 := Lib.hid (below_blk hb2 K1.out)
    clear K1 K2 hb2
    unfold Sv
    go_wp2_with fail
    refine (itoa_calls u h0 h1 _ (HD.out.fr K3.out hB)).mono ?_
    rintro e w3 ⟨rfl, hb3⟩
    rw [H2.out]
    have K5 := Lib.hid (K3.out.below hb3)
    have K6 := Lib.hid (below_blk hb3 K4.out)
    clear K3 K4 hb3
    unfold Sv
    go_wp2
    go_ret
    exact ⟨rfl, K6.out, K5.out⟩
  | _ => rw [ha] at hv; cases hv

set_option maxHeartbeats 1000000 in
theorem number_no {B : Nat} (g : Nat) (hB : B ≤ g) (l : List UInt8) (hl : l.length ≤ 1000000) (w : World) (hd : Gd B w) (hg : w.heap[g]? = some (.cells #[Sv l] 59 (0, 0))) (hv : num? (tok l) = none) :
    Calls Tryd.prog 43 #[.pointer (some ⟨g, 0, none⟩)] w fun e w' => e = gaveUp ∧ Fr g w w' := by
  have HG := Lib.hid hg
  have HD := Lib.hid hd
  have htl := tok_length l
  unfold num? at hv
  by_cases ho : ∃ v, Lib.atoiAll (tok l) = .ok v
  · obtain ⟨u, ha⟩ := ho
    rw [ha] at hv
    simp only at hv
    have hn : ¬ (0 ≤ u ∧ u ≤ 65535 ∧ Lib.itoa u = tok l) := fun h => by rw [if_pos h] at hv; cases hv
    have HA := Lib.hid ha
    clear ha hv hg hd
    by_cases h0 : 0 ≤ u
    · by_cases h1 : u ≤ 65535
      · have h2 : (!(Lib.itoa u) == tok l) = true := by
          have : ¬ Lib.itoa u = tok l := fun h => hn ⟨h0, h1, h⟩
          simp [this]
        clear hn
        go_enter Tryd.func43, Tryd.ntmps43
        go_wp2_with (go_at_call 28; refine (next_calls g l hl _ HG.out).mono ?_; rintro e w1 ⟨rfl, h1, h2⟩; have K1 := Lib.hid h1; have K2 := Lib.hid h2; clear h1 h2)
        refine (atoi_ok _ (by omega) u HA.out _).mono ?_
        rintro e w2 ⟨rfl, hb2⟩
        have K3 := Lib.hid (K2.out.below hb2)
        clear K1 K2 hb2
        unfold Sv
        go_wp2_with fail
        refine (itoa_calls u h0 h1 _ (HD.out.fr K3.out hB)).mono ?_
        rintro e w3 ⟨rfl, hb3⟩
        have K5 := Lib.hid (K3.out.below hb3)
        clear K3 hb3
        unfold Sv
        go_wp2
        exact ⟨rfl, rfl, K5.out⟩
      · clear hn
        go_enter Tryd.func43, Tryd.ntmps43
        go_wp2_with (go_at_call 28; refine (next_calls g l hl _ HG.out).mono ?_; rintro e w1 ⟨rfl, h1, h2⟩; have K1 := Lib.hid h1; have K2 := Lib.hid h2; clear h1 h2)
        refine (atoi_ok _ (by omega) u HA.out _).mono ?_
        rintro e w2 ⟨rfl, hb2⟩
        have K3 := Lib.hid (K2.out.below hb2)
        clear K1 K2 hb2
        unfold Sv
        go_wp2
        exact ⟨rfl, rfl, K3.out⟩
    · clear hn
      go_enter Tryd.func43, Tryd.ntmps43
      go_wp2_with (go_at_call 28; refine (next_calls g l hl _ HG.out).mono ?_; rintro e w1 ⟨rfl, h1, h2⟩; have K1 := Lib.hid h1; have K2 := Lib.hid h2; clear h1 h2)
      refine (atoi_ok _ (by omega) u HA.out _).mono ?_
      rintro e w2 ⟨rfl, hb2⟩
      have K3 := Lib.hid (K2.out.below hb2)
      clear K1 K2 hb2
      unfold Sv
      go_wp2
      exact ⟨rfl, rfl, K3.out⟩
  · have HA := Lib.hid (fun v h => ho ⟨v, h⟩ : ∀ v, Lib.atoiAll (tok l) ≠ .ok v)
    clear ho hv hg hd
    go_enter Tryd.func43, Tryd.ntmps43
    go_wp2_with (go_at_call 28; refine (next_calls g l hl _ HG.out).mono ?_; rintro e w1 ⟨rfl, h1, h2⟩; have K1 := Lib.hid h1; have K2 := Lib.hid h2; clear h1 h2)
    refine (atoi_bad _ (by omega) HA.out _ (HD.out.fr K2.out hB)).mono ?_
    rintro e w2 ⟨⟨x, p, rfl⟩, hb2⟩
    have K3 := Lib.hid (K2.out.below hb2)
    clear K1 K2 hb2
    unfold Sv
    go_wp2
    exact ⟨rfl, rfl, K3.out⟩
end Go.Proofs.YtjcdpmoabkfchaaDoor
