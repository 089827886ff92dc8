/- The reference's Tokens answers the tokens of a text. No program's run. -/
import Derived.Test.YtjcdpmoabkfchaaDoorMLex
import Derived.Test.YtjcdpmoabkfchaaDoorPTermMatchesReferencex4
set_option linter.unusedSimpArgs false
set_option linter.unusedVariables false
namespace Go.Proofs.YtjcdpmoabkfchaaDoor
open Go.RowKit Go.Lib Go.Proofs.YtjcdpmoabkfchaaDoorW.PrintWords Go.Proofs.YtjcdpmoabkfchaaDoor.PTermMatchesReference

/-- Bytes as a string. -/
def mkS (t : List UInt8) : ByteArray := ⟨t.toArray⟩
theorem mkS_size (t : List UInt8) : (mkS t).size = t.length := by simp [mkS, ByteArray.size]
theorem mkS_extract (l : List UInt8) (a b : Nat) : (mkS l).extract a b = mkS ((l.take b).drop a) := by
  apply ByteArray.ext
  apply Array.toList_inj.1
  simp [mkS, ByteArray.data_extract, List.drop_take]
theorem bt_mkS (l : List UInt8) (i : Nat) (h : i < l.length) : bt (mkS l) (i : Int) = ((l[i]).toNat : Int) := by
  unfold bt
  rw [dif_pos (by rw [mkS_size]; simpa using h)]
  rfl

theorem drop_cut (l : List UInt8) (a i : Nat) (h : a ≤ i) (hi : i ≤ l.length) : l.drop a = (l.take i).drop a ++ l.drop i := by
  conv => lhs; rw [← List.take_append_drop i l]
  rw [List.drop_append_of_le_length (by rw [List.length_take]; omega)]
theorem wrap_ok (x : Nat) (h : x ≤ 1000000000) : wrap64 ((x : Int) + 1) = ((x + 1 : Nat) : Int) := by unfold wrap64; omega

theorem tokens_end (l : List UInt8) (acc : List ByteArray) (k : Nat) (hk : 1 ≤ k) : plexusref16_Tokens.l0 k (mkS l) acc ((l.length + 1 : Nat) : Int) ((l.length + 1 : Nat) : Int) = some acc := by
  obtain ⟨k, rfl⟩ : ∃ m, k = m + 1 := ⟨k - 1, by omega⟩
  simp only [plexusref16_Tokens.l0]
  rw [if_neg (by rw [mkS_size]; omega)]

theorem sep_cases {c : UInt8} (h : sep c = true) : c = 32 ∨ c = 40 ∨ c = 41 := by
  simp only [sep, Bool.or_eq_true, beq_iff_eq] at h
  rcases h with (h | h) | h <;> simp [h]

theorem tokens_loop (l : List UInt8) (hn : l.length ≤ 1000000) : ∀ (d i a : Nat) (acc : List ByteArray) (k : Nat), i + d = l.length → a ≤ i → (∀ c ∈ (l.take i).drop a, nsep c = true) → 2 * d + 4 ≤ k → acc.length ≤ 2 * i →
    plexusref16_Tokens.l0 k (mkS l) acc (a : Int) (i : Int) = some (acc ++ (toks (l.drop a)).map mkS) := by
  intro d
  induction d with
  | zero =>
    intro i a acc k hi ha hw hk hacc
    obtain rfl : i = l.length := by omega
    obtain ⟨k, rfl⟩ : ∃ m, k = m + 2 := ⟨k - 2, by omega⟩
    simp only [plexusref16_Tokens.l0]
    rw [if_pos (by rw [mkS_size]; omega), if_neg (by rw [mkS_size]; omega)]
    simp only [plexusref16_Tokens.j1]
    rw [if_neg (by simp)]
    rw [List.take_length] at hw
    by_cases hal : a < l.length
    · rw [if_pos (by omega), if_pos (by omega), if_pos (by omega), if_pos (by rw [mkS_size]; omega), if_pos (by omega)]
      simp only [Option.bind_some]
      rw [if_neg (by rw [mkS_size]; omega), wrap_ok _ (by omega), tokens_end _ _ _ (by omega)]
      have h1 := toks_word (l.drop a) [] (by intro he; have := congrArg List.length he; rw [List.length_drop] at this; simp at this; omega) hw (.inl rfl)
      rw [List.append_nil] at h1
      rw [h1, toks_nil (by rfl)]
      simp only [Int.toNat_natCast, mkS_extract, List.take_length, List.map_cons, List.map_nil]
    · obtain rfl : a = l.length := by omega
      rw [if_neg (by omega), if_neg (by rw [mkS_size]; omega), wrap_ok _ (by omega), tokens_end _ _ _ (by omega)]
      rw [List.drop_length, toks_nil (by rfl)]
      simp
  | succ d ih =>
    intro i a acc k hi ha hw hk hacc
    have hil : i < l.length := by omega
    obtain ⟨k, rfl⟩ : ∃ m, k = m + 2 := ⟨k - 2, by omega⟩
    have hbt := bt_mkS l i hil
    simp only [plexusref16_Tokens.l0]
    rw [if_pos (by rw [mkS_size]; omega), if_pos (by rw [mkS_size]; omega), if_pos (by omega), hbt]
    obtain ⟨c, hc⟩ : ∃ c, l[i] = c := ⟨_, rfl⟩
    rw [hc]
    have hdi : l.drop i = c :: l.drop (i + 1) := by rw [← hc]; exact List.drop_eq_getElem_cons hil
    have htk : l.take (i + 1) = l.take i ++ [c] := by rw [← hc, List.take_succ_eq_append_getElem hil]
    cases hs : nsep c with
    | true =>
      have hne : c.toNat ≠ 32 ∧ c.toNat ≠ 40 ∧ c.toNat ≠ 41 := by
        simp only [nsep, sep, Bool.not_eq_true', Bool.or_eq_false_iff, beq_eq_false_iff_ne] at hs
        refine ⟨?_, ?_, ?_⟩ <;> intro he
        · exact hs.1.1 (UInt8.toNat_inj.1 he)
        · exact hs.1.2 (UInt8.toNat_inj.1 he)
        · exact hs.2 (UInt8.toNat_inj.1 he)
      rw [if_neg (by omega), if_neg (by omega)]
      have hb : (((c.toNat : Int)) != 41) = true := by rw [bne_iff_ne]; omega
      rw [hb]
      simp only [plexusref16_Tokens.j1]
      rw [if_pos trivial, wrap_ok _ (by omega)]
      refine ih (i + 1) a acc k (by omega) (by omega) ?_ (by omega) (by omega)
      intro x hx
      rw [htk, List.drop_append_of_le_length (by rw [List.length_take]; omega)] at hx
      rcases List.mem_append.1 hx with hx | hx
      · exact hw x hx
      · rw [List.mem_singleton.1 hx]; exact hs
    | false =>
      have hsep : sep c = true := by simpa [nsep] using hs
      have hj : ∀ b, (b = false) → (if (c.toNat : Int) = 32 then plexusref16_Tokens.j1 (k + 1) (mkS l) acc a i false else if (c.toNat : Int) = 40 then plexusref16_Tokens.j1 (k + 1) (mkS l) acc a i false else plexusref16_Tokens.j1 (k + 1) (mkS l) acc a i ((c.toNat : Int) != 41)) = plexusref16_Tokens.j1 (k + 1) (mkS l) acc a i b := by
        rintro b rfl
        rcases sep_cases hsep with rfl | rfl | rfl <;> rfl
      rw [hj false rfl]
      simp only [plexusref16_Tokens.j1]
      rw [if_neg (by simp)]
      have hcut := drop_cut l a i ha (by omega)
      rw [hdi] at hcut
      have hnext : ∀ acc', acc'.length ≤ 2 * (i + 1) → plexusref16_Tokens.l0 k (mkS l) acc' ((i + 1 : Nat) : Int) ((i + 1 : Nat) : Int) = some (acc' ++ (toks (l.drop (i + 1))).map mkS) := fun acc' hacc' =>
        ih (i + 1) (i + 1) acc' k (by omega) (by omega) (by intro x hx; rw [List.drop_eq_nil_of_le (by rw [List.length_take]; omega)] at hx; cases hx) (by omega) hacc'
      have hpiece2 : (l.take (i + 1)).drop i = [c] := by
        rw [htk, List.drop_append_of_le_length (by rw [List.length_take]; omega), List.drop_eq_nil_of_le (by rw [List.length_take]; omega)]
        rfl
      have hpiece : (mkS l).extract i (i + 1) = mkS [c] := by
        rw [mkS_extract, htk, List.drop_append_of_le_length (by rw [List.length_take]; omega), List.drop_eq_nil_of_le (by rw [List.length_take]; omega)]
        rfl
      by_cases hai : a < i
      · have hwn : (l.take i).drop a ≠ [] := by intro he; have := congrArg List.length he; rw [List.length_drop, List.length_take] at this; simp at this; omega
        have ht := toks_word ((l.take i).drop a) (c :: l.drop (i + 1)) hwn hw (.inr ⟨c, _, rfl, hsep⟩)
        rw [← hcut] at ht
        rw [if_pos (by omega), if_pos (by omega), if_pos (by omega), if_pos (by rw [mkS_size]; omega), if_pos (by omega)]
        simp only [Option.bind_some, Int.toNat_natCast, mkS_extract]
        rw [if_pos (by rw [mkS_size]; omega), if_pos (by omega), hbt, hc, ht]
        rcases sep_cases hsep with rfl | rfl | rfl
        · rw [if_pos (by rfl), wrap_ok _ (by omega), hnext _ (by simp; omega), toks_blank]
          simp
        · rw [if_neg (by decide), wrap_ok _ (by omega), if_pos (by omega), if_pos (by rw [mkS_size]; omega), if_pos (by simp; omega)]
          rw [hnext _ (by simp; omega), toks_paren _ _ (.inl rfl)]
          simp only [Int.toNat_natCast, hpiece2]
          simp
        · rw [if_neg (by decide), wrap_ok _ (by omega), if_pos (by omega), if_pos (by rw [mkS_size]; omega), if_pos (by simp; omega)]
          rw [hnext _ (by simp; omega), toks_paren _ _ (.inr rfl)]
          simp only [Int.toNat_natCast, hpiece2]
          simp
      · obtain rfl : a = i := by omega
        rw [if_neg (by omega), if_pos (by rw [mkS_size]; omega), if_pos (by omega), hbt, hc, hdi]
        rcases sep_cases hsep with rfl | rfl | rfl
        · rw [if_pos (by rfl), wrap_ok _ (by omega), hnext _ (by omega), toks_blank]
        · rw [if_neg (by decide), wrap_ok _ (by omega), if_pos (by omega), if_pos (by rw [mkS_size]; omega), if_pos (by omega)]
          rw [hnext _ (by simp; omega), toks_paren _ _ (.inl rfl)]
          simp only [Int.toNat_natCast, hpiece]
          simp
        · rw [if_neg (by decide), wrap_ok _ (by omega), if_pos (by omega), if_pos (by rw [mkS_size]; omega), if_pos (by omega)]
          rw [hnext _ (by simp; omega), toks_paren _ _ (.inr rfl)]
          simp only [Int.toNat_natCast, hpiece]
          simp
theorem tokens_toks (l : List UInt8) (hn : l.length ≤ 1000000) : ∃ k, plexusref16_Tokens.f k (mkS l) = some ((toks l).map mkS) :=
  ⟨2 * l.length + 4, by
    have := tokens_loop l hn l.length 0 0 [] (2 * l.length + 4) (by omega) (by omega) (by simp) (by omega) (by simp)
    simpa [plexusref16_Tokens.f] using this⟩
end Go.Proofs.YtjcdpmoabkfchaaDoor
