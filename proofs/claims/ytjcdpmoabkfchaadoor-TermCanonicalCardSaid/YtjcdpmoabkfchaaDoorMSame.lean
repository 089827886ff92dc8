/- The reference's Same: a right term is the same as itself. No program's run. -/
import Derived.Test.YtjcdpmoabkfchaaDoorMLex
import Derived.Test.YtjcdpmoabkfchaaDoorPTermMatchesReferencex3
set_option linter.unusedSimpArgs false
set_option linter.unusedVariables false
namespace Go.Proofs.YtjcdpmoabkfchaaDoor
open Go.RowKit Go.Lib Go.Proofs.YtjcdpmoabkfchaaDoorW.PrintWords Go.Proofs.YtjcdpmoabkfchaaDoor.PTermMatchesReference

theorem rd_mem {l : List S24} {i : Nat} (h : i < l.length) : rd_T24 l (i : Int) ∈ l := by
  unfold rd_T24
  rw [Int.toNat_natCast, List.getD_eq_getElem?_getD, List.getElem?_eq_getElem h]
  exact List.getElem_mem h

theorem same_loop (l : List S24) (n : Nat) (hlen : l.length ≤ 1000) (hk : ∀ t ∈ l, ∀ k, 6 * n ≤ k → plexusref16_Same.f k t.f0 t.f1 t.f2 t.f3 t.f0 t.f1 t.f2 t.f3 = some true) (a b c a' b' c' : Int) :
    ∀ (d i k : Nat), i + d = l.length → 6 * n + d + 1 ≤ k → plexusref16_Same.l0 k (i : Int) a b c l a' b' c' l = some true := by
  intro d
  induction d with
  | zero =>
    intro i k hi hkk
    obtain ⟨k, rfl⟩ : ∃ m, k = m + 1 := ⟨k - 1, by omega⟩
    simp only [plexusref16_Same.l0]
    rw [if_neg (by omega)]
  | succ d ih =>
    intro i k hi hkk
    obtain ⟨k, rfl⟩ : ∃ m, k = m + 1 := ⟨k - 1, by omega⟩
    simp only [plexusref16_Same.l0]
    rw [if_pos (by omega), if_pos (by omega), hk _ (rd_mem (by omega)) k (by omega)]
    simp only [Option.bind_some, if_true]
    have : wrap64 ((i : Int) + 1) = ((i + 1 : Nat) : Int) := by unfold wrap64; omega
    rw [this, if_pos (by omega)]
    exact ih (i + 1) k (by omega) (by omega)
theorem same_self : ∀ (n : Nat) (t : S24), sz n t ≠ 0 → ∀ k, 6 * n ≤ k → plexusref16_Same.f k t.f0 t.f1 t.f2 t.f3 t.f0 t.f1 t.f2 t.f3 = some true
  | 0, t, h, _, _ => absurd rfl h
  | n + 1, t, h, k, hk => by
    obtain ⟨s, hs, hl, hn, hkids⟩ := sz_inv h
    have hD : shpD t.f0 = s := by simp [shpD, hs]
    have h2 := kids_le hD
    obtain ⟨k, rfl⟩ : ∃ m, k = m + 2 := ⟨k - 2, by omega⟩
    simp only [plexusref16_Same.f]
    rw [if_pos trivial, if_pos trivial, if_pos trivial]
    simp only [plexusref16_Same.j0]
    rw [if_neg (by simp)]
    exact same_loop t.f3 n (by omega) (fun u hu => same_self n u (hkids u hu)) _ _ _ _ _ _ t.f3.length 0 k (by omega) (by omega)
end Go.Proofs.YtjcdpmoabkfchaaDoor
