/- The reference's Equal: a list of strings is equal to itself. No program's run. -/
import Derived.Test.YtjcdpmoabkfchaaDoorPTermCanonicalx4
set_option linter.unusedSimpArgs false
set_option linter.unusedVariables false
namespace Go.Proofs.YtjcdpmoabkfchaaDoor
open Go.RowKit Go.Proofs.YtjcdpmoabkfchaaDoorW.PrintWords

theorem equal_loop (l : List ByteArray) (hlen : l.length ≤ 1000000000) : ∀ (d i k : Nat), i + d = l.length → d + 1 ≤ k → PTermCanonical.plexusref16_Equal.l0 k l l (i : Int) = some true := by
  intro d
  induction d with
  | zero =>
    intro i k hi hkk
    obtain ⟨k, rfl⟩ : ∃ m, k = m + 1 := ⟨k - 1, by omega⟩
    simp only [PTermCanonical.plexusref16_Equal.l0]
    rw [if_neg (by omega)]
  | succ d ih =>
    intro i k hi hkk
    obtain ⟨k, rfl⟩ : ∃ m, k = m + 1 := ⟨k - 1, by omega⟩
    simp only [PTermCanonical.plexusref16_Equal.l0]
    rw [if_pos (by omega), if_pos (by omega), if_pos trivial]
    have : wrap64 ((i : Int) + 1) = ((i + 1 : Nat) : Int) := by unfold wrap64; omega
    rw [this, if_pos (by omega)]
    exact ih (i + 1) k (by omega) (by omega)
theorem equal_self (l : List ByteArray) (hlen : l.length ≤ 1000000000) : ∃ k, PTermCanonical.plexusref16_Equal.f k l l = some true :=
  ⟨l.length + 1, by
    unfold PTermCanonical.plexusref16_Equal.f
    rw [if_pos rfl]
    exact equal_loop l hlen l.length 0 _ (by omega) (by omega)⟩
end Go.Proofs.YtjcdpmoabkfchaaDoor
