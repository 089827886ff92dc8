/-
  DERIVED. GIVEN WITH THE SEED: THE CARDS: each row of YtjcdpmoabkfchaaDoorRows.lean that lists a variable, with what it lists TIED to the program's text (the seventh form; the later family's looks); each row that meets fmt, with fmt's text TOLD by the authors' own Lean function (tested against real Go, not proved from fmt's source: count such statements apart). THE CARD IS WHAT COUNTS. Prove the row's statement (the work); the ties are given (YtjcdpmoabkfchaaDoorTie.lean); close each card by the builder's one call (the guide's Derived/Test/ToyasCard.lean, 'card_holds'). Laid BY PROGRAM, IN A SANDBOX (cutbox-door.mjs). By AI agents, Wed Nov 11 2026. No macro, syntax, notation, axiom, sorry.
-/
import Derived.Test.YtjcdpmoabkfchaaDoorRows
import GoSem.ClaimSeven
namespace Go.Proofs.YtjcdpmoabkfchaaDoor
namespace Rows

/-- THE TIED CARD OF 'plexuslaw16.TermMatchesReference'. -/
def termMatchesReferenceCard : Claim7 := { stood := { row := termMatchesReferenceRow, standIns := [], harness := (true, "8497b591368f4a7732ee6e7e1be8b81d1a15cff2949fd9cf8b6892a3918d204c"), looks := true }, kinds := [], alts := [], laidByText := true, laidKinds := [.data, .data, .data, .data, .sentinel, .sentinel, .pinned], laidTests := true, laidLooks := .later }
def TermMatchesReferenceCardSaid : Prop := Claim7.holds Tryd.pinned (.plain (OpenSpec.ofChange termMatchesReferenceSpec)) termMatchesReferenceCard

/-- THE TIED CARD OF 'plexuslaw16.TermTexts'. -/
def termTextsCard : Claim7 := { stood := { row := termTextsRow, standIns := [], harness := (true, "8497b591368f4a7732ee6e7e1be8b81d1a15cff2949fd9cf8b6892a3918d204c"), looks := true }, kinds := [], alts := [], laidByText := true, laidKinds := [.data, .data, .data, .data, .sentinel, .sentinel, .pinned], laidTests := true, laidLooks := .later }
def TermTextsCardSaid : Prop := Claim7.holds Tryd.pinned (.plain (OpenSpec.ofChange termTextsSpec)) termTextsCard

/-- THE TIED CARD OF 'plexuslaw16.TermCanonical'. -/
def termCanonicalCard : Claim7 := { stood := { row := termCanonicalRow, standIns := [], harness := (true, "8497b591368f4a7732ee6e7e1be8b81d1a15cff2949fd9cf8b6892a3918d204c"), looks := true }, kinds := [], alts := [], laidByText := true, laidKinds := [.data, .data, .data, .data, .sentinel, .sentinel, .pinned], laidTests := true, laidLooks := .later }
def TermCanonicalCardSaid : Prop := Claim7.holds Tryd.pinned (.plain (OpenSpec.ofChange termCanonicalSpec)) termCanonicalCard

/-- THE TIED CARD OF 'plexuslaw16.TermBlanks'. -/
def termBlanksCard : Claim7 := { stood := { row := termBlanksRow, standIns := [], harness := (true, "8497b591368f4a7732ee6e7e1be8b81d1a15cff2949fd9cf8b6892a3918d204c"), looks := true }, kinds := [], alts := [], laidByText := true, laidKinds := [.data, .data, .data, .data, .sentinel, .sentinel, .pinned], laidTests := true, laidLooks := .later }
def TermBlanksCardSaid : Prop := Claim7.holds Tryd.pinned (.plain (OpenSpec.ofChange termBlanksSpec)) termBlanksCard

/-- THE TIED CARD OF 'plexuslaw16.TermSorts'. -/
def termSortsCard : Claim7 := { stood := { row := termSortsRow, standIns := [], harness := (true, "8497b591368f4a7732ee6e7e1be8b81d1a15cff2949fd9cf8b6892a3918d204c"), looks := true }, kinds := [], alts := [], laidByText := true, laidKinds := [.data, .data, .data, .data, .sentinel, .sentinel, .pinned], laidTests := true, laidLooks := .later }
def TermSortsCardSaid : Prop := Claim7.holds Tryd.pinned (.plain (OpenSpec.ofChange termSortsSpec)) termSortsCard

/-- THE TIED CARD OF 'plexuslaw16.TermSize'. -/
def termSizeCard : Claim7 := { stood := { row := termSizeRow, standIns := [], harness := (true, "8497b591368f4a7732ee6e7e1be8b81d1a15cff2949fd9cf8b6892a3918d204c"), looks := true }, kinds := [], alts := [], laidByText := true, laidKinds := [.data, .data, .data, .data, .sentinel, .sentinel, .pinned], laidTests := true, laidLooks := .later }
def TermSizeCardSaid : Prop := Claim7.holds Tryd.pinned (.plain (OpenSpec.ofChange termSizeSpec)) termSizeCard

/-- THE SECOND FORM's CARD OF 'plexuslaw16.TermMatchesReference'. -/
def termMatchesReferenceUptoCard : Claim7 := { stood := { row := termMatchesReferenceUptoRow, standIns := [], harness := (true, "8497b591368f4a7732ee6e7e1be8b81d1a15cff2949fd9cf8b6892a3918d204c"), looks := true }, kinds := [], alts := [], laidByText := true, laidKinds := [.data, .data, .data, .data, .sentinel, .sentinel, .pinned], laidTests := true, laidLooks := .later }
def TermMatchesReferenceUptoCardSaid : Prop := Claim7.holds Tryd.pinned (.plain (OpenSpec.upto termMatchesReferenceSpec)) termMatchesReferenceUptoCard

/-- THE SECOND FORM's CARD OF 'plexuslaw16.TermTexts'. -/
def termTextsUptoCard : Claim7 := { stood := { row := termTextsUptoRow, standIns := [], harness := (true, "8497b591368f4a7732ee6e7e1be8b81d1a15cff2949fd9cf8b6892a3918d204c"), looks := true }, kinds := [], alts := [], laidByText := true, laidKinds := [.data, .data, .data, .data, .sentinel, .sentinel, .pinned], laidTests := true, laidLooks := .later }
def TermTextsUptoCardSaid : Prop := Claim7.holds Tryd.pinned (.plain (OpenSpec.upto termTextsSpec)) termTextsUptoCard

/-- THE SECOND FORM's CARD OF 'plexuslaw16.TermCanonical'. -/
def termCanonicalUptoCard : Claim7 := { stood := { row := termCanonicalUptoRow, standIns := [], harness := (true, "8497b591368f4a7732ee6e7e1be8b81d1a15cff2949fd9cf8b6892a3918d204c"), looks := true }, kinds := [], alts := [], laidByText := true, laidKinds := [.data, .data, .data, .data, .sentinel, .sentinel, .pinned], laidTests := true, laidLooks := .later }
def TermCanonicalUptoCardSaid : Prop := Claim7.holds Tryd.pinned (.plain (OpenSpec.upto termCanonicalSpec)) termCanonicalUptoCard

/-- THE SECOND FORM's CARD OF 'plexuslaw16.TermBlanks'. -/
def termBlanksUptoCard : Claim7 := { stood := { row := termBlanksUptoRow, standIns := [], harness := (true, "8497b591368f4a7732ee6e7e1be8b81d1a15cff2949fd9cf8b6892a3918d204c"), looks := true }, kinds := [], alts := [], laidByText := true, laidKinds := [.data, .data, .data, .data, .sentinel, .sentinel, .pinned], laidTests := true, laidLooks := .later }
def TermBlanksUptoCardSaid : Prop := Claim7.holds Tryd.pinned (.plain (OpenSpec.upto termBlanksSpec)) termBlanksUptoCard

/-- THE SECOND FORM's CARD OF 'plexuslaw16.TermSorts'. -/
def termSortsUptoCard : Claim7 := { stood := { row := termSortsUptoRow, standIns := [], harness := (true, "8497b591368f4a7732ee6e7e1be8b81d1a15cff2949fd9cf8b6892a3918d204c"), looks := true }, kinds := [], alts := [], laidByText := true, laidKinds := [.data, .data, .data, .data, .sentinel, .sentinel, .pinned], laidTests := true, laidLooks := .later }
def TermSortsUptoCardSaid : Prop := Claim7.holds Tryd.pinned (.plain (OpenSpec.upto termSortsSpec)) termSortsUptoCard

/-- THE SECOND FORM's CARD OF 'plexuslaw16.TermSize'. -/
def termSizeUptoCard : Claim7 := { stood := { row := termSizeUptoRow, standIns := [], harness := (true, "8497b591368f4a7732ee6e7e1be8b81d1a15cff2949fd9cf8b6892a3918d204c"), looks := true }, kinds := [], alts := [], laidByText := true, laidKinds := [.data, .data, .data, .data, .sentinel, .sentinel, .pinned], laidTests := true, laidLooks := .later }
def TermSizeUptoCardSaid : Prop := Claim7.holds Tryd.pinned (.plain (OpenSpec.upto termSizeSpec)) termSizeUptoCard
end Rows
end Go.Proofs.YtjcdpmoabkfchaaDoor
