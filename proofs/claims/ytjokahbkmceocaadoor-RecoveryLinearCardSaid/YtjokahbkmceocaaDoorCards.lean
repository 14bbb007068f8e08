/-
  DERIVED. GIVEN WITH THE SEED: THE CARDS: each row of YtjokahbkmceocaaDoorRows.lean that lists a variable, with what it lists TIED to the program's text (the seventh form; the later family's looks); each row that meets fmt, with fmt's text TOLD by the authors' own Lean function (tested against real Go, not proved from fmt's source: count such statements apart). THE CARD IS WHAT COUNTS. Prove the row's statement (the work); the ties are given (YtjokahbkmceocaaDoorTie.lean); close each card by the builder's one call (the guide's Derived/Test/ToyasCard.lean, 'card_holds'). Laid BY PROGRAM, IN A SANDBOX (cutbox-door.mjs). By AI agents, Wed Nov 11 2026. No macro, syntax, notation, axiom, sorry.
-/
import Derived.Test.YtjokahbkmceocaaDoorRows
import GoSem.ClaimSeven
namespace Go.Proofs.YtjokahbkmceocaaDoor
namespace Rows

/-- THE TIED CARD OF 'privitylaw47.RecoveryCorrect'. -/
def recoveryCorrectCard : Claim7 := { stood := { row := recoveryCorrectRow, standIns := [], harness := (true, "01aabeabb0cdf2e789b42289960075dcb975352c9eea5b04e2bcceb8fe89e60c"), looks := false }, kinds := [], alts := [], laidByText := true, laidKinds := [.data], laidTests := true, laidLooks := .later }
def RecoveryCorrectCardSaid : Prop := Claim7.holds Tryd.pinned (.plain (OpenSpec.ofChange recoveryCorrectSpec)) recoveryCorrectCard

/-- THE TIED CARD OF 'privitylaw47.RecoveryMessages'. -/
def recoveryMessagesCard : Claim7 := { stood := { row := recoveryMessagesRow, standIns := [], harness := (true, "01aabeabb0cdf2e789b42289960075dcb975352c9eea5b04e2bcceb8fe89e60c"), looks := false }, kinds := [], alts := [], laidByText := true, laidKinds := [.data], laidTests := true, laidLooks := .later }
def RecoveryMessagesCardSaid : Prop := Claim7.holds Tryd.pinned (.plain (OpenSpec.ofChange recoveryMessagesSpec)) recoveryMessagesCard

/-- THE TIED CARD OF 'privitylaw47.RecoveryPrivacy'. -/
def recoveryPrivacyCard : Claim7 := { stood := { row := recoveryPrivacyRow, standIns := [], harness := (true, "01aabeabb0cdf2e789b42289960075dcb975352c9eea5b04e2bcceb8fe89e60c"), looks := false }, kinds := [], alts := [], laidByText := true, laidKinds := [.data], laidTests := true, laidLooks := .later }
def RecoveryPrivacyCardSaid : Prop := Claim7.holds Tryd.pinned (.plain (OpenSpec.ofChange recoveryPrivacySpec)) recoveryPrivacyCard

/-- THE TIED CARD OF 'privitylaw47.RecoveryIgnoresOwnRow'. -/
def recoveryIgnoresOwnRowCard : Claim7 := { stood := { row := recoveryIgnoresOwnRowRow, standIns := [], harness := (true, "01aabeabb0cdf2e789b42289960075dcb975352c9eea5b04e2bcceb8fe89e60c"), looks := false }, kinds := [], alts := [], laidByText := true, laidKinds := [.data], laidTests := true, laidLooks := .later }
def RecoveryIgnoresOwnRowCardSaid : Prop := Claim7.holds Tryd.pinned (.plain (OpenSpec.ofChange recoveryIgnoresOwnRowSpec)) recoveryIgnoresOwnRowCard

/-- THE TIED CARD OF 'privitylaw47.RecoveryLinear'. -/
def recoveryLinearCard : Claim7 := { stood := { row := recoveryLinearRow, standIns := [], harness := (true, "01aabeabb0cdf2e789b42289960075dcb975352c9eea5b04e2bcceb8fe89e60c"), looks := false }, kinds := [], alts := [], laidByText := true, laidKinds := [.data], laidTests := true, laidLooks := .later }
def RecoveryLinearCardSaid : Prop := Claim7.holds Tryd.pinned (.plain (OpenSpec.ofChange recoveryLinearSpec)) recoveryLinearCard

/-- THE TIED CARD OF 'privitylaw20.ReconstructRobust'. -/
def reconstructRobustCard : Claim7 := { stood := { row := reconstructRobustRow, standIns := [], harness := (true, "01aabeabb0cdf2e789b42289960075dcb975352c9eea5b04e2bcceb8fe89e60c"), looks := false }, kinds := [], alts := [], laidByText := true, laidKinds := [.data], laidTests := true, laidLooks := .later }
def ReconstructRobustCardSaid : Prop := Claim7.holds Tryd.pinned (.plain (OpenSpec.ofChange reconstructRobustSpec)) reconstructRobustCard

/-- THE TIED CARD OF 'privitylaw20.ReconstructLinear'. -/
def reconstructLinearCard : Claim7 := { stood := { row := reconstructLinearRow, standIns := [], harness := (true, "01aabeabb0cdf2e789b42289960075dcb975352c9eea5b04e2bcceb8fe89e60c"), looks := false }, kinds := [], alts := [], laidByText := true, laidKinds := [.data], laidTests := true, laidLooks := .later }
def ReconstructLinearCardSaid : Prop := Claim7.holds Tryd.pinned (.plain (OpenSpec.ofChange reconstructLinearSpec)) reconstructLinearCard

/-- THE TIED CARD OF 'privitylaw20.ReconstructRepeatable'. -/
def reconstructRepeatableCard : Claim7 := { stood := { row := reconstructRepeatableRow, standIns := [], harness := (true, "01aabeabb0cdf2e789b42289960075dcb975352c9eea5b04e2bcceb8fe89e60c"), looks := false }, kinds := [], alts := [], laidByText := true, laidKinds := [.data], laidTests := true, laidLooks := .later }
def ReconstructRepeatableCardSaid : Prop := Claim7.holds Tryd.pinned (.plain (OpenSpec.ofChange reconstructRepeatableSpec)) reconstructRepeatableCard

/-- THE TIED CARD OF 'privitylaw20.ReconstructDetection'. -/
def reconstructDetectionCard : Claim7 := { stood := { row := reconstructDetectionRow, standIns := [], harness := (true, "01aabeabb0cdf2e789b42289960075dcb975352c9eea5b04e2bcceb8fe89e60c"), looks := false }, kinds := [], alts := [], laidByText := true, laidKinds := [.data], laidTests := true, laidLooks := .later }
def ReconstructDetectionCardSaid : Prop := Claim7.holds Tryd.pinned (.plain (OpenSpec.ofChange reconstructDetectionSpec)) reconstructDetectionCard

/-- THE TIED CARD OF 'privitylaw20.ReconstructRowsRobust'. -/
def reconstructRowsRobustCard : Claim7 := { stood := { row := reconstructRowsRobustRow, standIns := [], harness := (true, "01aabeabb0cdf2e789b42289960075dcb975352c9eea5b04e2bcceb8fe89e60c"), looks := false }, kinds := [], alts := [], laidByText := true, laidKinds := [.data], laidTests := true, laidLooks := .later }
def ReconstructRowsRobustCardSaid : Prop := Claim7.holds Tryd.pinned (.plain (OpenSpec.ofChange reconstructRowsRobustSpec)) reconstructRowsRobustCard

/-- THE SECOND FORM's CARD OF 'privitylaw47.RecoveryCorrect'. -/
def recoveryCorrectUptoCard : Claim7 := { stood := { row := recoveryCorrectUptoRow, standIns := [], harness := (true, "01aabeabb0cdf2e789b42289960075dcb975352c9eea5b04e2bcceb8fe89e60c"), looks := false }, kinds := [], alts := [], laidByText := true, laidKinds := [.data], laidTests := true, laidLooks := .later }
def RecoveryCorrectUptoCardSaid : Prop := Claim7.holds Tryd.pinned (.plain (OpenSpec.upto recoveryCorrectSpec)) recoveryCorrectUptoCard

/-- THE SECOND FORM's CARD OF 'privitylaw47.RecoveryMessages'. -/
def recoveryMessagesUptoCard : Claim7 := { stood := { row := recoveryMessagesUptoRow, standIns := [], harness := (true, "01aabeabb0cdf2e789b42289960075dcb975352c9eea5b04e2bcceb8fe89e60c"), looks := false }, kinds := [], alts := [], laidByText := true, laidKinds := [.data], laidTests := true, laidLooks := .later }
def RecoveryMessagesUptoCardSaid : Prop := Claim7.holds Tryd.pinned (.plain (OpenSpec.upto recoveryMessagesSpec)) recoveryMessagesUptoCard

/-- THE SECOND FORM's CARD OF 'privitylaw47.RecoveryPrivacy'. -/
def recoveryPrivacyUptoCard : Claim7 := { stood := { row := recoveryPrivacyUptoRow, standIns := [], harness := (true, "01aabeabb0cdf2e789b42289960075dcb975352c9eea5b04e2bcceb8fe89e60c"), looks := false }, kinds := [], alts := [], laidByText := true, laidKinds := [.data], laidTests := true, laidLooks := .later }
def RecoveryPrivacyUptoCardSaid : Prop := Claim7.holds Tryd.pinned (.plain (OpenSpec.upto recoveryPrivacySpec)) recoveryPrivacyUptoCard

/-- THE SECOND FORM's CARD OF 'privitylaw47.RecoveryIgnoresOwnRow'. -/
def recoveryIgnoresOwnRowUptoCard : Claim7 := { stood := { row := recoveryIgnoresOwnRowUptoRow, standIns := [], harness := (true, "01aabeabb0cdf2e789b42289960075dcb975352c9eea5b04e2bcceb8fe89e60c"), looks := false }, kinds := [], alts := [], laidByText := true, laidKinds := [.data], laidTests := true, laidLooks := .later }
def RecoveryIgnoresOwnRowUptoCardSaid : Prop := Claim7.holds Tryd.pinned (.plain (OpenSpec.upto recoveryIgnoresOwnRowSpec)) recoveryIgnoresOwnRowUptoCard

/-- THE SECOND FORM's CARD OF 'privitylaw47.RecoveryLinear'. -/
def recoveryLinearUptoCard : Claim7 := { stood := { row := recoveryLinearUptoRow, standIns := [], harness := (true, "01aabeabb0cdf2e789b42289960075dcb975352c9eea5b04e2bcceb8fe89e60c"), looks := false }, kinds := [], alts := [], laidByText := true, laidKinds := [.data], laidTests := true, laidLooks := .later }
def RecoveryLinearUptoCardSaid : Prop := Claim7.holds Tryd.pinned (.plain (OpenSpec.upto recoveryLinearSpec)) recoveryLinearUptoCard

/-- THE SECOND FORM's CARD OF 'privitylaw20.ReconstructRobust'. -/
def reconstructRobustUptoCard : Claim7 := { stood := { row := reconstructRobustUptoRow, standIns := [], harness := (true, "01aabeabb0cdf2e789b42289960075dcb975352c9eea5b04e2bcceb8fe89e60c"), looks := false }, kinds := [], alts := [], laidByText := true, laidKinds := [.data], laidTests := true, laidLooks := .later }
def ReconstructRobustUptoCardSaid : Prop := Claim7.holds Tryd.pinned (.plain (OpenSpec.upto reconstructRobustSpec)) reconstructRobustUptoCard

/-- THE SECOND FORM's CARD OF 'privitylaw20.ReconstructLinear'. -/
def reconstructLinearUptoCard : Claim7 := { stood := { row := reconstructLinearUptoRow, standIns := [], harness := (true, "01aabeabb0cdf2e789b42289960075dcb975352c9eea5b04e2bcceb8fe89e60c"), looks := false }, kinds := [], alts := [], laidByText := true, laidKinds := [.data], laidTests := true, laidLooks := .later }
def ReconstructLinearUptoCardSaid : Prop := Claim7.holds Tryd.pinned (.plain (OpenSpec.upto reconstructLinearSpec)) reconstructLinearUptoCard

/-- THE SECOND FORM's CARD OF 'privitylaw20.ReconstructRepeatable'. -/
def reconstructRepeatableUptoCard : Claim7 := { stood := { row := reconstructRepeatableUptoRow, standIns := [], harness := (true, "01aabeabb0cdf2e789b42289960075dcb975352c9eea5b04e2bcceb8fe89e60c"), looks := false }, kinds := [], alts := [], laidByText := true, laidKinds := [.data], laidTests := true, laidLooks := .later }
def ReconstructRepeatableUptoCardSaid : Prop := Claim7.holds Tryd.pinned (.plain (OpenSpec.upto reconstructRepeatableSpec)) reconstructRepeatableUptoCard

/-- THE SECOND FORM's CARD OF 'privitylaw20.ReconstructDetection'. -/
def reconstructDetectionUptoCard : Claim7 := { stood := { row := reconstructDetectionUptoRow, standIns := [], harness := (true, "01aabeabb0cdf2e789b42289960075dcb975352c9eea5b04e2bcceb8fe89e60c"), looks := false }, kinds := [], alts := [], laidByText := true, laidKinds := [.data], laidTests := true, laidLooks := .later }
def ReconstructDetectionUptoCardSaid : Prop := Claim7.holds Tryd.pinned (.plain (OpenSpec.upto reconstructDetectionSpec)) reconstructDetectionUptoCard

/-- THE SECOND FORM's CARD OF 'privitylaw20.ReconstructRowsRobust'. -/
def reconstructRowsRobustUptoCard : Claim7 := { stood := { row := reconstructRowsRobustUptoRow, standIns := [], harness := (true, "01aabeabb0cdf2e789b42289960075dcb975352c9eea5b04e2bcceb8fe89e60c"), looks := false }, kinds := [], alts := [], laidByText := true, laidKinds := [.data], laidTests := true, laidLooks := .later }
def ReconstructRowsRobustUptoCardSaid : Prop := Claim7.holds Tryd.pinned (.plain (OpenSpec.upto reconstructRowsRobustSpec)) reconstructRowsRobustUptoCard
end Rows
end Go.Proofs.YtjokahbkmceocaaDoor
