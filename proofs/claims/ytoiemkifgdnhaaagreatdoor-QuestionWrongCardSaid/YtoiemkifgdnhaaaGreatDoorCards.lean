/-
  DERIVED. GIVEN WITH THE SEED: THE CARDS: each row of YtoiemkifgdnhaaaGreatDoorRows.lean that lists a variable, with what it lists TIED to the program's text (the seventh form; the later family's looks); each row that meets fmt, with fmt's text TOLD by the authors' own Lean function (tested against real Go, not proved from fmt's source: count such statements apart). THE CARD IS WHAT COUNTS. Prove the row's statement (the work); the ties are given (YtoiemkifgdnhaaaGreatDoorTie.lean); close each card by the builder's one call (the guide's Derived/Test/ToyasCard.lean, 'card_holds'). Laid BY PROGRAM, IN A SANDBOX (cutbox-door.mjs). By AI agents, Wed Nov 11 2026. No macro, syntax, notation, axiom, sorry.
-/
import Derived.Test.YtoiemkifgdnhaaaGreatDoorRows
import GoSem.ClaimSeven
namespace Go.Proofs.YtoiemkifgdnhaaaGreatDoor
namespace Rows

/-- THE TIED CARD OF 'concordlaw25.QuestionMakes'. -/
def questionMakesCard : Claim7 := { stood := { row := questionMakesRow, standIns := [], harness := (true, "99680d1923bd443de5ce69d696f98a92105a70d94b497bd2190f085194b2210b"), looks := false }, kinds := [], alts := [], laidByText := true, laidKinds := [.data, .data, .data], laidTests := true, laidLooks := .later }
def QuestionMakesCardSaid : Prop := Claim7.holds Tryz.pinned (.plain (OpenSpec.ofChange questionMakesSpec)) questionMakesCard

/-- THE TIED CARD OF 'concordlaw25.QuestionGroups'. -/
def questionGroupsCard : Claim7 := { stood := { row := questionGroupsRow, standIns := [], harness := (true, "99680d1923bd443de5ce69d696f98a92105a70d94b497bd2190f085194b2210b"), looks := false }, kinds := [], alts := [], laidByText := true, laidKinds := [.data, .data, .data], laidTests := true, laidLooks := .later }
def QuestionGroupsCardSaid : Prop := Claim7.holds Tryz.pinned (.plain (OpenSpec.ofChange questionGroupsSpec)) questionGroupsCard

/-- THE TIED CARD OF 'concordlaw25.QuestionWrong'. -/
def questionWrongCard : Claim7 := { stood := { row := questionWrongRow, standIns := [], harness := (true, "99680d1923bd443de5ce69d696f98a92105a70d94b497bd2190f085194b2210b"), looks := false }, kinds := [], alts := [], laidByText := true, laidKinds := [.data, .data, .data], laidTests := true, laidLooks := .later }
def QuestionWrongCardSaid : Prop := Claim7.holds Tryz.pinned (.plain (OpenSpec.ofChange questionWrongSpec)) questionWrongCard

/-- THE TIED CARD OF 'concordlaw25.QuestionFollows'. -/
def questionFollowsCard : Claim7 := { stood := { row := questionFollowsRow, standIns := [], harness := (true, "99680d1923bd443de5ce69d696f98a92105a70d94b497bd2190f085194b2210b"), looks := false }, kinds := [], alts := [], laidByText := true, laidKinds := [.data, .data, .data], laidTests := true, laidLooks := .later }
def QuestionFollowsCardSaid : Prop := Claim7.holds Tryz.pinned (.plain (OpenSpec.ofChange questionFollowsSpec)) questionFollowsCard

/-- THE TIED CARD OF 'concordlaw25.QuestionTells'. -/
def questionTellsCard : Claim7 := { stood := { row := questionTellsRow, standIns := [], harness := (true, "99680d1923bd443de5ce69d696f98a92105a70d94b497bd2190f085194b2210b"), looks := false }, kinds := [], alts := [], laidByText := true, laidKinds := [.data, .data, .data], laidTests := true, laidLooks := .later }
def QuestionTellsCardSaid : Prop := Claim7.holds Tryz.pinned (.plain (OpenSpec.ofChange questionTellsSpec)) questionTellsCard

/-- THE TIED CARD OF 'concordlaw25.QuestionLeast'. -/
def questionLeastCard : Claim7 := { stood := { row := questionLeastRow, standIns := [], harness := (true, "99680d1923bd443de5ce69d696f98a92105a70d94b497bd2190f085194b2210b"), looks := false }, kinds := [], alts := [], laidByText := true, laidKinds := [.data, .data, .data], laidTests := true, laidLooks := .later }
def QuestionLeastCardSaid : Prop := Claim7.holds Tryz.pinned (.plain (OpenSpec.ofChange questionLeastSpec)) questionLeastCard

/-- THE TIED CARD OF 'concordlaw25.QuestionKeeps'. -/
def questionKeepsCard : Claim7 := { stood := { row := questionKeepsRow, standIns := [], harness := (true, "99680d1923bd443de5ce69d696f98a92105a70d94b497bd2190f085194b2210b"), looks := false }, kinds := [], alts := [], laidByText := true, laidKinds := [.data, .data, .data], laidTests := true, laidLooks := .later }
def QuestionKeepsCardSaid : Prop := Claim7.holds Tryz.pinned (.plain (OpenSpec.ofChange questionKeepsSpec)) questionKeepsCard

/-- THE SECOND FORM's CARD OF 'concordlaw25.QuestionMakes'. -/
def questionMakesUptoCard : Claim7 := { stood := { row := questionMakesUptoRow, standIns := [], harness := (true, "99680d1923bd443de5ce69d696f98a92105a70d94b497bd2190f085194b2210b"), looks := false }, kinds := [], alts := [], laidByText := true, laidKinds := [.data, .data, .data], laidTests := true, laidLooks := .later }
def QuestionMakesUptoCardSaid : Prop := Claim7.holds Tryz.pinned (.plain (OpenSpec.upto questionMakesSpec)) questionMakesUptoCard

/-- THE SECOND FORM's CARD OF 'concordlaw25.QuestionGroups'. -/
def questionGroupsUptoCard : Claim7 := { stood := { row := questionGroupsUptoRow, standIns := [], harness := (true, "99680d1923bd443de5ce69d696f98a92105a70d94b497bd2190f085194b2210b"), looks := false }, kinds := [], alts := [], laidByText := true, laidKinds := [.data, .data, .data], laidTests := true, laidLooks := .later }
def QuestionGroupsUptoCardSaid : Prop := Claim7.holds Tryz.pinned (.plain (OpenSpec.upto questionGroupsSpec)) questionGroupsUptoCard

/-- THE SECOND FORM's CARD OF 'concordlaw25.QuestionWrong'. -/
def questionWrongUptoCard : Claim7 := { stood := { row := questionWrongUptoRow, standIns := [], harness := (true, "99680d1923bd443de5ce69d696f98a92105a70d94b497bd2190f085194b2210b"), looks := false }, kinds := [], alts := [], laidByText := true, laidKinds := [.data, .data, .data], laidTests := true, laidLooks := .later }
def QuestionWrongUptoCardSaid : Prop := Claim7.holds Tryz.pinned (.plain (OpenSpec.upto questionWrongSpec)) questionWrongUptoCard

/-- THE SECOND FORM's CARD OF 'concordlaw25.QuestionFollows'. -/
def questionFollowsUptoCard : Claim7 := { stood := { row := questionFollowsUptoRow, standIns := [], harness := (true, "99680d1923bd443de5ce69d696f98a92105a70d94b497bd2190f085194b2210b"), looks := false }, kinds := [], alts := [], laidByText := true, laidKinds := [.data, .data, .data], laidTests := true, laidLooks := .later }
def QuestionFollowsUptoCardSaid : Prop := Claim7.holds Tryz.pinned (.plain (OpenSpec.upto questionFollowsSpec)) questionFollowsUptoCard

/-- THE SECOND FORM's CARD OF 'concordlaw25.QuestionTells'. -/
def questionTellsUptoCard : Claim7 := { stood := { row := questionTellsUptoRow, standIns := [], harness := (true, "99680d1923bd443de5ce69d696f98a92105a70d94b497bd2190f085194b2210b"), looks := false }, kinds := [], alts := [], laidByText := true, laidKinds := [.data, .data, .data], laidTests := true, laidLooks := .later }
def QuestionTellsUptoCardSaid : Prop := Claim7.holds Tryz.pinned (.plain (OpenSpec.upto questionTellsSpec)) questionTellsUptoCard

/-- THE SECOND FORM's CARD OF 'concordlaw25.QuestionLeast'. -/
def questionLeastUptoCard : Claim7 := { stood := { row := questionLeastUptoRow, standIns := [], harness := (true, "99680d1923bd443de5ce69d696f98a92105a70d94b497bd2190f085194b2210b"), looks := false }, kinds := [], alts := [], laidByText := true, laidKinds := [.data, .data, .data], laidTests := true, laidLooks := .later }
def QuestionLeastUptoCardSaid : Prop := Claim7.holds Tryz.pinned (.plain (OpenSpec.upto questionLeastSpec)) questionLeastUptoCard

/-- THE SECOND FORM's CARD OF 'concordlaw25.QuestionKeeps'. -/
def questionKeepsUptoCard : Claim7 := { stood := { row := questionKeepsUptoRow, standIns := [], harness := (true, "99680d1923bd443de5ce69d696f98a92105a70d94b497bd2190f085194b2210b"), looks := false }, kinds := [], alts := [], laidByText := true, laidKinds := [.data, .data, .data], laidTests := true, laidLooks := .later }
def QuestionKeepsUptoCardSaid : Prop := Claim7.holds Tryz.pinned (.plain (OpenSpec.upto questionKeepsSpec)) questionKeepsUptoCard
end Rows
end Go.Proofs.YtoiemkifgdnhaaaGreatDoor
