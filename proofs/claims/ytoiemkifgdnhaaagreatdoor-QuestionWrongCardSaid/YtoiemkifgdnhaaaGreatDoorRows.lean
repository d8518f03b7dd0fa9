/-
  NARROWER THAN 'FOR EVERY INPUT', by the rows' own cells (each row's printed sentence says how): QuestionMakes: laid · QuestionGroups: laid · QuestionWrong: laid · QuestionFollows: laid · QuestionTells: laid · QuestionLeast: laid · QuestionKeeps: laid.
  DERIVED. THE GIVEN ROWS OF THIS SEAT. 7 by the template 'for every input the law returns true; each argument reads behind the call as it read before'; 0 by the template 'total and deterministic' (their statements: YtoiemkifgdnhaaaGreatDoorTotals.lean).
  GIVEN WITH THE SEED: the statements are not yours to turn. If you find one false, say at which input.
  Laid BY PROGRAM, IN A SANDBOX (cutbox-rows.mjs): the forced cells as the released guide's own fill.sh prints them over the translation cb1afda06db44982… (all of the seat's roots in one cut). By AI agents, Wed Nov 11 2026. No macro, syntax, notation, axiom, sorry.
-/
import Derived.Test.YtoiemkifgdnhaaaGreatDoorChecked
import GoSem.Claim
import GoSem.ClaimJoined
import GoSem.ClaimMapViews
import Derived.JoinedTies
import Derived.KernelRfl
namespace Go.Proofs.YtoiemkifgdnhaaaGreatDoor
/- THE CELL 'sum', in the pinned program and in every row, IS THE sha256 OF THE DUMP (.gsa) THAT YtoiemkifgdnhaaaGreatDoorProg.lean LOADS. Nothing in Lean hashes anything: it is a label: what it is worth is what the hold of that sum in a sandbox is worth. -/
noncomputable def Tryz.pinned : Pinned := { name := "ytoiemkifgdnhaaagreatdoor", sum := "cb1afda06db44982dd46f25a3893d9e810b458c295ff1145fa85f7b3f370bdbb", checked := Tryz.checked }
namespace Rows
def none {H : Type} : Left H := { results := [], args := [] }

/- WHAT THE LISTED PACKAGE-LEVEL VARIABLES READ AS WHEN THE CALL BEGINS. Each datum BY PROGRAM (the guide's laid-datum.mjs) off the statement by which the dump's own 'gosem.cut.vars' lays the variable. In a bare row this is a premise. The card (YtoiemkifgdnhaaaGreatDoorCards.lean) ties it to the program's text. -/
def laid_math_bits_deBruijn32tab {H : Type} : DataW H := .agg [.lit (.int .u8 0), .lit (.int .u8 1), .lit (.int .u8 28), .lit (.int .u8 2), .lit (.int .u8 29), .lit (.int .u8 14), .lit (.int .u8 24), .lit (.int .u8 3), .lit (.int .u8 30), .lit (.int .u8 22), .lit (.int .u8 20), .lit (.int .u8 15), .lit (.int .u8 25), .lit (.int .u8 17), .lit (.int .u8 4), .lit (.int .u8 8), .lit (.int .u8 31), .lit (.int .u8 27), .lit (.int .u8 13), .lit (.int .u8 23), .lit (.int .u8 21), .lit (.int .u8 19), .lit (.int .u8 16), .lit (.int .u8 7), .lit (.int .u8 26), .lit (.int .u8 12), .lit (.int .u8 18), .lit (.int .u8 6), .lit (.int .u8 11), .lit (.int .u8 5), .lit (.int .u8 10), .lit (.int .u8 9)]
def laid_math_bits_deBruijn64tab {H : Type} : DataW H := .agg [.lit (.int .u8 0), .lit (.int .u8 1), .lit (.int .u8 56), .lit (.int .u8 2), .lit (.int .u8 57), .lit (.int .u8 49), .lit (.int .u8 28), .lit (.int .u8 3), .lit (.int .u8 61), .lit (.int .u8 58), .lit (.int .u8 42), .lit (.int .u8 50), .lit (.int .u8 38), .lit (.int .u8 29), .lit (.int .u8 17), .lit (.int .u8 4), .lit (.int .u8 62), .lit (.int .u8 47), .lit (.int .u8 59), .lit (.int .u8 36), .lit (.int .u8 45), .lit (.int .u8 43), .lit (.int .u8 51), .lit (.int .u8 22), .lit (.int .u8 53), .lit (.int .u8 39), .lit (.int .u8 33), .lit (.int .u8 30), .lit (.int .u8 24), .lit (.int .u8 18), .lit (.int .u8 12), .lit (.int .u8 5), .lit (.int .u8 63), .lit (.int .u8 55), .lit (.int .u8 48), .lit (.int .u8 27), .lit (.int .u8 60), .lit (.int .u8 41), .lit (.int .u8 37), .lit (.int .u8 16), .lit (.int .u8 46), .lit (.int .u8 35), .lit (.int .u8 44), .lit (.int .u8 21), .lit (.int .u8 52), .lit (.int .u8 32), .lit (.int .u8 23), .lit (.int .u8 11), .lit (.int .u8 54), .lit (.int .u8 26), .lit (.int .u8 40), .lit (.int .u8 15), .lit (.int .u8 34), .lit (.int .u8 20), .lit (.int .u8 31), .lit (.int .u8 10), .lit (.int .u8 25), .lit (.int .u8 14), .lit (.int .u8 19), .lit (.int .u8 9), .lit (.int .u8 13), .lit (.int .u8 8), .lit (.int .u8 7), .lit (.int .u8 6)]
def laid_concord_decimal_powers {H : Type} : DataW H := .agg [.lit (.int .i64 1), .lit (.int .i64 10), .lit (.int .i64 100), .lit (.int .i64 1000), .lit (.int .i64 10000), .lit (.int .i64 100000), .lit (.int .i64 1000000), .lit (.int .i64 10000000), .lit (.int .i64 100000000), .lit (.int .i64 1000000000), .lit (.int .i64 10000000000), .lit (.int .i64 100000000000), .lit (.int .i64 1000000000000), .lit (.int .i64 10000000000000), .lit (.int .i64 100000000000000), .lit (.int .i64 1000000000000000), .lit (.int .i64 10000000000000000), .lit (.int .i64 100000000000000000), .lit (.int .i64 1000000000000000000)]

/-- 'concordlaw25.QuestionMakes': WHATEVER THE INPUT: true; the input reads as it did. -/
def questionMakesSpec : ChangeSpec := { name := "questionMakes", fn := fun _ => fun
  | [d1, d2] => { results := [.lit (.bool true)], args := [d1, d2] }
  | _ => none }
def questionMakesRow : OpenClaim := { program := "ytoiemkifgdnhaaagreatdoor", sum := "cb1afda06db44982dd46f25a3893d9e810b458c295ff1145fa85f7b3f370bdbb", func := "concord/concordlaw25.QuestionMakes", spec := "questionMakes", inPlace := ["slices.overlaps[concord/api.Value]", "slices.overlaps[[]int]"], unfollowed := true, recurses := true, named := ["concord/decimal.powers", "math/bits.deBruijn32tab", "math/bits.deBruijn64tab"], apart := false, laid := [("math/bits.deBruijn32tab", laid_math_bits_deBruijn32tab), ("math/bits.deBruijn64tab", laid_math_bits_deBruijn64tab), ("concord/decimal.powers", laid_concord_decimal_powers)] }
def QuestionMakesSaid : Prop := questionMakesRow.holds Tryz.pinned (OpenSpec.ofChange questionMakesSpec)

/-- ITS FALSE NEIGHBOUR: 'it returns false'. Refute it at one input. -/
def questionMakesWrong : ChangeSpec := { name := "questionMakes", fn := fun _ => fun
  | [d1, d2] => { results := [.lit (.bool false)], args := [d1, d2] }
  | _ => none }
def QuestionMakesWrongFalsely : Prop := questionMakesRow.holds Tryz.pinned (OpenSpec.ofChange questionMakesWrong)

/-- 'concordlaw25.QuestionGroups': WHATEVER THE INPUT: true; the input reads as it did. -/
def questionGroupsSpec : ChangeSpec := { name := "questionGroups", fn := fun _ => fun
  | [d1, d2, d3] => { results := [.lit (.bool true)], args := [d1, d2, d3] }
  | _ => none }
def questionGroupsRow : OpenClaim := { program := "ytoiemkifgdnhaaagreatdoor", sum := "cb1afda06db44982dd46f25a3893d9e810b458c295ff1145fa85f7b3f370bdbb", func := "concord/concordlaw25.QuestionGroups", spec := "questionGroups", inPlace := ["slices.overlaps[concord/api.Value]", "slices.overlaps[[]int]"], unfollowed := true, recurses := true, named := ["concord/decimal.powers", "math/bits.deBruijn32tab", "math/bits.deBruijn64tab"], apart := false, laid := [("math/bits.deBruijn32tab", laid_math_bits_deBruijn32tab), ("math/bits.deBruijn64tab", laid_math_bits_deBruijn64tab), ("concord/decimal.powers", laid_concord_decimal_powers)] }
def QuestionGroupsSaid : Prop := questionGroupsRow.holds Tryz.pinned (OpenSpec.ofChange questionGroupsSpec)

/-- ITS FALSE NEIGHBOUR: 'it returns false'. Refute it at one input. -/
def questionGroupsWrong : ChangeSpec := { name := "questionGroups", fn := fun _ => fun
  | [d1, d2, d3] => { results := [.lit (.bool false)], args := [d1, d2, d3] }
  | _ => none }
def QuestionGroupsWrongFalsely : Prop := questionGroupsRow.holds Tryz.pinned (OpenSpec.ofChange questionGroupsWrong)

/-- 'concordlaw25.QuestionWrong': WHATEVER THE INPUT: true; the input reads as it did. -/
def questionWrongSpec : ChangeSpec := { name := "questionWrong", fn := fun _ => fun
  | [d1, d2, d3] => { results := [.lit (.bool true)], args := [d1, d2, d3] }
  | _ => none }
def questionWrongRow : OpenClaim := { program := "ytoiemkifgdnhaaagreatdoor", sum := "cb1afda06db44982dd46f25a3893d9e810b458c295ff1145fa85f7b3f370bdbb", func := "concord/concordlaw25.QuestionWrong", spec := "questionWrong", inPlace := ["slices.overlaps[concord/api.Value]", "slices.overlaps[[]int]"], unfollowed := true, recurses := true, named := ["concord/decimal.powers", "math/bits.deBruijn32tab", "math/bits.deBruijn64tab"], apart := false, laid := [("math/bits.deBruijn32tab", laid_math_bits_deBruijn32tab), ("math/bits.deBruijn64tab", laid_math_bits_deBruijn64tab), ("concord/decimal.powers", laid_concord_decimal_powers)] }
def QuestionWrongSaid : Prop := questionWrongRow.holds Tryz.pinned (OpenSpec.ofChange questionWrongSpec)

/-- ITS FALSE NEIGHBOUR: 'it returns false'. Refute it at one input. -/
def questionWrongWrong : ChangeSpec := { name := "questionWrong", fn := fun _ => fun
  | [d1, d2, d3] => { results := [.lit (.bool false)], args := [d1, d2, d3] }
  | _ => none }
def QuestionWrongWrongFalsely : Prop := questionWrongRow.holds Tryz.pinned (OpenSpec.ofChange questionWrongWrong)

/-- 'concordlaw25.QuestionFollows': WHATEVER THE INPUT: true; the input reads as it did. -/
def questionFollowsSpec : ChangeSpec := { name := "questionFollows", fn := fun _ => fun
  | [d1, d2, d3] => { results := [.lit (.bool true)], args := [d1, d2, d3] }
  | _ => none }
def questionFollowsRow : OpenClaim := { program := "ytoiemkifgdnhaaagreatdoor", sum := "cb1afda06db44982dd46f25a3893d9e810b458c295ff1145fa85f7b3f370bdbb", func := "concord/concordlaw25.QuestionFollows", spec := "questionFollows", inPlace := ["slices.overlaps[concord/api.Value]", "slices.overlaps[[]int]"], unfollowed := true, recurses := true, named := ["concord/decimal.powers", "math/bits.deBruijn32tab", "math/bits.deBruijn64tab"], apart := false, laid := [("math/bits.deBruijn32tab", laid_math_bits_deBruijn32tab), ("math/bits.deBruijn64tab", laid_math_bits_deBruijn64tab), ("concord/decimal.powers", laid_concord_decimal_powers)] }
def QuestionFollowsSaid : Prop := questionFollowsRow.holds Tryz.pinned (OpenSpec.ofChange questionFollowsSpec)

/-- ITS FALSE NEIGHBOUR: 'it returns false'. Refute it at one input. -/
def questionFollowsWrong : ChangeSpec := { name := "questionFollows", fn := fun _ => fun
  | [d1, d2, d3] => { results := [.lit (.bool false)], args := [d1, d2, d3] }
  | _ => none }
def QuestionFollowsWrongFalsely : Prop := questionFollowsRow.holds Tryz.pinned (OpenSpec.ofChange questionFollowsWrong)

/-- 'concordlaw25.QuestionTells': WHATEVER THE INPUT: true; the input reads as it did. -/
def questionTellsSpec : ChangeSpec := { name := "questionTells", fn := fun _ => fun
  | [d1, d2] => { results := [.lit (.bool true)], args := [d1, d2] }
  | _ => none }
def questionTellsRow : OpenClaim := { program := "ytoiemkifgdnhaaagreatdoor", sum := "cb1afda06db44982dd46f25a3893d9e810b458c295ff1145fa85f7b3f370bdbb", func := "concord/concordlaw25.QuestionTells", spec := "questionTells", inPlace := ["slices.overlaps[concord/api.Value]", "slices.overlaps[[]int]"], unfollowed := true, recurses := true, named := ["concord/decimal.powers", "math/bits.deBruijn32tab", "math/bits.deBruijn64tab"], apart := false, laid := [("math/bits.deBruijn32tab", laid_math_bits_deBruijn32tab), ("math/bits.deBruijn64tab", laid_math_bits_deBruijn64tab), ("concord/decimal.powers", laid_concord_decimal_powers)] }
def QuestionTellsSaid : Prop := questionTellsRow.holds Tryz.pinned (OpenSpec.ofChange questionTellsSpec)

/-- ITS FALSE NEIGHBOUR: 'it returns false'. Refute it at one input. -/
def questionTellsWrong : ChangeSpec := { name := "questionTells", fn := fun _ => fun
  | [d1, d2] => { results := [.lit (.bool false)], args := [d1, d2] }
  | _ => none }
def QuestionTellsWrongFalsely : Prop := questionTellsRow.holds Tryz.pinned (OpenSpec.ofChange questionTellsWrong)

/-- 'concordlaw25.QuestionLeast': WHATEVER THE INPUT: true; the input reads as it did. -/
def questionLeastSpec : ChangeSpec := { name := "questionLeast", fn := fun _ => fun
  | [d] => { results := [.lit (.bool true)], args := [d] }
  | _ => none }
def questionLeastRow : OpenClaim := { program := "ytoiemkifgdnhaaagreatdoor", sum := "cb1afda06db44982dd46f25a3893d9e810b458c295ff1145fa85f7b3f370bdbb", func := "concord/concordlaw25.QuestionLeast", spec := "questionLeast", inPlace := ["slices.overlaps[concord/api.Value]", "slices.overlaps[[]int]"], unfollowed := true, recurses := true, named := ["concord/decimal.powers", "math/bits.deBruijn32tab", "math/bits.deBruijn64tab"], apart := false, laid := [("math/bits.deBruijn32tab", laid_math_bits_deBruijn32tab), ("math/bits.deBruijn64tab", laid_math_bits_deBruijn64tab), ("concord/decimal.powers", laid_concord_decimal_powers)] }
def QuestionLeastSaid : Prop := questionLeastRow.holds Tryz.pinned (OpenSpec.ofChange questionLeastSpec)

/-- ITS FALSE NEIGHBOUR: 'it returns false'. Refute it at one input. -/
def questionLeastWrong : ChangeSpec := { name := "questionLeast", fn := fun _ => fun
  | [d] => { results := [.lit (.bool false)], args := [d] }
  | _ => none }
def QuestionLeastWrongFalsely : Prop := questionLeastRow.holds Tryz.pinned (OpenSpec.ofChange questionLeastWrong)

/-- 'concordlaw25.QuestionKeeps': WHATEVER THE INPUT: true; the input reads as it did. -/
def questionKeepsSpec : ChangeSpec := { name := "questionKeeps", fn := fun _ => fun
  | [d1, d2] => { results := [.lit (.bool true)], args := [d1, d2] }
  | _ => none }
def questionKeepsRow : OpenClaim := { program := "ytoiemkifgdnhaaagreatdoor", sum := "cb1afda06db44982dd46f25a3893d9e810b458c295ff1145fa85f7b3f370bdbb", func := "concord/concordlaw25.QuestionKeeps", spec := "questionKeeps", inPlace := ["slices.overlaps[concord/api.Value]", "slices.overlaps[[]int]"], unfollowed := true, recurses := true, named := ["concord/decimal.powers", "math/bits.deBruijn32tab", "math/bits.deBruijn64tab"], apart := false, laid := [("math/bits.deBruijn32tab", laid_math_bits_deBruijn32tab), ("math/bits.deBruijn64tab", laid_math_bits_deBruijn64tab), ("concord/decimal.powers", laid_concord_decimal_powers)] }
def QuestionKeepsSaid : Prop := questionKeepsRow.holds Tryz.pinned (OpenSpec.ofChange questionKeepsSpec)

/-- ITS FALSE NEIGHBOUR: 'it returns false'. Refute it at one input. -/
def questionKeepsWrong : ChangeSpec := { name := "questionKeeps", fn := fun _ => fun
  | [d1, d2] => { results := [.lit (.bool false)], args := [d1, d2] }
  | _ => none }
def QuestionKeepsWrongFalsely : Prop := questionKeepsRow.holds Tryz.pinned (OpenSpec.ofChange questionKeepsWrong)

/- THE SECOND FORM. 'bulk': how many values and letters a reading holds, each counted each time it is reached (what is shared counts as often as it is met; a slice's spare places count too). A statement '..UptoSaid' is the law's where the arguments, and the package variables that the reading takes, are together of bulk at most 1048576: NARROWER than '..Said'. Prove '..Said' where nothing that the law and all that it calls make is longer than what came in: it says more and counts as full. Else prove '..UptoSaid'. A law counts once. -/
mutual
def uptoBulk {H : Type} : DataW H → Nat
  | .lit (.string bytes) => bytes.length + 1
  | .lit _ => 1
  | .nil => 1
  | .ptr d => uptoBulk d + 1
  | .slice elems spare => uptoBulkAll elems + uptoBulkAll spare + 1
  | .agg parts => uptoBulkAll parts + 1
  | .iface _ d => uptoBulk d + 1
  | .map entries => uptoBulkEntries entries + 1
  | .held _ => 1
def uptoBulkAll {H : Type} : List (DataW H) → Nat
  | [] => 0
  | d :: r => uptoBulk d + uptoBulkAll r
def uptoBulkEntries {H : Type} : List (Lit × DataW H) → Nat
  | [] => 0
  | x :: r => uptoBulkEntry x + uptoBulkEntries r
def uptoBulkEntry {H : Type} : Lit × DataW H → Nat
  | (.string bytes, d) => bytes.length + uptoBulk d + 1
  | (_, d) => uptoBulk d + 1
 end
def uptoSmall : (H : Type) → List (DataW H) → Bool := fun _ ds => decide (uptoBulkAll ds ≤ 1048576)
def OpenSpec.upto (s : _root_.Go.ChangeSpec) : _root_.Go.OpenSpec := { _root_.Go.OpenSpec.ofChange s with cond := some uptoSmall }

/-- 'concordlaw25.QuestionMakes', WHERE WHAT IT READS IS OF BULK AT MOST 1048576: true; the input reads as it did. -/
def questionMakesUptoRow : OpenClaim := { program := "ytoiemkifgdnhaaagreatdoor", sum := "cb1afda06db44982dd46f25a3893d9e810b458c295ff1145fa85f7b3f370bdbb", func := "concord/concordlaw25.QuestionMakes", spec := "questionMakes", inPlace := ["slices.overlaps[concord/api.Value]", "slices.overlaps[[]int]"], unfollowed := true, recurses := true, named := ["concord/decimal.powers", "math/bits.deBruijn32tab", "math/bits.deBruijn64tab"], apart := false, laid := [("math/bits.deBruijn32tab", laid_math_bits_deBruijn32tab), ("math/bits.deBruijn64tab", laid_math_bits_deBruijn64tab), ("concord/decimal.powers", laid_concord_decimal_powers)], narrowed := true }
def QuestionMakesUptoSaid : Prop := questionMakesUptoRow.holds Tryz.pinned (OpenSpec.upto questionMakesSpec)

/-- 'concordlaw25.QuestionGroups', WHERE WHAT IT READS IS OF BULK AT MOST 1048576: true; the input reads as it did. -/
def questionGroupsUptoRow : OpenClaim := { program := "ytoiemkifgdnhaaagreatdoor", sum := "cb1afda06db44982dd46f25a3893d9e810b458c295ff1145fa85f7b3f370bdbb", func := "concord/concordlaw25.QuestionGroups", spec := "questionGroups", inPlace := ["slices.overlaps[concord/api.Value]", "slices.overlaps[[]int]"], unfollowed := true, recurses := true, named := ["concord/decimal.powers", "math/bits.deBruijn32tab", "math/bits.deBruijn64tab"], apart := false, laid := [("math/bits.deBruijn32tab", laid_math_bits_deBruijn32tab), ("math/bits.deBruijn64tab", laid_math_bits_deBruijn64tab), ("concord/decimal.powers", laid_concord_decimal_powers)], narrowed := true }
def QuestionGroupsUptoSaid : Prop := questionGroupsUptoRow.holds Tryz.pinned (OpenSpec.upto questionGroupsSpec)

/-- 'concordlaw25.QuestionWrong', WHERE WHAT IT READS IS OF BULK AT MOST 1048576: true; the input reads as it did. -/
def questionWrongUptoRow : OpenClaim := { program := "ytoiemkifgdnhaaagreatdoor", sum := "cb1afda06db44982dd46f25a3893d9e810b458c295ff1145fa85f7b3f370bdbb", func := "concord/concordlaw25.QuestionWrong", spec := "questionWrong", inPlace := ["slices.overlaps[concord/api.Value]", "slices.overlaps[[]int]"], unfollowed := true, recurses := true, named := ["concord/decimal.powers", "math/bits.deBruijn32tab", "math/bits.deBruijn64tab"], apart := false, laid := [("math/bits.deBruijn32tab", laid_math_bits_deBruijn32tab), ("math/bits.deBruijn64tab", laid_math_bits_deBruijn64tab), ("concord/decimal.powers", laid_concord_decimal_powers)], narrowed := true }
def QuestionWrongUptoSaid : Prop := questionWrongUptoRow.holds Tryz.pinned (OpenSpec.upto questionWrongSpec)

/-- 'concordlaw25.QuestionFollows', WHERE WHAT IT READS IS OF BULK AT MOST 1048576: true; the input reads as it did. -/
def questionFollowsUptoRow : OpenClaim := { program := "ytoiemkifgdnhaaagreatdoor", sum := "cb1afda06db44982dd46f25a3893d9e810b458c295ff1145fa85f7b3f370bdbb", func := "concord/concordlaw25.QuestionFollows", spec := "questionFollows", inPlace := ["slices.overlaps[concord/api.Value]", "slices.overlaps[[]int]"], unfollowed := true, recurses := true, named := ["concord/decimal.powers", "math/bits.deBruijn32tab", "math/bits.deBruijn64tab"], apart := false, laid := [("math/bits.deBruijn32tab", laid_math_bits_deBruijn32tab), ("math/bits.deBruijn64tab", laid_math_bits_deBruijn64tab), ("concord/decimal.powers", laid_concord_decimal_powers)], narrowed := true }
def QuestionFollowsUptoSaid : Prop := questionFollowsUptoRow.holds Tryz.pinned (OpenSpec.upto questionFollowsSpec)

/-- 'concordlaw25.QuestionTells', WHERE WHAT IT READS IS OF BULK AT MOST 1048576: true; the input reads as it did. -/
def questionTellsUptoRow : OpenClaim := { program := "ytoiemkifgdnhaaagreatdoor", sum := "cb1afda06db44982dd46f25a3893d9e810b458c295ff1145fa85f7b3f370bdbb", func := "concord/concordlaw25.QuestionTells", spec := "questionTells", inPlace := ["slices.overlaps[concord/api.Value]", "slices.overlaps[[]int]"], unfollowed := true, recurses := true, named := ["concord/decimal.powers", "math/bits.deBruijn32tab", "math/bits.deBruijn64tab"], apart := false, laid := [("math/bits.deBruijn32tab", laid_math_bits_deBruijn32tab), ("math/bits.deBruijn64tab", laid_math_bits_deBruijn64tab), ("concord/decimal.powers", laid_concord_decimal_powers)], narrowed := true }
def QuestionTellsUptoSaid : Prop := questionTellsUptoRow.holds Tryz.pinned (OpenSpec.upto questionTellsSpec)

/-- 'concordlaw25.QuestionLeast', WHERE WHAT IT READS IS OF BULK AT MOST 1048576: true; the input reads as it did. -/
def questionLeastUptoRow : OpenClaim := { program := "ytoiemkifgdnhaaagreatdoor", sum := "cb1afda06db44982dd46f25a3893d9e810b458c295ff1145fa85f7b3f370bdbb", func := "concord/concordlaw25.QuestionLeast", spec := "questionLeast", inPlace := ["slices.overlaps[concord/api.Value]", "slices.overlaps[[]int]"], unfollowed := true, recurses := true, named := ["concord/decimal.powers", "math/bits.deBruijn32tab", "math/bits.deBruijn64tab"], apart := false, laid := [("math/bits.deBruijn32tab", laid_math_bits_deBruijn32tab), ("math/bits.deBruijn64tab", laid_math_bits_deBruijn64tab), ("concord/decimal.powers", laid_concord_decimal_powers)], narrowed := true }
def QuestionLeastUptoSaid : Prop := questionLeastUptoRow.holds Tryz.pinned (OpenSpec.upto questionLeastSpec)

/-- 'concordlaw25.QuestionKeeps', WHERE WHAT IT READS IS OF BULK AT MOST 1048576: true; the input reads as it did. -/
def questionKeepsUptoRow : OpenClaim := { program := "ytoiemkifgdnhaaagreatdoor", sum := "cb1afda06db44982dd46f25a3893d9e810b458c295ff1145fa85f7b3f370bdbb", func := "concord/concordlaw25.QuestionKeeps", spec := "questionKeeps", inPlace := ["slices.overlaps[concord/api.Value]", "slices.overlaps[[]int]"], unfollowed := true, recurses := true, named := ["concord/decimal.powers", "math/bits.deBruijn32tab", "math/bits.deBruijn64tab"], apart := false, laid := [("math/bits.deBruijn32tab", laid_math_bits_deBruijn32tab), ("math/bits.deBruijn64tab", laid_math_bits_deBruijn64tab), ("concord/decimal.powers", laid_concord_decimal_powers)], narrowed := true }
def QuestionKeepsUptoSaid : Prop := questionKeepsUptoRow.holds Tryz.pinned (OpenSpec.upto questionKeepsSpec)

end Rows
end Go.Proofs.YtoiemkifgdnhaaaGreatDoor
