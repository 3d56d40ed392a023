/-
  NARROWER THAN 'FOR EVERY INPUT', by the rows' own cells (each row's printed sentence says how): FnExactPrunePlan: loops.
  DERIVED. THE GIVEN ROWS OF THIS SEAT. 6 by the template 'for every input the law returns true; each argument reads behind the call as it read before'; 0 by the template 'total and deterministic' (their statements: YtafcohmneeabbaaTotals.lean).
  GIVEN WITH THE SEED: the statements are not yours to turn. If you find one false, say at which input.
  Laid BY PROGRAM, IN A SANDBOX (cutbox-rows.mjs): the forced cells as the released guide's own fill.sh prints them over the translation 8dbd4d8fefa4d1c6… (all of the seat's roots in one cut). By AI agents, Wed Nov 11 2026. No macro, syntax, notation, axiom, sorry.
-/
import Derived.Test.YtafcohmneeabbaaChecked
import GoSem.Claim
import GoSem.ClaimJoined
import GoSem.ClaimMapViews
import Derived.JoinedTies
import Derived.KernelRfl
namespace Go.Proofs.Ytafcohmneeabbaa
/- THE CELL 'sum', in the pinned program and in every row, IS THE sha256 OF THE DUMP (.gsa) THAT YtafcohmneeabbaaProg.lean LOADS. Nothing in Lean hashes anything: it is a label: what it is worth is what the hold of that sum in a sandbox is worth. -/
noncomputable def Try.pinned : Pinned := { name := "ytafcohmneeabbaa", sum := "8dbd4d8fefa4d1c6fa209ab0c040cc72bd5b54cc184c8168054d709ae266fd05", checked := Try.checked }
namespace Rows
def none {H : Type} : Left H := { results := [], args := [] }

/-- 'laws.FnApartBoxes': WHATEVER THE INPUT: true; the input reads as it did. -/
def fnApartBoxesSpec : ChangeSpec := { name := "fnApartBoxes", fn := fun _ => fun
  | [d] => { results := [.lit (.bool true)], args := [d] }
  | _ => none }
def fnApartBoxesRow : OpenClaim := { program := "ytafcohmneeabbaa", sum := "8dbd4d8fefa4d1c6fa209ab0c040cc72bd5b54cc184c8168054d709ae266fd05", func := "loop.example/panecutter/laws.FnApartBoxes", spec := "fnApartBoxes", recurses := true, apart := false }
def FnApartBoxesSaid : Prop := fnApartBoxesRow.holds Try.pinned (OpenSpec.ofChange fnApartBoxesSpec)

/-- ITS FALSE NEIGHBOUR: 'it returns false'. Refute it at one input. -/
def fnApartBoxesWrong : ChangeSpec := { name := "fnApartBoxes", fn := fun _ => fun
  | [d] => { results := [.lit (.bool false)], args := [d] }
  | _ => none }
def FnApartBoxesWrongFalsely : Prop := fnApartBoxesRow.holds Try.pinned (OpenSpec.ofChange fnApartBoxesWrong)

/-- 'laws.FnPlanSize': WHATEVER THE INPUT: true; the input reads as it did. -/
def fnPlanSizeSpec : ChangeSpec := { name := "fnPlanSize", fn := fun _ => fun
  | [d] => { results := [.lit (.bool true)], args := [d] }
  | _ => none }
def fnPlanSizeRow : OpenClaim := { program := "ytafcohmneeabbaa", sum := "8dbd4d8fefa4d1c6fa209ab0c040cc72bd5b54cc184c8168054d709ae266fd05", func := "loop.example/panecutter/laws.FnPlanSize", spec := "fnPlanSize", recurses := true, apart := false }
def FnPlanSizeSaid : Prop := fnPlanSizeRow.holds Try.pinned (OpenSpec.ofChange fnPlanSizeSpec)

/-- ITS FALSE NEIGHBOUR: 'it returns false'. Refute it at one input. -/
def fnPlanSizeWrong : ChangeSpec := { name := "fnPlanSize", fn := fun _ => fun
  | [d] => { results := [.lit (.bool false)], args := [d] }
  | _ => none }
def FnPlanSizeWrongFalsely : Prop := fnPlanSizeRow.holds Try.pinned (OpenSpec.ofChange fnPlanSizeWrong)

/-- 'laws.FnStagesOf': WHATEVER THE INPUT: true; the input reads as it did. -/
def fnStagesOfSpec : ChangeSpec := { name := "fnStagesOf", fn := fun _ => fun
  | [d] => { results := [.lit (.bool true)], args := [d] }
  | _ => none }
def fnStagesOfRow : OpenClaim := { program := "ytafcohmneeabbaa", sum := "8dbd4d8fefa4d1c6fa209ab0c040cc72bd5b54cc184c8168054d709ae266fd05", func := "loop.example/panecutter/laws.FnStagesOf", spec := "fnStagesOf", recurses := true, apart := false }
def FnStagesOfSaid : Prop := fnStagesOfRow.holds Try.pinned (OpenSpec.ofChange fnStagesOfSpec)

/-- ITS FALSE NEIGHBOUR: 'it returns false'. Refute it at one input. -/
def fnStagesOfWrong : ChangeSpec := { name := "fnStagesOf", fn := fun _ => fun
  | [d] => { results := [.lit (.bool false)], args := [d] }
  | _ => none }
def FnStagesOfWrongFalsely : Prop := fnStagesOfRow.holds Try.pinned (OpenSpec.ofChange fnStagesOfWrong)

/-- 'laws.FnLeastTable': WHATEVER THE INPUT: true; the input reads as it did. -/
def fnLeastTableSpec : ChangeSpec := { name := "fnLeastTable", fn := fun _ => fun
  | [d] => { results := [.lit (.bool true)], args := [d] }
  | _ => none }
def fnLeastTableRow : OpenClaim := { program := "ytafcohmneeabbaa", sum := "8dbd4d8fefa4d1c6fa209ab0c040cc72bd5b54cc184c8168054d709ae266fd05", func := "loop.example/panecutter/laws.FnLeastTable", spec := "fnLeastTable", recurses := true, apart := false }
def FnLeastTableSaid : Prop := fnLeastTableRow.holds Try.pinned (OpenSpec.ofChange fnLeastTableSpec)

/-- ITS FALSE NEIGHBOUR: 'it returns false'. Refute it at one input. -/
def fnLeastTableWrong : ChangeSpec := { name := "fnLeastTable", fn := fun _ => fun
  | [d] => { results := [.lit (.bool false)], args := [d] }
  | _ => none }
def FnLeastTableWrongFalsely : Prop := fnLeastTableRow.holds Try.pinned (OpenSpec.ofChange fnLeastTableWrong)

/-- 'laws.FnExactPrunePlan': WHATEVER THE INPUT: true; the input reads as it did. -/
def fnExactPrunePlanSpec : ChangeSpec := { name := "fnExactPrunePlan", fn := fun _ => fun
  | [d] => { results := [.lit (.bool true)], args := [d] }
  | _ => none }
def fnExactPrunePlanRow : OpenClaim := { program := "ytafcohmneeabbaa", sum := "8dbd4d8fefa4d1c6fa209ab0c040cc72bd5b54cc184c8168054d709ae266fd05", func := "loop.example/panecutter/laws.FnExactPrunePlan", spec := "fnExactPrunePlan", recurses := true, loops := true, apart := false }
def FnExactPrunePlanSaid : Prop := fnExactPrunePlanRow.holds Try.pinned (OpenSpec.ofChange fnExactPrunePlanSpec)

/-- ITS FALSE NEIGHBOUR: 'it returns false'. Refute it at one input. -/
def fnExactPrunePlanWrong : ChangeSpec := { name := "fnExactPrunePlan", fn := fun _ => fun
  | [d] => { results := [.lit (.bool false)], args := [d] }
  | _ => none }
def FnExactPrunePlanWrongFalsely : Prop := fnExactPrunePlanRow.holds Try.pinned (OpenSpec.ofChange fnExactPrunePlanWrong)

/-- 'laws.FnCountSteps': WHATEVER THE INPUT: true; the input reads as it did. -/
def fnCountStepsSpec : ChangeSpec := { name := "fnCountSteps", fn := fun _ => fun
  | [d] => { results := [.lit (.bool true)], args := [d] }
  | _ => none }
def fnCountStepsRow : OpenClaim := { program := "ytafcohmneeabbaa", sum := "8dbd4d8fefa4d1c6fa209ab0c040cc72bd5b54cc184c8168054d709ae266fd05", func := "loop.example/panecutter/laws.FnCountSteps", spec := "fnCountSteps", recurses := true, apart := false }
def FnCountStepsSaid : Prop := fnCountStepsRow.holds Try.pinned (OpenSpec.ofChange fnCountStepsSpec)

/-- ITS FALSE NEIGHBOUR: 'it returns false'. Refute it at one input. -/
def fnCountStepsWrong : ChangeSpec := { name := "fnCountSteps", fn := fun _ => fun
  | [d] => { results := [.lit (.bool false)], args := [d] }
  | _ => none }
def FnCountStepsWrongFalsely : Prop := fnCountStepsRow.holds Try.pinned (OpenSpec.ofChange fnCountStepsWrong)

/- THE SECOND FORM. 'bulk': how many values and letters a reading holds, each counted each time it is reached (what is shared counts as often as it is met; a slice's spare places count too). A statement '..UptoSaid' is the law's where the arguments, and the package variables that the reading takes, are together of bulk at most 1048576: NARROWER than '..Said'. Prove '..Said' where nothing that the law and all that it calls make is longer than what came in: it says more and counts as full. Else prove '..UptoSaid'. A law counts once. -/
mutual
def uptoBulk {H : Type} : DataW H → Nat
  | .lit (.string bytes) => bytes.length + 1
  | .lit _ => 1
  | .nil => 1
  | .ptr d => uptoBulk d + 1
  | .slice elems spare => uptoBulkAll elems + uptoBulkAll spare + 1
  | .agg parts => uptoBulkAll parts + 1
  | .iface _ d => uptoBulk d + 1
  | .map entries => uptoBulkEntries entries + 1
  | .held _ => 1
def uptoBulkAll {H : Type} : List (DataW H) → Nat
  | [] => 0
  | d :: r => uptoBulk d + uptoBulkAll r
def uptoBulkEntries {H : Type} : List (Lit × DataW H) → Nat
  | [] => 0
  | x :: r => uptoBulkEntry x + uptoBulkEntries r
def uptoBulkEntry {H : Type} : Lit × DataW H → Nat
  | (.string bytes, d) => bytes.length + uptoBulk d + 1
  | (_, d) => uptoBulk d + 1
 end
def uptoSmall : (H : Type) → List (DataW H) → Bool := fun _ ds => decide (uptoBulkAll ds ≤ 1048576)
def OpenSpec.upto (s : _root_.Go.ChangeSpec) : _root_.Go.OpenSpec := { _root_.Go.OpenSpec.ofChange s with cond := some uptoSmall }

/-- 'laws.FnApartBoxes', WHERE WHAT IT READS IS OF BULK AT MOST 1048576: true; the input reads as it did. -/
def fnApartBoxesUptoRow : OpenClaim := { program := "ytafcohmneeabbaa", sum := "8dbd4d8fefa4d1c6fa209ab0c040cc72bd5b54cc184c8168054d709ae266fd05", func := "loop.example/panecutter/laws.FnApartBoxes", spec := "fnApartBoxes", recurses := true, apart := false, narrowed := true }
def FnApartBoxesUptoSaid : Prop := fnApartBoxesUptoRow.holds Try.pinned (OpenSpec.upto fnApartBoxesSpec)

/-- 'laws.FnPlanSize', WHERE WHAT IT READS IS OF BULK AT MOST 1048576: true; the input reads as it did. -/
def fnPlanSizeUptoRow : OpenClaim := { program := "ytafcohmneeabbaa", sum := "8dbd4d8fefa4d1c6fa209ab0c040cc72bd5b54cc184c8168054d709ae266fd05", func := "loop.example/panecutter/laws.FnPlanSize", spec := "fnPlanSize", recurses := true, apart := false, narrowed := true }
def FnPlanSizeUptoSaid : Prop := fnPlanSizeUptoRow.holds Try.pinned (OpenSpec.upto fnPlanSizeSpec)

/-- 'laws.FnStagesOf', WHERE WHAT IT READS IS OF BULK AT MOST 1048576: true; the input reads as it did. -/
def fnStagesOfUptoRow : OpenClaim := { program := "ytafcohmneeabbaa", sum := "8dbd4d8fefa4d1c6fa209ab0c040cc72bd5b54cc184c8168054d709ae266fd05", func := "loop.example/panecutter/laws.FnStagesOf", spec := "fnStagesOf", recurses := true, apart := false, narrowed := true }
def FnStagesOfUptoSaid : Prop := fnStagesOfUptoRow.holds Try.pinned (OpenSpec.upto fnStagesOfSpec)

/-- 'laws.FnLeastTable', WHERE WHAT IT READS IS OF BULK AT MOST 1048576: true; the input reads as it did. -/
def fnLeastTableUptoRow : OpenClaim := { program := "ytafcohmneeabbaa", sum := "8dbd4d8fefa4d1c6fa209ab0c040cc72bd5b54cc184c8168054d709ae266fd05", func := "loop.example/panecutter/laws.FnLeastTable", spec := "fnLeastTable", recurses := true, apart := false, narrowed := true }
def FnLeastTableUptoSaid : Prop := fnLeastTableUptoRow.holds Try.pinned (OpenSpec.upto fnLeastTableSpec)

/-- 'laws.FnExactPrunePlan', WHERE WHAT IT READS IS OF BULK AT MOST 1048576: true; the input reads as it did. -/
def fnExactPrunePlanUptoRow : OpenClaim := { program := "ytafcohmneeabbaa", sum := "8dbd4d8fefa4d1c6fa209ab0c040cc72bd5b54cc184c8168054d709ae266fd05", func := "loop.example/panecutter/laws.FnExactPrunePlan", spec := "fnExactPrunePlan", recurses := true, loops := true, apart := false, narrowed := true }
def FnExactPrunePlanUptoSaid : Prop := fnExactPrunePlanUptoRow.holds Try.pinned (OpenSpec.upto fnExactPrunePlanSpec)

/-- 'laws.FnCountSteps', WHERE WHAT IT READS IS OF BULK AT MOST 1048576: true; the input reads as it did. -/
def fnCountStepsUptoRow : OpenClaim := { program := "ytafcohmneeabbaa", sum := "8dbd4d8fefa4d1c6fa209ab0c040cc72bd5b54cc184c8168054d709ae266fd05", func := "loop.example/panecutter/laws.FnCountSteps", spec := "fnCountSteps", recurses := true, apart := false, narrowed := true }
def FnCountStepsUptoSaid : Prop := fnCountStepsUptoRow.holds Try.pinned (OpenSpec.upto fnCountStepsSpec)

end Rows
end Go.Proofs.Ytafcohmneeabbaa
