/-
  NARROWER THAN 'FOR EVERY INPUT', by the rows' own cells (each row's printed sentence says how): FnExactStagesOf: loops · FnExactLeastTable: loops · FnExactCountSteps: loops · FnExactAboveOf: loops · FnExactNumbersOf: loops · FnExactPrunePlan: loops · FnExactValidSteps: loops · FnExactBestSteps: loops.
  DERIVED. THE GIVEN ROWS OF THIS SEAT. 12 by the template 'for every input the law returns true; each argument reads behind the call as it read before'; 0 by the template 'total and deterministic' (their statements: YtjohhjpoglaagaaTotals.lean).
  GIVEN WITH THE SEED: the statements are not yours to turn. If you find one false, say at which input.
  Laid BY PROGRAM, IN A SANDBOX (cutbox-rows.mjs): the forced cells as the released guide's own fill.sh prints them over the translation 66709439b9ac785b… (all of the seat's roots in one cut). By AI agents, Wed Nov 11 2026. No macro, syntax, notation, axiom, sorry.
-/
import Derived.Test.YtjohhjpoglaagaaChecked
import GoSem.Claim
import GoSem.ClaimJoined
import GoSem.ClaimMapViews
import Derived.JoinedTies
import Derived.KernelRfl
namespace Go.Proofs.Ytjohhjpoglaagaa
/- THE CELL 'sum', in the pinned program and in every row, IS THE sha256 OF THE DUMP (.gsa) THAT YtjohhjpoglaagaaProg.lean LOADS. Nothing in Lean hashes anything: it is a label: what it is worth is what the hold of that sum in a sandbox is worth. -/
noncomputable def Try.pinned : Pinned := { name := "ytjohhjpoglaagaa", sum := "66709439b9ac785b313ea394bd17daee3b2a76d90d69c81682c14986ae7a0056", checked := Try.checked }
namespace Rows
def none {H : Type} : Left H := { results := [], args := [] }

/-- 'laws.FnExactStagesOf': WHATEVER THE INPUT: true; the input reads as it did. -/
def fnExactStagesOfSpec : ChangeSpec := { name := "fnExactStagesOf", fn := fun _ => fun
  | [d] => { results := [.lit (.bool true)], args := [d] }
  | _ => none }
def fnExactStagesOfRow : OpenClaim := { program := "ytjohhjpoglaagaa", sum := "66709439b9ac785b313ea394bd17daee3b2a76d90d69c81682c14986ae7a0056", func := "loop.example/panecutter/laws.FnExactStagesOf", spec := "fnExactStagesOf", recurses := true, loops := true, apart := false }
def FnExactStagesOfSaid : Prop := fnExactStagesOfRow.holds Try.pinned (OpenSpec.ofChange fnExactStagesOfSpec)

/-- ITS FALSE NEIGHBOUR: 'it returns false'. Refute it at one input. -/
def fnExactStagesOfWrong : ChangeSpec := { name := "fnExactStagesOf", fn := fun _ => fun
  | [d] => { results := [.lit (.bool false)], args := [d] }
  | _ => none }
def FnExactStagesOfWrongFalsely : Prop := fnExactStagesOfRow.holds Try.pinned (OpenSpec.ofChange fnExactStagesOfWrong)

/-- 'laws.FnExactLeastTable': WHATEVER THE INPUT: true; the input reads as it did. -/
def fnExactLeastTableSpec : ChangeSpec := { name := "fnExactLeastTable", fn := fun _ => fun
  | [d] => { results := [.lit (.bool true)], args := [d] }
  | _ => none }
def fnExactLeastTableRow : OpenClaim := { program := "ytjohhjpoglaagaa", sum := "66709439b9ac785b313ea394bd17daee3b2a76d90d69c81682c14986ae7a0056", func := "loop.example/panecutter/laws.FnExactLeastTable", spec := "fnExactLeastTable", recurses := true, loops := true, apart := false }
def FnExactLeastTableSaid : Prop := fnExactLeastTableRow.holds Try.pinned (OpenSpec.ofChange fnExactLeastTableSpec)

/-- ITS FALSE NEIGHBOUR: 'it returns false'. Refute it at one input. -/
def fnExactLeastTableWrong : ChangeSpec := { name := "fnExactLeastTable", fn := fun _ => fun
  | [d] => { results := [.lit (.bool false)], args := [d] }
  | _ => none }
def FnExactLeastTableWrongFalsely : Prop := fnExactLeastTableRow.holds Try.pinned (OpenSpec.ofChange fnExactLeastTableWrong)

/-- 'laws.FnPlanSize': WHATEVER THE INPUT: true; the input reads as it did. -/
def fnPlanSizeSpec : ChangeSpec := { name := "fnPlanSize", fn := fun _ => fun
  | [d] => { results := [.lit (.bool true)], args := [d] }
  | _ => none }
def fnPlanSizeRow : OpenClaim := { program := "ytjohhjpoglaagaa", sum := "66709439b9ac785b313ea394bd17daee3b2a76d90d69c81682c14986ae7a0056", func := "loop.example/panecutter/laws.FnPlanSize", spec := "fnPlanSize", recurses := true, apart := false }
def FnPlanSizeSaid : Prop := fnPlanSizeRow.holds Try.pinned (OpenSpec.ofChange fnPlanSizeSpec)

/-- ITS FALSE NEIGHBOUR: 'it returns false'. Refute it at one input. -/
def fnPlanSizeWrong : ChangeSpec := { name := "fnPlanSize", fn := fun _ => fun
  | [d] => { results := [.lit (.bool false)], args := [d] }
  | _ => none }
def FnPlanSizeWrongFalsely : Prop := fnPlanSizeRow.holds Try.pinned (OpenSpec.ofChange fnPlanSizeWrong)

/-- 'laws.FnExactCountSteps': WHATEVER THE INPUT: true; the input reads as it did. -/
def fnExactCountStepsSpec : ChangeSpec := { name := "fnExactCountSteps", fn := fun _ => fun
  | [d] => { results := [.lit (.bool true)], args := [d] }
  | _ => none }
def fnExactCountStepsRow : OpenClaim := { program := "ytjohhjpoglaagaa", sum := "66709439b9ac785b313ea394bd17daee3b2a76d90d69c81682c14986ae7a0056", func := "loop.example/panecutter/laws.FnExactCountSteps", spec := "fnExactCountSteps", recurses := true, loops := true, apart := false }
def FnExactCountStepsSaid : Prop := fnExactCountStepsRow.holds Try.pinned (OpenSpec.ofChange fnExactCountStepsSpec)

/-- ITS FALSE NEIGHBOUR: 'it returns false'. Refute it at one input. -/
def fnExactCountStepsWrong : ChangeSpec := { name := "fnExactCountSteps", fn := fun _ => fun
  | [d] => { results := [.lit (.bool false)], args := [d] }
  | _ => none }
def FnExactCountStepsWrongFalsely : Prop := fnExactCountStepsRow.holds Try.pinned (OpenSpec.ofChange fnExactCountStepsWrong)

/-- 'laws.FnExactAboveOf': WHATEVER THE INPUT: true; the input reads as it did. -/
def fnExactAboveOfSpec : ChangeSpec := { name := "fnExactAboveOf", fn := fun _ => fun
  | [d1, d2] => { results := [.lit (.bool true)], args := [d1, d2] }
  | _ => none }
def fnExactAboveOfRow : OpenClaim := { program := "ytjohhjpoglaagaa", sum := "66709439b9ac785b313ea394bd17daee3b2a76d90d69c81682c14986ae7a0056", func := "loop.example/panecutter/laws.FnExactAboveOf", spec := "fnExactAboveOf", unfollowed := true, recurses := true, loops := true, apart := false }
def FnExactAboveOfSaid : Prop := fnExactAboveOfRow.holds Try.pinned (OpenSpec.ofChange fnExactAboveOfSpec)

/-- ITS FALSE NEIGHBOUR: 'it returns false'. Refute it at one input. -/
def fnExactAboveOfWrong : ChangeSpec := { name := "fnExactAboveOf", fn := fun _ => fun
  | [d1, d2] => { results := [.lit (.bool false)], args := [d1, d2] }
  | _ => none }
def FnExactAboveOfWrongFalsely : Prop := fnExactAboveOfRow.holds Try.pinned (OpenSpec.ofChange fnExactAboveOfWrong)

/-- 'laws.FnExactNumbersOf': WHATEVER THE INPUT: true; the input reads as it did. -/
def fnExactNumbersOfSpec : ChangeSpec := { name := "fnExactNumbersOf", fn := fun _ => fun
  | [d] => { results := [.lit (.bool true)], args := [d] }
  | _ => none }
def fnExactNumbersOfRow : OpenClaim := { program := "ytjohhjpoglaagaa", sum := "66709439b9ac785b313ea394bd17daee3b2a76d90d69c81682c14986ae7a0056", func := "loop.example/panecutter/laws.FnExactNumbersOf", spec := "fnExactNumbersOf", recurses := true, loops := true, apart := false }
def FnExactNumbersOfSaid : Prop := fnExactNumbersOfRow.holds Try.pinned (OpenSpec.ofChange fnExactNumbersOfSpec)

/-- ITS FALSE NEIGHBOUR: 'it returns false'. Refute it at one input. -/
def fnExactNumbersOfWrong : ChangeSpec := { name := "fnExactNumbersOf", fn := fun _ => fun
  | [d] => { results := [.lit (.bool false)], args := [d] }
  | _ => none }
def FnExactNumbersOfWrongFalsely : Prop := fnExactNumbersOfRow.holds Try.pinned (OpenSpec.ofChange fnExactNumbersOfWrong)

/-- 'laws.FnStagesOf': WHATEVER THE INPUT: true; the input reads as it did. -/
def fnStagesOfSpec : ChangeSpec := { name := "fnStagesOf", fn := fun _ => fun
  | [d] => { results := [.lit (.bool true)], args := [d] }
  | _ => none }
def fnStagesOfRow : OpenClaim := { program := "ytjohhjpoglaagaa", sum := "66709439b9ac785b313ea394bd17daee3b2a76d90d69c81682c14986ae7a0056", func := "loop.example/panecutter/laws.FnStagesOf", spec := "fnStagesOf", recurses := true, apart := false }
def FnStagesOfSaid : Prop := fnStagesOfRow.holds Try.pinned (OpenSpec.ofChange fnStagesOfSpec)

/-- ITS FALSE NEIGHBOUR: 'it returns false'. Refute it at one input. -/
def fnStagesOfWrong : ChangeSpec := { name := "fnStagesOf", fn := fun _ => fun
  | [d] => { results := [.lit (.bool false)], args := [d] }
  | _ => none }
def FnStagesOfWrongFalsely : Prop := fnStagesOfRow.holds Try.pinned (OpenSpec.ofChange fnStagesOfWrong)

/-- 'laws.FnLeastTable': WHATEVER THE INPUT: true; the input reads as it did. -/
def fnLeastTableSpec : ChangeSpec := { name := "fnLeastTable", fn := fun _ => fun
  | [d] => { results := [.lit (.bool true)], args := [d] }
  | _ => none }
def fnLeastTableRow : OpenClaim := { program := "ytjohhjpoglaagaa", sum := "66709439b9ac785b313ea394bd17daee3b2a76d90d69c81682c14986ae7a0056", func := "loop.example/panecutter/laws.FnLeastTable", spec := "fnLeastTable", recurses := true, apart := false }
def FnLeastTableSaid : Prop := fnLeastTableRow.holds Try.pinned (OpenSpec.ofChange fnLeastTableSpec)

/-- ITS FALSE NEIGHBOUR: 'it returns false'. Refute it at one input. -/
def fnLeastTableWrong : ChangeSpec := { name := "fnLeastTable", fn := fun _ => fun
  | [d] => { results := [.lit (.bool false)], args := [d] }
  | _ => none }
def FnLeastTableWrongFalsely : Prop := fnLeastTableRow.holds Try.pinned (OpenSpec.ofChange fnLeastTableWrong)

/-- 'laws.FnExactPrunePlan': WHATEVER THE INPUT: true; the input reads as it did. -/
def fnExactPrunePlanSpec : ChangeSpec := { name := "fnExactPrunePlan", fn := fun _ => fun
  | [d] => { results := [.lit (.bool true)], args := [d] }
  | _ => none }
def fnExactPrunePlanRow : OpenClaim := { program := "ytjohhjpoglaagaa", sum := "66709439b9ac785b313ea394bd17daee3b2a76d90d69c81682c14986ae7a0056", func := "loop.example/panecutter/laws.FnExactPrunePlan", spec := "fnExactPrunePlan", recurses := true, loops := true, apart := false }
def FnExactPrunePlanSaid : Prop := fnExactPrunePlanRow.holds Try.pinned (OpenSpec.ofChange fnExactPrunePlanSpec)

/-- ITS FALSE NEIGHBOUR: 'it returns false'. Refute it at one input. -/
def fnExactPrunePlanWrong : ChangeSpec := { name := "fnExactPrunePlan", fn := fun _ => fun
  | [d] => { results := [.lit (.bool false)], args := [d] }
  | _ => none }
def FnExactPrunePlanWrongFalsely : Prop := fnExactPrunePlanRow.holds Try.pinned (OpenSpec.ofChange fnExactPrunePlanWrong)

/-- 'laws.FnExactValidSteps': WHATEVER THE INPUT: true; the input reads as it did. -/
def fnExactValidStepsSpec : ChangeSpec := { name := "fnExactValidSteps", fn := fun _ => fun
  | [d1, d2] => { results := [.lit (.bool true)], args := [d1, d2] }
  | _ => none }
def fnExactValidStepsRow : OpenClaim := { program := "ytjohhjpoglaagaa", sum := "66709439b9ac785b313ea394bd17daee3b2a76d90d69c81682c14986ae7a0056", func := "loop.example/panecutter/laws.FnExactValidSteps", spec := "fnExactValidSteps", unfollowed := true, recurses := true, loops := true, apart := false }
def FnExactValidStepsSaid : Prop := fnExactValidStepsRow.holds Try.pinned (OpenSpec.ofChange fnExactValidStepsSpec)

/-- ITS FALSE NEIGHBOUR: 'it returns false'. Refute it at one input. -/
def fnExactValidStepsWrong : ChangeSpec := { name := "fnExactValidSteps", fn := fun _ => fun
  | [d1, d2] => { results := [.lit (.bool false)], args := [d1, d2] }
  | _ => none }
def FnExactValidStepsWrongFalsely : Prop := fnExactValidStepsRow.holds Try.pinned (OpenSpec.ofChange fnExactValidStepsWrong)

/-- 'laws.FnCountSteps': WHATEVER THE INPUT: true; the input reads as it did. -/
def fnCountStepsSpec : ChangeSpec := { name := "fnCountSteps", fn := fun _ => fun
  | [d] => { results := [.lit (.bool true)], args := [d] }
  | _ => none }
def fnCountStepsRow : OpenClaim := { program := "ytjohhjpoglaagaa", sum := "66709439b9ac785b313ea394bd17daee3b2a76d90d69c81682c14986ae7a0056", func := "loop.example/panecutter/laws.FnCountSteps", spec := "fnCountSteps", recurses := true, apart := false }
def FnCountStepsSaid : Prop := fnCountStepsRow.holds Try.pinned (OpenSpec.ofChange fnCountStepsSpec)

/-- ITS FALSE NEIGHBOUR: 'it returns false'. Refute it at one input. -/
def fnCountStepsWrong : ChangeSpec := { name := "fnCountSteps", fn := fun _ => fun
  | [d] => { results := [.lit (.bool false)], args := [d] }
  | _ => none }
def FnCountStepsWrongFalsely : Prop := fnCountStepsRow.holds Try.pinned (OpenSpec.ofChange fnCountStepsWrong)

/-- 'laws.FnExactBestSteps': WHATEVER THE INPUT: true; the input reads as it did. -/
def fnExactBestStepsSpec : ChangeSpec := { name := "fnExactBestSteps", fn := fun _ => fun
  | [d] => { results := [.lit (.bool true)], args := [d] }
  | _ => none }
def fnExactBestStepsRow : OpenClaim := { program := "ytjohhjpoglaagaa", sum := "66709439b9ac785b313ea394bd17daee3b2a76d90d69c81682c14986ae7a0056", func := "loop.example/panecutter/laws.FnExactBestSteps", spec := "fnExactBestSteps", recurses := true, loops := true, apart := false }
def FnExactBestStepsSaid : Prop := fnExactBestStepsRow.holds Try.pinned (OpenSpec.ofChange fnExactBestStepsSpec)

/-- ITS FALSE NEIGHBOUR: 'it returns false'. Refute it at one input. -/
def fnExactBestStepsWrong : ChangeSpec := { name := "fnExactBestSteps", fn := fun _ => fun
  | [d] => { results := [.lit (.bool false)], args := [d] }
  | _ => none }
def FnExactBestStepsWrongFalsely : Prop := fnExactBestStepsRow.holds Try.pinned (OpenSpec.ofChange fnExactBestStepsWrong)

/- THE SECOND FORM. 'bulk': how many values and letters a reading holds, each counted each time it is reached (what is shared counts as often as it is met; a slice's spare places count too). A statement '..UptoSaid' is the law's where the arguments, and the package variables that the reading takes, are together of bulk at most 1048576: NARROWER than '..Said'. Prove '..Said' where nothing that the law and all that it calls make is longer than what came in: it says more and counts as full. Else prove '..UptoSaid'. A law counts once. -/
mutual
def uptoBulk {H : Type} : DataW H → Nat
  | .lit (.string bytes) => bytes.length + 1
  | .lit _ => 1
  | .nil => 1
  | .ptr d => uptoBulk d + 1
  | .slice elems spare => uptoBulkAll elems + uptoBulkAll spare + 1
  | .agg parts => uptoBulkAll parts + 1
  | .iface _ d => uptoBulk d + 1
  | .map entries => uptoBulkEntries entries + 1
  | .held _ => 1
def uptoBulkAll {H : Type} : List (DataW H) → Nat
  | [] => 0
  | d :: r => uptoBulk d + uptoBulkAll r
def uptoBulkEntries {H : Type} : List (Lit × DataW H) → Nat
  | [] => 0
  | x :: r => uptoBulkEntry x + uptoBulkEntries r
def uptoBulkEntry {H : Type} : Lit × DataW H → Nat
  | (.string bytes, d) => bytes.length + uptoBulk d + 1
  | (_, d) => uptoBulk d + 1
 end
def uptoSmall : (H : Type) → List (DataW H) → Bool := fun _ ds => decide (uptoBulkAll ds ≤ 1048576)
def OpenSpec.upto (s : _root_.Go.ChangeSpec) : _root_.Go.OpenSpec := { _root_.Go.OpenSpec.ofChange s with cond := some uptoSmall }

/-- 'laws.FnExactStagesOf', WHERE WHAT IT READS IS OF BULK AT MOST 1048576: true; the input reads as it did. -/
def fnExactStagesOfUptoRow : OpenClaim := { program := "ytjohhjpoglaagaa", sum := "66709439b9ac785b313ea394bd17daee3b2a76d90d69c81682c14986ae7a0056", func := "loop.example/panecutter/laws.FnExactStagesOf", spec := "fnExactStagesOf", recurses := true, loops := true, apart := false, narrowed := true }
def FnExactStagesOfUptoSaid : Prop := fnExactStagesOfUptoRow.holds Try.pinned (OpenSpec.upto fnExactStagesOfSpec)

/-- 'laws.FnExactLeastTable', WHERE WHAT IT READS IS OF BULK AT MOST 1048576: true; the input reads as it did. -/
def fnExactLeastTableUptoRow : OpenClaim := { program := "ytjohhjpoglaagaa", sum := "66709439b9ac785b313ea394bd17daee3b2a76d90d69c81682c14986ae7a0056", func := "loop.example/panecutter/laws.FnExactLeastTable", spec := "fnExactLeastTable", recurses := true, loops := true, apart := false, narrowed := true }
def FnExactLeastTableUptoSaid : Prop := fnExactLeastTableUptoRow.holds Try.pinned (OpenSpec.upto fnExactLeastTableSpec)

/-- 'laws.FnPlanSize', WHERE WHAT IT READS IS OF BULK AT MOST 1048576: true; the input reads as it did. -/
def fnPlanSizeUptoRow : OpenClaim := { program := "ytjohhjpoglaagaa", sum := "66709439b9ac785b313ea394bd17daee3b2a76d90d69c81682c14986ae7a0056", func := "loop.example/panecutter/laws.FnPlanSize", spec := "fnPlanSize", recurses := true, apart := false, narrowed := true }
def FnPlanSizeUptoSaid : Prop := fnPlanSizeUptoRow.holds Try.pinned (OpenSpec.upto fnPlanSizeSpec)

/-- 'laws.FnExactCountSteps', WHERE WHAT IT READS IS OF BULK AT MOST 1048576: true; the input reads as it did. -/
def fnExactCountStepsUptoRow : OpenClaim := { program := "ytjohhjpoglaagaa", sum := "66709439b9ac785b313ea394bd17daee3b2a76d90d69c81682c14986ae7a0056", func := "loop.example/panecutter/laws.FnExactCountSteps", spec := "fnExactCountSteps", recurses := true, loops := true, apart := false, narrowed := true }
def FnExactCountStepsUptoSaid : Prop := fnExactCountStepsUptoRow.holds Try.pinned (OpenSpec.upto fnExactCountStepsSpec)

/-- 'laws.FnExactAboveOf', WHERE WHAT IT READS IS OF BULK AT MOST 1048576: true; the input reads as it did. -/
def fnExactAboveOfUptoRow : OpenClaim := { program := "ytjohhjpoglaagaa", sum := "66709439b9ac785b313ea394bd17daee3b2a76d90d69c81682c14986ae7a0056", func := "loop.example/panecutter/laws.FnExactAboveOf", spec := "fnExactAboveOf", unfollowed := true, recurses := true, loops := true, apart := false, narrowed := true }
def FnExactAboveOfUptoSaid : Prop := fnExactAboveOfUptoRow.holds Try.pinned (OpenSpec.upto fnExactAboveOfSpec)

/-- 'laws.FnExactNumbersOf', WHERE WHAT IT READS IS OF BULK AT MOST 1048576: true; the input reads as it did. -/
def fnExactNumbersOfUptoRow : OpenClaim := { program := "ytjohhjpoglaagaa", sum := "66709439b9ac785b313ea394bd17daee3b2a76d90d69c81682c14986ae7a0056", func := "loop.example/panecutter/laws.FnExactNumbersOf", spec := "fnExactNumbersOf", recurses := true, loops := true, apart := false, narrowed := true }
def FnExactNumbersOfUptoSaid : Prop := fnExactNumbersOfUptoRow.holds Try.pinned (OpenSpec.upto fnExactNumbersOfSpec)

/-- 'laws.FnStagesOf', WHERE WHAT IT READS IS OF BULK AT MOST 1048576: true; the input reads as it did. -/
def fnStagesOfUptoRow : OpenClaim := { program := "ytjohhjpoglaagaa", sum := "66709439b9ac785b313ea394bd17daee3b2a76d90d69c81682c14986ae7a0056", func := "loop.example/panecutter/laws.FnStagesOf", spec := "fnStagesOf", recurses := true, apart := false, narrowed := true }
def FnStagesOfUptoSaid : Prop := fnStagesOfUptoRow.holds Try.pinned (OpenSpec.upto fnStagesOfSpec)

/-- 'laws.FnLeastTable', WHERE WHAT IT READS IS OF BULK AT MOST 1048576: true; the input reads as it did. -/
def fnLeastTableUptoRow : OpenClaim := { program := "ytjohhjpoglaagaa", sum := "66709439b9ac785b313ea394bd17daee3b2a76d90d69c81682c14986ae7a0056", func := "loop.example/panecutter/laws.FnLeastTable", spec := "fnLeastTable", recurses := true, apart := false, narrowed := true }
def FnLeastTableUptoSaid : Prop := fnLeastTableUptoRow.holds Try.pinned (OpenSpec.upto fnLeastTableSpec)

/-- 'laws.FnExactPrunePlan', WHERE WHAT IT READS IS OF BULK AT MOST 1048576: true; the input reads as it did. -/
def fnExactPrunePlanUptoRow : OpenClaim := { program := "ytjohhjpoglaagaa", sum := "66709439b9ac785b313ea394bd17daee3b2a76d90d69c81682c14986ae7a0056", func := "loop.example/panecutter/laws.FnExactPrunePlan", spec := "fnExactPrunePlan", recurses := true, loops := true, apart := false, narrowed := true }
def FnExactPrunePlanUptoSaid : Prop := fnExactPrunePlanUptoRow.holds Try.pinned (OpenSpec.upto fnExactPrunePlanSpec)

/-- 'laws.FnExactValidSteps', WHERE WHAT IT READS IS OF BULK AT MOST 1048576: true; the input reads as it did. -/
def fnExactValidStepsUptoRow : OpenClaim := { program := "ytjohhjpoglaagaa", sum := "66709439b9ac785b313ea394bd17daee3b2a76d90d69c81682c14986ae7a0056", func := "loop.example/panecutter/laws.FnExactValidSteps", spec := "fnExactValidSteps", unfollowed := true, recurses := true, loops := true, apart := false, narrowed := true }
def FnExactValidStepsUptoSaid : Prop := fnExactValidStepsUptoRow.holds Try.pinned (OpenSpec.upto fnExactValidStepsSpec)

/-- 'laws.FnCountSteps', WHERE WHAT IT READS IS OF BULK AT MOST 1048576: true; the input reads as it did. -/
def fnCountStepsUptoRow : OpenClaim := { program := "ytjohhjpoglaagaa", sum := "66709439b9ac785b313ea394bd17daee3b2a76d90d69c81682c14986ae7a0056", func := "loop.example/panecutter/laws.FnCountSteps", spec := "fnCountSteps", recurses := true, apart := false, narrowed := true }
def FnCountStepsUptoSaid : Prop := fnCountStepsUptoRow.holds Try.pinned (OpenSpec.upto fnCountStepsSpec)

/-- 'laws.FnExactBestSteps', WHERE WHAT IT READS IS OF BULK AT MOST 1048576: true; the input reads as it did. -/
def fnExactBestStepsUptoRow : OpenClaim := { program := "ytjohhjpoglaagaa", sum := "66709439b9ac785b313ea394bd17daee3b2a76d90d69c81682c14986ae7a0056", func := "loop.example/panecutter/laws.FnExactBestSteps", spec := "fnExactBestSteps", recurses := true, loops := true, apart := false, narrowed := true }
def FnExactBestStepsUptoSaid : Prop := fnExactBestStepsUptoRow.holds Try.pinned (OpenSpec.upto fnExactBestStepsSpec)

end Rows
end Go.Proofs.Ytjohhjpoglaagaa
