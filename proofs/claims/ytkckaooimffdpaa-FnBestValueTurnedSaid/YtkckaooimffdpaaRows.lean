/-
  No cell of these rows narrows 'for every input' (looked for: loops, veiled, ifaces, maps, wideKeys, modest, calm, conditions, laid).
  DERIVED. THE GIVEN ROWS OF THIS SEAT. 4 by the template 'for every input the law returns true; each argument reads behind the call as it read before'; 0 by the template 'total and deterministic' (their statements: YtkckaooimffdpaaTotals.lean).
  GIVEN WITH THE SEED: the statements are not yours to turn. If you find one false, say at which input.
  Laid BY PROGRAM, IN A SANDBOX (cutbox-rows.mjs): the forced cells as the released guide's own fill.sh prints them over the translation b0d2c411adfb9bc2… (all of the seat's roots in one cut). By AI agents, Wed Nov 11 2026. No macro, syntax, notation, axiom, sorry.
-/
import Derived.Test.YtkckaooimffdpaaChecked
import GoSem.Claim
import GoSem.ClaimJoined
import GoSem.ClaimMapViews
import Derived.JoinedTies
import Derived.KernelRfl
namespace Go.Proofs.Ytkckaooimffdpaa
/- THE CELL 'sum', in the pinned program and in every row, IS THE sha256 OF THE DUMP (.gsa) THAT YtkckaooimffdpaaProg.lean LOADS. Nothing in Lean hashes anything: it is a label: what it is worth is what the hold of that sum in a sandbox is worth. -/
noncomputable def Try.pinned : Pinned := { name := "ytkckaooimffdpaa", sum := "b0d2c411adfb9bc287baae3ede910280c352abb45fcdebaeede7d39471be7ecd", checked := Try.checked }
namespace Rows
def none {H : Type} : Left H := { results := [], args := [] }

/-- 'laws.FnFewestBarsLess': WHATEVER THE INPUT: true; the input reads as it did. -/
def fnFewestBarsLessSpec : ChangeSpec := { name := "fnFewestBarsLess", fn := fun _ => fun
  | [d] => { results := [.lit (.bool true)], args := [d] }
  | _ => none }
def fnFewestBarsLessRow : OpenClaim := { program := "ytkckaooimffdpaa", sum := "b0d2c411adfb9bc287baae3ede910280c352abb45fcdebaeede7d39471be7ecd", func := "loop.example/panecutter/laws.FnFewestBarsLess", spec := "fnFewestBarsLess", unfollowed := true, recurses := true, apart := false }
def FnFewestBarsLessSaid : Prop := fnFewestBarsLessRow.holds Try.pinned (OpenSpec.ofChange fnFewestBarsLessSpec)

/-- ITS FALSE NEIGHBOUR: 'it returns false'. Refute it at one input. -/
def fnFewestBarsLessWrong : ChangeSpec := { name := "fnFewestBarsLess", fn := fun _ => fun
  | [d] => { results := [.lit (.bool false)], args := [d] }
  | _ => none }
def FnFewestBarsLessWrongFalsely : Prop := fnFewestBarsLessRow.holds Try.pinned (OpenSpec.ofChange fnFewestBarsLessWrong)

/-- 'laws.FnGoodBars': WHATEVER THE INPUT: true; the input reads as it did. -/
def fnGoodBarsSpec : ChangeSpec := { name := "fnGoodBars", fn := fun _ => fun
  | [d] => { results := [.lit (.bool true)], args := [d] }
  | _ => none }
def fnGoodBarsRow : OpenClaim := { program := "ytkckaooimffdpaa", sum := "b0d2c411adfb9bc287baae3ede910280c352abb45fcdebaeede7d39471be7ecd", func := "loop.example/panecutter/laws.FnGoodBars", spec := "fnGoodBars", apart := false }
def FnGoodBarsSaid : Prop := fnGoodBarsRow.holds Try.pinned (OpenSpec.ofChange fnGoodBarsSpec)

/-- ITS FALSE NEIGHBOUR: 'it returns false'. Refute it at one input. -/
def fnGoodBarsWrong : ChangeSpec := { name := "fnGoodBars", fn := fun _ => fun
  | [d] => { results := [.lit (.bool false)], args := [d] }
  | _ => none }
def FnGoodBarsWrongFalsely : Prop := fnGoodBarsRow.holds Try.pinned (OpenSpec.ofChange fnGoodBarsWrong)

/-- 'laws.FnBestValueMore': WHATEVER THE INPUT: true; the input reads as it did. -/
def fnBestValueMoreSpec : ChangeSpec := { name := "fnBestValueMore", fn := fun _ => fun
  | [d] => { results := [.lit (.bool true)], args := [d] }
  | _ => none }
def fnBestValueMoreRow : OpenClaim := { program := "ytkckaooimffdpaa", sum := "b0d2c411adfb9bc287baae3ede910280c352abb45fcdebaeede7d39471be7ecd", func := "loop.example/panecutter/laws.FnBestValueMore", spec := "fnBestValueMore", recurses := true, apart := false }
def FnBestValueMoreSaid : Prop := fnBestValueMoreRow.holds Try.pinned (OpenSpec.ofChange fnBestValueMoreSpec)

/-- ITS FALSE NEIGHBOUR: 'it returns false'. Refute it at one input. -/
def fnBestValueMoreWrong : ChangeSpec := { name := "fnBestValueMore", fn := fun _ => fun
  | [d] => { results := [.lit (.bool false)], args := [d] }
  | _ => none }
def FnBestValueMoreWrongFalsely : Prop := fnBestValueMoreRow.holds Try.pinned (OpenSpec.ofChange fnBestValueMoreWrong)

/-- 'laws.FnBestValueTurned': WHATEVER THE INPUT: true; the input reads as it did. -/
def fnBestValueTurnedSpec : ChangeSpec := { name := "fnBestValueTurned", fn := fun _ => fun
  | [d] => { results := [.lit (.bool true)], args := [d] }
  | _ => none }
def fnBestValueTurnedRow : OpenClaim := { program := "ytkckaooimffdpaa", sum := "b0d2c411adfb9bc287baae3ede910280c352abb45fcdebaeede7d39471be7ecd", func := "loop.example/panecutter/laws.FnBestValueTurned", spec := "fnBestValueTurned", recurses := true, apart := false }
def FnBestValueTurnedSaid : Prop := fnBestValueTurnedRow.holds Try.pinned (OpenSpec.ofChange fnBestValueTurnedSpec)

/-- ITS FALSE NEIGHBOUR: 'it returns false'. Refute it at one input. -/
def fnBestValueTurnedWrong : ChangeSpec := { name := "fnBestValueTurned", fn := fun _ => fun
  | [d] => { results := [.lit (.bool false)], args := [d] }
  | _ => none }
def FnBestValueTurnedWrongFalsely : Prop := fnBestValueTurnedRow.holds Try.pinned (OpenSpec.ofChange fnBestValueTurnedWrong)

/- THE SECOND FORM. 'bulk': how many values and letters a reading holds, each counted each time it is reached (what is shared counts as often as it is met; a slice's spare places count too). A statement '..UptoSaid' is the law's where the arguments, and the package variables that the reading takes, are together of bulk at most 1048576: NARROWER than '..Said'. Prove '..Said' where nothing that the law and all that it calls make is longer than what came in: it says more and counts as full. Else prove '..UptoSaid'. A law counts once. -/
mutual
def uptoBulk {H : Type} : DataW H → Nat
  | .lit (.string bytes) => bytes.length + 1
  | .lit _ => 1
  | .nil => 1
  | .ptr d => uptoBulk d + 1
  | .slice elems spare => uptoBulkAll elems + uptoBulkAll spare + 1
  | .agg parts => uptoBulkAll parts + 1
  | .iface _ d => uptoBulk d + 1
  | .map entries => uptoBulkEntries entries + 1
  | .held _ => 1
def uptoBulkAll {H : Type} : List (DataW H) → Nat
  | [] => 0
  | d :: r => uptoBulk d + uptoBulkAll r
def uptoBulkEntries {H : Type} : List (Lit × DataW H) → Nat
  | [] => 0
  | x :: r => uptoBulkEntry x + uptoBulkEntries r
def uptoBulkEntry {H : Type} : Lit × DataW H → Nat
  | (.string bytes, d) => bytes.length + uptoBulk d + 1
  | (_, d) => uptoBulk d + 1
 end
def uptoSmall : (H : Type) → List (DataW H) → Bool := fun _ ds => decide (uptoBulkAll ds ≤ 1048576)
def OpenSpec.upto (s : _root_.Go.ChangeSpec) : _root_.Go.OpenSpec := { _root_.Go.OpenSpec.ofChange s with cond := some uptoSmall }

/-- 'laws.FnFewestBarsLess', WHERE WHAT IT READS IS OF BULK AT MOST 1048576: true; the input reads as it did. -/
def fnFewestBarsLessUptoRow : OpenClaim := { program := "ytkckaooimffdpaa", sum := "b0d2c411adfb9bc287baae3ede910280c352abb45fcdebaeede7d39471be7ecd", func := "loop.example/panecutter/laws.FnFewestBarsLess", spec := "fnFewestBarsLess", unfollowed := true, recurses := true, apart := false, narrowed := true }
def FnFewestBarsLessUptoSaid : Prop := fnFewestBarsLessUptoRow.holds Try.pinned (OpenSpec.upto fnFewestBarsLessSpec)

/-- 'laws.FnGoodBars', WHERE WHAT IT READS IS OF BULK AT MOST 1048576: true; the input reads as it did. -/
def fnGoodBarsUptoRow : OpenClaim := { program := "ytkckaooimffdpaa", sum := "b0d2c411adfb9bc287baae3ede910280c352abb45fcdebaeede7d39471be7ecd", func := "loop.example/panecutter/laws.FnGoodBars", spec := "fnGoodBars", apart := false, narrowed := true }
def FnGoodBarsUptoSaid : Prop := fnGoodBarsUptoRow.holds Try.pinned (OpenSpec.upto fnGoodBarsSpec)

/-- 'laws.FnBestValueMore', WHERE WHAT IT READS IS OF BULK AT MOST 1048576: true; the input reads as it did. -/
def fnBestValueMoreUptoRow : OpenClaim := { program := "ytkckaooimffdpaa", sum := "b0d2c411adfb9bc287baae3ede910280c352abb45fcdebaeede7d39471be7ecd", func := "loop.example/panecutter/laws.FnBestValueMore", spec := "fnBestValueMore", recurses := true, apart := false, narrowed := true }
def FnBestValueMoreUptoSaid : Prop := fnBestValueMoreUptoRow.holds Try.pinned (OpenSpec.upto fnBestValueMoreSpec)

/-- 'laws.FnBestValueTurned', WHERE WHAT IT READS IS OF BULK AT MOST 1048576: true; the input reads as it did. -/
def fnBestValueTurnedUptoRow : OpenClaim := { program := "ytkckaooimffdpaa", sum := "b0d2c411adfb9bc287baae3ede910280c352abb45fcdebaeede7d39471be7ecd", func := "loop.example/panecutter/laws.FnBestValueTurned", spec := "fnBestValueTurned", recurses := true, apart := false, narrowed := true }
def FnBestValueTurnedUptoSaid : Prop := fnBestValueTurnedUptoRow.holds Try.pinned (OpenSpec.upto fnBestValueTurnedSpec)

end Rows
end Go.Proofs.Ytkckaooimffdpaa
