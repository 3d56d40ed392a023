/-
  No cell of these rows narrows 'for every input' (looked for: loops, veiled, ifaces, maps, wideKeys, modest, calm, conditions, laid).
  DERIVED. THE GIVEN ROWS OF THIS SEAT. 7 by the template 'for every input the law returns true; each argument reads behind the call as it read before'; 0 by the template 'total and deterministic' (their statements: YtmenkjloabficaaTotals.lean).
  GIVEN WITH THE SEED: the statements are not yours to turn. If you find one false, say at which input.
  Laid BY PROGRAM, IN A SANDBOX (cutbox-rows.mjs): the forced cells as the released guide's own fill.sh prints them over the translation f20d5df337641a3c… (all of the seat's roots in one cut). By AI agents, Wed Nov 11 2026. No macro, syntax, notation, axiom, sorry.
-/
import Derived.Test.YtmenkjloabficaaChecked
import GoSem.Claim
import GoSem.ClaimJoined
import GoSem.ClaimMapViews
import Derived.JoinedTies
import Derived.KernelRfl
namespace Go.Proofs.Ytmenkjloabficaa
/- THE CELL 'sum', in the pinned program and in every row, IS THE sha256 OF THE DUMP (.gsa) THAT YtmenkjloabficaaProg.lean LOADS. Nothing in Lean hashes anything: it is a label: what it is worth is what the hold of that sum in a sandbox is worth. -/
noncomputable def Try.pinned : Pinned := { name := "ytmenkjloabficaa", sum := "f20d5df337641a3cffa537acff30889467d963821a000a87881125eb230677dc", checked := Try.checked }
namespace Rows
def none {H : Type} : Left H := { results := [], args := [] }

/-- 'laws.FnExactPanesOf': WHATEVER THE INPUT: true; the input reads as it did. -/
def fnExactPanesOfSpec : ChangeSpec := { name := "fnExactPanesOf", fn := fun _ => fun
  | [d] => { results := [.lit (.bool true)], args := [d] }
  | _ => none }
def fnExactPanesOfRow : OpenClaim := { program := "ytmenkjloabficaa", sum := "f20d5df337641a3cffa537acff30889467d963821a000a87881125eb230677dc", func := "loop.example/panecutter/laws.FnExactPanesOf", spec := "fnExactPanesOf", unfollowed := true, recurses := true, apart := false }
def FnExactPanesOfSaid : Prop := fnExactPanesOfRow.holds Try.pinned (OpenSpec.ofChange fnExactPanesOfSpec)

/-- ITS FALSE NEIGHBOUR: 'it returns false'. Refute it at one input. -/
def fnExactPanesOfWrong : ChangeSpec := { name := "fnExactPanesOf", fn := fun _ => fun
  | [d] => { results := [.lit (.bool false)], args := [d] }
  | _ => none }
def FnExactPanesOfWrongFalsely : Prop := fnExactPanesOfRow.holds Try.pinned (OpenSpec.ofChange fnExactPanesOfWrong)

/-- 'laws.FnPanesOf': WHATEVER THE INPUT: true; the input reads as it did. -/
def fnPanesOfSpec : ChangeSpec := { name := "fnPanesOf", fn := fun _ => fun
  | [d] => { results := [.lit (.bool true)], args := [d] }
  | _ => none }
def fnPanesOfRow : OpenClaim := { program := "ytmenkjloabficaa", sum := "f20d5df337641a3cffa537acff30889467d963821a000a87881125eb230677dc", func := "loop.example/panecutter/laws.FnPanesOf", spec := "fnPanesOf", unfollowed := true, recurses := true, apart := false }
def FnPanesOfSaid : Prop := fnPanesOfRow.holds Try.pinned (OpenSpec.ofChange fnPanesOfSpec)

/-- ITS FALSE NEIGHBOUR: 'it returns false'. Refute it at one input. -/
def fnPanesOfWrong : ChangeSpec := { name := "fnPanesOf", fn := fun _ => fun
  | [d] => { results := [.lit (.bool false)], args := [d] }
  | _ => none }
def FnPanesOfWrongFalsely : Prop := fnPanesOfRow.holds Try.pinned (OpenSpec.ofChange fnPanesOfWrong)

/-- 'laws.FnExactLackOf': WHATEVER THE INPUT: true; the input reads as it did. -/
def fnExactLackOfSpec : ChangeSpec := { name := "fnExactLackOf", fn := fun _ => fun
  | [d1, d2] => { results := [.lit (.bool true)], args := [d1, d2] }
  | _ => none }
def fnExactLackOfRow : OpenClaim := { program := "ytmenkjloabficaa", sum := "f20d5df337641a3cffa537acff30889467d963821a000a87881125eb230677dc", func := "loop.example/panecutter/laws.FnExactLackOf", spec := "fnExactLackOf", unfollowed := true, recurses := true, apart := false }
def FnExactLackOfSaid : Prop := fnExactLackOfRow.holds Try.pinned (OpenSpec.ofChange fnExactLackOfSpec)

/-- ITS FALSE NEIGHBOUR: 'it returns false'. Refute it at one input. -/
def fnExactLackOfWrong : ChangeSpec := { name := "fnExactLackOf", fn := fun _ => fun
  | [d1, d2] => { results := [.lit (.bool false)], args := [d1, d2] }
  | _ => none }
def FnExactLackOfWrongFalsely : Prop := fnExactLackOfRow.holds Try.pinned (OpenSpec.ofChange fnExactLackOfWrong)

/-- 'laws.FnLackOf': WHATEVER THE INPUT: true; the input reads as it did. -/
def fnLackOfSpec : ChangeSpec := { name := "fnLackOf", fn := fun _ => fun
  | [d] => { results := [.lit (.bool true)], args := [d] }
  | _ => none }
def fnLackOfRow : OpenClaim := { program := "ytmenkjloabficaa", sum := "f20d5df337641a3cffa537acff30889467d963821a000a87881125eb230677dc", func := "loop.example/panecutter/laws.FnLackOf", spec := "fnLackOf", unfollowed := true, recurses := true, apart := false }
def FnLackOfSaid : Prop := fnLackOfRow.holds Try.pinned (OpenSpec.ofChange fnLackOfSpec)

/-- ITS FALSE NEIGHBOUR: 'it returns false'. Refute it at one input. -/
def fnLackOfWrong : ChangeSpec := { name := "fnLackOf", fn := fun _ => fun
  | [d] => { results := [.lit (.bool false)], args := [d] }
  | _ => none }
def FnLackOfWrongFalsely : Prop := fnLackOfRow.holds Try.pinned (OpenSpec.ofChange fnLackOfWrong)

/-- 'laws.FnExactMergeOrders': WHATEVER THE INPUT: true; the input reads as it did. -/
def fnExactMergeOrdersSpec : ChangeSpec := { name := "fnExactMergeOrders", fn := fun _ => fun
  | [d1, d2] => { results := [.lit (.bool true)], args := [d1, d2] }
  | _ => none }
def fnExactMergeOrdersRow : OpenClaim := { program := "ytmenkjloabficaa", sum := "f20d5df337641a3cffa537acff30889467d963821a000a87881125eb230677dc", func := "loop.example/panecutter/laws.FnExactMergeOrders", spec := "fnExactMergeOrders", unfollowed := true, recurses := true, apart := false }
def FnExactMergeOrdersSaid : Prop := fnExactMergeOrdersRow.holds Try.pinned (OpenSpec.ofChange fnExactMergeOrdersSpec)

/-- ITS FALSE NEIGHBOUR: 'it returns false'. Refute it at one input. -/
def fnExactMergeOrdersWrong : ChangeSpec := { name := "fnExactMergeOrders", fn := fun _ => fun
  | [d1, d2] => { results := [.lit (.bool false)], args := [d1, d2] }
  | _ => none }
def FnExactMergeOrdersWrongFalsely : Prop := fnExactMergeOrdersRow.holds Try.pinned (OpenSpec.ofChange fnExactMergeOrdersWrong)

/-- 'laws.FnMergeOrders': WHATEVER THE INPUT: true; the input reads as it did. -/
def fnMergeOrdersSpec : ChangeSpec := { name := "fnMergeOrders", fn := fun _ => fun
  | [d] => { results := [.lit (.bool true)], args := [d] }
  | _ => none }
def fnMergeOrdersRow : OpenClaim := { program := "ytmenkjloabficaa", sum := "f20d5df337641a3cffa537acff30889467d963821a000a87881125eb230677dc", func := "loop.example/panecutter/laws.FnMergeOrders", spec := "fnMergeOrders", unfollowed := true, recurses := true, apart := false }
def FnMergeOrdersSaid : Prop := fnMergeOrdersRow.holds Try.pinned (OpenSpec.ofChange fnMergeOrdersSpec)

/-- ITS FALSE NEIGHBOUR: 'it returns false'. Refute it at one input. -/
def fnMergeOrdersWrong : ChangeSpec := { name := "fnMergeOrders", fn := fun _ => fun
  | [d] => { results := [.lit (.bool false)], args := [d] }
  | _ => none }
def FnMergeOrdersWrongFalsely : Prop := fnMergeOrdersRow.holds Try.pinned (OpenSpec.ofChange fnMergeOrdersWrong)

/-- 'laws.FnMergeOrdersBack': WHATEVER THE INPUT: true; the input reads as it did. -/
def fnMergeOrdersBackSpec : ChangeSpec := { name := "fnMergeOrdersBack", fn := fun _ => fun
  | [d] => { results := [.lit (.bool true)], args := [d] }
  | _ => none }
def fnMergeOrdersBackRow : OpenClaim := { program := "ytmenkjloabficaa", sum := "f20d5df337641a3cffa537acff30889467d963821a000a87881125eb230677dc", func := "loop.example/panecutter/laws.FnMergeOrdersBack", spec := "fnMergeOrdersBack", unfollowed := true, recurses := true, apart := false }
def FnMergeOrdersBackSaid : Prop := fnMergeOrdersBackRow.holds Try.pinned (OpenSpec.ofChange fnMergeOrdersBackSpec)

/-- ITS FALSE NEIGHBOUR: 'it returns false'. Refute it at one input. -/
def fnMergeOrdersBackWrong : ChangeSpec := { name := "fnMergeOrdersBack", fn := fun _ => fun
  | [d] => { results := [.lit (.bool false)], args := [d] }
  | _ => none }
def FnMergeOrdersBackWrongFalsely : Prop := fnMergeOrdersBackRow.holds Try.pinned (OpenSpec.ofChange fnMergeOrdersBackWrong)

/- THE SECOND FORM. 'bulk': how many values and letters a reading holds, each counted each time it is reached (what is shared counts as often as it is met; a slice's spare places count too). A statement '..UptoSaid' is the law's where the arguments, and the package variables that the reading takes, are together of bulk at most 1048576: NARROWER than '..Said'. Prove '..Said' where nothing that the law and all that it calls make is longer than what came in: it says more and counts as full. Else prove '..UptoSaid'. A law counts once. -/
mutual
def uptoBulk {H : Type} : DataW H → Nat
  | .lit (.string bytes) => bytes.length + 1
  | .lit _ => 1
  | .nil => 1
  | .ptr d => uptoBulk d + 1
  | .slice elems spare => uptoBulkAll elems + uptoBulkAll spare + 1
  | .agg parts => uptoBulkAll parts + 1
  | .iface _ d => uptoBulk d + 1
  | .map entries => uptoBulkEntries entries + 1
  | .held _ => 1
def uptoBulkAll {H : Type} : List (DataW H) → Nat
  | [] => 0
  | d :: r => uptoBulk d + uptoBulkAll r
def uptoBulkEntries {H : Type} : List (Lit × DataW H) → Nat
  | [] => 0
  | x :: r => uptoBulkEntry x + uptoBulkEntries r
def uptoBulkEntry {H : Type} : Lit × DataW H → Nat
  | (.string bytes, d) => bytes.length + uptoBulk d + 1
  | (_, d) => uptoBulk d + 1
 end
def uptoSmall : (H : Type) → List (DataW H) → Bool := fun _ ds => decide (uptoBulkAll ds ≤ 1048576)
def OpenSpec.upto (s : _root_.Go.ChangeSpec) : _root_.Go.OpenSpec := { _root_.Go.OpenSpec.ofChange s with cond := some uptoSmall }

/-- 'laws.FnExactPanesOf', WHERE WHAT IT READS IS OF BULK AT MOST 1048576: true; the input reads as it did. -/
def fnExactPanesOfUptoRow : OpenClaim := { program := "ytmenkjloabficaa", sum := "f20d5df337641a3cffa537acff30889467d963821a000a87881125eb230677dc", func := "loop.example/panecutter/laws.FnExactPanesOf", spec := "fnExactPanesOf", unfollowed := true, recurses := true, apart := false, narrowed := true }
def FnExactPanesOfUptoSaid : Prop := fnExactPanesOfUptoRow.holds Try.pinned (OpenSpec.upto fnExactPanesOfSpec)

/-- 'laws.FnPanesOf', WHERE WHAT IT READS IS OF BULK AT MOST 1048576: true; the input reads as it did. -/
def fnPanesOfUptoRow : OpenClaim := { program := "ytmenkjloabficaa", sum := "f20d5df337641a3cffa537acff30889467d963821a000a87881125eb230677dc", func := "loop.example/panecutter/laws.FnPanesOf", spec := "fnPanesOf", unfollowed := true, recurses := true, apart := false, narrowed := true }
def FnPanesOfUptoSaid : Prop := fnPanesOfUptoRow.holds Try.pinned (OpenSpec.upto fnPanesOfSpec)

/-- 'laws.FnExactLackOf', WHERE WHAT IT READS IS OF BULK AT MOST 1048576: true; the input reads as it did. -/
def fnExactLackOfUptoRow : OpenClaim := { program := "ytmenkjloabficaa", sum := "f20d5df337641a3cffa537acff30889467d963821a000a87881125eb230677dc", func := "loop.example/panecutter/laws.FnExactLackOf", spec := "fnExactLackOf", unfollowed := true, recurses := true, apart := false, narrowed := true }
def FnExactLackOfUptoSaid : Prop := fnExactLackOfUptoRow.holds Try.pinned (OpenSpec.upto fnExactLackOfSpec)

/-- 'laws.FnLackOf', WHERE WHAT IT READS IS OF BULK AT MOST 1048576: true; the input reads as it did. -/
def fnLackOfUptoRow : OpenClaim := { program := "ytmenkjloabficaa", sum := "f20d5df337641a3cffa537acff30889467d963821a000a87881125eb230677dc", func := "loop.example/panecutter/laws.FnLackOf", spec := "fnLackOf", unfollowed := true, recurses := true, apart := false, narrowed := true }
def FnLackOfUptoSaid : Prop := fnLackOfUptoRow.holds Try.pinned (OpenSpec.upto fnLackOfSpec)

/-- 'laws.FnExactMergeOrders', WHERE WHAT IT READS IS OF BULK AT MOST 1048576: true; the input reads as it did. -/
def fnExactMergeOrdersUptoRow : OpenClaim := { program := "ytmenkjloabficaa", sum := "f20d5df337641a3cffa537acff30889467d963821a000a87881125eb230677dc", func := "loop.example/panecutter/laws.FnExactMergeOrders", spec := "fnExactMergeOrders", unfollowed := true, recurses := true, apart := false, narrowed := true }
def FnExactMergeOrdersUptoSaid : Prop := fnExactMergeOrdersUptoRow.holds Try.pinned (OpenSpec.upto fnExactMergeOrdersSpec)

/-- 'laws.FnMergeOrders', WHERE WHAT IT READS IS OF BULK AT MOST 1048576: true; the input reads as it did. -/
def fnMergeOrdersUptoRow : OpenClaim := { program := "ytmenkjloabficaa", sum := "f20d5df337641a3cffa537acff30889467d963821a000a87881125eb230677dc", func := "loop.example/panecutter/laws.FnMergeOrders", spec := "fnMergeOrders", unfollowed := true, recurses := true, apart := false, narrowed := true }
def FnMergeOrdersUptoSaid : Prop := fnMergeOrdersUptoRow.holds Try.pinned (OpenSpec.upto fnMergeOrdersSpec)

/-- 'laws.FnMergeOrdersBack', WHERE WHAT IT READS IS OF BULK AT MOST 1048576: true; the input reads as it did. -/
def fnMergeOrdersBackUptoRow : OpenClaim := { program := "ytmenkjloabficaa", sum := "f20d5df337641a3cffa537acff30889467d963821a000a87881125eb230677dc", func := "loop.example/panecutter/laws.FnMergeOrdersBack", spec := "fnMergeOrdersBack", unfollowed := true, recurses := true, apart := false, narrowed := true }
def FnMergeOrdersBackUptoSaid : Prop := fnMergeOrdersBackUptoRow.holds Try.pinned (OpenSpec.upto fnMergeOrdersBackSpec)

end Rows
end Go.Proofs.Ytmenkjloabficaa
