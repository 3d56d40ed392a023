/-
  No cell of these rows narrows 'for every input' (looked for: loops, veiled, ifaces, maps, wideKeys, modest, calm, conditions, laid).
  DERIVED. THE GIVEN ROWS OF THIS SEAT. 11 by the template 'for every input the law returns true; each argument reads behind the call as it read before'; 0 by the template 'total and deterministic' (their statements: YtcfhncckeedipaaTotals.lean).
  GIVEN WITH THE SEED: the statements are not yours to turn. If you find one false, say at which input.
  Laid BY PROGRAM, IN A SANDBOX (cutbox-rows.mjs): the forced cells as the released guide's own fill.sh prints them over the translation 19aa3bc5d423ef63… (all of the seat's roots in one cut). By AI agents, Wed Nov 11 2026. No macro, syntax, notation, axiom, sorry.
-/
import Derived.Test.YtcfhncckeedipaaChecked
import GoSem.Claim
import GoSem.ClaimJoined
import GoSem.ClaimMapViews
import Derived.JoinedTies
import Derived.KernelRfl
namespace Go.Proofs.Ytcfhncckeedipaa
/- THE CELL 'sum', in the pinned program and in every row, IS THE sha256 OF THE DUMP (.gsa) THAT YtcfhncckeedipaaProg.lean LOADS. Nothing in Lean hashes anything: it is a label: what it is worth is what the hold of that sum in a sandbox is worth. -/
noncomputable def Try.pinned : Pinned := { name := "ytcfhncckeedipaa", sum := "19aa3bc5d423ef63e4fe97042db74a2f561cb13763f4f70ce4fb9c469b7398ed", checked := Try.checked }
namespace Rows
def none {H : Type} : Left H := { results := [], args := [] }

/-- 'laws.FnEndsOf': WHATEVER THE INPUT: true; the input reads as it did. -/
def fnEndsOfSpec : ChangeSpec := { name := "fnEndsOf", fn := fun _ => fun
  | [d] => { results := [.lit (.bool true)], args := [d] }
  | _ => none }
def fnEndsOfRow : OpenClaim := { program := "ytcfhncckeedipaa", sum := "19aa3bc5d423ef63e4fe97042db74a2f561cb13763f4f70ce4fb9c469b7398ed", func := "loop.example/panecutter/laws.FnEndsOf", spec := "fnEndsOf", apart := false }
def FnEndsOfSaid : Prop := fnEndsOfRow.holds Try.pinned (OpenSpec.ofChange fnEndsOfSpec)

/-- ITS FALSE NEIGHBOUR: 'it returns false'. Refute it at one input. -/
def fnEndsOfWrong : ChangeSpec := { name := "fnEndsOf", fn := fun _ => fun
  | [d] => { results := [.lit (.bool false)], args := [d] }
  | _ => none }
def FnEndsOfWrongFalsely : Prop := fnEndsOfRow.holds Try.pinned (OpenSpec.ofChange fnEndsOfWrong)

/-- 'laws.FnLiftsOf': WHATEVER THE INPUT: true; the input reads as it did. -/
def fnLiftsOfSpec : ChangeSpec := { name := "fnLiftsOf", fn := fun _ => fun
  | [d] => { results := [.lit (.bool true)], args := [d] }
  | _ => none }
def fnLiftsOfRow : OpenClaim := { program := "ytcfhncckeedipaa", sum := "19aa3bc5d423ef63e4fe97042db74a2f561cb13763f4f70ce4fb9c469b7398ed", func := "loop.example/panecutter/laws.FnLiftsOf", spec := "fnLiftsOf", apart := false }
def FnLiftsOfSaid : Prop := fnLiftsOfRow.holds Try.pinned (OpenSpec.ofChange fnLiftsOfSpec)

/-- ITS FALSE NEIGHBOUR: 'it returns false'. Refute it at one input. -/
def fnLiftsOfWrong : ChangeSpec := { name := "fnLiftsOf", fn := fun _ => fun
  | [d] => { results := [.lit (.bool false)], args := [d] }
  | _ => none }
def FnLiftsOfWrongFalsely : Prop := fnLiftsOfRow.holds Try.pinned (OpenSpec.ofChange fnLiftsOfWrong)

/-- 'laws.FnStacksFor': WHATEVER THE INPUT: true; the input reads as it did. -/
def fnStacksForSpec : ChangeSpec := { name := "fnStacksFor", fn := fun _ => fun
  | [d] => { results := [.lit (.bool true)], args := [d] }
  | _ => none }
def fnStacksForRow : OpenClaim := { program := "ytcfhncckeedipaa", sum := "19aa3bc5d423ef63e4fe97042db74a2f561cb13763f4f70ce4fb9c469b7398ed", func := "loop.example/panecutter/laws.FnStacksFor", spec := "fnStacksFor", unfollowed := true, recurses := true, apart := false }
def FnStacksForSaid : Prop := fnStacksForRow.holds Try.pinned (OpenSpec.ofChange fnStacksForSpec)

/-- ITS FALSE NEIGHBOUR: 'it returns false'. Refute it at one input. -/
def fnStacksForWrong : ChangeSpec := { name := "fnStacksFor", fn := fun _ => fun
  | [d] => { results := [.lit (.bool false)], args := [d] }
  | _ => none }
def FnStacksForWrongFalsely : Prop := fnStacksForRow.holds Try.pinned (OpenSpec.ofChange fnStacksForWrong)

/-- 'laws.FnLongestRise': WHATEVER THE INPUT: true; the input reads as it did. -/
def fnLongestRiseSpec : ChangeSpec := { name := "fnLongestRise", fn := fun _ => fun
  | [d] => { results := [.lit (.bool true)], args := [d] }
  | _ => none }
def fnLongestRiseRow : OpenClaim := { program := "ytcfhncckeedipaa", sum := "19aa3bc5d423ef63e4fe97042db74a2f561cb13763f4f70ce4fb9c469b7398ed", func := "loop.example/panecutter/laws.FnLongestRise", spec := "fnLongestRise", apart := false }
def FnLongestRiseSaid : Prop := fnLongestRiseRow.holds Try.pinned (OpenSpec.ofChange fnLongestRiseSpec)

/-- ITS FALSE NEIGHBOUR: 'it returns false'. Refute it at one input. -/
def fnLongestRiseWrong : ChangeSpec := { name := "fnLongestRise", fn := fun _ => fun
  | [d] => { results := [.lit (.bool false)], args := [d] }
  | _ => none }
def FnLongestRiseWrongFalsely : Prop := fnLongestRiseRow.holds Try.pinned (OpenSpec.ofChange fnLongestRiseWrong)

/-- 'laws.FnLongestRiseFall': WHATEVER THE INPUT: true; the input reads as it did. -/
def fnLongestRiseFallSpec : ChangeSpec := { name := "fnLongestRiseFall", fn := fun _ => fun
  | [d] => { results := [.lit (.bool true)], args := [d] }
  | _ => none }
def fnLongestRiseFallRow : OpenClaim := { program := "ytcfhncckeedipaa", sum := "19aa3bc5d423ef63e4fe97042db74a2f561cb13763f4f70ce4fb9c469b7398ed", func := "loop.example/panecutter/laws.FnLongestRiseFall", spec := "fnLongestRiseFall", apart := false }
def FnLongestRiseFallSaid : Prop := fnLongestRiseFallRow.holds Try.pinned (OpenSpec.ofChange fnLongestRiseFallSpec)

/-- ITS FALSE NEIGHBOUR: 'it returns false'. Refute it at one input. -/
def fnLongestRiseFallWrong : ChangeSpec := { name := "fnLongestRiseFall", fn := fun _ => fun
  | [d] => { results := [.lit (.bool false)], args := [d] }
  | _ => none }
def FnLongestRiseFallWrongFalsely : Prop := fnLongestRiseFallRow.holds Try.pinned (OpenSpec.ofChange fnLongestRiseFallWrong)

/-- 'laws.FnPutStacks': WHATEVER THE INPUT: true; the input reads as it did. -/
def fnPutStacksSpec : ChangeSpec := { name := "fnPutStacks", fn := fun _ => fun
  | [d] => { results := [.lit (.bool true)], args := [d] }
  | _ => none }
def fnPutStacksRow : OpenClaim := { program := "ytcfhncckeedipaa", sum := "19aa3bc5d423ef63e4fe97042db74a2f561cb13763f4f70ce4fb9c469b7398ed", func := "loop.example/panecutter/laws.FnPutStacks", spec := "fnPutStacks", unfollowed := true, recurses := true, apart := false }
def FnPutStacksSaid : Prop := fnPutStacksRow.holds Try.pinned (OpenSpec.ofChange fnPutStacksSpec)

/-- ITS FALSE NEIGHBOUR: 'it returns false'. Refute it at one input. -/
def fnPutStacksWrong : ChangeSpec := { name := "fnPutStacks", fn := fun _ => fun
  | [d] => { results := [.lit (.bool false)], args := [d] }
  | _ => none }
def FnPutStacksWrongFalsely : Prop := fnPutStacksRow.holds Try.pinned (OpenSpec.ofChange fnPutStacksWrong)

/-- 'laws.FnTakeStacks': WHATEVER THE INPUT: true; the input reads as it did. -/
def fnTakeStacksSpec : ChangeSpec := { name := "fnTakeStacks", fn := fun _ => fun
  | [d] => { results := [.lit (.bool true)], args := [d] }
  | _ => none }
def fnTakeStacksRow : OpenClaim := { program := "ytcfhncckeedipaa", sum := "19aa3bc5d423ef63e4fe97042db74a2f561cb13763f4f70ce4fb9c469b7398ed", func := "loop.example/panecutter/laws.FnTakeStacks", spec := "fnTakeStacks", apart := false }
def FnTakeStacksSaid : Prop := fnTakeStacksRow.holds Try.pinned (OpenSpec.ofChange fnTakeStacksSpec)

/-- ITS FALSE NEIGHBOUR: 'it returns false'. Refute it at one input. -/
def fnTakeStacksWrong : ChangeSpec := { name := "fnTakeStacks", fn := fun _ => fun
  | [d] => { results := [.lit (.bool false)], args := [d] }
  | _ => none }
def FnTakeStacksWrongFalsely : Prop := fnTakeStacksRow.holds Try.pinned (OpenSpec.ofChange fnTakeStacksWrong)

/-- 'laws.FnLeftOver': WHATEVER THE INPUT: true; the input reads as it did. -/
def fnLeftOverSpec : ChangeSpec := { name := "fnLeftOver", fn := fun _ => fun
  | [d] => { results := [.lit (.bool true)], args := [d] }
  | _ => none }
def fnLeftOverRow : OpenClaim := { program := "ytcfhncckeedipaa", sum := "19aa3bc5d423ef63e4fe97042db74a2f561cb13763f4f70ce4fb9c469b7398ed", func := "loop.example/panecutter/laws.FnLeftOver", spec := "fnLeftOver", apart := false }
def FnLeftOverSaid : Prop := fnLeftOverRow.holds Try.pinned (OpenSpec.ofChange fnLeftOverSpec)

/-- ITS FALSE NEIGHBOUR: 'it returns false'. Refute it at one input. -/
def fnLeftOverWrong : ChangeSpec := { name := "fnLeftOver", fn := fun _ => fun
  | [d] => { results := [.lit (.bool false)], args := [d] }
  | _ => none }
def FnLeftOverWrongFalsely : Prop := fnLeftOverRow.holds Try.pinned (OpenSpec.ofChange fnLeftOverWrong)

/-- 'laws.FnCoverArea': WHATEVER THE INPUT: true; the input reads as it did. -/
def fnCoverAreaSpec : ChangeSpec := { name := "fnCoverArea", fn := fun _ => fun
  | [d] => { results := [.lit (.bool true)], args := [d] }
  | _ => none }
def fnCoverAreaRow : OpenClaim := { program := "ytcfhncckeedipaa", sum := "19aa3bc5d423ef63e4fe97042db74a2f561cb13763f4f70ce4fb9c469b7398ed", func := "loop.example/panecutter/laws.FnCoverArea", spec := "fnCoverArea", apart := false }
def FnCoverAreaSaid : Prop := fnCoverAreaRow.holds Try.pinned (OpenSpec.ofChange fnCoverAreaSpec)

/-- ITS FALSE NEIGHBOUR: 'it returns false'. Refute it at one input. -/
def fnCoverAreaWrong : ChangeSpec := { name := "fnCoverArea", fn := fun _ => fun
  | [d] => { results := [.lit (.bool false)], args := [d] }
  | _ => none }
def FnCoverAreaWrongFalsely : Prop := fnCoverAreaRow.holds Try.pinned (OpenSpec.ofChange fnCoverAreaWrong)

/-- 'laws.FnCoverAreaMore': WHATEVER THE INPUT: true; the input reads as it did. -/
def fnCoverAreaMoreSpec : ChangeSpec := { name := "fnCoverAreaMore", fn := fun _ => fun
  | [d] => { results := [.lit (.bool true)], args := [d] }
  | _ => none }
def fnCoverAreaMoreRow : OpenClaim := { program := "ytcfhncckeedipaa", sum := "19aa3bc5d423ef63e4fe97042db74a2f561cb13763f4f70ce4fb9c469b7398ed", func := "loop.example/panecutter/laws.FnCoverAreaMore", spec := "fnCoverAreaMore", apart := false }
def FnCoverAreaMoreSaid : Prop := fnCoverAreaMoreRow.holds Try.pinned (OpenSpec.ofChange fnCoverAreaMoreSpec)

/-- ITS FALSE NEIGHBOUR: 'it returns false'. Refute it at one input. -/
def fnCoverAreaMoreWrong : ChangeSpec := { name := "fnCoverAreaMore", fn := fun _ => fun
  | [d] => { results := [.lit (.bool false)], args := [d] }
  | _ => none }
def FnCoverAreaMoreWrongFalsely : Prop := fnCoverAreaMoreRow.holds Try.pinned (OpenSpec.ofChange fnCoverAreaMoreWrong)

/-- 'laws.FnApartBoxes': WHATEVER THE INPUT: true; the input reads as it did. -/
def fnApartBoxesSpec : ChangeSpec := { name := "fnApartBoxes", fn := fun _ => fun
  | [d] => { results := [.lit (.bool true)], args := [d] }
  | _ => none }
def fnApartBoxesRow : OpenClaim := { program := "ytcfhncckeedipaa", sum := "19aa3bc5d423ef63e4fe97042db74a2f561cb13763f4f70ce4fb9c469b7398ed", func := "loop.example/panecutter/laws.FnApartBoxes", spec := "fnApartBoxes", recurses := true, apart := false }
def FnApartBoxesSaid : Prop := fnApartBoxesRow.holds Try.pinned (OpenSpec.ofChange fnApartBoxesSpec)

/-- ITS FALSE NEIGHBOUR: 'it returns false'. Refute it at one input. -/
def fnApartBoxesWrong : ChangeSpec := { name := "fnApartBoxes", fn := fun _ => fun
  | [d] => { results := [.lit (.bool false)], args := [d] }
  | _ => none }
def FnApartBoxesWrongFalsely : Prop := fnApartBoxesRow.holds Try.pinned (OpenSpec.ofChange fnApartBoxesWrong)

/- THE SECOND FORM. 'bulk': how many values and letters a reading holds, each counted each time it is reached (what is shared counts as often as it is met; a slice's spare places count too). A statement '..UptoSaid' is the law's where the arguments, and the package variables that the reading takes, are together of bulk at most 1048576: NARROWER than '..Said'. Prove '..Said' where nothing that the law and all that it calls make is longer than what came in: it says more and counts as full. Else prove '..UptoSaid'. A law counts once. -/
mutual
def uptoBulk {H : Type} : DataW H → Nat
  | .lit (.string bytes) => bytes.length + 1
  | .lit _ => 1
  | .nil => 1
  | .ptr d => uptoBulk d + 1
  | .slice elems spare => uptoBulkAll elems + uptoBulkAll spare + 1
  | .agg parts => uptoBulkAll parts + 1
  | .iface _ d => uptoBulk d + 1
  | .map entries => uptoBulkEntries entries + 1
  | .held _ => 1
def uptoBulkAll {H : Type} : List (DataW H) → Nat
  | [] => 0
  | d :: r => uptoBulk d + uptoBulkAll r
def uptoBulkEntries {H : Type} : List (Lit × DataW H) → Nat
  | [] => 0
  | x :: r => uptoBulkEntry x + uptoBulkEntries r
def uptoBulkEntry {H : Type} : Lit × DataW H → Nat
  | (.string bytes, d) => bytes.length + uptoBulk d + 1
  | (_, d) => uptoBulk d + 1
 end
def uptoSmall : (H : Type) → List (DataW H) → Bool := fun _ ds => decide (uptoBulkAll ds ≤ 1048576)
def OpenSpec.upto (s : _root_.Go.ChangeSpec) : _root_.Go.OpenSpec := { _root_.Go.OpenSpec.ofChange s with cond := some uptoSmall }

/-- 'laws.FnEndsOf', WHERE WHAT IT READS IS OF BULK AT MOST 1048576: true; the input reads as it did. -/
def fnEndsOfUptoRow : OpenClaim := { program := "ytcfhncckeedipaa", sum := "19aa3bc5d423ef63e4fe97042db74a2f561cb13763f4f70ce4fb9c469b7398ed", func := "loop.example/panecutter/laws.FnEndsOf", spec := "fnEndsOf", apart := false, narrowed := true }
def FnEndsOfUptoSaid : Prop := fnEndsOfUptoRow.holds Try.pinned (OpenSpec.upto fnEndsOfSpec)

/-- 'laws.FnLiftsOf', WHERE WHAT IT READS IS OF BULK AT MOST 1048576: true; the input reads as it did. -/
def fnLiftsOfUptoRow : OpenClaim := { program := "ytcfhncckeedipaa", sum := "19aa3bc5d423ef63e4fe97042db74a2f561cb13763f4f70ce4fb9c469b7398ed", func := "loop.example/panecutter/laws.FnLiftsOf", spec := "fnLiftsOf", apart := false, narrowed := true }
def FnLiftsOfUptoSaid : Prop := fnLiftsOfUptoRow.holds Try.pinned (OpenSpec.upto fnLiftsOfSpec)

/-- 'laws.FnStacksFor', WHERE WHAT IT READS IS OF BULK AT MOST 1048576: true; the input reads as it did. -/
def fnStacksForUptoRow : OpenClaim := { program := "ytcfhncckeedipaa", sum := "19aa3bc5d423ef63e4fe97042db74a2f561cb13763f4f70ce4fb9c469b7398ed", func := "loop.example/panecutter/laws.FnStacksFor", spec := "fnStacksFor", unfollowed := true, recurses := true, apart := false, narrowed := true }
def FnStacksForUptoSaid : Prop := fnStacksForUptoRow.holds Try.pinned (OpenSpec.upto fnStacksForSpec)

/-- 'laws.FnLongestRise', WHERE WHAT IT READS IS OF BULK AT MOST 1048576: true; the input reads as it did. -/
def fnLongestRiseUptoRow : OpenClaim := { program := "ytcfhncckeedipaa", sum := "19aa3bc5d423ef63e4fe97042db74a2f561cb13763f4f70ce4fb9c469b7398ed", func := "loop.example/panecutter/laws.FnLongestRise", spec := "fnLongestRise", apart := false, narrowed := true }
def FnLongestRiseUptoSaid : Prop := fnLongestRiseUptoRow.holds Try.pinned (OpenSpec.upto fnLongestRiseSpec)

/-- 'laws.FnLongestRiseFall', WHERE WHAT IT READS IS OF BULK AT MOST 1048576: true; the input reads as it did. -/
def fnLongestRiseFallUptoRow : OpenClaim := { program := "ytcfhncckeedipaa", sum := "19aa3bc5d423ef63e4fe97042db74a2f561cb13763f4f70ce4fb9c469b7398ed", func := "loop.example/panecutter/laws.FnLongestRiseFall", spec := "fnLongestRiseFall", apart := false, narrowed := true }
def FnLongestRiseFallUptoSaid : Prop := fnLongestRiseFallUptoRow.holds Try.pinned (OpenSpec.upto fnLongestRiseFallSpec)

/-- 'laws.FnPutStacks', WHERE WHAT IT READS IS OF BULK AT MOST 1048576: true; the input reads as it did. -/
def fnPutStacksUptoRow : OpenClaim := { program := "ytcfhncckeedipaa", sum := "19aa3bc5d423ef63e4fe97042db74a2f561cb13763f4f70ce4fb9c469b7398ed", func := "loop.example/panecutter/laws.FnPutStacks", spec := "fnPutStacks", unfollowed := true, recurses := true, apart := false, narrowed := true }
def FnPutStacksUptoSaid : Prop := fnPutStacksUptoRow.holds Try.pinned (OpenSpec.upto fnPutStacksSpec)

/-- 'laws.FnTakeStacks', WHERE WHAT IT READS IS OF BULK AT MOST 1048576: true; the input reads as it did. -/
def fnTakeStacksUptoRow : OpenClaim := { program := "ytcfhncckeedipaa", sum := "19aa3bc5d423ef63e4fe97042db74a2f561cb13763f4f70ce4fb9c469b7398ed", func := "loop.example/panecutter/laws.FnTakeStacks", spec := "fnTakeStacks", apart := false, narrowed := true }
def FnTakeStacksUptoSaid : Prop := fnTakeStacksUptoRow.holds Try.pinned (OpenSpec.upto fnTakeStacksSpec)

/-- 'laws.FnLeftOver', WHERE WHAT IT READS IS OF BULK AT MOST 1048576: true; the input reads as it did. -/
def fnLeftOverUptoRow : OpenClaim := { program := "ytcfhncckeedipaa", sum := "19aa3bc5d423ef63e4fe97042db74a2f561cb13763f4f70ce4fb9c469b7398ed", func := "loop.example/panecutter/laws.FnLeftOver", spec := "fnLeftOver", apart := false, narrowed := true }
def FnLeftOverUptoSaid : Prop := fnLeftOverUptoRow.holds Try.pinned (OpenSpec.upto fnLeftOverSpec)

/-- 'laws.FnCoverArea', WHERE WHAT IT READS IS OF BULK AT MOST 1048576: true; the input reads as it did. -/
def fnCoverAreaUptoRow : OpenClaim := { program := "ytcfhncckeedipaa", sum := "19aa3bc5d423ef63e4fe97042db74a2f561cb13763f4f70ce4fb9c469b7398ed", func := "loop.example/panecutter/laws.FnCoverArea", spec := "fnCoverArea", apart := false, narrowed := true }
def FnCoverAreaUptoSaid : Prop := fnCoverAreaUptoRow.holds Try.pinned (OpenSpec.upto fnCoverAreaSpec)

/-- 'laws.FnCoverAreaMore', WHERE WHAT IT READS IS OF BULK AT MOST 1048576: true; the input reads as it did. -/
def fnCoverAreaMoreUptoRow : OpenClaim := { program := "ytcfhncckeedipaa", sum := "19aa3bc5d423ef63e4fe97042db74a2f561cb13763f4f70ce4fb9c469b7398ed", func := "loop.example/panecutter/laws.FnCoverAreaMore", spec := "fnCoverAreaMore", apart := false, narrowed := true }
def FnCoverAreaMoreUptoSaid : Prop := fnCoverAreaMoreUptoRow.holds Try.pinned (OpenSpec.upto fnCoverAreaMoreSpec)

/-- 'laws.FnApartBoxes', WHERE WHAT IT READS IS OF BULK AT MOST 1048576: true; the input reads as it did. -/
def fnApartBoxesUptoRow : OpenClaim := { program := "ytcfhncckeedipaa", sum := "19aa3bc5d423ef63e4fe97042db74a2f561cb13763f4f70ce4fb9c469b7398ed", func := "loop.example/panecutter/laws.FnApartBoxes", spec := "fnApartBoxes", recurses := true, apart := false, narrowed := true }
def FnApartBoxesUptoSaid : Prop := fnApartBoxesUptoRow.holds Try.pinned (OpenSpec.upto fnApartBoxesSpec)

end Rows
end Go.Proofs.Ytcfhncckeedipaa
