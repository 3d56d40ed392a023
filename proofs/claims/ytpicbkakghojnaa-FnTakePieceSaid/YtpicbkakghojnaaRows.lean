/-
  No cell of these rows narrows 'for every input' (looked for: loops, veiled, ifaces, maps, wideKeys, modest, calm, conditions, laid).
  DERIVED. THE GIVEN ROWS OF THIS SEAT. 11 by the template 'for every input the law returns true; each argument reads behind the call as it read before'; 0 by the template 'total and deterministic' (their statements: YtpicbkakghojnaaTotals.lean).
  GIVEN WITH THE SEED: the statements are not yours to turn. If you find one false, say at which input.
  Laid BY PROGRAM, IN A SANDBOX (cutbox-rows.mjs): the forced cells as the released guide's own fill.sh prints them over the translation 37f97e13e9193cda… (all of the seat's roots in one cut). By AI agents, Wed Nov 11 2026. No macro, syntax, notation, axiom, sorry.
-/
import Derived.Test.YtpicbkakghojnaaChecked
import GoSem.Claim
import GoSem.ClaimJoined
import GoSem.ClaimMapViews
import Derived.JoinedTies
import Derived.KernelRfl
namespace Go.Proofs.Ytpicbkakghojnaa
/- THE CELL 'sum', in the pinned program and in every row, IS THE sha256 OF THE DUMP (.gsa) THAT YtpicbkakghojnaaProg.lean LOADS. Nothing in Lean hashes anything: it is a label: what it is worth is what the hold of that sum in a sandbox is worth. -/
noncomputable def Try.pinned : Pinned := { name := "ytpicbkakghojnaa", sum := "37f97e13e9193cda1b109ff7d2b6574969068cd3789c14e3864cb7a0f650116f", checked := Try.checked }
namespace Rows
def none {H : Type} : Left H := { results := [], args := [] }

/-- 'laws.FnExactClearAt': WHATEVER THE INPUT: true; the input reads as it did. -/
def fnExactClearAtSpec : ChangeSpec := { name := "fnExactClearAt", fn := fun _ => fun
  | [d1, d2] => { results := [.lit (.bool true)], args := [d1, d2] }
  | _ => none }
def fnExactClearAtRow : OpenClaim := { program := "ytpicbkakghojnaa", sum := "37f97e13e9193cda1b109ff7d2b6574969068cd3789c14e3864cb7a0f650116f", func := "loop.example/panecutter/laws.FnExactClearAt", spec := "fnExactClearAt", apart := false }
def FnExactClearAtSaid : Prop := fnExactClearAtRow.holds Try.pinned (OpenSpec.ofChange fnExactClearAtSpec)

/-- ITS FALSE NEIGHBOUR: 'it returns false'. Refute it at one input. -/
def fnExactClearAtWrong : ChangeSpec := { name := "fnExactClearAt", fn := fun _ => fun
  | [d1, d2] => { results := [.lit (.bool false)], args := [d1, d2] }
  | _ => none }
def FnExactClearAtWrongFalsely : Prop := fnExactClearAtRow.holds Try.pinned (OpenSpec.ofChange fnExactClearAtWrong)

/-- 'laws.FnExactFirstClear': WHATEVER THE INPUT: true; the input reads as it did. -/
def fnExactFirstClearSpec : ChangeSpec := { name := "fnExactFirstClear", fn := fun _ => fun
  | [d1, d2, d3] => { results := [.lit (.bool true)], args := [d1, d2, d3] }
  | _ => none }
def fnExactFirstClearRow : OpenClaim := { program := "ytpicbkakghojnaa", sum := "37f97e13e9193cda1b109ff7d2b6574969068cd3789c14e3864cb7a0f650116f", func := "loop.example/panecutter/laws.FnExactFirstClear", spec := "fnExactFirstClear", apart := false }
def FnExactFirstClearSaid : Prop := fnExactFirstClearRow.holds Try.pinned (OpenSpec.ofChange fnExactFirstClearSpec)

/-- ITS FALSE NEIGHBOUR: 'it returns false'. Refute it at one input. -/
def fnExactFirstClearWrong : ChangeSpec := { name := "fnExactFirstClear", fn := fun _ => fun
  | [d1, d2, d3] => { results := [.lit (.bool false)], args := [d1, d2, d3] }
  | _ => none }
def FnExactFirstClearWrongFalsely : Prop := fnExactFirstClearRow.holds Try.pinned (OpenSpec.ofChange fnExactFirstClearWrong)

/-- 'laws.FnExactValidStock': WHATEVER THE INPUT: true; the input reads as it did. -/
def fnExactValidStockSpec : ChangeSpec := { name := "fnExactValidStock", fn := fun _ => fun
  | [d] => { results := [.lit (.bool true)], args := [d] }
  | _ => none }
def fnExactValidStockRow : OpenClaim := { program := "ytpicbkakghojnaa", sum := "37f97e13e9193cda1b109ff7d2b6574969068cd3789c14e3864cb7a0f650116f", func := "loop.example/panecutter/laws.FnExactValidStock", spec := "fnExactValidStock", apart := false }
def FnExactValidStockSaid : Prop := fnExactValidStockRow.holds Try.pinned (OpenSpec.ofChange fnExactValidStockSpec)

/-- ITS FALSE NEIGHBOUR: 'it returns false'. Refute it at one input. -/
def fnExactValidStockWrong : ChangeSpec := { name := "fnExactValidStock", fn := fun _ => fun
  | [d] => { results := [.lit (.bool false)], args := [d] }
  | _ => none }
def FnExactValidStockWrongFalsely : Prop := fnExactValidStockRow.holds Try.pinned (OpenSpec.ofChange fnExactValidStockWrong)

/-- 'laws.FnExactStockArea': WHATEVER THE INPUT: true; the input reads as it did. -/
def fnExactStockAreaSpec : ChangeSpec := { name := "fnExactStockArea", fn := fun _ => fun
  | [d] => { results := [.lit (.bool true)], args := [d] }
  | _ => none }
def fnExactStockAreaRow : OpenClaim := { program := "ytpicbkakghojnaa", sum := "37f97e13e9193cda1b109ff7d2b6574969068cd3789c14e3864cb7a0f650116f", func := "loop.example/panecutter/laws.FnExactStockArea", spec := "fnExactStockArea", apart := false }
def FnExactStockAreaSaid : Prop := fnExactStockAreaRow.holds Try.pinned (OpenSpec.ofChange fnExactStockAreaSpec)

/-- ITS FALSE NEIGHBOUR: 'it returns false'. Refute it at one input. -/
def fnExactStockAreaWrong : ChangeSpec := { name := "fnExactStockArea", fn := fun _ => fun
  | [d] => { results := [.lit (.bool false)], args := [d] }
  | _ => none }
def FnExactStockAreaWrongFalsely : Prop := fnExactStockAreaRow.holds Try.pinned (OpenSpec.ofChange fnExactStockAreaWrong)

/-- 'laws.FnExactTurnPiece': WHATEVER THE INPUT: true; the input reads as it did. -/
def fnExactTurnPieceSpec : ChangeSpec := { name := "fnExactTurnPiece", fn := fun _ => fun
  | [d] => { results := [.lit (.bool true)], args := [d] }
  | _ => none }
def fnExactTurnPieceRow : OpenClaim := { program := "ytpicbkakghojnaa", sum := "37f97e13e9193cda1b109ff7d2b6574969068cd3789c14e3864cb7a0f650116f", func := "loop.example/panecutter/laws.FnExactTurnPiece", spec := "fnExactTurnPiece", apart := false }
def FnExactTurnPieceSaid : Prop := fnExactTurnPieceRow.holds Try.pinned (OpenSpec.ofChange fnExactTurnPieceSpec)

/-- ITS FALSE NEIGHBOUR: 'it returns false'. Refute it at one input. -/
def fnExactTurnPieceWrong : ChangeSpec := { name := "fnExactTurnPiece", fn := fun _ => fun
  | [d] => { results := [.lit (.bool false)], args := [d] }
  | _ => none }
def FnExactTurnPieceWrongFalsely : Prop := fnExactTurnPieceRow.holds Try.pinned (OpenSpec.ofChange fnExactTurnPieceWrong)

/-- 'laws.FnExactCutOut': WHATEVER THE INPUT: true; the input reads as it did. -/
def fnExactCutOutSpec : ChangeSpec := { name := "fnExactCutOut", fn := fun _ => fun
  | [d1, d2, d3] => { results := [.lit (.bool true)], args := [d1, d2, d3] }
  | _ => none }
def fnExactCutOutRow : OpenClaim := { program := "ytpicbkakghojnaa", sum := "37f97e13e9193cda1b109ff7d2b6574969068cd3789c14e3864cb7a0f650116f", func := "loop.example/panecutter/laws.FnExactCutOut", spec := "fnExactCutOut", apart := false }
def FnExactCutOutSaid : Prop := fnExactCutOutRow.holds Try.pinned (OpenSpec.ofChange fnExactCutOutSpec)

/-- ITS FALSE NEIGHBOUR: 'it returns false'. Refute it at one input. -/
def fnExactCutOutWrong : ChangeSpec := { name := "fnExactCutOut", fn := fun _ => fun
  | [d1, d2, d3] => { results := [.lit (.bool false)], args := [d1, d2, d3] }
  | _ => none }
def FnExactCutOutWrongFalsely : Prop := fnExactCutOutRow.holds Try.pinned (OpenSpec.ofChange fnExactCutOutWrong)

/-- 'laws.FnClearAt': WHATEVER THE INPUT: true; the input reads as it did. -/
def fnClearAtSpec : ChangeSpec := { name := "fnClearAt", fn := fun _ => fun
  | [d] => { results := [.lit (.bool true)], args := [d] }
  | _ => none }
def fnClearAtRow : OpenClaim := { program := "ytpicbkakghojnaa", sum := "37f97e13e9193cda1b109ff7d2b6574969068cd3789c14e3864cb7a0f650116f", func := "loop.example/panecutter/laws.FnClearAt", spec := "fnClearAt", apart := false }
def FnClearAtSaid : Prop := fnClearAtRow.holds Try.pinned (OpenSpec.ofChange fnClearAtSpec)

/-- ITS FALSE NEIGHBOUR: 'it returns false'. Refute it at one input. -/
def fnClearAtWrong : ChangeSpec := { name := "fnClearAt", fn := fun _ => fun
  | [d] => { results := [.lit (.bool false)], args := [d] }
  | _ => none }
def FnClearAtWrongFalsely : Prop := fnClearAtRow.holds Try.pinned (OpenSpec.ofChange fnClearAtWrong)

/-- 'laws.FnFirstClear': WHATEVER THE INPUT: true; the input reads as it did. -/
def fnFirstClearSpec : ChangeSpec := { name := "fnFirstClear", fn := fun _ => fun
  | [d] => { results := [.lit (.bool true)], args := [d] }
  | _ => none }
def fnFirstClearRow : OpenClaim := { program := "ytpicbkakghojnaa", sum := "37f97e13e9193cda1b109ff7d2b6574969068cd3789c14e3864cb7a0f650116f", func := "loop.example/panecutter/laws.FnFirstClear", spec := "fnFirstClear", apart := false }
def FnFirstClearSaid : Prop := fnFirstClearRow.holds Try.pinned (OpenSpec.ofChange fnFirstClearSpec)

/-- ITS FALSE NEIGHBOUR: 'it returns false'. Refute it at one input. -/
def fnFirstClearWrong : ChangeSpec := { name := "fnFirstClear", fn := fun _ => fun
  | [d] => { results := [.lit (.bool false)], args := [d] }
  | _ => none }
def FnFirstClearWrongFalsely : Prop := fnFirstClearRow.holds Try.pinned (OpenSpec.ofChange fnFirstClearWrong)

/-- 'laws.FnCutOut': WHATEVER THE INPUT: true; the input reads as it did. -/
def fnCutOutSpec : ChangeSpec := { name := "fnCutOut", fn := fun _ => fun
  | [d] => { results := [.lit (.bool true)], args := [d] }
  | _ => none }
def fnCutOutRow : OpenClaim := { program := "ytpicbkakghojnaa", sum := "37f97e13e9193cda1b109ff7d2b6574969068cd3789c14e3864cb7a0f650116f", func := "loop.example/panecutter/laws.FnCutOut", spec := "fnCutOut", apart := false }
def FnCutOutSaid : Prop := fnCutOutRow.holds Try.pinned (OpenSpec.ofChange fnCutOutSpec)

/-- ITS FALSE NEIGHBOUR: 'it returns false'. Refute it at one input. -/
def fnCutOutWrong : ChangeSpec := { name := "fnCutOut", fn := fun _ => fun
  | [d] => { results := [.lit (.bool false)], args := [d] }
  | _ => none }
def FnCutOutWrongFalsely : Prop := fnCutOutRow.holds Try.pinned (OpenSpec.ofChange fnCutOutWrong)

/-- 'laws.FnTurnPiece': WHATEVER THE INPUT: true; the input reads as it did. -/
def fnTurnPieceSpec : ChangeSpec := { name := "fnTurnPiece", fn := fun _ => fun
  | [d] => { results := [.lit (.bool true)], args := [d] }
  | _ => none }
def fnTurnPieceRow : OpenClaim := { program := "ytpicbkakghojnaa", sum := "37f97e13e9193cda1b109ff7d2b6574969068cd3789c14e3864cb7a0f650116f", func := "loop.example/panecutter/laws.FnTurnPiece", spec := "fnTurnPiece", apart := false }
def FnTurnPieceSaid : Prop := fnTurnPieceRow.holds Try.pinned (OpenSpec.ofChange fnTurnPieceSpec)

/-- ITS FALSE NEIGHBOUR: 'it returns false'. Refute it at one input. -/
def fnTurnPieceWrong : ChangeSpec := { name := "fnTurnPiece", fn := fun _ => fun
  | [d] => { results := [.lit (.bool false)], args := [d] }
  | _ => none }
def FnTurnPieceWrongFalsely : Prop := fnTurnPieceRow.holds Try.pinned (OpenSpec.ofChange fnTurnPieceWrong)

/-- 'laws.FnTakePiece': WHATEVER THE INPUT: true; the input reads as it did. -/
def fnTakePieceSpec : ChangeSpec := { name := "fnTakePiece", fn := fun _ => fun
  | [d] => { results := [.lit (.bool true)], args := [d] }
  | _ => none }
def fnTakePieceRow : OpenClaim := { program := "ytpicbkakghojnaa", sum := "37f97e13e9193cda1b109ff7d2b6574969068cd3789c14e3864cb7a0f650116f", func := "loop.example/panecutter/laws.FnTakePiece", spec := "fnTakePiece", unfollowed := true, recurses := true, apart := false }
def FnTakePieceSaid : Prop := fnTakePieceRow.holds Try.pinned (OpenSpec.ofChange fnTakePieceSpec)

/-- ITS FALSE NEIGHBOUR: 'it returns false'. Refute it at one input. -/
def fnTakePieceWrong : ChangeSpec := { name := "fnTakePiece", fn := fun _ => fun
  | [d] => { results := [.lit (.bool false)], args := [d] }
  | _ => none }
def FnTakePieceWrongFalsely : Prop := fnTakePieceRow.holds Try.pinned (OpenSpec.ofChange fnTakePieceWrong)

/- THE SECOND FORM. 'bulk': how many values and letters a reading holds, each counted each time it is reached (what is shared counts as often as it is met; a slice's spare places count too). A statement '..UptoSaid' is the law's where the arguments, and the package variables that the reading takes, are together of bulk at most 1048576: NARROWER than '..Said'. Prove '..Said' where nothing that the law and all that it calls make is longer than what came in: it says more and counts as full. Else prove '..UptoSaid'. A law counts once. -/
mutual
def uptoBulk {H : Type} : DataW H → Nat
  | .lit (.string bytes) => bytes.length + 1
  | .lit _ => 1
  | .nil => 1
  | .ptr d => uptoBulk d + 1
  | .slice elems spare => uptoBulkAll elems + uptoBulkAll spare + 1
  | .agg parts => uptoBulkAll parts + 1
  | .iface _ d => uptoBulk d + 1
  | .map entries => uptoBulkEntries entries + 1
  | .held _ => 1
def uptoBulkAll {H : Type} : List (DataW H) → Nat
  | [] => 0
  | d :: r => uptoBulk d + uptoBulkAll r
def uptoBulkEntries {H : Type} : List (Lit × DataW H) → Nat
  | [] => 0
  | x :: r => uptoBulkEntry x + uptoBulkEntries r
def uptoBulkEntry {H : Type} : Lit × DataW H → Nat
  | (.string bytes, d) => bytes.length + uptoBulk d + 1
  | (_, d) => uptoBulk d + 1
 end
def uptoSmall : (H : Type) → List (DataW H) → Bool := fun _ ds => decide (uptoBulkAll ds ≤ 1048576)
def OpenSpec.upto (s : _root_.Go.ChangeSpec) : _root_.Go.OpenSpec := { _root_.Go.OpenSpec.ofChange s with cond := some uptoSmall }

/-- 'laws.FnExactClearAt', WHERE WHAT IT READS IS OF BULK AT MOST 1048576: true; the input reads as it did. -/
def fnExactClearAtUptoRow : OpenClaim := { program := "ytpicbkakghojnaa", sum := "37f97e13e9193cda1b109ff7d2b6574969068cd3789c14e3864cb7a0f650116f", func := "loop.example/panecutter/laws.FnExactClearAt", spec := "fnExactClearAt", apart := false, narrowed := true }
def FnExactClearAtUptoSaid : Prop := fnExactClearAtUptoRow.holds Try.pinned (OpenSpec.upto fnExactClearAtSpec)

/-- 'laws.FnExactFirstClear', WHERE WHAT IT READS IS OF BULK AT MOST 1048576: true; the input reads as it did. -/
def fnExactFirstClearUptoRow : OpenClaim := { program := "ytpicbkakghojnaa", sum := "37f97e13e9193cda1b109ff7d2b6574969068cd3789c14e3864cb7a0f650116f", func := "loop.example/panecutter/laws.FnExactFirstClear", spec := "fnExactFirstClear", apart := false, narrowed := true }
def FnExactFirstClearUptoSaid : Prop := fnExactFirstClearUptoRow.holds Try.pinned (OpenSpec.upto fnExactFirstClearSpec)

/-- 'laws.FnExactValidStock', WHERE WHAT IT READS IS OF BULK AT MOST 1048576: true; the input reads as it did. -/
def fnExactValidStockUptoRow : OpenClaim := { program := "ytpicbkakghojnaa", sum := "37f97e13e9193cda1b109ff7d2b6574969068cd3789c14e3864cb7a0f650116f", func := "loop.example/panecutter/laws.FnExactValidStock", spec := "fnExactValidStock", apart := false, narrowed := true }
def FnExactValidStockUptoSaid : Prop := fnExactValidStockUptoRow.holds Try.pinned (OpenSpec.upto fnExactValidStockSpec)

/-- 'laws.FnExactStockArea', WHERE WHAT IT READS IS OF BULK AT MOST 1048576: true; the input reads as it did. -/
def fnExactStockAreaUptoRow : OpenClaim := { program := "ytpicbkakghojnaa", sum := "37f97e13e9193cda1b109ff7d2b6574969068cd3789c14e3864cb7a0f650116f", func := "loop.example/panecutter/laws.FnExactStockArea", spec := "fnExactStockArea", apart := false, narrowed := true }
def FnExactStockAreaUptoSaid : Prop := fnExactStockAreaUptoRow.holds Try.pinned (OpenSpec.upto fnExactStockAreaSpec)

/-- 'laws.FnExactTurnPiece', WHERE WHAT IT READS IS OF BULK AT MOST 1048576: true; the input reads as it did. -/
def fnExactTurnPieceUptoRow : OpenClaim := { program := "ytpicbkakghojnaa", sum := "37f97e13e9193cda1b109ff7d2b6574969068cd3789c14e3864cb7a0f650116f", func := "loop.example/panecutter/laws.FnExactTurnPiece", spec := "fnExactTurnPiece", apart := false, narrowed := true }
def FnExactTurnPieceUptoSaid : Prop := fnExactTurnPieceUptoRow.holds Try.pinned (OpenSpec.upto fnExactTurnPieceSpec)

/-- 'laws.FnExactCutOut', WHERE WHAT IT READS IS OF BULK AT MOST 1048576: true; the input reads as it did. -/
def fnExactCutOutUptoRow : OpenClaim := { program := "ytpicbkakghojnaa", sum := "37f97e13e9193cda1b109ff7d2b6574969068cd3789c14e3864cb7a0f650116f", func := "loop.example/panecutter/laws.FnExactCutOut", spec := "fnExactCutOut", apart := false, narrowed := true }
def FnExactCutOutUptoSaid : Prop := fnExactCutOutUptoRow.holds Try.pinned (OpenSpec.upto fnExactCutOutSpec)

/-- 'laws.FnClearAt', WHERE WHAT IT READS IS OF BULK AT MOST 1048576: true; the input reads as it did. -/
def fnClearAtUptoRow : OpenClaim := { program := "ytpicbkakghojnaa", sum := "37f97e13e9193cda1b109ff7d2b6574969068cd3789c14e3864cb7a0f650116f", func := "loop.example/panecutter/laws.FnClearAt", spec := "fnClearAt", apart := false, narrowed := true }
def FnClearAtUptoSaid : Prop := fnClearAtUptoRow.holds Try.pinned (OpenSpec.upto fnClearAtSpec)

/-- 'laws.FnFirstClear', WHERE WHAT IT READS IS OF BULK AT MOST 1048576: true; the input reads as it did. -/
def fnFirstClearUptoRow : OpenClaim := { program := "ytpicbkakghojnaa", sum := "37f97e13e9193cda1b109ff7d2b6574969068cd3789c14e3864cb7a0f650116f", func := "loop.example/panecutter/laws.FnFirstClear", spec := "fnFirstClear", apart := false, narrowed := true }
def FnFirstClearUptoSaid : Prop := fnFirstClearUptoRow.holds Try.pinned (OpenSpec.upto fnFirstClearSpec)

/-- 'laws.FnCutOut', WHERE WHAT IT READS IS OF BULK AT MOST 1048576: true; the input reads as it did. -/
def fnCutOutUptoRow : OpenClaim := { program := "ytpicbkakghojnaa", sum := "37f97e13e9193cda1b109ff7d2b6574969068cd3789c14e3864cb7a0f650116f", func := "loop.example/panecutter/laws.FnCutOut", spec := "fnCutOut", apart := false, narrowed := true }
def FnCutOutUptoSaid : Prop := fnCutOutUptoRow.holds Try.pinned (OpenSpec.upto fnCutOutSpec)

/-- 'laws.FnTurnPiece', WHERE WHAT IT READS IS OF BULK AT MOST 1048576: true; the input reads as it did. -/
def fnTurnPieceUptoRow : OpenClaim := { program := "ytpicbkakghojnaa", sum := "37f97e13e9193cda1b109ff7d2b6574969068cd3789c14e3864cb7a0f650116f", func := "loop.example/panecutter/laws.FnTurnPiece", spec := "fnTurnPiece", apart := false, narrowed := true }
def FnTurnPieceUptoSaid : Prop := fnTurnPieceUptoRow.holds Try.pinned (OpenSpec.upto fnTurnPieceSpec)

/-- 'laws.FnTakePiece', WHERE WHAT IT READS IS OF BULK AT MOST 1048576: true; the input reads as it did. -/
def fnTakePieceUptoRow : OpenClaim := { program := "ytpicbkakghojnaa", sum := "37f97e13e9193cda1b109ff7d2b6574969068cd3789c14e3864cb7a0f650116f", func := "loop.example/panecutter/laws.FnTakePiece", spec := "fnTakePiece", unfollowed := true, recurses := true, apart := false, narrowed := true }
def FnTakePieceUptoSaid : Prop := fnTakePieceUptoRow.holds Try.pinned (OpenSpec.upto fnTakePieceSpec)

end Rows
end Go.Proofs.Ytpicbkakghojnaa
