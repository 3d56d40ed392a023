/-
  No cell of these rows narrows 'for every input' (looked for: loops, veiled, ifaces, maps, wideKeys, modest, calm, conditions, laid).
  DERIVED. THE GIVEN ROWS OF THIS SEAT. 6 by the template 'for every input the law returns true; each argument reads behind the call as it read before'; 0 by the template 'total and deterministic' (their statements: YtfeikmelkndmjaaTotals.lean).
  GIVEN WITH THE SEED: the statements are not yours to turn. If you find one false, say at which input.
  Laid BY PROGRAM, IN A SANDBOX (cutbox-rows.mjs): the forced cells as the released guide's own fill.sh prints them over the translation a238a0f88fc688eb… (all of the seat's roots in one cut). By AI agents, Wed Nov 11 2026. No macro, syntax, notation, axiom, sorry.
-/
import Derived.Test.YtfeikmelkndmjaaChecked
import GoSem.Claim
import GoSem.ClaimJoined
import GoSem.ClaimMapViews
import Derived.JoinedTies
import Derived.KernelRfl
namespace Go.Proofs.Ytfeikmelkndmjaa
/- THE CELL 'sum', in the pinned program and in every row, IS THE sha256 OF THE DUMP (.gsa) THAT YtfeikmelkndmjaaProg.lean LOADS. Nothing in Lean hashes anything: it is a label: what it is worth is what the hold of that sum in a sandbox is worth. -/
noncomputable def Try.pinned : Pinned := { name := "ytfeikmelkndmjaa", sum := "a238a0f88fc688eb37d817eadcc5166186fb8ce6bb5266e42fbce11ffbe69714", checked := Try.checked }
namespace Rows
def none {H : Type} : Left H := { results := [], args := [] }

/-- 'laws.FnExactLeftOver': WHATEVER THE INPUT: true; the input reads as it did. -/
def fnExactLeftOverSpec : ChangeSpec := { name := "fnExactLeftOver", fn := fun _ => fun
  | [d1, d2] => { results := [.lit (.bool true)], args := [d1, d2] }
  | _ => none }
def fnExactLeftOverRow : OpenClaim := { program := "ytfeikmelkndmjaa", sum := "a238a0f88fc688eb37d817eadcc5166186fb8ce6bb5266e42fbce11ffbe69714", func := "loop.example/panecutter/laws.FnExactLeftOver", spec := "fnExactLeftOver", apart := false }
def FnExactLeftOverSaid : Prop := fnExactLeftOverRow.holds Try.pinned (OpenSpec.ofChange fnExactLeftOverSpec)

/-- ITS FALSE NEIGHBOUR: 'it returns false'. Refute it at one input. -/
def fnExactLeftOverWrong : ChangeSpec := { name := "fnExactLeftOver", fn := fun _ => fun
  | [d1, d2] => { results := [.lit (.bool false)], args := [d1, d2] }
  | _ => none }
def FnExactLeftOverWrongFalsely : Prop := fnExactLeftOverRow.holds Try.pinned (OpenSpec.ofChange fnExactLeftOverWrong)

/-- 'laws.FnExactCoverArea': WHATEVER THE INPUT: true; the input reads as it did. -/
def fnExactCoverAreaSpec : ChangeSpec := { name := "fnExactCoverArea", fn := fun _ => fun
  | [d] => { results := [.lit (.bool true)], args := [d] }
  | _ => none }
def fnExactCoverAreaRow : OpenClaim := { program := "ytfeikmelkndmjaa", sum := "a238a0f88fc688eb37d817eadcc5166186fb8ce6bb5266e42fbce11ffbe69714", func := "loop.example/panecutter/laws.FnExactCoverArea", spec := "fnExactCoverArea", apart := false }
def FnExactCoverAreaSaid : Prop := fnExactCoverAreaRow.holds Try.pinned (OpenSpec.ofChange fnExactCoverAreaSpec)

/-- ITS FALSE NEIGHBOUR: 'it returns false'. Refute it at one input. -/
def fnExactCoverAreaWrong : ChangeSpec := { name := "fnExactCoverArea", fn := fun _ => fun
  | [d] => { results := [.lit (.bool false)], args := [d] }
  | _ => none }
def FnExactCoverAreaWrongFalsely : Prop := fnExactCoverAreaRow.holds Try.pinned (OpenSpec.ofChange fnExactCoverAreaWrong)

/-- 'laws.FnCoverAreaMore': WHATEVER THE INPUT: true; the input reads as it did. -/
def fnCoverAreaMoreSpec : ChangeSpec := { name := "fnCoverAreaMore", fn := fun _ => fun
  | [d] => { results := [.lit (.bool true)], args := [d] }
  | _ => none }
def fnCoverAreaMoreRow : OpenClaim := { program := "ytfeikmelkndmjaa", sum := "a238a0f88fc688eb37d817eadcc5166186fb8ce6bb5266e42fbce11ffbe69714", func := "loop.example/panecutter/laws.FnCoverAreaMore", spec := "fnCoverAreaMore", apart := false }
def FnCoverAreaMoreSaid : Prop := fnCoverAreaMoreRow.holds Try.pinned (OpenSpec.ofChange fnCoverAreaMoreSpec)

/-- ITS FALSE NEIGHBOUR: 'it returns false'. Refute it at one input. -/
def fnCoverAreaMoreWrong : ChangeSpec := { name := "fnCoverAreaMore", fn := fun _ => fun
  | [d] => { results := [.lit (.bool false)], args := [d] }
  | _ => none }
def FnCoverAreaMoreWrongFalsely : Prop := fnCoverAreaMoreRow.holds Try.pinned (OpenSpec.ofChange fnCoverAreaMoreWrong)

/-- 'laws.FnLeftOver': WHATEVER THE INPUT: true; the input reads as it did. -/
def fnLeftOverSpec : ChangeSpec := { name := "fnLeftOver", fn := fun _ => fun
  | [d] => { results := [.lit (.bool true)], args := [d] }
  | _ => none }
def fnLeftOverRow : OpenClaim := { program := "ytfeikmelkndmjaa", sum := "a238a0f88fc688eb37d817eadcc5166186fb8ce6bb5266e42fbce11ffbe69714", func := "loop.example/panecutter/laws.FnLeftOver", spec := "fnLeftOver", apart := false }
def FnLeftOverSaid : Prop := fnLeftOverRow.holds Try.pinned (OpenSpec.ofChange fnLeftOverSpec)

/-- ITS FALSE NEIGHBOUR: 'it returns false'. Refute it at one input. -/
def fnLeftOverWrong : ChangeSpec := { name := "fnLeftOver", fn := fun _ => fun
  | [d] => { results := [.lit (.bool false)], args := [d] }
  | _ => none }
def FnLeftOverWrongFalsely : Prop := fnLeftOverRow.holds Try.pinned (OpenSpec.ofChange fnLeftOverWrong)

/-- 'laws.FnApartBoxes': WHATEVER THE INPUT: true; the input reads as it did. -/
def fnApartBoxesSpec : ChangeSpec := { name := "fnApartBoxes", fn := fun _ => fun
  | [d] => { results := [.lit (.bool true)], args := [d] }
  | _ => none }
def fnApartBoxesRow : OpenClaim := { program := "ytfeikmelkndmjaa", sum := "a238a0f88fc688eb37d817eadcc5166186fb8ce6bb5266e42fbce11ffbe69714", func := "loop.example/panecutter/laws.FnApartBoxes", spec := "fnApartBoxes", recurses := true, apart := false }
def FnApartBoxesSaid : Prop := fnApartBoxesRow.holds Try.pinned (OpenSpec.ofChange fnApartBoxesSpec)

/-- ITS FALSE NEIGHBOUR: 'it returns false'. Refute it at one input. -/
def fnApartBoxesWrong : ChangeSpec := { name := "fnApartBoxes", fn := fun _ => fun
  | [d] => { results := [.lit (.bool false)], args := [d] }
  | _ => none }
def FnApartBoxesWrongFalsely : Prop := fnApartBoxesRow.holds Try.pinned (OpenSpec.ofChange fnApartBoxesWrong)

/-- 'laws.FnCoverArea': WHATEVER THE INPUT: true; the input reads as it did. -/
def fnCoverAreaSpec : ChangeSpec := { name := "fnCoverArea", fn := fun _ => fun
  | [d] => { results := [.lit (.bool true)], args := [d] }
  | _ => none }
def fnCoverAreaRow : OpenClaim := { program := "ytfeikmelkndmjaa", sum := "a238a0f88fc688eb37d817eadcc5166186fb8ce6bb5266e42fbce11ffbe69714", func := "loop.example/panecutter/laws.FnCoverArea", spec := "fnCoverArea", apart := false }
def FnCoverAreaSaid : Prop := fnCoverAreaRow.holds Try.pinned (OpenSpec.ofChange fnCoverAreaSpec)

/-- ITS FALSE NEIGHBOUR: 'it returns false'. Refute it at one input. -/
def fnCoverAreaWrong : ChangeSpec := { name := "fnCoverArea", fn := fun _ => fun
  | [d] => { results := [.lit (.bool false)], args := [d] }
  | _ => none }
def FnCoverAreaWrongFalsely : Prop := fnCoverAreaRow.holds Try.pinned (OpenSpec.ofChange fnCoverAreaWrong)

/- THE SECOND FORM. 'bulk': how many values and letters a reading holds, each counted each time it is reached (what is shared counts as often as it is met; a slice's spare places count too). A statement '..UptoSaid' is the law's where the arguments, and the package variables that the reading takes, are together of bulk at most 1048576: NARROWER than '..Said'. Prove '..Said' where nothing that the law and all that it calls make is longer than what came in: it says more and counts as full. Else prove '..UptoSaid'. A law counts once. -/
mutual
def uptoBulk {H : Type} : DataW H → Nat
  | .lit (.string bytes) => bytes.length + 1
  | .lit _ => 1
  | .nil => 1
  | .ptr d => uptoBulk d + 1
  | .slice elems spare => uptoBulkAll elems + uptoBulkAll spare + 1
  | .agg parts => uptoBulkAll parts + 1
  | .iface _ d => uptoBulk d + 1
  | .map entries => uptoBulkEntries entries + 1
  | .held _ => 1
def uptoBulkAll {H : Type} : List (DataW H) → Nat
  | [] => 0
  | d :: r => uptoBulk d + uptoBulkAll r
def uptoBulkEntries {H : Type} : List (Lit × DataW H) → Nat
  | [] => 0
  | x :: r => uptoBulkEntry x + uptoBulkEntries r
def uptoBulkEntry {H : Type} : Lit × DataW H → Nat
  | (.string bytes, d) => bytes.length + uptoBulk d + 1
  | (_, d) => uptoBulk d + 1
 end
def uptoSmall : (H : Type) → List (DataW H) → Bool := fun _ ds => decide (uptoBulkAll ds ≤ 1048576)
def OpenSpec.upto (s : _root_.Go.ChangeSpec) : _root_.Go.OpenSpec := { _root_.Go.OpenSpec.ofChange s with cond := some uptoSmall }

/-- 'laws.FnExactLeftOver', WHERE WHAT IT READS IS OF BULK AT MOST 1048576: true; the input reads as it did. -/
def fnExactLeftOverUptoRow : OpenClaim := { program := "ytfeikmelkndmjaa", sum := "a238a0f88fc688eb37d817eadcc5166186fb8ce6bb5266e42fbce11ffbe69714", func := "loop.example/panecutter/laws.FnExactLeftOver", spec := "fnExactLeftOver", apart := false, narrowed := true }
def FnExactLeftOverUptoSaid : Prop := fnExactLeftOverUptoRow.holds Try.pinned (OpenSpec.upto fnExactLeftOverSpec)

/-- 'laws.FnExactCoverArea', WHERE WHAT IT READS IS OF BULK AT MOST 1048576: true; the input reads as it did. -/
def fnExactCoverAreaUptoRow : OpenClaim := { program := "ytfeikmelkndmjaa", sum := "a238a0f88fc688eb37d817eadcc5166186fb8ce6bb5266e42fbce11ffbe69714", func := "loop.example/panecutter/laws.FnExactCoverArea", spec := "fnExactCoverArea", apart := false, narrowed := true }
def FnExactCoverAreaUptoSaid : Prop := fnExactCoverAreaUptoRow.holds Try.pinned (OpenSpec.upto fnExactCoverAreaSpec)

/-- 'laws.FnCoverAreaMore', WHERE WHAT IT READS IS OF BULK AT MOST 1048576: true; the input reads as it did. -/
def fnCoverAreaMoreUptoRow : OpenClaim := { program := "ytfeikmelkndmjaa", sum := "a238a0f88fc688eb37d817eadcc5166186fb8ce6bb5266e42fbce11ffbe69714", func := "loop.example/panecutter/laws.FnCoverAreaMore", spec := "fnCoverAreaMore", apart := false, narrowed := true }
def FnCoverAreaMoreUptoSaid : Prop := fnCoverAreaMoreUptoRow.holds Try.pinned (OpenSpec.upto fnCoverAreaMoreSpec)

/-- 'laws.FnLeftOver', WHERE WHAT IT READS IS OF BULK AT MOST 1048576: true; the input reads as it did. -/
def fnLeftOverUptoRow : OpenClaim := { program := "ytfeikmelkndmjaa", sum := "a238a0f88fc688eb37d817eadcc5166186fb8ce6bb5266e42fbce11ffbe69714", func := "loop.example/panecutter/laws.FnLeftOver", spec := "fnLeftOver", apart := false, narrowed := true }
def FnLeftOverUptoSaid : Prop := fnLeftOverUptoRow.holds Try.pinned (OpenSpec.upto fnLeftOverSpec)

/-- 'laws.FnApartBoxes', WHERE WHAT IT READS IS OF BULK AT MOST 1048576: true; the input reads as it did. -/
def fnApartBoxesUptoRow : OpenClaim := { program := "ytfeikmelkndmjaa", sum := "a238a0f88fc688eb37d817eadcc5166186fb8ce6bb5266e42fbce11ffbe69714", func := "loop.example/panecutter/laws.FnApartBoxes", spec := "fnApartBoxes", recurses := true, apart := false, narrowed := true }
def FnApartBoxesUptoSaid : Prop := fnApartBoxesUptoRow.holds Try.pinned (OpenSpec.upto fnApartBoxesSpec)

/-- 'laws.FnCoverArea', WHERE WHAT IT READS IS OF BULK AT MOST 1048576: true; the input reads as it did. -/
def fnCoverAreaUptoRow : OpenClaim := { program := "ytfeikmelkndmjaa", sum := "a238a0f88fc688eb37d817eadcc5166186fb8ce6bb5266e42fbce11ffbe69714", func := "loop.example/panecutter/laws.FnCoverArea", spec := "fnCoverArea", apart := false, narrowed := true }
def FnCoverAreaUptoSaid : Prop := fnCoverAreaUptoRow.holds Try.pinned (OpenSpec.upto fnCoverAreaSpec)

end Rows
end Go.Proofs.Ytfeikmelkndmjaa
