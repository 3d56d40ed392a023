/-
  A box that came in, by value; a slice of boxes that came in.
-/
import Derived.Test.YtfeikmelkndmjaaOpen
import Derived.Test.YtfeikmelkndmjaaBox
import Derived.Lib.SmallJoins
namespace Go.Proofs.Ytfeikmelkndmjaa
set_option linter.unusedSimpArgs false
set_option linter.unusedVariables false
open Go.ChangeShapes Go.WideShapes Go.ChangeAt Go.RowKit

theorem open_box {H : Type} {enc : TypeId × Value → H} {w : World} {r : Reach} {b0 : Nat} {v : Value} {d : DataW H} {p : List MemPlace} (hv : Value.okWide Try.prog w r b0 23 v)
    (h : DataW.Trod enc Try.prog w 0 (fun _ => true) true 23 v d p) : ∃ b : Bx, v = .agg #[.int .i64 b.x, .int .i64 b.y, .int .i64 b.w, .int .i64 b.h] := by
  obtain ⟨v0, v1, v2, v3, y0, y1, y2, y3, n, rfl, -, -, h0, h1, h2, h3⟩ := Joins.open_agg4 Try.underlying23 (by kernel_rfl) (by kernel_rfl) hv h
  obtain ⟨x0, e0, -, -⟩ := DataW.trod_int Try.underlying3 h0
  obtain ⟨x1, e1, -, -⟩ := DataW.trod_int Try.underlying3 h1
  obtain ⟨x2, e2, -, -⟩ := DataW.trod_int Try.underlying3 h2
  obtain ⟨x3, e3, -, -⟩ := DataW.trod_int Try.underlying3 h3
  simp only [List.cons.injEq, and_true] at e0 e1 e2 e3
  subst e0; subst e1; subst e2; subst e3
  exact ⟨⟨x0, x1, x2, x3⟩, rfl⟩

end Go.Proofs.Ytfeikmelkndmjaa
