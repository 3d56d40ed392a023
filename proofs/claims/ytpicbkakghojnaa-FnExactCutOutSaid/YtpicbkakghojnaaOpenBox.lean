/-
  A box that came in, by value; a slice of boxes that came in.
-/
import Derived.Test.YtpicbkakghojnaaOpen
import Derived.Test.YtpicbkakghojnaaBox
import Derived.Lib.SmallJoins
namespace Go.Proofs.Ytpicbkakghojnaa
set_option linter.unusedSimpArgs false
set_option linter.unusedVariables false
open Go.ChangeShapes Go.WideShapes Go.ChangeAt Go.RowKit

theorem open_box {H : Type} {enc : TypeId × Value → H} {w : World} {r : Reach} {b0 : Nat} {v : Value} {d : DataW H} {p : List MemPlace} (hv : Value.okWide Try.prog w r b0 26 v)
    (h : DataW.Trod enc Try.prog w 0 (fun _ => true) true 26 v d p) : ∃ b : Bx, v = .agg #[.int .i64 b.x, .int .i64 b.y, .int .i64 b.w, .int .i64 b.h] := by
  obtain ⟨v0, v1, v2, v3, y0, y1, y2, y3, n, rfl, -, -, h0, h1, h2, h3⟩ := Joins.open_agg4 Try.underlying26 (by kernel_rfl) (by kernel_rfl) hv h
  obtain ⟨x0, e0, -, -⟩ := DataW.trod_int Try.underlying3 h0
  obtain ⟨x1, e1, -, -⟩ := DataW.trod_int Try.underlying3 h1
  obtain ⟨x2, e2, -, -⟩ := DataW.trod_int Try.underlying3 h2
  obtain ⟨x3, e3, -, -⟩ := DataW.trod_int Try.underlying3 h3
  simp only [List.cons.injEq, and_true] at e0 e1 e2 e3
  subst e0; subst e1; subst e2; subst e3
  exact ⟨⟨x0, x1, x2, x3⟩, rfl⟩

theorem cells_int4 : Try.prog.cellsOf 3 = 1 := by kernel_rfl
theorem cells_lbox : Try.prog.cellsOf 26 = 4 := by kernel_rfl
theorem trod_lbox {H : Type} {enc : TypeId × Value → H} {w : World} (n : Nat) (cs : List Value) (y : DataW H × List MemPlace) (h : DataW.trod enc Try.prog w 0 (fun _ => true) true n 26 cs = some y) : ∃ a : Bx, cs = boxE.cells a := by
  obtain ⟨xs, k, _, _, hlen, hxl, hf⟩ := DataW.trod_struct Try.underlying26 h
  rw [cells_lbox] at hlen
  match cs, hlen with
  | [c0, c1, c2, c3], _ =>
    have h0 : DataW.trod enc Try.prog w 0 (fun _ => true) true k 3 (([c0, c1, c2, c3].drop 0).take (Try.prog.cellsOf 3)) = xs[0]? := hf 0 _ rfl
    have h1 : DataW.trod enc Try.prog w 0 (fun _ => true) true k 3 (([c0, c1, c2, c3].drop 1).take (Try.prog.cellsOf 3)) = xs[1]? := hf 1 _ rfl
    have h2 : DataW.trod enc Try.prog w 0 (fun _ => true) true k 3 (([c0, c1, c2, c3].drop 2).take (Try.prog.cellsOf 3)) = xs[2]? := hf 2 _ rfl
    have h3 : DataW.trod enc Try.prog w 0 (fun _ => true) true k 3 (([c0, c1, c2, c3].drop 3).take (Try.prog.cellsOf 3)) = xs[3]? := hf 3 _ rfl
    rw [cells_int4] at h0 h1 h2 h3
    rw [List.getElem?_eq_getElem (by rw [hxl]; decide)] at h0 h1 h2 h3
    obtain ⟨x0, e0, -, -⟩ := DataW.trod_int Try.underlying3 h0
    obtain ⟨x1, e1, -, -⟩ := DataW.trod_int Try.underlying3 h1
    obtain ⟨x2, e2, -, -⟩ := DataW.trod_int Try.underlying3 h2
    obtain ⟨x3, e3, -, -⟩ := DataW.trod_int Try.underlying3 h3
    simp at e0 e1 e2 e3
    subst e0; subst e1; subst e2; subst e3
    exact ⟨⟨x0, x1, x2, x3⟩, rfl⟩

theorem open_box_row {H : Type} {enc : TypeId × Value → H} {w : World} {r : Reach} {b0 : Nat} {v : Value} {d : DataW H} {p : List MemPlace} (hv : Value.okWide Try.prog w r b0 22 v)
    (h : DataW.Trod enc Try.prog w 0 (fun _ => true) true 22 v d p) : ∃ L : List Bx, Row boxE w v L :=
  open_rowE boxE Try.underlying22 cells_lbox trod_lbox hv h

end Go.Proofs.Ytpicbkakghojnaa
