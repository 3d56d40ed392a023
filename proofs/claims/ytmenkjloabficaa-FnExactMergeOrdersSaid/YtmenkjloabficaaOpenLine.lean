/-
  A slice of lines that came in.
-/
import Derived.Test.YtmenkjloabficaaOpen
import Derived.Test.YtmenkjloabficaaLine
namespace Go.Proofs.Ytmenkjloabficaa
set_option linter.unusedSimpArgs false
set_option linter.unusedVariables false
open Go.ChangeShapes Go.WideShapes Go.ChangeAt Go.RowKit

theorem cells_intL : Try.prog.cellsOf 3 = 1 := by kernel_rfl
theorem cells_boolL : Try.prog.cellsOf 4 = 1 := by kernel_rfl
theorem cells_lpane : Try.prog.cellsOf 58 = 4 := by kernel_rfl
theorem cells_lline : Try.prog.cellsOf 60 = 5 := by kernel_rfl
theorem trod_lpane {H : Type} {enc : TypeId × Value → H} {w : World} (n : Nat) (cs : List Value) (y : DataW H × List MemPlace) (h : DataW.trod enc Try.prog w 0 (fun _ => true) true n 58 cs = some y) : ∃ a : Pn, cs = paneE.cells a := by
  obtain ⟨xs, k, _, _, hlen, hxl, hf⟩ := DataW.trod_struct Try.underlying58 h
  rw [cells_lpane] at hlen
  match cs, hlen with
  | [c0, c1, c2, c3], _ =>
    have h0 : DataW.trod enc Try.prog w 0 (fun _ => true) true k 3 (([c0, c1, c2, c3].drop 0).take (Try.prog.cellsOf 3)) = xs[0]? := hf 0 _ rfl
    have h1 : DataW.trod enc Try.prog w 0 (fun _ => true) true k 3 (([c0, c1, c2, c3].drop 1).take (Try.prog.cellsOf 3)) = xs[1]? := hf 1 _ rfl
    have h2 : DataW.trod enc Try.prog w 0 (fun _ => true) true k 4 (([c0, c1, c2, c3].drop 2).take (Try.prog.cellsOf 4)) = xs[2]? := hf 2 _ rfl
    have h3 : DataW.trod enc Try.prog w 0 (fun _ => true) true k 3 (([c0, c1, c2, c3].drop 3).take (Try.prog.cellsOf 3)) = xs[3]? := hf 3 _ rfl
    rw [cells_intL] at h0 h1 h3
    rw [cells_boolL] at h2
    rw [List.getElem?_eq_getElem (by rw [hxl]; decide)] at h0 h1 h2 h3
    obtain ⟨x0, e0, -, -⟩ := DataW.trod_int Try.underlying3 h0
    obtain ⟨x1, e1, -, -⟩ := DataW.trod_int Try.underlying3 h1
    obtain ⟨x2, e2, -⟩ := DataW.trod_bool Try.underlying4 h2
    obtain ⟨x3, e3, -, -⟩ := DataW.trod_int Try.underlying3 h3
    simp at e0 e1 e2 e3
    subst e0; subst e1; subst e2; subst e3
    exact ⟨⟨x0, x1, x2, x3⟩, rfl⟩
theorem trod_lline {H : Type} {enc : TypeId × Value → H} {w : World} (n : Nat) (cs : List Value) (y : DataW H × List MemPlace) (h : DataW.trod enc Try.prog w 0 (fun _ => true) true n 60 cs = some y) : ∃ a : Ln, cs = lineE.cells a := by
  obtain ⟨xs, k, _, _, hlen, hxl, hf⟩ := DataW.trod_struct Try.underlying60 h
  rw [cells_lline] at hlen
  match cs, hlen with
  | [c0, c1, c2, c3, c4], _ =>
    have h0 : DataW.trod enc Try.prog w 0 (fun _ => true) true k 58 (([c0, c1, c2, c3, c4].drop 0).take (Try.prog.cellsOf 58)) = xs[0]? := hf 0 _ rfl
    have h1 : DataW.trod enc Try.prog w 0 (fun _ => true) true k 3 (([c0, c1, c2, c3, c4].drop 4).take (Try.prog.cellsOf 3)) = xs[1]? := hf 1 _ rfl
    rw [cells_lpane] at h0
    rw [cells_intL] at h1
    rw [List.getElem?_eq_getElem (by rw [hxl]; decide)] at h0 h1
    obtain ⟨a, e0⟩ := trod_lpane _ _ _ h0
    obtain ⟨x1, e1, -, -⟩ := DataW.trod_int Try.underlying3 h1
    simp [paneE] at e0 e1
    obtain ⟨rfl, rfl, rfl, rfl⟩ := e0
    subst e1
    exact ⟨⟨a.w, a.h, a.t, a.k, x1⟩, rfl⟩

theorem open_line_row {H : Type} {enc : TypeId × Value → H} {w : World} {r : Reach} {b0 : Nat} {v : Value} {d : DataW H} {p : List MemPlace} (hv : Value.okWide Try.prog w r b0 22 v)
    (h : DataW.Trod enc Try.prog w 0 (fun _ => true) true 22 v d p) : ∃ L : List Ln, Row lineE w v L :=
  open_rowE lineE Try.underlying22 cells_lline trod_lline hv h

end Go.Proofs.Ytmenkjloabficaa
