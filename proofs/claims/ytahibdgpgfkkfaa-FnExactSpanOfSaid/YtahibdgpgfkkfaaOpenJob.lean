/-
  A slice of jobs that came in.
-/
import Derived.Test.YtahibdgpgfkkfaaOpen
import Derived.Test.YtahibdgpgfkkfaaJob
namespace Go.Proofs.Ytahibdgpgfkkfaa
set_option linter.unusedSimpArgs false
set_option linter.unusedVariables false
open Go.ChangeShapes Go.WideShapes Go.ChangeAt Go.RowKit

theorem cells_int : Try.prog.cellsOf 3 = 1 := by kernel_rfl
theorem cells_ljob : Try.prog.cellsOf 52 = 2 := by kernel_rfl
theorem trod_ljob {H : Type} {enc : TypeId × Value → H} {w : World} (n : Nat) (cs : List Value) (y : DataW H × List MemPlace) (h : DataW.trod enc Try.prog w 0 (fun _ => true) true n 52 cs = some y) : ∃ a : Jb, cs = jobE.cells a := by
  obtain ⟨xs, k, _, _, hlen, hxl, hf⟩ := DataW.trod_struct Try.underlying52 h
  rw [cells_ljob] at hlen
  match cs, hlen with
  | [c0, c1], _ =>
    have h0 : DataW.trod enc Try.prog w 0 (fun _ => true) true k 3 (([c0, c1].drop 0).take (Try.prog.cellsOf 3)) = xs[0]? := hf 0 _ rfl
    have h1 : DataW.trod enc Try.prog w 0 (fun _ => true) true k 3 (([c0, c1].drop 1).take (Try.prog.cellsOf 3)) = xs[1]? := hf 1 _ rfl
    rw [cells_int] at h0 h1
    rw [List.getElem?_eq_getElem (by rw [hxl]; decide)] at h0 h1
    obtain ⟨x0, e0, -, -⟩ := DataW.trod_int Try.underlying3 h0
    obtain ⟨x1, e1, -, -⟩ := DataW.trod_int Try.underlying3 h1
    simp at e0 e1
    subst e0; subst e1
    exact ⟨⟨x0, x1⟩, rfl⟩

theorem open_job_row {H : Type} {enc : TypeId × Value → H} {w : World} {r : Reach} {b0 : Nat} {v : Value} {d : DataW H} {p : List MemPlace} (hv : Value.okWide Try.prog w r b0 27 v)
    (h : DataW.Trod enc Try.prog w 0 (fun _ => true) true 27 v d p) : ∃ L : List Jb, Row jobE w v L :=
  open_rowE jobE Try.underlying27 cells_ljob trod_ljob hv h

end Go.Proofs.Ytahibdgpgfkkfaa
