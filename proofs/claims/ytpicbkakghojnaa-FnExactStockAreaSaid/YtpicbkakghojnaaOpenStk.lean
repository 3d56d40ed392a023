/-
  A slice of pieces of glass that came in.
-/
import Derived.Test.YtpicbkakghojnaaOpenPiece
import Derived.Test.YtpicbkakghojnaaStkV
namespace Go.Proofs.Ytpicbkakghojnaa
set_option linter.unusedSimpArgs false
set_option linter.unusedVariables false
open Go.ChangeShapes Go.WideShapes Go.ChangeAt Go.RowKit

/-- The elements of E with a property. -/
def Enc.sub {α : Type} (E : Enc α) (Q : α → Prop) : Enc {a // Q a} := ⟨E.sz, fun a => E.cells a.1, fun a => E.len a.1, E.pos, fun a u h => E.one a.1 u h⟩
theorem Enc.sub_flat {α : Type} (E : Enc α) (Q : α → Prop) (L : List {a // Q a}) : E.flat (L.map Subtype.val) = (E.sub Q).flat L := by
  induction L with
  | nil => rfl
  | cons a L ih => rw [List.map_cons, Enc.flat_cons, Enc.flat_cons, ih]; rfl
theorem open_rowEQ {H : Type} {enc : TypeId × Value → H} {P : Program} {w : World} {α : Type} (E : Enc α) (Q : α → Prop) {r : Reach} {b0 : Nat} {t e : TypeId} {v : Value} {d : DataW H} {p : List MemPlace} (ht : P.underlying t = some (.slice e)) (hC : P.cellsOf e = E.sz)
    (hel : ∀ n cs y, DataW.trod enc P w 0 (fun _ => true) true n e cs = some y → ∃ a, cs = E.cells a ∧ Q a)
    (hv : Value.okWide P w r b0 t v) (h : DataW.Trod enc P w 0 (fun _ => true) true t v d p) : ∃ L : List α, Row E w v L ∧ ∀ a ∈ L, Q a := by
  obtain ⟨L, A, c, h1, h2, h3, h4⟩ := open_rowE (E.sub Q) ht hC (fun n cs y hy => by
    obtain ⟨a, h1, h2⟩ := hel n cs y hy
    exact ⟨⟨a, h2⟩, h1⟩) hv h
  refine ⟨L.map Subtype.val, ⟨A, c, by rw [h1, List.length_map], by rw [List.length_map]; exact h2, h3, fun h0 => ?_⟩, fun a ha => ?_⟩
  · obtain ⟨b, off, h5, h6, h7⟩ := h4 (by simpa using h0)
    exact ⟨b, off, h5, h6, fun j u hu => h7 j u (by rw [← Enc.sub_flat]; exact hu)⟩
  · obtain ⟨x, _, rfl⟩ := List.mem_map.1 ha
    exact x.2

theorem open_stock {H : Type} {enc : TypeId × Value → H} {w : World} {r : Reach} {b0 : Nat} {v : Value} {d : DataW H} {p : List MemPlace} (hv : Value.okWide Try.prog w r b0 41 v)
    (h : DataW.Trod enc Try.prog w 0 (fun _ => true) true 41 v d p) : ∃ L : List Pc, StR w.heap.size w v L ∧ S64 L := by
  obtain ⟨S, hS, hQ⟩ := open_rowEQ psE (fun s => ∃ p : Pc, PvR w.heap.size w p s ∧ I64 p.w ∧ I64 p.h) Try.underlying41 cells_lpiece (fun n cs y hy => by
    obtain ⟨s, p, e, h1, -, h2, h3⟩ := trod_piece n cs y hy
    exact ⟨s, e, p, h1, h2, h3⟩) hv h
  obtain ⟨L, hL, hLQ⟩ := exists_list (fun i (p : Pc) => ∀ hi : i < S.length, PvR w.heap.size w p S[i] ∧ I64 p.w ∧ I64 p.h) S.length (fun i hi => by
    obtain ⟨p, hp⟩ := hQ S[i] (List.getElem_mem hi)
    exact ⟨p, fun _ => hp⟩)
  refine ⟨L, ⟨S, hS, hL.symm, fun k h1 h2 => (hLQ k h2 h1).1⟩, fun p hp => ?_⟩
  obtain ⟨k, hk, rfl⟩ := List.getElem_of_mem hp
  exact (hLQ k hk (by omega)).2

end Go.Proofs.Ytpicbkakghojnaa
