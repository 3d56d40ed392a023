/-
  A code (a slice of bytes) that came in.
-/
import Derived.Test.YtkckaooimffdpaaOpen
import Derived.Test.YtkckaooimffdpaaWords
namespace Go.Proofs.Ytkckaooimffdpaa
set_option linter.unusedSimpArgs false
set_option linter.unusedVariables false
open Go.ChangeShapes Go.WideShapes Go.ChangeAt Go.RowKit

/-- The elements of E with a property. -/
def Enc.subC {α : Type} (E : Enc α) (Q : α → Prop) : Enc {a // Q a} := ⟨E.sz, fun a => E.cells a.1, fun a => E.len a.1, E.pos, fun a u h => E.one a.1 u h⟩
theorem Enc.subC_flat {α : Type} (E : Enc α) (Q : α → Prop) (L : List {a // Q a}) : E.flat (L.map Subtype.val) = (E.subC Q).flat L := by
  induction L with
  | nil => rfl
  | cons a L ih => rw [List.map_cons, Enc.flat_cons, Enc.flat_cons, ih]; rfl
theorem open_code {H : Type} {enc : TypeId × Value → H} {w : World} {r : Reach} {b0 : Nat} {v : Value} {d : DataW H} {p : List MemPlace} (hv : Value.okWide Try.prog w r b0 22 v)
    (h : DataW.Trod enc Try.prog w 0 (fun _ => true) true 22 v d p) : ∃ L : List Int, Row byteE w v L ∧ ∀ x ∈ L, 0 ≤ x ∧ x ≤ 255 := by
  obtain ⟨L, A, c, h1, h2, h3, h4⟩ := open_rowE (byteE.subC fun x => 0 ≤ x ∧ x ≤ 255) Try.underlying22 (by kernel_rfl) (fun n cs y hy => by
    obtain ⟨x, e, -, hx⟩ := DataW.trod_int Try.underlying5 hy
    refine ⟨⟨x, ?_⟩, e⟩
    simp [Lit.wf] at hx
    exact hx) hv h
  refine ⟨L.map Subtype.val, ⟨A, c, by rw [h1, List.length_map], by rw [List.length_map]; exact h2, h3, fun h0 => ?_⟩, fun a ha => ?_⟩
  · obtain ⟨b, off, h5, h6, h7⟩ := h4 (by simpa using h0)
    exact ⟨b, off, h5, h6, fun j u hu => h7 j u (by rw [← Enc.subC_flat]; exact hu)⟩
  · obtain ⟨x, _, rfl⟩ := List.mem_map.1 ha
    exact x.2

end Go.Proofs.Ytkckaooimffdpaa
