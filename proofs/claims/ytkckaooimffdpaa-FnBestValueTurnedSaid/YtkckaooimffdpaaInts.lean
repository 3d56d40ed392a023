/-
  Contracts of the small functions over lists of numbers: copies, equality, marks.
-/
import Derived.Test.YtkckaooimffdpaaWords
import Derived.Test.YtkckaooimffdpaaRows
import Derived.BigQuiet
import Derived.Deep.QuietTactic
namespace Go.Proofs.Ytkckaooimffdpaa
set_option linter.unusedSimpArgs false
set_option linter.unusedVariables false
open Go.RowKit

theorem int_info : (Try.prog.info? 3).map (fun i => (i.zero, i.size, i.bytes)) = some (some (.int .i64 0), 1, 8) := by kernel_rfl

/-- Where the numbers of a row lie. -/
theorem row_cells1 {B : Nat} {w : World} {A : Option Addr} {n c : Nat} {L : List Int} (h : RowB intE B w (.slice A n c) L) (hn : 0 < n) : ∃ b off, A = some ⟨b, off, none⟩ ∧ b < B ∧ ∀ k, (hk : k < L.length) → w.cell? ⟨b, off + k, none⟩ = some (.int .i64 L[k]) := by
  obtain ⟨h1, h2, h3, h4⟩ := h.at_
  obtain ⟨b, off, rfl, hb, hc⟩ := h4 hn
  exact ⟨b, off, rfl, hb, fun k hk => by have := hc k 0 _ hk (by decide) rfl; simpa [intE] using this⟩

theorem Own.own_int {w : World} {e : TypeId} {base g n cap : Nat} {L : List Int} (h : Own intE e base w (.slice (some ⟨g, 0, none⟩) n cap) L) (hn : n = L.length) (k : Nat) (hk : k < L.length) : w.cell? ⟨g, k, none⟩ = some (.int .i64 L[k]) := by
  have := h.cellAt hn k 0 hk (by decide)
  simpa [intE] using this

theorem take_succ_eq {α : Type} {xs ys : List α} {k : Nat} (h1 : k < xs.length) (h2 : k < ys.length) (h : xs.take k = ys.take k) (he : xs[k] = ys[k]) : xs.take (k + 1) = ys.take (k + 1) := by
  rw [List.take_succ_eq_append_getElem h1, List.take_succ_eq_append_getElem h2, h, he]

/-- The numbers k, k + 1, .. -/
def marks (k : Int) (n : Nat) : List Int := (List.range n).map fun (j : Nat) => k + (j : Int)
theorem marks_len (k : Int) (n : Nat) : (marks k n).length = n := by simp [marks]
theorem marks_at (k : Int) (n j : Nat) (hj : j < (marks k n).length) : (marks k n)[j] = k + j := by simp [marks]
theorem marks_succ (k : Int) (n : Nat) : marks k (n + 1) = marks k n ++ [k + n] := by simp [marks, List.range_succ]

theorem marks_set (k : Int) (xs : List Int) (j : Nat) (hj : j < xs.length) (u : Int) (hu : u = k + j) : (marks k j ++ xs.drop j).set j u = marks k (j + 1) ++ xs.drop (j + 1) := by
  subst hu
  rw [List.set_append_right _ _ (by rw [marks_len]; exact Nat.le_refl _), marks_len, Nat.sub_self, List.drop_eq_getElem_cons hj, List.set_cons_zero, marks_succ, List.append_assoc]
  rfl

end Go.Proofs.Ytkckaooimffdpaa
