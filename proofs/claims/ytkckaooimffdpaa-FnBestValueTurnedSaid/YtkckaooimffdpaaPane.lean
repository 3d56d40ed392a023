/-
  Contracts of the small functions over a flat struct and its slices (written by a program of mine).
-/
import Derived.Test.YtkckaooimffdpaaInts
import Derived.StillTailTactics
namespace Go.Proofs.Ytkckaooimffdpaa
set_option linter.unusedSimpArgs false
set_option linter.unusedVariables false
open Go.RowKit

structure Pn where
  w : Int
  h : Int
  t : Bool
  k : Int
instance : DecidableEq Pn := fun a b => if h : a.w = b.w ∧ a.h = b.h ∧ a.t = b.t ∧ a.k = b.k then isTrue (by cases a; cases b; simp_all) else isFalse (by rintro rfl; simp at h)
def paneE : Enc Pn := ⟨4, fun x => [.int .i64 x.w, .int .i64 x.h, .bool x.t, .int .i64 x.k], fun _ => rfl, by decide, by simp [Value.oneCell']⟩
theorem pane_info : (Try.prog.info? 40).map (fun i => (i.zero, i.size, i.bytes)) = some (some (.agg #[.int .i64 0, .int .i64 0, .bool false, .int .i64 0]), 4, 32) := by kernel_rfl

theorem row_panes {B : Nat} {w : World} {A : Option Addr} {n c : Nat} {L : List Pn} (h : RowB paneE B w (.slice A n c) L) (hn : 0 < n) : ∃ b off, A = some ⟨b, off, none⟩ ∧ b < B ∧
    ∀ k, (hk : k < L.length) → w.cell? ⟨b, off + k * 4, none⟩ = some (.int .i64 L[k].w) ∧ w.cell? ⟨b, off + k * 4 + 1, none⟩ = some (.int .i64 L[k].h) ∧ w.cell? ⟨b, off + k * 4 + 2, none⟩ = some (.bool L[k].t) ∧ w.cell? ⟨b, off + k * 4 + 3, none⟩ = some (.int .i64 L[k].k) := by
  obtain ⟨h1, h2, h3, h4⟩ := h.at_
  obtain ⟨b, off, rfl, hb, hc⟩ := h4 hn
  exact ⟨b, off, rfl, hb, fun k hk => ⟨hc k 0 _ hk (by decide) rfl, hc k 1 _ hk (by decide) rfl, hc k 2 _ hk (by decide) rfl, hc k 3 _ hk (by decide) rfl⟩⟩

/-- The marked element. -/
def markPane (k : Int) : Pn := ⟨(k), (k + 1), ((k + 1 + 1) % 3 == 0), (k + 1 + 1 + 1)⟩
def marksPane (k : Int) (n : Nat) : List Pn := (List.range n).map fun (j : Nat) => markPane (k + 4 * (j : Int))
theorem marksPane_len (k : Int) (n : Nat) : (marksPane k n).length = n := by simp [marksPane]
theorem marksPane_at (k : Int) (n j : Nat) (hj : j < (marksPane k n).length) : (marksPane k n)[j] = markPane (k + 4 * (j : Int)) := by simp [marksPane]
theorem marksPane_succ (k : Int) (n : Nat) : marksPane k (n + 1) = marksPane k n ++ [markPane (k + 4 * (n : Int))] := by simp [marksPane, List.range_succ]
theorem marksPane_set (k : Int) (xs : List Pn) (j : Nat) (x u : Pn) : (marksPane k j ++ x :: xs.drop (j + 1)).set j u = marksPane k j ++ u :: xs.drop (j + 1) := by
  rw [List.set_append_right _ _ (by rw [marksPane_len]; exact Nat.le_refl _), marksPane_len, Nat.sub_self, List.set_cons_zero]

theorem marksPane_mid (k : Int) (xs : List Pn) (j : Nat) (x : Pn) (h : j < (marksPane k j ++ x :: xs.drop (j + 1)).length) : (marksPane k j ++ x :: xs.drop (j + 1))[j] = x := by
  rw [List.getElem_append_right (by rw [marksPane_len]; exact Nat.le_refl _)]
  simp [marksPane_len]

end Go.Proofs.Ytkckaooimffdpaa
