/-
  Contracts of the small functions over a flat struct and its slices (written by a program of mine).
-/
import Derived.Test.YtafcohmneeabbaaInts
import Derived.StillTailTactics
namespace Go.Proofs.Ytafcohmneeabbaa
set_option linter.unusedSimpArgs false
set_option linter.unusedVariables false
open Go.RowKit

structure Bx where
  x : Int
  y : Int
  w : Int
  h : Int
instance : DecidableEq Bx := fun a b => if h : a.x = b.x ∧ a.y = b.y ∧ a.w = b.w ∧ a.h = b.h then isTrue (by cases a; cases b; simp_all) else isFalse (by rintro rfl; simp at h)
def boxE : Enc Bx := ⟨4, fun x => [.int .i64 x.x, .int .i64 x.y, .int .i64 x.w, .int .i64 x.h], fun _ => rfl, by decide, by simp [Value.oneCell']⟩
theorem box_info : (Try.prog.info? 53).map (fun i => (i.zero, i.size, i.bytes)) = some (some (.agg #[.int .i64 0, .int .i64 0, .int .i64 0, .int .i64 0]), 4, 32) := by kernel_rfl

theorem row_boxs {B : Nat} {w : World} {A : Option Addr} {n c : Nat} {L : List Bx} (h : RowB boxE B w (.slice A n c) L) (hn : 0 < n) : ∃ b off, A = some ⟨b, off, none⟩ ∧ b < B ∧
    ∀ k, (hk : k < L.length) → w.cell? ⟨b, off + k * 4, none⟩ = some (.int .i64 L[k].x) ∧ w.cell? ⟨b, off + k * 4 + 1, none⟩ = some (.int .i64 L[k].y) ∧ w.cell? ⟨b, off + k * 4 + 2, none⟩ = some (.int .i64 L[k].w) ∧ w.cell? ⟨b, off + k * 4 + 3, none⟩ = some (.int .i64 L[k].h) := by
  obtain ⟨h1, h2, h3, h4⟩ := h.at_
  obtain ⟨b, off, rfl, hb, hc⟩ := h4 hn
  exact ⟨b, off, rfl, hb, fun k hk => ⟨hc k 0 _ hk (by decide) rfl, hc k 1 _ hk (by decide) rfl, hc k 2 _ hk (by decide) rfl, hc k 3 _ hk (by decide) rfl⟩⟩

/-- The marked element. -/
def markBox (k : Int) : Bx := ⟨(k), (k + 1), (k + 1 + 1), (k + 1 + 1 + 1)⟩
def marksBox (k : Int) (n : Nat) : List Bx := (List.range n).map fun (j : Nat) => markBox (k + 4 * (j : Int))
theorem marksBox_len (k : Int) (n : Nat) : (marksBox k n).length = n := by simp [marksBox]
theorem marksBox_at (k : Int) (n j : Nat) (hj : j < (marksBox k n).length) : (marksBox k n)[j] = markBox (k + 4 * (j : Int)) := by simp [marksBox]
theorem marksBox_succ (k : Int) (n : Nat) : marksBox k (n + 1) = marksBox k n ++ [markBox (k + 4 * (n : Int))] := by simp [marksBox, List.range_succ]
theorem marksBox_set (k : Int) (xs : List Bx) (j : Nat) (x u : Bx) : (marksBox k j ++ x :: xs.drop (j + 1)).set j u = marksBox k j ++ u :: xs.drop (j + 1) := by
  rw [List.set_append_right _ _ (by rw [marksBox_len]; exact Nat.le_refl _), marksBox_len, Nat.sub_self, List.set_cons_zero]

theorem marksBox_mid (k : Int) (xs : List Bx) (j : Nat) (x : Bx) (h : j < (marksBox k j ++ x :: xs.drop (j + 1)).length) : (marksBox k j ++ x :: xs.drop (j + 1))[j] = x := by
  rw [List.getElem_append_right (by rw [marksBox_len]; exact Nat.le_refl _)]
  simp [marksBox_len]

end Go.Proofs.Ytafcohmneeabbaa
