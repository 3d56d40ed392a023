/-
  Contracts of the small functions over a flat struct and its slices (written by a program of mine).
-/
import Derived.Test.YtcfhncckeedipaaInts
import Derived.StillTailTactics
namespace Go.Proofs.Ytcfhncckeedipaa
set_option linter.unusedSimpArgs false
set_option linter.unusedVariables false
open Go.RowKit

structure Jb where
  c : Int
  h : Int
instance : DecidableEq Jb := fun a b => if h : a.c = b.c ∧ a.h = b.h then isTrue (by cases a; cases b; simp_all) else isFalse (by rintro rfl; simp at h)
def jobE : Enc Jb := ⟨2, fun x => [.int .i64 x.c, .int .i64 x.h], fun _ => rfl, by decide, by simp [Value.oneCell']⟩
theorem job_info : (Try.prog.info? 30).map (fun i => (i.zero, i.size, i.bytes)) = some (some (.agg #[.int .i64 0, .int .i64 0]), 2, 16) := by kernel_rfl

theorem row_jobs {B : Nat} {w : World} {A : Option Addr} {n c : Nat} {L : List Jb} (h : RowB jobE B w (.slice A n c) L) (hn : 0 < n) : ∃ b off, A = some ⟨b, off, none⟩ ∧ b < B ∧
    ∀ k, (hk : k < L.length) → w.cell? ⟨b, off + k * 2, none⟩ = some (.int .i64 L[k].c) ∧ w.cell? ⟨b, off + k * 2 + 1, none⟩ = some (.int .i64 L[k].h) := by
  obtain ⟨h1, h2, h3, h4⟩ := h.at_
  obtain ⟨b, off, rfl, hb, hc⟩ := h4 hn
  exact ⟨b, off, rfl, hb, fun k hk => ⟨hc k 0 _ hk (by decide) rfl, hc k 1 _ hk (by decide) rfl⟩⟩

/-- The marked element. -/
def markJob (k : Int) : Jb := ⟨(k), (k + 1)⟩
def marksJob (k : Int) (n : Nat) : List Jb := (List.range n).map fun (j : Nat) => markJob (k + 2 * (j : Int))
theorem marksJob_len (k : Int) (n : Nat) : (marksJob k n).length = n := by simp [marksJob]
theorem marksJob_at (k : Int) (n j : Nat) (hj : j < (marksJob k n).length) : (marksJob k n)[j] = markJob (k + 2 * (j : Int)) := by simp [marksJob]
theorem marksJob_succ (k : Int) (n : Nat) : marksJob k (n + 1) = marksJob k n ++ [markJob (k + 2 * (n : Int))] := by simp [marksJob, List.range_succ]
theorem marksJob_set (k : Int) (xs : List Jb) (j : Nat) (x u : Jb) : (marksJob k j ++ x :: xs.drop (j + 1)).set j u = marksJob k j ++ u :: xs.drop (j + 1) := by
  rw [List.set_append_right _ _ (by rw [marksJob_len]; exact Nat.le_refl _), marksJob_len, Nat.sub_self, List.set_cons_zero]

theorem marksJob_mid (k : Int) (xs : List Jb) (j : Nat) (x : Jb) (h : j < (marksJob k j ++ x :: xs.drop (j + 1)).length) : (marksJob k j ++ x :: xs.drop (j + 1))[j] = x := by
  rw [List.getElem_append_right (by rw [marksJob_len]; exact Nat.le_refl _)]
  simp [marksJob_len]

end Go.Proofs.Ytcfhncckeedipaa
