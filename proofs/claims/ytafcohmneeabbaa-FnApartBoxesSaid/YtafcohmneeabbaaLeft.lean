/-
  Contracts: LeftOver (the program's and the reference's).
-/
import Derived.Test.YtafcohmneeabbaaMeet
import Derived.Deep.DeepCutAuto
namespace Go.Proofs.Ytafcohmneeabbaa
set_option linter.unusedSimpArgs false
set_option linter.unusedVariables false
open Go.RowKit

/-- The cells of a box in a block of its own. -/
def bxAt (w : World) (g : Nat) (b : Bx) : Prop := w.cell? ⟨g, 0, none⟩ = some (.int .i64 b.x) ∧ w.cell? ⟨g, 1, none⟩ = some (.int .i64 b.y) ∧ w.cell? ⟨g, 2, none⟩ = some (.int .i64 b.w) ∧ w.cell? ⟨g, 3, none⟩ = some (.int .i64 b.h)
/-- What stands between the tests of leftOver. -/
def loSt (a m : Bx) (g : Nat) (w wr : World) (v : Value) (L : List Bx) : Prop :=
  bxAt wr w.heap.size a ∧ bxAt wr g m ∧ w.heap.size < g ∧ Own boxE 53 (g + 1) wr v L ∧ Below w.heap.size w wr ∧ g < wr.heap.size

theorem loSt_push {a m : Bx} {g : Nat} {w wr w' : World} {v v' : Value} {L M : List Bx} (h : loSt a m g w wr v L) (ho : Own boxE 53 (g + 1) w' v' M) (hg : wr.grownBy w' v.ownBlock) : loSt a m g w w' v' M := by
  obtain ⟨⟨p1, p2, p3, p4⟩, ⟨q1, q2, q3, q4⟩, hlg, hown, hbel, hgs⟩ := h
  have hne : ∀ b, b ≤ g → some b ≠ v.ownBlock := fun b hb e => by have := (hown.lt b e.symm).1; omega
  refine ⟨⟨hg.cell p1 (hne _ (by simp; omega)), hg.cell p2 (hne _ (by simp; omega)), hg.cell p3 (hne _ (by simp; omega)), hg.cell p4 (hne _ (by simp; omega))⟩,
    ⟨hg.cell q1 (hne _ (by simp)), hg.cell q2 (hne _ (by simp)), hg.cell q3 (hne _ (by simp)), hg.cell q4 (hne _ (by simp))⟩, hlg, ho, hbel.grown hg hbel.size (fun k hk => by have := (hown.lt k hk).1; omega), Nat.lt_of_lt_of_le hgs hg.size⟩

end Go.Proofs.Ytafcohmneeabbaa
