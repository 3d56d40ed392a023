/-
  A block of memory known whole. No program in sight.
-/
import Derived.Test.YtkckaooimffdpaaWords
import Derived.Laws.Rows
namespace Go.Proofs.Ytkckaooimffdpaa
set_option linter.unusedSimpArgs false
set_option linter.unusedVariables false
open Go.RowKit

/-- Block g holds the cells cs. -/
def Blk (w : World) (g : Nat) (cs : Array Value) (t : TypeId) : Prop := w.heap[g]? = some (.cells cs t (0, 0))
section
variable {w w' : World} {g : Nat} {cs : Array Value} {t : TypeId}
theorem Blk.cell (h : Blk w g cs t) (j : Nat) : w.cell? ⟨g, j, none⟩ = cs[j]? := cell_of_row w g j cs t (0, 0) h
theorem Blk.frz (h : Blk w g cs t) (j : Nat) : w.frozen? ⟨g, j, none⟩ = false := by
  unfold Blk at h
  simp [World.frozen?, h]
theorem Blk.lt (h : Blk w g cs t) : g < w.heap.size := (Array.getElem?_eq_some_iff.1 h).1
theorem Blk.below {B : Nat} (h : Blk w g cs t) (hb : Below B w w') (hg : g < B) : Blk w' g cs t := by rw [Blk, hb.block g hg]; exact h
theorem Blk.go (h : Blk w g cs t) (hb : Below w.heap.size w w') : Blk w' g cs t := h.below hb h.lt
theorem Blk.grown {row : Option Nat} (h : Blk w g cs t) (hg : w.grownBy w' row) (hne : some g ≠ row) : Blk w' g cs t := by rw [Blk, hg.block g h.lt hne]; exact h
theorem Blk.new (w : World) (cs : Array Value) (t : TypeId) : Blk (w.alloc (.cells cs t)) w.heap.size cs t := by show (w.heap.push _)[w.heap.size]? = _; simp
theorem Blk.alloc (h : Blk w g cs t) (o : Obj) : Blk (w.alloc o) g cs t := h.grown (World.grownBy_alloc w o none) (by simp)
theorem Blk.set (h : Blk w g cs t) (i : Nat) (v : Value) : Blk (w.setCell ⟨g, i, none⟩ v) g (cs.setIfInBounds i v) t := heap_setCell_same w g i cs t v h
theorem Blk.setO (h : Blk w g cs t) {p : Addr} (hp : g ≠ p.block) (v : Value) : Blk (w.setCell p v) g cs t := by rw [Blk, heap_setCell_other w p g v hp]; exact h
theorem Blk.draw (h : Blk w g cs t) (n : Nat) : Blk (w.drewN n) g cs t := h
theorem Blk.draw1 (h : Blk w g cs t) : Blk w.drew g cs t := h
end

end Go.Proofs.Ytkckaooimffdpaa
