/-
  Contracts of the small functions over works (a sheet and its panes): adapted from pieces.
-/
import Derived.Test.YtkckaooimffdpaaPane
import Derived.Deep.RegionHeld3
namespace Go.Proofs.Ytkckaooimffdpaa
set_option linter.unusedSimpArgs false
set_option linter.unusedVariables false
open Go.RowKit

theorem bcellW {W w1 : World} (hb : Below W.heap.size W w1) : (∀ b o, b < W.heap.size → w1.cell? ⟨b, o, none⟩ = W.cell? ⟨b, o, none⟩) ∧ (∀ b o, b < W.heap.size → w1.frozen? ⟨b, o, none⟩ = W.frozen? ⟨b, o, none⟩) ∧ W.heap.size ≤ w1.heap.size :=
  ⟨fun b o h => hb.cell (p := ⟨b, o, none⟩) h, fun b o h => by unfold World.frozen?; rw [hb.block b h], hb.size⟩

/-- A work: its sides, its panes. -/
structure Wk where
  w : Int
  h : Int
  f : List Pn
/-- A work as it lies: the panes as a slice value. -/
structure Ws where
  w : Int
  h : Int
  ka : Option Addr
  kn : Nat
  kc : Nat
def Ws.kv (s : Ws) : Value := .slice s.ka s.kn s.kc
def Ws.same (s : Ws) (p : Wk) : Prop := s.w = p.w ∧ s.h = p.h
/-- The work s reads as p, below block B. -/
def WvR (B : Nat) (w : World) (p : Wk) (s : Ws) : Prop := s.same p ∧ RowB paneE B w s.kv p.f
theorem WvR.go {w w' : World} {p : Wk} {s : Ws} (h : WvR w.heap.size w p s) (hb : Below w.heap.size w w') : WvR w'.heap.size w' p s := ⟨h.1, h.2.go hb⟩
theorem WvR.below {B : Nat} {w w' : World} {p : Wk} {s : Ws} (h : WvR B w p s) (hb : Below B w w') : WvR B w' p s := ⟨h.1, h.2.below hb⟩
theorem WvR.up {B B' : Nat} {w : World} {p : Wk} {s : Ws} (h : WvR B w p s) (hB : B ≤ B') : WvR B' w p s := ⟨h.1, h.2.more hB⟩

theorem work_info : (Try.prog.info? 35).map (fun i => (i.zero, i.size, i.bytes)) = some (some (.agg #[.int .i64 0, .int .i64 0, .slice none 0 0]), 3, 40) := by kernel_rfl

theorem below_ws {x y : Int} {ka : Option Addr} {kn kc : Nat} {ty : TypeId} (w : World) : Below w.heap.size w (w.alloc (.cells #[.int .i64 x, .int .i64 y, .slice ka kn kc] ty)) := (Below.refl _ _).alloc (Nat.le_refl _) _
theorem Own.setCell_far {α : Type} {E : Enc α} {e : TypeId} {base : Nat} {w : World} {v : Value} {L : List α} {p : Addr} (h : Own E e base w v L) (hp : p.block < base) (u : Value) : Own E e base (w.setCell p u) v L := ownsRow_setCell_below h hp u

theorem Ws.same_eq {s1 s2 : Ws} {p : Wk} (h1 : s1.same p) (h2 : s2.same p) : (s1.w != s2.w) = false ∧ (s1.h != s2.h) = false := by
  obtain ⟨a2, a3⟩ := h1
  obtain ⟨b2, b3⟩ := h2
  rw [a2, a3, b2, b3]
  simp

end Go.Proofs.Ytkckaooimffdpaa
