/-
  A region that draws its order, with calls that only grow memory and whose answers are fixed: one walk serves every order. No program in sight.
-/
import Derived.Test.YtafcohmneeabbaaWords
import Derived.Deep.QuietTactic
import Derived.BigQuiet
namespace Go.Proofs.Ytafcohmneeabbaa
set_option linter.unusedSimpArgs false
set_option linter.unusedVariables false
open Go.RowKit

/-- A world that grew out of W: below block N it is as W was. -/
structure GW (N : Nat) (W : World) where
  w : World
  h : Below N W w
instance (N : Nat) (W : World) : Nonempty (GW N W) := ⟨⟨W, Below.refl _ _⟩⟩
theorem GW.cell {N : Nat} {W : World} (q : GW N W) (b o : Nat) (h : b < N) : q.w.cell? ⟨b, o, none⟩ = W.cell? ⟨b, o, none⟩ := q.h.cell (p := ⟨b, o, none⟩) h
theorem GW.call {P : Program} {f : FuncId} {args : Array Value} {v : Value} {N : Nat} {W : World} {q : GW N W} (hN : N ≤ W.heap.size) (h : Calls P f args q.w fun e w' => e = .returned v ∧ Below q.w.heap.size q.w w') :
    Calls P f args q.w fun e w'' => e = .returned v ∧ ∃ q' : GW N W, w'' = q'.w :=
  h.mono fun _ w'' ⟨h1, h2⟩ => ⟨h1, ⟨w'', q.h.trans (h2.mono (Nat.le_trans hN q.h.size))⟩, rfl⟩
theorem GW.callq {P : Program} {f : FuncId} {args : Array Value} {v : Value} {N : Nat} {W : World} {q : GW N W} (h : Calls P f args q.w fun e w' => e = .returned v ∧ q.w = w') :
    Calls P f args q.w fun e w'' => e = .returned v ∧ ∃ q' : GW N W, w'' = q'.w :=
  h.mono fun _ _ ⟨h1, h2⟩ => ⟨h1, q, h2.symm⟩

theorem wp_region_grow {P : Program} (N : Nat) (W : World) {id : Nat} {Q : Exit → Act → World → Prop} {a : Act} {l : List Oper} (hm : P.follows .mixedOrders = true) (hB : Region.lexB .any l.toArray = true)
    (h : wpQuiet P l.toArray (fun w' => ∃ q : GW N W, w' = q.w) (fun a' => ∀ w', (∃ q : GW N W, w' = q.w) → Q .normal a' w') l a) : (Code.region id l.toArray true).wp P Q a W :=
  wp_region_quiet (C := fun w' => ∃ q : GW N W, w' = q.w) hm hB ⟨⟨_, (Below.refl _ _).drew⟩, rfl⟩ (by simpa using h)

end Go.Proofs.Ytafcohmneeabbaa
