/-
  Contracts: whether a pane fills some glass, both sides; the value of the best pane for some glass.
-/
import Derived.Test.YtkckaooimffdpaaValue
import Derived.Test.YtkckaooimffdpaaBlk
import Derived.Test.YtkckaooimffdpaaRange
namespace Go.Proofs.Ytkckaooimffdpaa
set_option linter.unusedSimpArgs false
set_option linter.unusedVariables false
open Go.RowKit

def fitV (q : Pn) (t : Bool) (x y : Int) : Bool := if t then (q.t && (q.w != q.h) && (q.h == x) && (q.w == y)) else ((q.w == x) && (q.h == y))

set_option maxHeartbeats 3200000 in
set_option maxRecDepth 100000 in
theorem fitsPlan_c (x y ww wh : Int) (F : List Pn) (A : Option Addr) (c : Nat) (i : Nat) (t : Bool) (w : World) (h : Row paneE w (.slice A F.length c) F) (hi : i < F.length) : Calls Try.prog 53 #[.agg #[.int .i64 ww, .int .i64 wh, .slice A F.length c], .agg #[.int .i64 1, .int .i64 0, .int .i64 i, .bool t, .slice none 0 0], .int .i64 x, .int .i64 y] w fun e w' => e = .returned (.bool (fitV F[i] t x y)) ∧ Below w.heap.size w w' := by
  obtain ⟨-, hc1, hm1, -⟩ := h.at_
  unfold maxLen at hm1
  have hb0 := ((Below.refl w.heap.size w).alloc (Nat.le_refl _) (.cells #[.int .i64 ww, .int .i64 wh, .slice A F.length c] 35)).alloc (by simp) (.cells #[.int .i64 1, .int .i64 0, .int .i64 i, .bool t, .slice none 0 0] 69)
  have HB0 := hid hb0
  have HH := hid (h.go hb0)
  obtain ⟨b1, o1, rfl, hb1, hx⟩ := row_panes HH.out (by omega)
  obtain ⟨x0, x1, x2, x3⟩ := hx i hi
  have hr1 : (0 : Int) ≤ (i : Int) := by omega
  have hr2 : (i : Int) ≤ (F.length : Int) - 1 := by omega
  have HFV : Hid (∀ c : Bool, c = (if t then (F[i].t && (F[i].w != F[i].h) && (F[i].h == x) && (F[i].w == y)) else ((F[i].w == x) && (F[i].h == y))) → c = fitV F[i] t x y) := fun c e => e
  clear h hb0 hx
  go_enter Try.func53, Try.ntmps53
  go_wp2_with fail
  refine (inRange_t _ _ _ _ hr1 hr2).mono ?_; rintro e w3 ⟨rfl, rfl⟩
  cases t
  all_goals
    go_wp2
    all_goals
      go_ret
      exact ⟨ret_bool (HFV.out _ (by simp_all)), HB0.out.alloc HB0.out.size _⟩


set_option maxHeartbeats 3200000 in
set_option maxRecDepth 100000 in
theorem paneFills_c (x y ww wh : Int) (F : List Pn) (A : Option Addr) (c : Nat) (i : Nat) (t : Bool) (w : World) (h : Row paneE w (.slice A F.length c) F) (hi : i < F.length) : Calls Try.prog 51 #[.agg #[.int .i64 ww, .int .i64 wh, .slice A F.length c], .int .i64 (i : Nat), .bool t, .int .i64 x, .int .i64 y] w fun e w' => e = .returned (.bool (fitV F[i] t x y)) ∧ Below w.heap.size w w' := by
  obtain ⟨-, hc1, hm1, -⟩ := h.at_
  unfold maxLen at hm1
  have hb0 := ((Below.refl w.heap.size w).alloc (Nat.le_refl _) (.cells #[.int .i64 ww, .int .i64 wh, .slice A F.length c] 35))
  have HB0 := hid hb0
  have HH := hid (h.go hb0)
  obtain ⟨b1, o1, rfl, hb1, hx⟩ := row_panes HH.out (by omega)
  obtain ⟨x0, x1, x2, x3⟩ := hx i hi
  have HFV : Hid (∀ c : Bool, c = (if t then (F[i].t && (F[i].w != F[i].h) && (F[i].h == x) && (F[i].w == y)) else ((F[i].w == x) && (F[i].h == y))) → c = fitV F[i] t x y) := fun c e => e
  clear h hb0 hx
  go_enter Try.func51, Try.ntmps51
  cases t
  all_goals
    go_wp2
    all_goals
      go_ret
      exact ⟨ret_bool (HFV.out _ (by simp_all)), HB0.out.alloc HB0.out.size _⟩

/-- The value of the best of the first panes for some glass. -/
def up1 (m v : Int) (b : Bool) : Int := if b = true ∧ m < v then v else m
def lfj (q : Pn) (v x y m : Int) : Nat → Int
  | 0 => m
  | 1 => up1 m v (fitV q false x y)
  | _ => up1 (up1 m v (fitV q false x y)) v (fitV q true x y)
def lfk (f : List Pn) (V : List Int) (x y : Int) : Nat → Int
  | 0 => 0
  | i + 1 => lfj (f.getD i ⟨0, 0, false, 0⟩) (V.getD i 0) x y (lfk f V x y i) 2
theorem up1_bd {m v : Int} (b : Bool) (hm : 0 ≤ m ∧ m ≤ 1000) (hv : 1 ≤ v ∧ v ≤ 1000) : 0 ≤ up1 m v b ∧ up1 m v b ≤ 1000 := by unfold up1; split <;> omega
theorem lfk_bd {f : List Pn} {V : List Int} (x y : Int) (hV : okV V) : ∀ k, k ≤ V.length → 0 ≤ lfk f V x y k ∧ lfk f V x y k ≤ 1000
  | 0, _ => by simp [lfk]
  | k + 1, h => by
    have h1 := lfk_bd (f := f) x y hV k (by omega)
    have h2 := hV _ (List.getElem_mem (show k < V.length by omega))
    have h3 : V.getD k 0 = V[k] := by rw [List.getD_eq_getElem?_getD, List.getElem?_eq_getElem (by omega)]; rfl
    unfold lfk lfj
    rw [h3]
    exact up1_bd _ (up1_bd _ h1 h2) h2

end Go.Proofs.Ytkckaooimffdpaa
