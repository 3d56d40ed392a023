/-
  The program's way to count points: one row of marks for each y. Plain.
-/
import Derived.Test.YtafcohmneeabbaaCovP
namespace Go.Proofs.Ytafcohmneeabbaa
set_option linter.unusedSimpArgs false
set_option linter.unusedVariables false

/-- A row of 200 marks. -/
def rowF (f : Nat → Bool) : List Bool := (List.range 200).map f
theorem rowF_len (f : Nat → Bool) : (rowF f).length = 200 := by simp [rowF]
theorem rowF_at (f : Nat → Bool) (x : Nat) (h : x < (rowF f).length) : (rowF f)[x] = f x := by simp [rowF]
theorem rowF_congr {f g : Nat → Bool} (h : ∀ z, z < 200 → f z = g z) : rowF f = rowF g := by
  unfold rowF
  exact List.map_congr_left fun z hz => h z (List.mem_range.1 hz)
theorem rowF_false : rowF (fun _ => false) = List.replicate 200 false := by
  apply List.ext_getElem
  · rw [rowF_len, List.length_replicate]
  · intro n h1 h2; rw [rowF_at, List.getElem_replicate]
theorem rowF_set (f g : Nat → Bool) (x : Nat) (h : ∀ z, z < 200 → g z = (f z || decide (z = x))) : (rowF f).set x true = rowF g := by
  apply List.ext_getElem
  · simp [rowF]
  · intro n h1 h2
    rw [List.getElem_set, rowF_at, rowF_at, h n (by simpa [rowF] using h2)]
    by_cases e : x = n
    · rw [if_pos e]; simp [e]
    · rw [if_neg e]
      have : decide (n = x) = false := by simp; omega
      rw [this, Bool.or_false]

def cnt (f : Nat → Bool) : Int := sumN 200 fun x => b2i (f x)
theorem cnt_bd (f : Nat → Bool) : 0 ≤ cnt f ∧ cnt f ≤ 200 := row_bd f 200
theorem cnt_congr {f g : Nat → Bool} (h : ∀ z, z < 200 → f z = g z) : cnt f = cnt g := sumN_congr fun z hz => by rw [h z hz]
theorem sumN_one (n x : Nat) (hx : x < n) : sumN n (fun z => b2i (decide (z = x))) = 1 := by
  induction n with
  | zero => omega
  | succ n ih =>
    rw [sumN]
    by_cases e : x = n
    · subst e
      have : sumN x (fun z => b2i (decide (z = x))) = 0 := by
        rw [sumN_congr (g := fun _ => 0) (fun z hz => by simp [b2i]; omega), sumN_zero]
      rw [this]; simp [b2i]
    · rw [ih (by omega)]
      have : decide (n = x) = false := by simp; omega
      rw [this]; simp [b2i]
theorem cnt_set (f g : Nat → Bool) (x : Nat) (hx : x < 200) (h0 : f x = false) (h : ∀ z, z < 200 → g z = (f z || decide (z = x))) : cnt g = cnt f + 1 := by
  rw [cnt_congr h]
  unfold cnt
  rw [← sumN_one 200 x hx, ← sumN_add]
  refine sumN_congr fun z hz => ?_
  by_cases e : z = x
  · subst e; rw [h0]; simp [b2i]
  · have : decide (z = x) = false := by simp [e]
    show b2i (f z || decide (z = x)) = b2i (f z) + b2i (decide (z = x))
    rw [this, Bool.or_false]; simp [b2i]

/-- What the first y rows count. -/
def rowsTo (L : List Bx) (y : Nat) : Int := sumN y fun y' => cnt fun x => anyB L x y'
theorem rowsTo_succ (L : List Bx) (y : Nat) : rowsTo L (y + 1) = rowsTo L y + cnt fun x => anyB L x y := rfl
theorem rowsTo_all (L : List Bx) : rowsTo L 200 = covN L := rfl
theorem rowsTo_bd (L : List Bx) (y : Nat) : 0 ≤ rowsTo L y ∧ rowsTo L y ≤ y * 200 := rows_bd (anyB L) y

/-- The marks behind the first j boxes; inside of box j, up to x0. -/
def rowA (L : List Bx) (y j : Nat) (z : Nat) : Bool := anyB (L.take j) z y
def rowG (L : List Bx) (y j : Nat) (lo hi : Int) (z : Nat) : Bool := anyB (L.take j) z y || decide (lo ≤ (z : Int) ∧ (z : Int) < hi)
theorem rowA_zero (L : List Bx) (y z : Nat) : rowA L y 0 z = false := by simp [rowA, anyB]
theorem rowA_all (L : List Bx) (y z : Nat) : rowA L y L.length z = anyB L z y := by rw [rowA, List.take_length]
theorem rowA_skip {L : List Bx} {y j : Nat} (hj : j < L.length) (h : ¬ (L[j].y ≤ (y : Int) ∧ (y : Int) < L[j].y + L[j].h)) (z : Nat) : rowA L y (j + 1) z = rowA L y j z := by
  rw [rowA, List.take_succ_eq_append_getElem hj, anyB_snoc]
  have : inB L[j] z y = false := by unfold inB; rw [decide_eq_false_iff_not]; omega
  rw [this, Bool.or_false, rowA]
theorem rowA_in {L : List Bx} {y j : Nat} (hj : j < L.length) (h : L[j].y ≤ (y : Int) ∧ (y : Int) < L[j].y + L[j].h) (z : Nat) : rowA L y (j + 1) z = rowG L y j L[j].x (L[j].x + L[j].w) z := by
  rw [rowA, List.take_succ_eq_append_getElem hj, anyB_snoc, rowG]
  have : inB L[j] z y = decide (L[j].x ≤ (z : Int) ∧ (z : Int) < L[j].x + L[j].w) := by unfold inB; rw [decide_eq_decide]; omega
  rw [this]
theorem rowG_start (L : List Bx) (y j : Nat) (lo : Int) (z : Nat) : rowG L y j lo lo z = rowA L y j z := by
  have : decide (lo ≤ (z : Int) ∧ (z : Int) < lo) = false := by rw [decide_eq_false_iff_not]; omega
  rw [rowG, this, Bool.or_false, rowA]
theorem rowG_succ (L : List Bx) (y j : Nat) (lo : Int) (x : Nat) (h : lo ≤ (x : Int)) (z : Nat) : rowG L y j lo (x + 1) z = (rowG L y j lo x z || decide (z = x)) := by
  unfold rowG
  rw [Bool.or_assoc]
  congr 1
  rw [Bool.eq_iff_iff]
  simp only [Bool.or_eq_true, decide_eq_true_eq]
  omega
theorem rowG_same (L : List Bx) (y j : Nat) (lo : Int) (x : Nat) (h : lo ≤ (x : Int)) (hx : rowG L y j lo x x = true) (z : Nat) : rowG L y j lo (x + 1) z = rowG L y j lo x z := by
  rw [rowG_succ L y j lo x h]
  by_cases e : z = x
  · subst e; rw [hx]; rfl
  · have : decide (z = x) = false := by simp [e]
    rw [this, Bool.or_false]

end Go.Proofs.Ytafcohmneeabbaa
