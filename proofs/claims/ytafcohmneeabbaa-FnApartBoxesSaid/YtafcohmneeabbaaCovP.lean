/-
  Points that boxes cover, plain: no program in sight.
-/
import Derived.Test.YtafcohmneeabbaaBoxP
namespace Go.Proofs.Ytafcohmneeabbaa
set_option linter.unusedSimpArgs false
set_option linter.unusedVariables false

def sumN : Nat → (Nat → Int) → Int
  | 0, _ => 0
  | n + 1, f => sumN n f + f n

theorem sumN_congr {n : Nat} {f g : Nat → Int} (h : ∀ k, k < n → f k = g k) : sumN n f = sumN n g := by
  induction n with
  | zero => rfl
  | succ n ih => rw [sumN, sumN, ih (fun k hk => h k (by omega)), h n (by omega)]
theorem sumN_add (n : Nat) (f g : Nat → Int) : sumN n (fun k => f k + g k) = sumN n f + sumN n g := by
  induction n with
  | zero => rfl
  | succ n ih => rw [sumN, sumN, sumN, ih]; omega
theorem sumN_le {n : Nat} {f g : Nat → Int} (h : ∀ k, k < n → f k ≤ g k) : sumN n f ≤ sumN n g := by
  induction n with
  | zero => exact Int.le_refl _
  | succ n ih => rw [sumN, sumN]; have := ih (fun k hk => h k (by omega)); have := h n (by omega); omega
theorem sumN_zero (n : Nat) : sumN n (fun _ => 0) = 0 := by
  induction n with
  | zero => rfl
  | succ n ih => rw [sumN, ih]; rfl
theorem sumN_const (n : Nat) (c : Int) : sumN n (fun _ => c) = n * c := by
  induction n with
  | zero => simp [sumN]
  | succ n ih => rw [sumN, ih]; push_cast; rw [Int.add_mul]; omega
theorem sumN_if (n : Nat) (lo hi c : Int) (h0 : 0 ≤ lo) (h1 : lo ≤ hi) (h2 : hi ≤ n) : sumN n (fun k => if lo ≤ (k : Int) ∧ (k : Int) < hi then c else 0) = (hi - lo) * c := by
  have h : ∀ m : Nat, sumN m (fun k => if lo ≤ (k : Int) ∧ (k : Int) < hi then c else 0) = (min hi m - min lo m) * c := by
    intro m
    induction m with
    | zero => rw [sumN, Int.min_eq_right (by omega), Int.min_eq_right (by omega)]; simp
    | succ m ih =>
      rw [sumN, ih]
      by_cases hc : lo ≤ (m : Int) ∧ (m : Int) < hi
      · rw [if_pos hc]
        have e : (min hi ((m + 1 : Nat) : Int) - min lo ((m + 1 : Nat) : Int)) = (min hi (m : Int) - min lo (m : Int)) + 1 := by omega
        rw [e, Int.add_mul]; omega
      · rw [if_neg hc]
        have e : (min hi ((m + 1 : Nat) : Int) - min lo ((m + 1 : Nat) : Int)) = (min hi (m : Int) - min lo (m : Int)) := by omega
        rw [e]; omega
  rw [h n, Int.min_eq_left h2, Int.min_eq_left (by omega)]

def inB (a : Bx) (x y : Nat) : Bool := decide (a.x ≤ (x : Int) ∧ (x : Int) < a.x + a.w ∧ a.y ≤ (y : Int) ∧ (y : Int) < a.y + a.h)
def b2i (b : Bool) : Int := if b = true then 1 else 0
theorem b2i_bd (b : Bool) : 0 ≤ b2i b ∧ b2i b ≤ 1 := by cases b <;> simp [b2i]
def pts (f : Nat → Nat → Bool) : Int := sumN 200 fun y => sumN 200 fun x => b2i (f x y)
theorem pts_congr {f g : Nat → Nat → Bool} (h : ∀ x y, f x y = g x y) : pts f = pts g := by
  have : f = g := by funext x y; exact h x y
  rw [this]
theorem row_bd (f : Nat → Bool) (n : Nat) : 0 ≤ sumN n (fun x => b2i (f x)) ∧ sumN n (fun x => b2i (f x)) ≤ n := by
  constructor
  · have := sumN_le (n := n) (f := fun _ => 0) (g := fun x => b2i (f x)) fun k _ => (b2i_bd _).1
    rwa [sumN_zero] at this
  · have := sumN_le (n := n) (f := fun x => b2i (f x)) (g := fun _ => 1) fun k _ => (b2i_bd _).2
    rw [sumN_const] at this; omega
theorem rows_bd (f : Nat → Nat → Bool) (n : Nat) : 0 ≤ sumN n (fun y => sumN 200 fun x => b2i (f x y)) ∧ sumN n (fun y => sumN 200 fun x => b2i (f x y)) ≤ n * 200 := by
  constructor
  · have := sumN_le (n := n) (f := fun _ => 0) (g := fun y => sumN 200 fun x => b2i (f x y)) fun k _ => (row_bd _ _).1
    rwa [sumN_zero] at this
  · have := sumN_le (n := n) (f := fun y => sumN 200 fun x => b2i (f x y)) (g := fun _ => 200) fun k _ => (row_bd _ _).2
    rwa [sumN_const] at this
theorem pts_bd (f : Nat → Nat → Bool) : 0 ≤ pts f ∧ pts f ≤ 40000 := by have := rows_bd f 200; unfold pts; omega
theorem pts_or {f g h : Nat → Nat → Bool} (hh : ∀ x y, b2i (f x y) = b2i (g x y) + b2i (h x y)) : pts f = pts g + pts h := by
  unfold pts
  rw [← sumN_add]
  refine sumN_congr fun y _ => ?_
  rw [← sumN_add]
  exact sumN_congr fun x _ => hh x y
theorem pts_none : pts (fun _ _ => false) = 0 := by
  unfold pts
  have : (fun y : Nat => sumN 200 fun _ => b2i false) = fun _ => (0 : Int) := by funext y; exact sumN_zero 200
  rw [this, sumN_zero]

theorem pts_box {a : Bx} (ha : VB a) : pts (inB a) = a.w * a.h := by
  unfold VB at ha
  unfold pts
  have e : ∀ y : Nat, sumN 200 (fun x => b2i (inB a x y)) = if a.y ≤ (y : Int) ∧ (y : Int) < a.y + a.h then a.w else 0 := by
    intro y
    by_cases hy : a.y ≤ (y : Int) ∧ (y : Int) < a.y + a.h
    · rw [if_pos hy]
      have : ∀ x : Nat, b2i (inB a x y) = if a.x ≤ (x : Int) ∧ (x : Int) < a.x + a.w then 1 else 0 := by
        intro x; unfold b2i inB; simp only [decide_eq_true_eq]; split <;> split <;> omega
      rw [sumN_congr fun x _ => this x, sumN_if 200 _ _ 1 (by omega) (by omega) (by omega)]; omega
    · rw [if_neg hy]
      have : ∀ x : Nat, b2i (inB a x y) = 0 := by
        intro x; unfold b2i inB; simp only [decide_eq_true_eq]; split <;> omega
      rw [sumN_congr fun x _ => this x, sumN_zero]
  rw [sumN_congr fun y _ => e y, sumN_if 200 _ _ _ (by omega) (by omega) (by omega)]
  have : a.y + a.h - a.y = a.h := by omega
  rw [this, Int.mul_comm]

def areaL (L : List Bx) : Int := (L.map fun b => b.w * b.h).sum
theorem areaL_nil : areaL [] = 0 := rfl
theorem areaL_cons (b : Bx) (L : List Bx) : areaL (b :: L) = b.w * b.h + areaL L := by simp [areaL]
theorem areaL_append (L M : List Bx) : areaL (L ++ M) = areaL L + areaL M := by simp [areaL]
theorem VB.area {b : Bx} (h : VB b) : 1 ≤ b.w * b.h ∧ b.w * b.h ≤ 40000 := by
  have e := pts_box h
  have := pts_bd (inB b)
  unfold VB at h
  have h1 : 0 < b.w * b.h := Int.mul_pos (by omega) (by omega)
  omega
theorem areaL_len {L : List Bx} (h : ∀ b ∈ L, VB b) : (L.length : Int) ≤ areaL L := by
  induction L with
  | nil => simp [areaL]
  | cons b L ih =>
    rw [areaL_cons]
    have := ih (fun c hc => h c (by simp [hc]))
    have := (h b (by simp)).area
    simp only [List.length_cons]; push_cast; omega

/-- The points of the disjoint parts of a box that b does not have. -/
def cutFn (f : Nat → Nat → Bool) (b : Bx) (x y : Nat) : Bool := f x y && !inB b x y

theorem leftL_valid {a b : Bx} (ha : VB a) (hb : VB b) : ∀ c ∈ leftL a b, VB c := by
  intro c hc
  unfold leftL at hc
  split at hc
  · rename_i hm
    have hm := meetRaw_valid ha hb (mtB_iff.1 hm)
    unfold leftParts lp1 lp2 lp3 lp4 at hc
    generalize meetRaw a b = m at hm hc
    rcases List.mem_append.1 hc with hc | hc
    · rcases List.mem_append.1 hc with hc | hc
      · rcases List.mem_append.1 hc with hc | hc
        · unfold opt at hc; split at hc
          · simp at hc; subst hc; unfold VB at *; simp only; omega
          · simp at hc
        · unfold opt at hc; split at hc
          · simp at hc; subst hc; unfold VB at *; simp only; omega
          · simp at hc
      · unfold opt at hc; split at hc
        · simp at hc; subst hc; unfold VB at *; simp only; omega
        · simp at hc
    · unfold opt at hc; split at hc
      · simp at hc; subst hc; unfold VB at *; simp only; omega
      · simp at hc
  · simp at hc; subst hc; exact ha

/-- How many boxes of a list have a point. -/
def indL (L : List Bx) (x y : Nat) : Int := (L.map fun b => b2i (inB b x y)).sum
theorem indL_nil (x y : Nat) : indL [] x y = 0 := rfl
theorem indL_cons (b : Bx) (L : List Bx) (x y : Nat) : indL (b :: L) x y = b2i (inB b x y) + indL L x y := by simp [indL]
theorem indL_append (L M : List Bx) (x y : Nat) : indL (L ++ M) x y = indL L x y + indL M x y := by simp [indL]
theorem areaL_pts {L : List Bx} (h : ∀ b ∈ L, VB b) : areaL L = sumN 200 fun y => sumN 200 fun x => indL L x y := by
  induction L with
  | nil =>
    have : (fun y : Nat => sumN 200 fun x => indL [] x y) = fun _ => (0 : Int) := by funext y; exact sumN_zero 200
    rw [this, sumN_zero]; rfl
  | cons b L ih =>
    rw [areaL_cons, ih (fun c hc => h c (by simp [hc])), ← pts_box (h b (by simp)), pts, ← sumN_add]
    refine sumN_congr fun y _ => ?_
    rw [← sumN_add]
    exact sumN_congr fun x _ => (indL_cons b L x y).symm

theorem opt_ind (c : Prop) [Decidable c] (b : Bx) (x y : Nat) : indL (opt c b) x y = if c ∧ b.x ≤ (x : Int) ∧ (x : Int) < b.x + b.w ∧ b.y ≤ (y : Int) ∧ (y : Int) < b.y + b.h then 1 else 0 := by
  by_cases hc : c
  · rw [opt_t hc, indL_cons, indL_nil]; simp [hc, b2i, inB]
  · rw [opt_f hc, indL_nil]; simp [hc]

theorem left_ind {a b : Bx} (ha : VB a) (hb : VB b) (x y : Nat) : indL (leftL a b) x y = b2i (cutFn (inB a) b x y) := by
  unfold leftL
  by_cases hm : mtB a b = true
  · rw [if_pos hm]
    have hm := mtB_iff.1 hm
    unfold leftParts lp1 lp2 lp3 lp4
    rw [indL_append, indL_append, indL_append, opt_ind, opt_ind, opt_ind, opt_ind]
    unfold cutFn inB b2i Meets VB meetRaw at *
    simp only [Bool.and_eq_true, decide_eq_true_eq, Bool.not_eq_true', decide_eq_false_iff_not] at *
    by_cases h1 : a.x ≤ (x : Int) ∧ (x : Int) < a.x + a.w ∧ a.y ≤ (y : Int) ∧ (y : Int) < a.y + a.h
    · by_cases h2 : b.x ≤ (x : Int) ∧ (x : Int) < b.x + b.w ∧ b.y ≤ (y : Int) ∧ (y : Int) < b.y + b.h
      · rw [if_neg (by omega), if_neg (by omega), if_neg (by omega), if_neg (by omega), if_neg (by omega)]; rfl
      · rw [if_pos (show (_ ∧ ¬ _) from ⟨h1, h2⟩)]
        by_cases c1 : (x : Int) < b.x
        · rw [if_pos (by omega), if_neg (by omega), if_neg (by omega), if_neg (by omega)]; rfl
        · by_cases c2 : b.x + b.w ≤ (x : Int)
          · rw [if_neg (by omega), if_pos (by omega), if_neg (by omega), if_neg (by omega)]; rfl
          · by_cases c3 : (y : Int) < b.y
            · rw [if_neg (by omega), if_neg (by omega), if_pos (by omega), if_neg (by omega)]; rfl
            · rw [if_neg (by omega), if_neg (by omega), if_neg (by omega), if_pos (by omega)]; rfl
    · rw [if_neg (by omega), if_neg (by omega), if_neg (by omega), if_neg (by omega), if_neg (fun h => h1 h.1)]; rfl
  · rw [if_neg hm, indL_cons, indL_nil]
    have hm : ¬ Meets a b := fun h => hm (mtB_iff.2 h)
    have : inB a x y = cutFn (inB a) b x y := by
      unfold cutFn inB Meets VB meetRaw at *
      rw [Bool.eq_iff_iff]
      simp only [Bool.and_eq_true, decide_eq_true_eq, Bool.not_eq_true', decide_eq_false_iff_not] at *
      omega
    rw [this]; omega

theorem left_area {a b : Bx} (ha : VB a) (hb : VB b) : areaL (leftL a b) ≤ a.w * a.h := by
  rw [areaL_pts (leftL_valid ha hb), ← pts_box ha]
  refine sumN_le fun y _ => sumN_le fun x _ => ?_
  rw [left_ind ha hb]
  unfold cutFn b2i
  cases inB a x y <;> cases inB b x y <;> simp

/-- One more box cut out of all parts. -/
def cutL (R : List Bx) (b : Bx) : List Bx := R.flatMap fun r => leftL r b
theorem cutL_nil (b : Bx) : cutL [] b = [] := rfl
theorem cutL_cons (r : Bx) (R : List Bx) (b : Bx) : cutL (r :: R) b = leftL r b ++ cutL R b := by simp [cutL]
theorem cutL_append (R S : List Bx) (b : Bx) : cutL (R ++ S) b = cutL R b ++ cutL S b := by simp [cutL]
theorem cutL_one (r : Bx) (b : Bx) : cutL [r] b = leftL r b := by simp [cutL]
theorem cutL_valid {R : List Bx} {b : Bx} (h : ∀ r ∈ R, VB r) (hb : VB b) : ∀ r ∈ cutL R b, VB r := by
  intro r hr
  obtain ⟨q, hq, hr⟩ := List.mem_flatMap.1 hr
  exact leftL_valid (h q hq) hb r hr
theorem cutL_area {R : List Bx} {b : Bx} (h : ∀ r ∈ R, VB r) (hb : VB b) : areaL (cutL R b) ≤ areaL R := by
  induction R with
  | nil => exact Int.le_refl _
  | cons r R ih =>
    rw [cutL_cons, areaL_append, areaL_cons]
    have := ih (fun c hc => h c (by simp [hc]))
    have := left_area (h r (by simp)) hb
    omega
theorem cutL_ind {R : List Bx} {b : Bx} (h : ∀ r ∈ R, VB r) (hb : VB b) (x y : Nat) : indL (cutL R b) x y = if inB b x y = true then 0 else indL R x y := by
  induction R with
  | nil => rw [cutL_nil, indL_nil]; simp
  | cons r R ih =>
    rw [cutL_cons, indL_append, ih (fun c hc => h c (by simp [hc])), left_ind (h r (by simp)) hb, indL_cons]
    unfold cutFn b2i
    cases inB r x y <;> cases inB b x y <;> simp

/-- What is left of a box when boxes are cut out, one after the other. -/
def restOf (a : Bx) (M : List Bx) : List Bx := M.foldl cutL [a]
theorem restOf_nil (a : Bx) : restOf a [] = [a] := rfl
theorem restOf_succ (a : Bx) (M : List Bx) (b : Bx) : restOf a (M ++ [b]) = cutL (restOf a M) b := by simp [restOf]
def anyB (M : List Bx) (x y : Nat) : Bool := M.any fun b => inB b x y
theorem anyB_snoc (M : List Bx) (b : Bx) (x y : Nat) : anyB (M ++ [b]) x y = (anyB M x y || inB b x y) := by simp [anyB]

theorem restOf_ok {a : Bx} (ha : VB a) : ∀ (k : Nat) (M : List Bx), (∀ b ∈ M, VB b) → k ≤ M.length → (∀ r ∈ restOf a (M.take k), VB r) ∧ areaL (restOf a (M.take k)) ≤ 40000 ∧ ∀ x y, indL (restOf a (M.take k)) x y = b2i (inB a x y && !anyB (M.take k) x y)
  | 0, M, hM, _ => by
    rw [List.take_zero, restOf_nil]
    refine ⟨by simpa using ha, ?_, fun x y => ?_⟩
    · rw [areaL_cons, areaL_nil]; have := ha.area; omega
    · rw [indL_cons, indL_nil]; simp [anyB]
  | k + 1, M, hM, hk => by
    obtain ⟨h1, h2, h3⟩ := restOf_ok ha k M hM (by omega)
    have hb := hM M[k] (List.getElem_mem _)
    rw [List.take_succ_eq_append_getElem (by omega), restOf_succ]
    refine ⟨cutL_valid h1 hb, Int.le_trans (cutL_area h1 hb) h2, fun x y => ?_⟩
    rw [cutL_ind h1 hb, h3, anyB_snoc]
    cases inB M[k] x y <;> cases inB a x y <;> cases anyB (M.take k) x y <;> simp [b2i]

/-- How many points the first k boxes have together. -/
def covTo (L : List Bx) (k : Nat) : Int := pts (anyB (L.take k))
def covN (L : List Bx) : Int := pts (anyB L)
theorem covTo_bd (L : List Bx) (k : Nat) : 0 ≤ covTo L k ∧ covTo L k ≤ 40000 := pts_bd _
theorem covTo_all (L : List Bx) : covTo L L.length = covN L := by rw [covTo, List.take_length, covN]
theorem covTo_zero (L : List Bx) : covTo L 0 = 0 := by rw [covTo, List.take_zero, ← pts_none]; exact pts_congr fun x y => rfl
theorem covTo_succ {L : List Bx} (h : ∀ b ∈ L, VB b) (k : Nat) (hk : k < L.length) : covTo L (k + 1) = covTo L k + areaL (restOf L[k] (L.take k)) := by
  obtain ⟨h1, h2, h3⟩ := restOf_ok (h L[k] (List.getElem_mem _)) k L h (by omega)
  rw [areaL_pts h1, covTo, covTo]
  unfold pts
  rw [← sumN_add]
  refine sumN_congr fun y _ => ?_
  rw [← sumN_add]
  refine sumN_congr fun x _ => ?_
  rw [h3, List.take_succ_eq_append_getElem hk, anyB_snoc]
  cases inB L[k] x y <;> cases anyB (L.take k) x y <;> simp [b2i]

/-- Valid lists of boxes. -/
def VBs (L : List Bx) : Prop := L.length ≤ 24 ∧ ∀ b ∈ L, VB b
instance (L : List Bx) : Decidable (VBs L) := by unfold VBs; infer_instance
def vbsB (L : List Bx) : Bool := decide (VBs L)
theorem vbsB_iff {L : List Bx} : vbsB L = true ↔ VBs L := by simp [vbsB]
theorem vbsB_not {L : List Bx} : vbsB L = false ↔ ¬ VBs L := by simp [vbsB]
def covOut (L : List Bx) : Int := if vbsB L = true then covN L else -1

end Go.Proofs.Ytafcohmneeabbaa
