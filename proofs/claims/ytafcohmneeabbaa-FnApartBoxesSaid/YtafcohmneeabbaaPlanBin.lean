/-
  In how many orders cuts can be made: binomials, plain.
-/
import Derived.Test.YtafcohmneeabbaaPlanW
namespace Go.Proofs.Ytafcohmneeabbaa
set_option linter.unusedSimpArgs false
set_option linter.unusedVariables false

/-- In how many ways a and b things can be mixed. -/
def bin : Nat → Nat → Nat
  | 0, _ => 1
  | _ + 1, 0 => 1
  | a + 1, b + 1 => bin a (b + 1) + bin (a + 1) b
theorem bin_zero (a : Nat) : bin a 0 = 1 := by cases a <;> rw [bin]
theorem bin_zl (b : Nat) : bin 0 b = 1 := by rw [bin]
theorem bin_succ (a b : Nat) : bin (a + 1) (b + 1) = bin a (b + 1) + bin (a + 1) b := by rw [bin]
theorem bin_pos : ∀ a b, 1 ≤ bin a b
  | 0, b => by rw [bin_zl]; exact Nat.le_refl _
  | a + 1, 0 => by rw [bin_zero]; exact Nat.le_refl _
  | a + 1, b + 1 => by rw [bin_succ]; have := bin_pos a (b + 1); omega
theorem bin_comm : ∀ a b, bin a b = bin b a
  | 0, b => by rw [bin_zl, bin_zero]
  | a + 1, 0 => by rw [bin_zl, bin_zero]
  | a + 1, b + 1 => by rw [bin_succ, bin_succ, bin_comm a (b + 1), bin_comm (a + 1) b]; omega
/-- The step, in both places at once. -/
theorem bin_step : ∀ a b, (b + 1) * bin a (b + 1) = (a + b + 1) * bin a b ∧ (a + 1) * bin (a + 1) b = (a + b + 1) * bin a b
  | 0, b => by
    refine ⟨by rw [bin_zl, bin_zl]; omega, ?_⟩
    induction b with
    | zero => simp [bin_zero]
    | succ b ih =>
      rw [bin_succ, bin_zl]
      rw [bin_zl] at ih
      omega
  | a + 1, 0 => by
    refine ⟨?_, by rw [bin_zero, bin_zero]⟩
    have h := (bin_step a 0).1
    have h2 := (bin_step a 0).2
    rw [bin_succ, bin_zero] at *
    simp only [bin_zero] at *
    omega
  | a + 1, b + 1 => by
    have h1 := bin_step a (b + 1)
    have h2 := bin_step (a + 1) b
    refine ⟨?_, ?_⟩
    · rw [bin_succ a (b + 1), Nat.mul_add, h1.1]
      have h3 := h1.2
      have e : (a + (b + 1) + 1) * bin a (b + 1) = (a + 1) * bin (a + 1) (b + 1) := h3.symm
      rw [e, ← Nat.add_mul]
      congr 1
    · rw [bin_succ (a + 1) b, Nat.mul_add, h2.2]
      have e : (a + 1 + b + 1) * bin (a + 1) b = (b + 1) * bin (a + 1) (b + 1) := h2.1.symm
      have e2 : (a + 1 + 1) * bin (a + 1) (b + 1) + (b + 1) * bin (a + 1) (b + 1) = (a + 1 + (b + 1) + 1) * bin (a + 1) (b + 1) := by
        rw [← Nat.add_mul]
        congr 1
        omega
      rw [e, e2]

def fac : Nat → Nat
  | 0 => 1
  | n + 1 => (n + 1) * fac n
theorem fac_pos : ∀ n, 1 ≤ fac n
  | 0 => Nat.le_refl _
  | n + 1 => by rw [fac]; exact Nat.mul_pos (by omega) (fac_pos n)
theorem bin_fac : ∀ a b, bin a b * (fac a * fac b) = fac (a + b)
  | a, 0 => by rw [bin_zero, fac, Nat.one_mul, Nat.mul_one]; rfl
  | a, b + 1 => by
    have h := (bin_step a b).1
    rw [fac]
    have e : bin a (b + 1) * (fac a * ((b + 1) * fac b)) = ((b + 1) * bin a (b + 1)) * (fac a * fac b) := by
      rw [Nat.mul_left_comm (fac a), ← Nat.mul_assoc, Nat.mul_comm (bin a (b + 1)) (b + 1)]
    rw [e, h, Nat.mul_assoc, bin_fac a b]
    rfl
theorem fac_mono {m n : Nat} (h : m ≤ n) : fac m ≤ fac n := by
  induction n with
  | zero => have : m = 0 := by omega
            rw [this]; exact Nat.le_refl _
  | succ n ih =>
    by_cases e : m = n + 1
    · rw [e]; exact Nat.le_refl _
    · have := ih (by omega)
      rw [fac]
      exact Nat.le_trans this (Nat.le_mul_of_pos_left _ (by omega))
theorem bin_mono (a b : Nat) : bin a b ≤ bin a (b + 1) := by
  cases a with
  | zero => rw [bin_zl, bin_zl]; exact Nat.le_refl _
  | succ a => rw [bin_succ]; omega
theorem bin_le (a : Nat) {i b : Nat} (h : i ≤ b) : bin a i ≤ bin a b := by
  induction b with
  | zero => have : i = 0 := by omega
            rw [this]; exact Nat.le_refl _
  | succ b ih =>
    by_cases e : i = b + 1
    · rw [e]; exact Nat.le_refl _
    · exact Nat.le_trans (ih (by omega)) (bin_mono a b)

/-- In how many orders the cuts of a tree can be made. -/
def cstN : Tr → Nat
  | .leaf _ _ _ => 1
  | .cut _ _ l r => cstN l * cstN r * bin (cuts l) (cuts r)
theorem cstN_pos : ∀ t, 1 ≤ cstN t
  | .leaf _ _ _ => Nat.le_refl _
  | .cut _ _ l r => Nat.mul_pos (Nat.mul_pos (cstN_pos l) (cstN_pos r)) (bin_pos _ _)
theorem cstN_fac : ∀ t, cstN t ≤ fac (cuts t)
  | .leaf _ _ _ => Nat.le_refl _
  | .cut _ _ l r => by
    have h1 := cstN_fac l
    have h2 := cstN_fac r
    have h3 := bin_fac (cuts l) (cuts r)
    simp only [cstN, cuts]
    have h4 : cstN l * cstN r ≤ fac (cuts l) * fac (cuts r) := Nat.mul_le_mul h1 h2
    have h5 : cstN l * cstN r * bin (cuts l) (cuts r) ≤ fac (cuts l + cuts r) := by
      rw [← h3, Nat.mul_comm (bin _ _)]
      exact Nat.mul_le_mul_right _ h4
    exact Nat.le_trans h5 (fac_mono (by omega))
theorem cstN_bd {t : Tr} (h : cuts t ≤ 10) : cstN t ≤ 3628800 := Nat.le_trans (cstN_fac t) (Nat.le_trans (fac_mono h) (by decide))
def cst (t : Tr) : Int := cstN t

/-- One round of the reference's loop. -/
theorem round_div (N a i : Nat) : ((N : Int) * bin a i * (a + (i + 1)) / (i + 1)) = (N : Int) * bin a (i + 1) := by
  have h := (bin_step a i).1
  have h' : ((i : Int) + 1) * (bin a (i + 1) : Int) = ((a : Int) + i + 1) * (bin a i : Int) := by exact_mod_cast h
  have e : (N : Int) * bin a i * (a + (i + 1)) = (N * bin a (i + 1)) * (i + 1) := by
    rw [Int.mul_assoc, Int.mul_comm (bin a i : Int), show ((a : Int) + (i + 1)) = (a : Int) + i + 1 by omega, ← h', Int.mul_assoc (N : Int), Int.mul_comm (bin a (i + 1) : Int)]
  rw [e, Int.mul_ediv_cancel _ (by omega)]

end Go.Proofs.Ytafcohmneeabbaa
