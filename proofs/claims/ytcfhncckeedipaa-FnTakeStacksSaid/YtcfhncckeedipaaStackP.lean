/-
  Stacks, lifts and swaps of turns, plain: no program in sight.
-/
import Derived.Test.YtcfhncckeedipaaRiseQ
import Derived.Test.YtcfhncckeedipaaRiseFall
namespace Go.Proofs.Ytcfhncckeedipaa
set_option linter.unusedSimpArgs false
set_option linter.unusedVariables false

/-- A valid turn and valid stacks of it. -/
def VS (L S : List Int) : Prop := VT L ∧ S.length = L.length ∧ ∀ x ∈ S, 0 ≤ x ∧ x ≤ 23
instance (L S : List Int) : Decidable (VS L S) := by unfold VS; infer_instance
def vsB (L S : List Int) : Bool := decide (VS L S)
theorem vsB_iff {L S : List Int} : vsB L S = true ↔ VS L S := by simp [vsB]
theorem vsB_not {L S : List Int} : vsB L S = false ↔ ¬ VS L S := by simp [vsB]

/-- How many of the first q have a property; sums. -/
def cntTo (p : Nat → Bool) : Nat → Nat
  | 0 => 0
  | q + 1 => cntTo p q + (if p q = true then 1 else 0)
def sumTo (f : Nat → Nat) : Nat → Nat
  | 0 => 0
  | q + 1 => sumTo f q + f q
theorem cntTo_le (p : Nat → Bool) (q : Nat) : cntTo p q ≤ q := by
  induction q with
  | zero => simp [cntTo]
  | succ q ih => simp only [cntTo]; split <;> omega
theorem cntTo_yes {p : Nat → Bool} {q : Nat} (h : p q = true) : cntTo p (q + 1) = cntTo p q + 1 := by simp [cntTo, h]
theorem cntTo_no {p : Nat → Bool} {q : Nat} (h : p q = false) : cntTo p (q + 1) = cntTo p q := by simp [cntTo, h]
theorem cntTo_zero {p : Nat → Bool} {q : Nat} (h : ∀ j, j < q → p j = false) : cntTo p q = 0 := by
  induction q with
  | zero => rfl
  | succ q ih => rw [cntTo_no (h q (by omega)), ih (fun j hj => h j (by omega))]
theorem cntTo_pos {p : Nat → Bool} {q j : Nat} (hj : j < q) (h : p j = true) : 0 < cntTo p q := by
  induction q with
  | zero => omega
  | succ q ih =>
    by_cases e : j = q
    · subst e; rw [cntTo_yes h]; omega
    · have := ih (by omega); simp only [cntTo]; omega
theorem cntTo_mono {p r : Nat → Bool} (q : Nat) (h : ∀ j, j < q → p j = true → r j = true) : cntTo p q ≤ cntTo r q := by
  induction q with
  | zero => simp [cntTo]
  | succ q ih =>
    have := ih (fun j hj => h j (by omega))
    have h2 := h q (by omega)
    simp only [cntTo]
    split
    · rename_i h3; rw [h2 h3]; simp; omega
    · omega
theorem cntTo_congr {p r : Nat → Bool} (q : Nat) (h : ∀ j, j < q → p j = r j) : cntTo p q = cntTo r q := by
  induction q with
  | zero => rfl
  | succ q ih => simp only [cntTo]; rw [ih (fun j hj => h j (by omega)), h q (by omega)]
theorem sumTo_congr {f g : Nat → Nat} (q : Nat) (h : ∀ j, j < q → f j = g j) : sumTo f q = sumTo g q := by
  induction q with
  | zero => rfl
  | succ q ih => simp only [sumTo]; rw [ih (fun j hj => h j (by omega)), h q (by omega)]
theorem sumTo_mono {f g : Nat → Nat} (q : Nat) (h : ∀ j, j < q → f j ≤ g j) : sumTo f q ≤ sumTo g q := by
  induction q with
  | zero => simp [sumTo]
  | succ q ih => have := ih (fun j hj => h j (by omega)); have := h q (by omega); simp only [sumTo]; omega
theorem sumTo_add (f g : Nat → Nat) (q : Nat) : sumTo (fun i => f i + g i) q = sumTo f q + sumTo g q := by
  induction q with
  | zero => rfl
  | succ q ih => simp only [sumTo]; omega
theorem sumTo_zero {f : Nat → Nat} {q : Nat} (h : ∀ j, j < q → f j = 0) : sumTo f q = 0 := by
  induction q with
  | zero => rfl
  | succ q ih => simp only [sumTo]; rw [ih (fun j hj => h j (by omega)), h q (by omega)]
theorem sumTo_pos {f : Nat → Nat} {q j : Nat} (hj : j < q) (h : 0 < f j) : 0 < sumTo f q := by
  induction q with
  | zero => omega
  | succ q ih =>
    simp only [sumTo]
    by_cases e : j = q
    · subst e; omega
    · have := ih (by omega); omega
theorem sumTo_id (q : Nat) : 2 * sumTo (fun i => i) q = q * (q - 1) := by
  induction q with
  | zero => rfl
  | succ q ih =>
    simp only [sumTo, Nat.mul_add, ih]
    cases q with
    | zero => rfl
    | succ q => simp only [Nat.add_sub_cancel, Nat.add_mul, Nat.mul_add, Nat.one_mul, Nat.mul_one]; omega
theorem cntTo_sum (p : Nat → Bool) (q : Nat) : cntTo p q = sumTo (fun j => if p j = true then 1 else 0) q := by
  induction q with
  | zero => rfl
  | succ q ih => simp only [cntTo, sumTo, ih]
theorem sumTo_swap (f : Nat → Nat → Nat) (n : Nat) : ∀ m, sumTo (fun i => sumTo (f i) m) n = sumTo (fun k => sumTo (fun i => f i k) n) m := by
  intro m
  induction m with
  | zero => exact sumTo_zero (fun _ _ => rfl)
  | succ m ih => simp only [sumTo]; rw [sumTo_add, ih]
theorem sumTo_bd (p : Nat → Nat → Bool) (q : Nat) : sumTo (fun i => cntTo (p i) i) q ≤ q * q := by
  induction q with
  | zero => simp [sumTo]
  | succ q ih => have := cntTo_le (p q) q; simp only [sumTo]; rw [Nat.add_mul, Nat.mul_add]; omega

/-- Is pane i above pane j of the same stack, though it is delivered later? -/
def liftB (L S : List Int) (j i : Nat) : Bool := decide (S.getD j 0 = S.getD i 0) && decide (L.getD j 0 < L.getD i 0)
def liftI (L S : List Int) (i q : Nat) : Nat := cntTo (fun j => liftB L S j i) q
def liftsTo (L S : List Int) (n : Nat) : Nat := sumTo (fun i => liftI L S i i) n
def upI (L S : List Int) (i q : Nat) : Nat := cntTo (fun k => decide (i < k) && liftB L S i k) q
def upTo (L S : List Int) (n : Nat) : Nat := sumTo (fun i => upI L S i L.length) n
/-- What LiftsOf answers. -/
def liftsN (L S : List Int) : Nat := liftsTo L S L.length
theorem up_lifts (L S : List Int) : upTo L S L.length = liftsN L S := by
  unfold upTo liftsN liftsTo upI liftI
  have h : ∀ i, i < L.length → cntTo (fun k => decide (i < k) && liftB L S i k) L.length = sumTo (fun k => if (decide (i < k) && liftB L S i k) = true then 1 else 0) L.length := fun i _ => cntTo_sum _ _
  rw [sumTo_congr _ h, sumTo_swap]
  refine sumTo_congr _ fun i hi => ?_
  rw [← cntTo_sum]
  have key : ∀ n, cntTo (fun j => decide (j < i) && liftB L S j i) (i + n) = cntTo (fun j => liftB L S j i) i := by
    intro n
    induction n with
    | zero => exact cntTo_congr _ fun j hj => by simp only [Nat.add_zero] at hj; simp [hj]
    | succ n ih =>
      have hni : ¬ (i + n < i) := by omega
      rw [← Nat.add_assoc, cntTo_no (by simp [hni]), ih]
  have := key (L.length - i)
  rw [show i + (L.length - i) = L.length by omega] at this
  exact this
theorem upI_start (L S : List Int) (i : Nat) : upI L S i (i + 1) = 0 := cntTo_zero fun j hj => by simp; omega
theorem liftsTo_bd (L S : List Int) (n : Nat) : liftsTo L S n ≤ n * n := sumTo_bd (fun i j => liftB L S j i) n
theorem upTo_bd (L S : List Int) (n : Nat) : upTo L S n ≤ n * L.length := by
  induction n with
  | zero => simp [upTo, sumTo]
  | succ n ih => unfold upTo at *; have := cntTo_le (fun k => decide (n < k) && liftB L S n k) L.length; simp only [sumTo, upI] at *; rw [Nat.add_mul]; omega
theorem liftB_yes {L S : List Int} {j i : Nat} (hj : j < L.length) (hi : i < L.length) (hl : S.length = L.length) (h1 : S[j] = S[i]) (h2 : L[j] < L[i]) : liftB L S j i = true := by
  simp [liftB, List.getD_eq_getElem?_getD, hj, hi, hl, h1, h2]
theorem liftB_no {L S : List Int} {j i : Nat} (hj : j < L.length) (hi : i < L.length) (hl : S.length = L.length) (h : ¬ (S[j] = S[i] ∧ L[j] < L[i])) : liftB L S j i = false := by
  simp only [liftB, List.getD_eq_getElem?_getD, List.getElem?_eq_getElem hj, List.getElem?_eq_getElem hi, List.getElem?_eq_getElem (show j < S.length by omega), List.getElem?_eq_getElem (show i < S.length by omega), Option.getD_some]
  rw [← Bool.not_eq_true, Bool.and_eq_true, decide_eq_true_iff, decide_eq_true_iff]
  exact h
theorem liftB_iff {L S : List Int} {j i : Nat} (hj : j < L.length) (hi : i < L.length) (hl : S.length = L.length) : liftB L S j i = true ↔ S[j] = S[i] ∧ L[j] < L[i] := by
  by_cases h : S[j] = S[i] ∧ L[j] < L[i]
  · simp [liftB_yes hj hi hl h.1 h.2, h]
  · rw [liftB_no hj hi hl h]; simp [h]

/-- Swaps: pairs of which the first is delivered later. -/
def swapB (L : List Int) (j i : Nat) : Bool := decide (L.getD i 0 < L.getD j 0)
def swapI (L : List Int) (i q : Nat) : Nat := cntTo (fun j => swapB L j i) q
def swapsTo (L : List Int) (n : Nat) : Nat := sumTo (fun i => swapI L i i) n
def swapsN (L : List Int) : Nat := swapsTo L L.length
theorem swapsTo_bd (L : List Int) (n : Nat) : swapsTo L n ≤ n * n := sumTo_bd (fun i j => swapB L j i) n
theorem nodup_ne {L : List Int} (h : L.Nodup) {i j : Nat} (hij : i < j) (hj : j < L.length) : L[i] ≠ L[j] := by
  unfold List.Nodup at h
  rw [List.pairwise_iff_getElem] at h
  exact h i j (by omega) hj hij
theorem lifts_swaps {L : List Int} (hv : VT L) : 2 * (liftsN L (List.replicate L.length 0) + swapsN L) = L.length * (L.length - 1) := by
  unfold liftsN swapsN liftsTo swapsTo
  rw [← sumTo_add, ← sumTo_id]
  congr 1
  refine sumTo_congr _ fun i hi => ?_
  have key : ∀ q, q ≤ i → liftI L (List.replicate L.length 0) i q + swapI L i q = q := by
    intro q
    induction q with
    | zero => intro _; rfl
    | succ q ih =>
      intro hq
      have h1 := ih (by omega)
      have hne := nodup_ne hv.2.2.2 (show q < i by omega) hi
      unfold liftI swapI at *
      by_cases h : L[q] < L[i]
      · have e1 : liftB L (List.replicate L.length 0) q i = true := liftB_yes (by omega) hi (by simp) (by simp) h
        have e2 : swapB L q i = false := by simp [swapB, List.getD_eq_getElem?_getD, hi, show q < L.length by omega]; omega
        rw [cntTo_yes (p := fun j => liftB L (List.replicate L.length 0) j i) e1, cntTo_no (p := fun j => swapB L j i) e2]
        omega
      · have e1 : liftB L (List.replicate L.length 0) q i = false := liftB_no (by omega) hi (by simp) (fun h2 => h h2.2)
        have e2 : swapB L q i = true := by simp [swapB, List.getD_eq_getElem?_getD, hi, show q < L.length by omega]; omega
        rw [cntTo_no (p := fun j => liftB L (List.replicate L.length 0) j i) e1, cntTo_yes (p := fun j => swapB L j i) e2]
        omega
  exact key i (Nat.le_refl _)
theorem lifts_one (L S : List Int) (hl : S.length = L.length) : liftsN L S ≤ liftsN L (List.replicate L.length 0) := by
  unfold liftsN liftsTo
  refine sumTo_mono _ fun i hi => ?_
  unfold liftI
  refine cntTo_mono _ fun j hj h => ?_
  have h2 := (liftB_iff (by omega) hi hl).1 h
  exact liftB_yes (by omega) hi (by simp) (by simp) h2.2
theorem lifts_zero {L S : List Int} (hl : S.length = L.length) : liftsN L S = 0 ↔ ∀ j i, (hj : j < i) → (hi : i < L.length) → ¬ (S[j] = S[i] ∧ L[j] < L[i]) := by
  constructor
  · intro h j i hj hi hh
    have h1 : 0 < liftI L S i i := cntTo_pos (p := fun j => liftB L S j i) hj (liftB_yes (by omega) hi hl hh.1 hh.2)
    have h2 : 0 < liftsTo L S L.length := sumTo_pos (f := fun i => liftI L S i i) hi h1
    unfold liftsN at h
    omega
  · intro h
    exact sumTo_zero fun i hi => cntTo_zero fun j hj => liftB_no (by omega) hi hl (h j i hj hi)

/-- The stacks that are put: a pane lies on the stack of its rise less 1. -/
def putL (L : List Int) : List Int := (risesL L).map (· - 1)
theorem putL_len (L : List Int) : (putL L).length = L.length := by simp [putL, risesL_len]
theorem putL_at (L : List Int) (i : Nat) (hi : i < (putL L).length) : (putL L)[i] = (risesL L).getD i 0 - 1 := by
  have h2 : i < (risesL L).length := by rw [risesL_len]; rw [putL_len] at hi; exact hi
  simp [putL, List.getD_eq_getElem?_getD, h2]
theorem putL_bd {L : List Int} (hv : VT L) : ∀ x ∈ putL L, 0 ≤ x ∧ x ≤ 23 := by
  intro x hx
  simp only [putL, List.mem_map] at hx
  obtain ⟨y, hy, rfl⟩ := hx
  have := risesL_mem L y hy
  have := hv.1
  omega
theorem putL_ok {L : List Int} (hv : VT L) : VS L (putL L) := ⟨hv, putL_len L, putL_bd hv⟩
theorem put_lifts (L : List Int) : liftsN L (putL L) = 0 := by
  rw [lifts_zero (putL_len L)]
  intro j i hj hi h
  rw [putL_at, putL_at] at h
  have := rises_lt L hj hi h.2
  omega
theorem top_put {L : List Int} (h0 : 0 < L.length) : top (putL L) = top (risesL L) - 1 := by
  have hr : 0 < (risesL L).length := by rw [risesL_len]; exact h0
  have h1 : 0 < top (risesL L) := by
    have hm : (risesL L)[0]'hr ∈ risesL L := List.getElem_mem _
    have := top_ge _ _ hm
    have := (risesL_mem L _ hm).1
    omega
  have h2 := top_mem _ h1
  have h3 : top (risesL L) - 1 ∈ putL L := List.mem_map.2 ⟨_, h2, rfl⟩
  have h4 := top_ge _ _ h3
  have h5 : top (putL L) ≤ top (risesL L) - 1 := by
    rw [← topTo_all (putL L) (putL L).length (Nat.le_refl _)]
    refine topTo_le _ _ _ (by omega) (fun x hx => ?_)
    simp only [putL, List.mem_map] at hx
    obtain ⟨y, hy, rfl⟩ := hx
    have := top_ge _ _ hy
    omega
  omega

/-- The tops of the stacks when the first k panes are put. -/
def topsTo (L : List Int) : Nat → List Int
  | 0 => []
  | k + 1 => if (putL L).getD k 0 < (topsTo L k).length then (topsTo L k).set ((putL L).getD k 0).toNat (L.getD k 0) else topsTo L k ++ [L.getD k 0]
theorem putL_getD {L : List Int} {k : Nat} (hk : k < L.length) : (putL L).getD k 0 = (risesL L).getD k 0 - 1 := by
  rw [List.getD_eq_getElem?_getD, List.getElem?_eq_getElem (by rw [putL_len]; exact hk)]
  exact putL_at L k _
/-- Before a pane of rise r there is, for each lesser rise, a pane with a lesser number. -/
theorem rise_chain (L : List Int) (k : Nat) (hk : k < L.length) : ∀ (d : Nat) (s : Int), (risesL L).getD k 0 - s = d → 1 ≤ s → 0 < d → ∃ j, j < k ∧ L.getD j 0 < L.getD k 0 ∧ (risesL L).getD j 0 = s := by
  intro d
  induction d with
  | zero => intro s _ _ h; omega
  | succ d ih =>
    intro s hs h1 _
    by_cases hd : d = 0
    · subst hd
      obtain ⟨j, hj, h2, h3⟩ := rise_pred L k hk (by omega)
      exact ⟨j, hj, h2, by omega⟩
    · obtain ⟨j, hj, h2, h3⟩ := ih (s + 1) (by omega) (by omega) (by omega)
      obtain ⟨i, hi, h4, h5⟩ := rise_pred L j (by omega) (by omega)
      exact ⟨i, by omega, by omega, by omega⟩
theorem tops_facts {L : List Int} (hv : VT L) : ∀ k, k ≤ L.length → ((topsTo L k).length : Int) = topTo (risesL L) k ∧
    ∀ s (hs : s < (topsTo L k).length), ∃ j, j < k ∧ (risesL L).getD j 0 = (s : Int) + 1 ∧ (topsTo L k)[s] = L.getD j 0 ∧ ∀ i, i < k → (risesL L).getD i 0 = (s : Int) + 1 → i ≤ j := by
  intro k
  induction k with
  | zero => intro _; exact ⟨by rw [topTo_zero]; simp [topsTo], fun s hs => by simp [topsTo] at hs⟩
  | succ k ih =>
    intro hk
    obtain ⟨h1, h2⟩ := ih (by omega)
    have hlo := risesL_lo L k (by omega)
    have hp := putL_getD (show k < L.length by omega)
    have hrl : k < (risesL L).length := by rw [risesL_len]; omega
    have hts := topTo_succ (risesL L) k hrl
    have hgd : (risesL L)[k] = (risesL L).getD k 0 := by rw [List.getD_eq_getElem?_getD, List.getElem?_eq_getElem hrl]; rfl
    rw [hgd] at hts
    have hle : (risesL L).getD k 0 - 1 ≤ (topsTo L k).length := by
      by_cases h3 : 1 < (risesL L).getD k 0
      · obtain ⟨j, hj, -, h4⟩ := rise_pred L k (by omega) h3
        have hjl : j < (risesL L).length := by rw [risesL_len]; omega
        have hm : (risesL L)[j] ∈ (risesL L).take k := List.mem_take_iff_getElem.2 ⟨j, by omega, rfl⟩
        have h5 := (foldl_max_ge ((risesL L).take k) 0).2 _ hm
        rw [List.getD_eq_getElem?_getD, List.getElem?_eq_getElem hjl] at h4
        simp only [Option.getD_some] at h4
        unfold topTo at h1
        omega
      · omega
    have eT : topsTo L (k + 1) = if (risesL L).getD k 0 - 1 < ((topsTo L k).length : Int) then (topsTo L k).set ((risesL L).getD k 0 - 1).toNat (L.getD k 0) else topsTo L k ++ [L.getD k 0] := by
      rw [← hp]; rfl
    by_cases hlt : (risesL L).getD k 0 - 1 < ((topsTo L k).length : Int)
    · rw [if_pos hlt] at eT
      rw [eT]
      refine ⟨by rw [List.length_set, hts]; omega, fun s hs => ?_⟩
      rw [List.length_set] at hs
      by_cases e : ((risesL L).getD k 0 - 1).toNat = s
      · subst e
        refine ⟨k, by omega, by omega, by rw [List.getElem_set_self], fun i hi _ => by omega⟩
      · obtain ⟨j, hj, h3, h4, h5⟩ := h2 s hs
        refine ⟨j, by omega, h3, by rw [List.getElem_set_ne e]; exact h4, fun i hi h6 => ?_⟩
        by_cases hik : i = k
        · subst hik; omega
        · exact h5 i (by omega) h6
    · rw [if_neg hlt] at eT
      rw [eT]
      refine ⟨by rw [List.length_append, List.length_singleton, hts]; omega, fun s hs => ?_⟩
      rw [List.length_append, List.length_singleton] at hs
      by_cases hs2 : s < (topsTo L k).length
      · obtain ⟨j, hj, h3, h4, h5⟩ := h2 s hs2
        refine ⟨j, by omega, h3, by rw [List.getElem_append_left hs2]; exact h4, fun i hi h6 => ?_⟩
        by_cases hik : i = k
        · subst hik; omega
        · exact h5 i (by omega) h6
      · have e : s = (topsTo L k).length := by omega
        subst e
        refine ⟨k, by omega, by omega, by rw [List.getElem_append_right (by omega)]; simp, fun i hi _ => by omega⟩
/-- Where the next pane goes: below its stack all tops are less, its own top is greater. -/
theorem tops_next {L : List Int} (hv : VT L) (k : Nat) (hk : k < L.length) : ∃ r : Nat, (putL L).getD k 0 = (r : Int) ∧ r ≤ (topsTo L k).length ∧
    (∀ s (hs : s < (topsTo L k).length), s < r → (topsTo L k)[s] < L[k]) ∧ (∀ (hr : r < (topsTo L k).length), L[k] < (topsTo L k)[r]) ∧
    topsTo L (k + 1) = (if r < (topsTo L k).length then (topsTo L k).set r L[k] else topsTo L k ++ [L[k]]) := by
  obtain ⟨h1, h2⟩ := tops_facts hv k (by omega)
  have hlo := risesL_lo L k hk
  have hp := putL_getD hk
  have hg : ∀ i (hi : i < L.length), L.getD i 0 = L[i] := fun i hi => by rw [List.getD_eq_getElem?_getD, List.getElem?_eq_getElem hi]; rfl
  obtain ⟨r, hr⟩ := Int.eq_ofNat_of_zero_le (show 0 ≤ (risesL L).getD k 0 - 1 by omega)
  have hlow : ∀ s (hs : s < (topsTo L k).length), s < r → (topsTo L k)[s] < L[k] := by
    intro s hs hsr
    obtain ⟨j, hj, h3, h4, h5⟩ := h2 s hs
    obtain ⟨i, hi, h6, h7⟩ := rise_chain L k hk (r - s) ((s : Int) + 1) (by omega) (by omega) (by omega)
    have h8 := h5 i hi h7
    rw [hg k hk] at h6
    by_cases e : i = j
    · subst e; rw [h4]; exact h6
    · have h9 : ¬ L[i]'(by omega) < L[j]'(by omega) := fun hlt => by
        have := rises_lt L (show i < j by omega) (by omega) hlt
        omega
      rw [h4, hg j (by omega)]
      rw [hg i (by omega)] at h6
      omega
  have hle : r ≤ (topsTo L k).length := by
    obtain ⟨h3, -⟩ := tops_facts hv (k + 1) (by omega)
    have hrl : k < (risesL L).length := by rw [risesL_len]; omega
    by_cases h4 : 1 < (risesL L).getD k 0
    · obtain ⟨j, hj, -, h5⟩ := rise_pred L k hk h4
      have hjl : j < (risesL L).length := by rw [risesL_len]; omega
      have hm : (risesL L)[j] ∈ (risesL L).take k := List.mem_take_iff_getElem.2 ⟨j, by omega, rfl⟩
      have h6 := (foldl_max_ge ((risesL L).take k) 0).2 _ hm
      rw [List.getD_eq_getElem?_getD, List.getElem?_eq_getElem hjl] at h5
      simp only [Option.getD_some] at h5
      unfold topTo at h1
      omega
    · omega
  refine ⟨r, by rw [hp, hr], hle, hlow, fun hrl => ?_, ?_⟩
  · obtain ⟨j, hj, h3, h4, h5⟩ := h2 r hrl
    rw [h4, hg j (by omega)]
    have hne := nodup_ne hv.2.2.2 hj hk
    by_cases hlt : L[j]'(by omega) < L[k]
    · have := rises_lt L hj hk hlt
      omega
    · omega
  · simp only [topsTo]
    rw [hp, hr, hg k hk]
    simp only [Int.ofNat_eq_natCast, Int.toNat_natCast, Int.ofNat_lt]
theorem tops_len {L : List Int} (hv : VT L) (k : Nat) (hk : k ≤ L.length) : (topsTo L k).length ≤ k := by
  obtain ⟨h1, -⟩ := tops_facts hv k hk
  have : topTo (risesL L) k ≤ k := by
    refine Int.le_trans ?_ (Int.le_refl _)
    unfold topTo
    rcases foldl_max_mem ((risesL L).take k) 0 with h2 | h2
    · omega
    · obtain ⟨i, hi, e⟩ := List.mem_take_iff_getElem.1 h2
      have hi2 : i < L.length := by rw [← risesL_len]; omega
      have h3 := risesL_at L i hi2
      have h4 := riseTo_hi L (risesTo L i) i i (by omega) (risesTo_hi L i) i
      rw [List.getD_eq_getElem?_getD, List.getElem?_eq_getElem (by omega)] at h3
      simp only [Option.getD_some] at h3
      omega
  omega

/-- Is the pane that is delivered at m below another one that is delivered later? -/
def blockB (L S : List Int) (m : Nat) : Bool := (List.range L.length).any fun k => decide (L.idxOf (m : Int) < k) && liftB L S (L.idxOf (m : Int)) k
def takeN (L S : List Int) : Nat := ((List.range L.length).find? fun m => blockB L S m).getD L.length
/-- The numbers 0 .. n - 1. -/
def upList (n : Nat) : List Int := (List.range n).map Int.ofNat
theorem upList_len (n : Nat) : (upList n).length = n := by simp [upList]
theorem upList_at (n i : Nat) (hi : i < (upList n).length) : (upList n)[i] = (i : Int) := by simp [upList]
theorem upList_succ (n : Nat) : upList (n + 1) = upList n ++ [(n : Int)] := by simp [upList, List.range_succ]
theorem takeN_le (L S : List Int) : takeN L S ≤ L.length := by
  unfold takeN
  cases h : (List.range L.length).find? fun m => blockB L S m with
  | none => simp
  | some m => have := List.mem_of_find?_eq_some h; simp at this; simp; omega
theorem takeN_at {L S : List Int} {m : Nat} (hm : m < L.length) (hb : blockB L S m = true) (h : ∀ j, j < m → blockB L S j = false) : takeN L S = m := by
  unfold takeN
  have : (List.range L.length).find? (fun m => blockB L S m) = some m := by
    rw [List.find?_range_eq_some]
    exact ⟨hb, by simpa using hm, fun j hj => by simp [h j hj]⟩
  rw [this]; rfl
theorem takeN_all {L S : List Int} (h : ∀ j, j < L.length → blockB L S j = false) : takeN L S = L.length := by
  unfold takeN
  have : (List.range L.length).find? (fun m => blockB L S m) = none := by
    rw [List.find?_eq_none]
    intro x hx
    rw [List.mem_range] at hx
    simp [h x hx]
  rw [this]; rfl
theorem VT.has {L : List Int} (hv : VT L) (m : Nat) (hm : m < L.length) : ∃ (i : Nat) (hi : i < L.length), L[i] = (m : Int) := by
  have hsub : ∀ x ∈ L, x ∈ upList L.length := fun x hx => by
    have := hv.2.2.1 x hx
    exact List.mem_map.2 ⟨x.toNat, List.mem_range.2 (by omega), by simp; omega⟩
  by_cases h : (m : Int) ∈ L
  · obtain ⟨i, hi, e⟩ := List.getElem_of_mem h
    exact ⟨i, hi, e⟩
  · exfalso
    have h2 := nodup_le L.length ((m : Nat) :: (L.map Int.toNat)) (by
      refine List.nodup_cons.2 ⟨fun hm2 => ?_, ?_⟩
      · obtain ⟨x, hx, e⟩ := List.mem_map.1 hm2
        have := hv.2.2.1 x hx
        exact h (by rw [show (m : Int) = x by omega]; exact hx)
      · unfold List.Nodup
        rw [List.pairwise_map]
        have hnd := hv.2.2.2
        unfold List.Nodup at hnd
        refine List.Pairwise.imp_of_mem (fun {a b} ha hb hab => ?_) hnd
        have := hv.2.2.1 a ha
        have := hv.2.2.1 b hb
        omega) (fun x hx => by
      rcases List.mem_cons.1 hx with rfl | hx
      · exact hm
      · obtain ⟨y, hy, rfl⟩ := List.mem_map.1 hx
        have := hv.2.2.1 y hy
        omega)
    simp at h2
    omega
theorem idx_at {L : List Int} (hn : L.Nodup) {i m : Nat} (hi : i < L.length) (e : L[i] = (m : Int)) : L.idxOf (m : Int) = i := by
  have h1 : (m : Int) ∈ L := e ▸ List.getElem_mem hi
  have h2 : L.idxOf (m : Int) < L.length := List.idxOf_lt_length_of_mem h1
  have h3 : L[L.idxOf (m : Int)] = (m : Int) := List.getElem_idxOf h2
  rcases Nat.lt_trichotomy (L.idxOf (m : Int)) i with h | h | h
  · exact absurd (h3.trans e.symm) (nodup_ne hn h hi)
  · exact h
  · exact absurd (e.trans h3.symm) (nodup_ne hn h h2)
theorem block_iff {L S : List Int} (hv : VS L S) {m i : Nat} (hi : i < L.length) (e : L[i] = (m : Int)) : blockB L S m = true ↔ ∃ (k : Nat) (hk : k < L.length), i < k ∧ S[i]'(by rw [hv.2.1]; exact hi) = S[k]'(by rw [hv.2.1]; exact hk) ∧ (m : Int) < L[k] := by
  unfold blockB
  rw [idx_at hv.1.2.2.2 hi e, List.any_eq_true]
  constructor
  · rintro ⟨k, hk, h⟩
    rw [List.mem_range] at hk
    rw [Bool.and_eq_true, decide_eq_true_iff, liftB_iff hi hk hv.2.1] at h
    exact ⟨k, hk, h.1, h.2.1, by rw [← e]; exact h.2.2⟩
  · rintro ⟨k, hk, h1, h2, h3⟩
    exact ⟨k, List.mem_range.2 hk, by rw [Bool.and_eq_true, decide_eq_true_iff, liftB_iff hi hk hv.2.1]; exact ⟨h1, h2, by rw [e]; exact h3⟩⟩
theorem take_lifts {L S : List Int} (hv : VS L S) : takeN L S = L.length ↔ liftsN L S = 0 := by
  rw [lifts_zero hv.2.1]
  constructor
  · intro h j i hj hi hh
    obtain ⟨m, hm⟩ := Int.eq_ofNat_of_zero_le (hv.1.2.range j (by omega)).1
    have hml := (hv.1.2.range j (by omega)).2
    rw [hm] at hml
    have hb : blockB L S m = true := (block_iff hv (show j < L.length by omega) hm).2 ⟨i, hi, hj, hh.1, by have := hh.2; rw [hm] at this; exact this⟩
    unfold takeN at h
    cases hf : (List.range L.length).find? fun m => blockB L S m with
    | none =>
      rw [List.find?_eq_none] at hf
      exact hf m (List.mem_range.2 (by omega)) hb
    | some x =>
      rw [hf] at h
      have := List.mem_of_find?_eq_some hf
      rw [List.mem_range] at this
      simp at h
      omega
  · intro h
    refine takeN_all fun m hm => ?_
    obtain ⟨i, hi, e⟩ := hv.1.has m hm
    rw [← Bool.not_eq_true, block_iff hv hi e]
    rintro ⟨k, hk, h1, h2, h3⟩
    exact h i k h1 hk ⟨h2, by rw [e]; exact h3⟩

/-- Different members of a list are at most its length. -/
theorem nodup_sub : ∀ (l m : List Int), l.Nodup → (∀ x ∈ l, x ∈ m) → l.length ≤ m.length
  | [], m, _, _ => by simp
  | x :: l, m, hn, h => by
    rw [List.nodup_cons] at hn
    have hx := h x (by simp)
    have h1 := nodup_sub l (m.erase x) hn.2 (fun y hy => by
      have hne : y ≠ x := fun e => hn.1 (e ▸ hy)
      exact (List.mem_erase_of_ne hne).2 (h y (by simp [hy])))
    rw [List.length_erase, if_pos hx] at h1
    have : 0 < m.length := List.length_pos_of_mem hx
    simp
    omega
/-- How many of the numbers 0 .. q - 1 are in a list. -/
def usedTo (S : List Int) (q : Nat) : Nat := cntTo (fun s => decide ((s : Int) ∈ S)) q
theorem used_eq (S : List Int) (q : Nat) : usedTo S q = ((upList q).filter fun s => decide (s ∈ S)).length := by
  induction q with
  | zero => rfl
  | succ q ih =>
    rw [upList_succ, List.filter_append, List.length_append, ← ih]
    unfold usedTo
    by_cases h : (q : Int) ∈ S
    · rw [cntTo_yes (by simpa using h)]; simp [h]
    · rw [cntTo_no (by simpa using h)]; simp [h]
theorem stacks_used {L S : List Int} (hv : VS L S) (h : liftsN L S = 0) : (riseOut L).length ≤ usedTo S 24 := by
  rw [lifts_zero hv.2.1] at h
  rw [used_eq, riseOut_t (vtB_iff.2 hv.1), List.length_map]
  have h1 : (riseIdx L).length = ((riseIdx L).map fun i => S.getD i 0).length := by simp
  rw [h1]
  refine nodup_sub _ _ ?_ ?_
  · unfold List.Nodup
    rw [List.pairwise_map]
    refine List.Pairwise.imp_of_mem (fun {a b} ha hb hab => ?_) (riseIdx_asc L)
    have la := riseIdx_lt L a ha
    have lb := riseIdx_lt L b hb
    intro e
    refine h a b hab.1 lb ⟨?_, ?_⟩
    · have := hv.2.1
      simpa [List.getD_eq_getElem?_getD, show a < S.length by omega, show b < S.length by omega] using e
    · have := hab.2
      simpa [List.getD_eq_getElem?_getD, la, lb] using this
  · intro x hx
    obtain ⟨i, hi, rfl⟩ := List.mem_map.1 hx
    have li := riseIdx_lt L i hi
    have hl : i < S.length := by rw [hv.2.1]; exact li
    have hm : S.getD i 0 ∈ S := by rw [List.getD_eq_getElem?_getD, List.getElem?_eq_getElem hl]; exact List.getElem_mem hl
    have hb := hv.2.2 _ hm
    refine List.mem_filter.2 ⟨List.mem_map.2 ⟨(S.getD i 0).toNat, List.mem_range.2 (by omega), ?_⟩, by simpa using hm⟩
    simp only [Int.ofNat_eq_natCast]
    omega

end Go.Proofs.Ytcfhncckeedipaa
