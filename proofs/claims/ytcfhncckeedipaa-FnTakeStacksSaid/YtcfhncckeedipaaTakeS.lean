/-
  Contracts: TakeStacks, by the program and by the reference.
-/
import Derived.Test.YtcfhncckeedipaaPutI
namespace Go.Proofs.Ytcfhncckeedipaa
set_option linter.unusedSimpArgs false
set_option linter.unusedVariables false
open Go.RowKit

/-- The last of the first q that has a property, else -1. -/
def lastTo (p : Nat → Bool) : Nat → Int
  | 0 => -1
  | q + 1 => if p q = true then (q : Int) else lastTo p q
theorem lastTo_no {p : Nat → Bool} {q : Nat} (h : p q = false) : lastTo p (q + 1) = lastTo p q := by simp [lastTo, h]
theorem lastTo_yes {p : Nat → Bool} {q : Nat} (h : p q = true) : lastTo p (q + 1) = q := by simp [lastTo, h]
theorem lastTo_at {p : Nat → Bool} {i : Nat} (h : p i = true) : ∀ q, i < q → (∀ j, i < j → j < q → p j = false) → lastTo p q = i := by
  intro q
  induction q with
  | zero => intro h1; omega
  | succ q ih =>
    intro h1 h2
    by_cases e : i = q
    · subst e; exact lastTo_yes h
    · rw [lastTo_no (h2 q (by omega) (by omega))]; exact ih (by omega) (fun j h3 h4 => h2 j h3 (by omega))
theorem lastTo_gt {p : Nat → Bool} {i k : Nat} (h : p k = true) (hik : i < k) : ∀ q, k < q → (i : Int) < lastTo p q := by
  intro q
  induction q with
  | zero => intro h1; omega
  | succ q ih =>
    intro h1
    cases hp : p q with
    | true => rw [lastTo_yes hp]; omega
    | false =>
      rw [lastTo_no hp]
      exact ih (by rcases Nat.lt_or_eq_of_le (Nat.le_of_lt_succ h1) with h2 | h2
                   · exact h2
                   · subst h2; rw [h] at hp; cases hp)
def topB (L S : List Int) (s m : Int) (i : Nat) : Bool := decide (S.getD i 0 = s) && decide (m ≤ L.getD i 0)
theorem topB_eq {L S : List Int} {s m : Int} {i : Nat} (hi : i < L.length) (hs : i < S.length) : topB L S s m i = (decide (S[i] = s) && decide (m ≤ L[i])) := by
  simp [topB, List.getD_eq_getElem?_getD, hi, hs]
/-- The top of a pane's stack is the pane itself where no pane lies on it that is delivered later. -/
theorem top_block {L S : List Int} (hv : VS L S) {m i : Nat} (hi : i < L.length) (e : L[i] = (m : Int)) : (lastTo (topB L S (S[i]'(by rw [hv.2.1]; exact hi)) m) L.length = (i : Int)) ↔ blockB L S m = false := by
  have hl := hv.2.1
  have hpi : topB L S (S[i]'(by omega)) m i = true := by rw [topB_eq hi (by omega)]; simp [e]
  constructor
  · intro h
    rw [← Bool.not_eq_true, block_iff hv hi e]
    rintro ⟨k, hk, h1, h2, h3⟩
    have hpk : topB L S (S[i]'(by omega)) m k = true := by rw [topB_eq hk (by omega)]; simp [h2]; omega
    have := lastTo_gt hpk h1 L.length hk
    omega
  · intro h
    refine lastTo_at hpi _ hi fun j h1 h2 => ?_
    rw [topB_eq h2 (by omega), ← Bool.not_eq_true, Bool.and_eq_true, decide_eq_true_iff, decide_eq_true_iff]
    rintro ⟨h3, h4⟩
    have hne := nodup_ne hv.1.2.2.2 h1 h2
    rw [← Bool.not_eq_true, block_iff hv hi e] at h
    exact h ⟨j, h2, h1, h3.symm, by omega⟩

set_option maxHeartbeats 1600000 in
set_option maxRecDepth 100000 in
theorem topOf_c (v u : Value) (L S : List Int) (s m : Int) (w : World) (h : Row intE w v L) (h' : Row intE w u S) (hl : S.length = L.length) : Calls Try.prog 73 #[v, u, .int .i64 s, .int .i64 m] w fun e w' => e = .returned (.int .i64 (lastTo (topB L S s m) L.length)) ∧ w = w' := by
  obtain ⟨A1, c1, rfl, hc1, hm1⟩ := h.form
  obtain ⟨A2, c2, rfl, hc2, hm2⟩ := h'.form
  unfold maxLen at hm1 hm2
  have HL := hid hl
  have HH := hid h
  have HS := hid h'
  clear h h' hl
  go_enter Try.func73, Try.ntmps73
  go_wp2
  go_loop [9] (fun i => ∃ k : Nat, i = .int .i64 ((k : Int) - 1) ∧ k ≤ L.length ∧ lastTo (topB L S s m) L.length = lastTo (topB L S s m) k) (fun i => (intOf i + 1).toNat)
  case atStart => exact ⟨L.length, rfl, by omega, rfl⟩
  case round =>
    obtain ⟨k, rfl, hk, he⟩ := hrel
    have HE := hid he
    clear he
    by_cases h0 : 0 < k
    · obtain ⟨j, rfl⟩ : ∃ j, k = j + 1 := ⟨k - 1, by omega⟩
      have hjS : j < S.length := by have := HL.out; omega
      obtain ⟨b1, o1, rfl, -, hx⟩ := row_cells1 HH.out (by omega)
      obtain ⟨b2, o2, rfl, -, hy⟩ := row_cells1 HS.out (by omega)
      have hx' := hx j (by omega)
      have hy' := hy j hjS
      have HT := hid (topB_eq (L := L) (S := S) (s := s) (m := m) (show j < L.length by omega) hjS)
      have e : ((j + 1 : Nat) : Int) - 1 = j := by omega
      simp only [e]
      clear hx hy e h0
      by_cases hs : S[j] = s
      · have t1 : (S[j] == s) = true := by simpa using hs
        by_cases hm : m ≤ L[j]
        · have t2 : decide (m ≤ L[j]) = true := decide_eq_true hm
          have HV : Hid (lastTo (topB L S s m) L.length = (j : Int)) := by rw [Hid, HE.out, lastTo_yes (by rw [HT.out]; simp [hs, hm])]
          have HSS := hid hs
          clear hs hm
          go_wp2
          go_ret
          exact ⟨ret_int HV.out.symm, rfl⟩
        · have t2 : decide (m ≤ L[j]) = false := decide_eq_false hm
          have HV : Hid (lastTo (topB L S s m) L.length = lastTo (topB L S s m) j) := by rw [Hid, HE.out, lastTo_no (by rw [HT.out]; simp [hm])]
          have HSS := hid hs
          clear hs hm
          go_wp2
          go_round
          case rel => exact ⟨j, by go_num, by omega, HV.out⟩
          case measure => simp [intOf]
      · have t1 : (S[j] == s) = false := by simpa using hs
        have HV : Hid (lastTo (topB L S s m) L.length = lastTo (topB L S s m) j) := by rw [Hid, HE.out, lastTo_no (by rw [HT.out]; simp [hs])]
        clear hs
        go_wp2
        go_round
        case rel => exact ⟨j, by go_num, by omega, HV.out⟩
        case measure => simp [intOf]
    · have e : k = 0 := by omega
      subst e
      go_wp2
      go_ret
      exact ⟨ret_int HE.out.symm, rfl⟩

set_option maxHeartbeats 400000 in
set_option maxRecDepth 100000 in
theorem slicesIndex_c (v : Value) (L : List Int) (n : Int) (w : World) (h : Row intE w v L) : Calls Try.prog 72 #[v, .int .i64 n] w fun e w' => e = .returned (.int .i64 (placeL L n)) ∧ w = w' := by
  obtain ⟨A1, c1, rfl, hc1, hm1⟩ := h.form
  unfold maxLen at hm1
  go_enter Try.func72, Try.ntmps72
  go_wp2
  go_loop [8] (fun i => ∃ k : Nat, i = .int .i64 k ∧ k ≤ L.length ∧ n ∉ L.take k) (fun i => L.length - (intOf i).toNat)
  case atStart => exact ⟨0, rfl, by omega, by simp⟩
  case round =>
    obtain ⟨k, rfl, hk, hno⟩ := hrel
    by_cases hlt : k < L.length
    · obtain ⟨b1, o1, rfl, -, hx⟩ := row_cells1 h (by omega)
      have hx' := hx k hlt
      clear hx h
      by_cases he : L[k] = n
      · have hpl := placeL_at hlt hno he
        have HP := hid hpl
        have he' : (n == L[k]) = true := by simp [he]
        clear he hpl
        go_wp2
        go_ret
        exact ⟨ret_int HP.out.symm, rfl⟩
      · have he' : (n == L[k]) = false := by rw [beq_eq_false_iff_ne]; exact fun e => he e.symm
        have hn2 := not_mem_take_succ hlt hno he
        clear he hno
        go_wp2
        go_round
        case rel => exact ⟨k + 1, by go_num, by omega, hn2⟩
        case measure => simp [intOf]; omega
    · go_wp2
      go_ret
      rw [List.take_of_length_le (by omega)] at hno
      exact ⟨ret_int (placeL_of_not hno).symm, rfl⟩

end Go.Proofs.Ytcfhncckeedipaa
