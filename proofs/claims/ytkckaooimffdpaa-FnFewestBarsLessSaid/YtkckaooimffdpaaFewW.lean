/-
  Contracts: sums over a set, members of a set, powers of two, parts of a set.
-/
import Derived.Test.YtkckaooimffdpaaFewB
import Derived.Test.YtkckaooimffdpaaBarS
namespace Go.Proofs.Ytkckaooimffdpaa
set_option linter.unusedSimpArgs false
set_option linter.unusedVariables false
open Go.RowKit

theorem bit_and {s : Nat} (k : Nat) (hs : s < 128) : (bits .and .i64 ((s : Int) / 2 ^ k) 1 == 1) = s.testBit k := by
  have e : (s : Int) / 2 ^ k = ((s / 2 ^ k : Nat) : Int) := by push_cast; rfl
  have h2 : s / 2 ^ k ≤ s := Nat.div_le_self _ _
  have h1 := and_n (s / 2 ^ k) 1 (by omega) (by omega)
  rw [e, show (1 : Int) = ((1 : Nat) : Int) from rfl, h1, bit_of, Nat.and_one_is_mod, Bool.eq_iff_iff]
  simp
  omega

set_option maxHeartbeats 3200000 in
set_option maxRecDepth 100000 in
theorem spower_c (n : Nat) (w : World) (h : n ≤ 7) : Calls Try.prog 42 #[.int .i64 (n : Nat)] w fun e w' => e = .returned (.int .i64 ((2 ^ n : Nat) : Int)) ∧ w = w' := by
  go_enter Try.func42, Try.ntmps42
  go_wp2
  go_loop [3, 4] (fun o i => ∃ k : Nat, i = .int .i64 k ∧ k ≤ n ∧ o = .int .i64 ((2 ^ k : Nat) : Int)) (fun _ i => n - (intOf i).toNat)
  case atStart => exact ⟨0, rfl, by omega, rfl⟩
  case round =>
    obtain ⟨k, rfl, hk, rfl⟩ := hrel
    have hp := pow_le7 (n := k) (by omega)
    have hp1 := pow_ge1 k
    have HP : Hid (2 * ((2 ^ k : Nat) : Int) = ((2 ^ (k + 1) : Nat) : Int)) := by rw [Hid, Nat.pow_succ]; push_cast; omega
    have HP' : Hid ((2 : Int) * 2 ^ k = 2 ^ (k + 1)) := by have := HP.out; push_cast at this; exact this
    obtain ⟨q, hq⟩ : ∃ q, q = 2 ^ k := ⟨_, rfl⟩
    rw [← hq] at hp hp1 ⊢
    have HQ := hid hq
    clear hq
    by_cases hlt : k < n
    · have hw1 : IntKind.i64.wrap (2 * (q : Int)) = 2 * (q : Int) := IntWalk.i64_in _ (by omega)
      go_wp2
      go_round
      case rel => exact ⟨k + 1, by go_num, by omega, by rw [← HP.out, HQ.out]⟩
      case measure => simp [intOf]; omega
    · have e : k = n := by omega
      subst e
      go_wp2
      go_ret
      exact ⟨by show Ending.returned (.int .i64 (q : Int)) = _; rw [HQ.out]; push_cast; rfl, rfl⟩

set_option maxHeartbeats 3200000 in
set_option maxRecDepth 100000 in
theorem shas_c (s n : Nat) (w : World) (hs : s < 128) (h : n ≤ 7) : Calls Try.prog 43 #[.int .i64 (s : Nat), .int .i64 (n : Nat)] w fun e w' => e = .returned (.bool (s.testBit n)) ∧ w = w' := by
  go_enter Try.func43, Try.ntmps43
  go_wp2
  go_loop [0, 5] (fun o i => ∃ k : Nat, i = .int .i64 k ∧ k ≤ n ∧ o = .int .i64 ((s / 2 ^ k : Nat) : Int)) (fun _ i => n - (intOf i).toNat)
  case atStart => exact ⟨0, rfl, by omega, by simp⟩
  case round =>
    obtain ⟨k, rfl, hk, rfl⟩ := hrel
    have hq2 : s / 2 ^ k ≤ s := Nat.div_le_self _ _
    have HS : Hid (s / 2 ^ k / 2 = s / 2 ^ (k + 1)) := by rw [Hid, Nat.div_div_eq_div_mul, Nat.pow_succ]
    obtain ⟨q, hq⟩ : ∃ q, q = s / 2 ^ k := ⟨_, rfl⟩
    rw [← hq] at hq2 ⊢
    have HQ := hid hq
    clear hq
    by_cases hlt : k < n
    · go_wp2
      go_round
      case rel => exact ⟨k + 1, by go_num, by omega, by rw [← HS.out, HQ.out]; rfl⟩
      case measure => simp [intOf]; omega
    · have e : k = n := by omega
      subst e
      have HB : Hid (((q : Int) % 2 == 1) = s.testBit k) := by rw [Hid, bit_of, ← HQ.out, Bool.eq_iff_iff]; simp; omega
      go_wp2
      go_ret
      exact ⟨ret_bool (by rw [HB.out]), rfl⟩

set_option maxHeartbeats 3200000 in
set_option maxRecDepth 100000 in
theorem sinside_c (a b : Nat) (w : World) (ha : a < 128) (hb : b < 128) : Calls Try.prog 44 #[.int .i64 (a : Nat), .int .i64 (b : Nat)] w fun e w' => e = .returned (.bool (decide (a &&& b = a))) ∧ w = w' := by
  go_enter Try.func44, Try.ntmps44
  go_wp2
  go_loop [0, 1] (fun o i => ∃ x y : Nat, o = .int .i64 (x : Nat) ∧ i = .int .i64 (y : Nat) ∧ x < 128 ∧ y < 128 ∧ (x &&& y = x ↔ a &&& b = a)) (fun o _ => (intOf o).toNat)
  case atStart => exact ⟨a, b, rfl, rfl, ha, hb, Iff.rfl⟩
  case round =>
    obtain ⟨x, y, rfl, rfl, hx, hy, hiff⟩ := hrel
    have HI := hid hiff
    clear hiff
    by_cases h0 : 0 < x
    · by_cases hlt : y % 2 < x % 2
      · have HF : Hid (decide (a &&& b = a) = false) := decide_eq_false (fun h => small_outside x hx y hy hlt (HI.out.2 h))
        have hlt2 : (y : Int) % 2 < (x : Int) % 2 := by omega
        clear hlt
        go_wp2
        go_ret
        exact ⟨ret_bool HF.out.symm, rfl⟩
      · have HI2 := hid (small_inside x hx y hy (by omega))
        have hlt2 : ¬ (y : Int) % 2 < (x : Int) % 2 := by omega
        clear hlt
        go_wp2
        go_round
        case rel => exact ⟨x / 2, y / 2, rfl, rfl, by omega, by omega, HI2.out.symm.trans HI.out⟩
        case measure => simp [intOf]; omega
    · have e : x = 0 := by omega
      subst e
      have HT : Hid (decide (a &&& b = a) = true) := decide_eq_true (HI.out.1 (by simp))
      go_wp2
      go_ret
      exact ⟨ret_bool HT.out.symm, rfl⟩

set_option maxHeartbeats 3200000 in
set_option maxRecDepth 100000 in
theorem sumIn_c (v : Value) (L : List Int) (s : Nat) (w : World) (h : Row intE w v L) (hs : s < 128) (hL : L.length ≤ 7) (hb : ∀ x ∈ L, 0 ≤ x ∧ x ≤ 200) : Calls Try.prog 26 #[v, .int .i64 (s : Nat)] w fun e w' => e = .returned (.int .i64 (sm L s L.length)) ∧ w = w' := by
  obtain ⟨A1, c1, rfl, hc1, hm1⟩ := h.form
  unfold maxLen at hm1
  have HH := hid h
  have HB := hid hb
  clear h hb
  go_enter Try.func26, Try.ntmps26
  go_wp2
  go_loop [5, 10] (fun o i => ∃ k : Nat, i = .int .i64 k ∧ k ≤ L.length ∧ o = .int .i64 (sm L s k)) (fun _ i => L.length - (intOf i).toNat)
  case atStart => exact ⟨0, rfl, by omega, rfl⟩
  case round =>
    obtain ⟨k, rfl, hk, rfl⟩ := hrel
    by_cases hlt : k < L.length
    · obtain ⟨b1, o1, rfl, hb1, hx⟩ := row_cells1 HH.out (by omega)
      have x0 := hx k hlt
      clear hx
      have hbd := sm_bd HB.out (by omega) s k
      have hxb := HB.out _ (List.getElem_mem hlt)
      have HS : Hid (sm L s (k + 1) = sm L s k + if s.testBit k = true then L[k] else 0) := by rw [Hid, sm, getD_at hlt]
      obtain ⟨u, hu⟩ : ∃ u, u = sm L s k := ⟨_, rfl⟩
      obtain ⟨x, hx⟩ : ∃ x, x = L[k] := ⟨_, rfl⟩
      rw [← hu] at hbd ⊢
      rw [← hx] at x0 hxb
      have HU : Hid (sm L s (k + 1) = u + if s.testBit k = true then x else 0) := by rw [Hid, HS.out, hu, hx]
      have hw1 : IntKind.i64.wrap (u + x) = u + x := IntWalk.i64_in _ (by omega)
      clear hu hx HS
      have hbit := bit_and k hs
      cases ht : s.testBit k with
      | true =>
        rw [ht] at hbit HU
        go_wp2
        go_round
        case rel => exact ⟨k + 1, by go_num, by omega, by rw [HU.out]; rfl⟩
        case measure => simp [intOf]; omega
      | false =>
        rw [ht] at hbit HU
        go_wp2
        go_round
        case rel => exact ⟨k + 1, by go_num, by omega, by rw [HU.out]; simp⟩
        case measure => simp [intOf]; omega
    · have e : k = L.length := by omega
      subst e
      go_wp2
      go_ret
      exact ⟨rfl, rfl⟩

end Go.Proofs.Ytkckaooimffdpaa
