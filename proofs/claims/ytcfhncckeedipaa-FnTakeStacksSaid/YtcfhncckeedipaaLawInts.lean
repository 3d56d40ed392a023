/-
  Contracts of the small functions over lists of numbers that the laws call.
-/
import Derived.Test.YtcfhncckeedipaaInts
import Derived.Test.YtcfhncckeedipaaRiseP
namespace Go.Proofs.Ytcfhncckeedipaa
set_option linter.unusedSimpArgs false
set_option linter.unusedVariables false
open Go.RowKit

set_option maxHeartbeats 400000 in
theorem equalInts_c (v1 v2 : Value) (xs ys : List Int) (w : World) (h1 : Row intE w v1 xs) (h2 : Row intE w v2 ys) :
    Calls Try.prog 16 #[v1, v2] w fun e w' => e = .returned (.bool (decide (xs = ys))) ∧ Dr w w' := by
  obtain ⟨A1, c1, rfl, hc1, hm1⟩ := h1.form
  obtain ⟨A2, c2, rfl, hc2, hm2⟩ := h2.form
  unfold maxLen at hm1 hm2
  by_cases hl : xs.length = ys.length
  · have hlb : ((xs.length : Int) != (ys.length : Int)) = false := by simp [hl]
    have HL := hid hl
    clear hl
    go_enter Try.func16, Try.ntmps16
    go_wp2
    go_loopw [5] (fun i wr => ∃ k : Nat, i = .int .i64 k ∧ k ≤ xs.length ∧ xs.take k = ys.take k ∧ Dr w wr) (fun i _ => xs.length - (intOf i).toNat)
    case atStart => exact ⟨0, rfl, by omega, rfl, Dr.refl _⟩
    case round =>
      obtain ⟨k, rfl, hk, he, hd⟩ := hrel
      by_cases hlt : k < xs.length
      · obtain ⟨b1, o1, rfl, -, hx⟩ := row_cells1 (h1.dr hd) (by omega)
        obtain ⟨b2, o2, rfl, -, hy⟩ := row_cells1 (h2.dr hd) (by have := HL.out; omega)
        have hx' := hx k hlt
        have hy' := hy k (by have := HL.out; omega)
        have hlt2 : k < ys.length := by have := HL.out; omega
        have HD := hid hd
        clear hx hy h1 h2 hd
        go_wp2
        go_quiet (fail)
        all_goals go_wp2
        · have hne : (xs[k] != ys[k]) = true := by assumption
          go_ret
          refine ⟨ret_bool ?_, HD.out.step _⟩
          symm
          rw [decide_eq_false_iff_not]
          rintro rfl
          simp at hne
        · have hne : (xs[k] != ys[k]) = false := by assumption
          refine ⟨⟨k + 1, by go_num, by omega, take_succ_eq hlt hlt2 he (by simpa using hne), HD.out.step _⟩, by simp [intOf]; omega⟩
      · go_wp2
        go_ret
        refine ⟨ret_bool ?_, hd⟩
        symm
        rw [decide_eq_true_iff]
        have := HL.out
        rwa [List.take_of_length_le (by omega), List.take_of_length_le (by omega)] at he
  · have hlb : ((xs.length : Int) != (ys.length : Int)) = true := by simp; omega
    have hne : xs ≠ ys := fun h => hl (by rw [h])
    have HN := hid hne
    clear hl hne
    go_enter Try.func16, Try.ntmps16
    go_wp2
    go_ret
    exact ⟨ret_bool (by simp [HN.out]), Dr.refl _⟩

set_option maxHeartbeats 400000 in
theorem isIn_c (v : Value) (L : List Int) (n : Int) (w : World) (h : Row intE w v L) : Calls Try.prog 23 #[v, .int .i64 n] w fun e w' => e = .returned (.bool (decide (n ∈ L))) ∧ w' = w := by
  obtain ⟨A1, c1, rfl, hc1, hm1⟩ := h.form
  unfold maxLen at hm1
  go_enter Try.func23, Try.ntmps23
  go_wp2
  go_loop [5] (fun i => ∃ k : Nat, i = .int .i64 k ∧ k ≤ L.length ∧ n ∉ L.take k) (fun i => L.length - (intOf i).toNat)
  case atStart => exact ⟨0, rfl, by omega, by simp⟩
  case round =>
    obtain ⟨k, rfl, hk, hno⟩ := hrel
    by_cases hlt : k < L.length
    · obtain ⟨b1, o1, rfl, -, hx⟩ := row_cells1 h (by omega)
      have hx' := hx k hlt
      clear hx h
      by_cases he : L[k] = n
      · have HP : Hid (true = decide (n ∈ L)) := by rw [Hid]; symm; rw [decide_eq_true_iff, ← he]; exact List.getElem_mem hlt
        have he' : (L[k] == n) = true := by simp [he]
        clear he
        go_wp2
        go_ret
        exact ⟨ret_bool HP.out, rfl⟩
      · have he' : (L[k] == n) = false := by simp [he]
        have hn2 := not_mem_take_succ hlt hno he
        clear he hno
        go_wp2
        go_round
        case rel => exact ⟨k + 1, by go_num, by omega, hn2⟩
        case measure => simp [intOf]; omega
    · rw [List.take_of_length_le (by omega)] at hno
      have HP : Hid (false = decide (n ∈ L)) := by rw [Hid]; symm; rw [decide_eq_false_iff_not]; exact hno
      clear hno
      go_wp2
      go_ret
      exact ⟨ret_bool HP.out, rfl⟩

set_option maxHeartbeats 400000 in
theorem ascends_t (v : Value) (L : List Int) (w : World) (h : Row intE w v L) (ha : ∀ i (h1 : i + 1 < L.length), L[i]'(by omega) < L[i + 1]) : Calls Try.prog 31 #[v] w fun e w' => e = .returned (.bool true) ∧ Dr w w' := by
  obtain ⟨A1, c1, rfl, hc1, hm1⟩ := h.form
  unfold maxLen at hm1
  have HA := hid ha
  clear ha
  go_enter Try.func31, Try.ntmps31
  go_wp2
  go_loopw [3] (fun i wr => ∃ k : Nat, i = .int .i64 ((k : Int) + 1) ∧ Dr w wr) (fun i _ => L.length + 1 - (intOf i).toNat)
  case atStart => exact ⟨0, rfl, Dr.refl _⟩
  case round =>
    obtain ⟨k, rfl, hd⟩ := hrel
    by_cases hlt : k + 1 < L.length
    · obtain ⟨b1, o1, rfl, -, hx⟩ := row_cells1 (h.dr hd) (by omega)
      have hx0 := hx k (by omega)
      have hx1 := hx (k + 1) hlt
      have HD := hid hd
      have hlt2 : ((k : Int) + 1) < (L.length : Int) := by omega
      have hd2 : decide (L[k + 1] ≤ L[k]) = false := decide_eq_false (by have := HA.out k hlt; omega)
      have hk1 : ((k : Int) + 1).toNat = k + 1 := by omega
      have hk2 : (k : Int) + 1 - 1 = k := by omega
      have hk3 : IntKind.i64.wrap ((k : Int) + 1 - 1) = k := by rw [hk2]; exact IntWalk.i64_in _ (by omega)
      clear hx h hd
      go_wp2
      go_quiet (fail)
      clear hk1 hk2 hk3
      go_wp2
      refine ⟨⟨k + 1, by go_num, HD.out.step _⟩, by simp [intOf]; omega⟩
    · have hlt2 : (L.length : Int) ≤ (k : Int) + 1 := by omega
      go_wp2
      go_ret
      exact ⟨rfl, hd⟩

set_option maxHeartbeats 400000 in
theorem highest_c (v : Value) (L : List Int) (w : World) (h : Row intE w v L) (hb : ∀ x ∈ L, x ≤ 4611686018427387904) : Calls Try.prog 25 #[v] w fun e w' => e = .returned (.int .i64 (top L)) ∧ w' = w := by
  obtain ⟨A1, c1, rfl, hc1, hm1⟩ := h.form
  unfold maxLen at hm1
  go_enter Try.func25, Try.ntmps25
  go_wp2
  go_loop [3, 4] (fun n i => ∃ k : Nat, i = .int .i64 k ∧ n = .int .i64 (topTo L k) ∧ k ≤ L.length) (fun _ i => L.length - (intOf i).toNat)
  case atStart => exact ⟨0, rfl, by rw [topTo_zero], by omega⟩
  case round =>
    obtain ⟨k, rfl, rfl, hk⟩ := hrel
    by_cases hlt : k < L.length
    · obtain ⟨b1, o1, rfl, -, hx⟩ := row_cells1 h (by omega)
      have hx' := hx k hlt
      have HS := hid (topTo_succ L k hlt)
      clear hx h
      go_wp2
      go_round
      case rel => exact ⟨k + 1, by go_num, by rw [HS.out, ← max_if], by omega⟩
      case measure => simp [intOf]; omega
    · have HE := hid (topTo_all L k (by omega))
      go_wp2
      go_ret
      exact ⟨ret_int HE.out, rfl⟩

set_option maxHeartbeats 800000 in
theorem backwards_c (v : Value) (L : List Int) (w : World) (h : Row intE w v L) (hn : L.length ≤ 4194304) : Calls Try.prog 32 #[v] w fun e w' => ∃ v', e = .returned v' ∧ Own intE 3 w.heap.size w' v' L.reverse ∧ Below w.heap.size w w' := by
  obtain ⟨A1, c1, rfl, hc1, hm1⟩ := h.form
  obtain ⟨i0, hi0, hz0, hz1, hz2⟩ := info_parts int_info
  go_enter Try.func32, Try.ntmps32
  go_wp2
  have HO0 := hid (Own.lit0 intE w w.heap.size 3 (Nat.le_refl _))
  have HB0 : Hid (Below w.heap.size w (w.alloc (.cells #[] 3))) := (Below.refl _ _).alloc (Nat.le_refl _) _
  go_loopw [3, 4] (fun o i wr => ∃ k : Nat, i = .int .i64 ((k : Int) - 1) ∧ k ≤ L.length ∧ Below w.heap.size w wr ∧ Own intE 3 w.heap.size wr o (L.drop k).reverse) (fun _ i _ => (intOf i + 1).toNat)
  case atStart => exact ⟨L.length, rfl, by omega, HB0.out, by simpa using HO0.out⟩
  case round =>
    obtain ⟨k, rfl, hk, hb, ho⟩ := hrel
    clear HO0 HB0
    by_cases h0 : 0 < k
    · obtain ⟨j, rfl⟩ : ∃ j, k = j + 1 := ⟨k - 1, by omega⟩
      obtain ⟨b1, o1, rfl, -, hx⟩ := row_cells1 (h.below hb) (by omega)
      have hx' := hx j (by omega)
      have e : ((j + 1 : Nat) : Int) - 1 = j := by omega
      have HO := hid ho
      have HB := hid hb
      have hsz := hb.size
      have HLn : Hid (((L.drop (j + 1)).reverse).length ≤ 4194304) := by rw [Hid]; simp; omega
      obtain ⟨L2, hL2⟩ : ∃ M : List Int, M = (L.drop (j + 1)).reverse ++ [L[j]] := ⟨_, rfl⟩
      have HL2 := hid hL2
      have HL3 : Hid (L2 = (L.drop j).reverse) := by rw [Hid, hL2, List.drop_eq_getElem_cons (show j < L.length by omega), List.reverse_cons]
      clear hx ho hb hL2 h
      simp only [e]
      clear e
      go_wp2_with (at_builtin; refine wpList_pushN intE _ rfl (.tmp 13) (.tmp 18) _ rfl w.heap.size 3 i0 _ 8 Try.underlying24 hi0 hz0 hz1 hz2 rfl (by omega) _ _ rfl HO.out _ L[j] _ rfl rfl (by simp) HLn.out hsz L2 HL2.out ?_)
      intro v' w' ho' hg' hat'
      rw [HL3.out] at ho'
      have HO' := hid ho'
      have HB' := hid (HB.out.grown hg' hsz (fun q hq => (HO.out.lt q hq).1))
      clear ho' hg' hat'
      go_wp2
      exact ⟨⟨j, by go_num, by omega, HB'.out, HO'.out⟩, by simp [intOf]⟩
    · have e : k = 0 := by omega
      subst e
      go_wp2
      go_ret
      exact ⟨_, rfl, by simpa using ho, hb⟩

theorem equalInts_same (v1 v2 : Value) (xs : List Int) (w : World) (h1 : Row intE w v1 xs) (h2 : Row intE w v2 xs) :
    Calls Try.prog 16 #[v1, v2] w fun e w' => e = .returned (.bool true) ∧ Dr w w' :=
  (equalInts_c v1 v2 xs xs w h1 h2).mono fun e w' ⟨h, hd⟩ => ⟨by rw [h]; simp, hd⟩

end Go.Proofs.Ytcfhncckeedipaa
