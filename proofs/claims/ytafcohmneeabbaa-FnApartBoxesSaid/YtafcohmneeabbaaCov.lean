/-
  Contracts: valid lists of boxes (the program's and the reference's), sums of areas.
-/
import Derived.Test.YtafcohmneeabbaaLeftI
import Derived.Test.YtafcohmneeabbaaCovP
namespace Go.Proofs.Ytafcohmneeabbaa
set_option linter.unusedSimpArgs false
set_option linter.unusedVariables false
open Go.RowKit

set_option maxHeartbeats 1600000 in
theorem svalidBoxes_c (v : Value) (L : List Bx) (w : World) (h : Row boxE w v L) : Calls Try.prog 41 #[v] w fun e w' => e = .returned (.bool (vbsB L)) ∧ Below w.heap.size w w' := by
  obtain ⟨A1, c1, rfl, hc1, hm1⟩ := h.form
  unfold maxLen at hm1
  go_enter Try.func41, Try.ntmps41
  go_wp2
  go_loopw [3] (fun i wr => ∃ k : Nat, i = .int .i64 k ∧ k ≤ L.length ∧ (∀ j ∈ L.take k, VB j) ∧ Below w.heap.size w wr) (fun i _ => L.length - (intOf i).toNat)
  case atStart => exact ⟨0, rfl, by omega, by simp, Below.refl _ _⟩
  case round =>
    obtain ⟨k, rfl, hk, hok, hb⟩ := hrel
    by_cases hlt : k < L.length
    · obtain ⟨b1, o1, rfl, -, hx⟩ := row_boxs (h.below hb) (by omega)
      obtain ⟨hx0, hx1, hx2, hx3⟩ := hx k hlt
      have HOK := hid hok
      have HB := hid hb
      clear hx h hok hb
      go_wp2_with fail
      refine (svalidBox_c L[k] _).mono ?_
      rintro e w2 ⟨rfl, hb2⟩
      have HB2 := hid (HB.out.trans (hb2.mono HB.out.size))
      clear hb2
      by_cases hj : VB L[k]
      · have HK : Hid (∀ j ∈ L.take (k + 1), VB j) := by
          rw [Hid, List.take_succ_eq_append_getElem hlt]
          intro j hj'
          rcases List.mem_append.1 hj' with hj' | hj'
          · exact HOK.out j hj'
          · simp at hj'; subst hj'; exact hj
        rw [vbB_iff.2 hj]
        clear hj
        go_wp2
        exact ⟨⟨k + 1, by go_num, by omega, HK.out, HB2.out⟩, by simp [intOf]; omega⟩
      · have HF : Hid (vbsB L = false) := by
          rw [Hid, vbsB_not]; exact fun hv => hj (hv.2 _ (List.getElem_mem hlt))
        rw [vbB_not.2 hj]
        clear hj
        go_wp2
        go_ret
        exact ⟨ret_bool HF.out.symm, HB2.out⟩
    · rw [List.take_of_length_le (by omega)] at hok
      have HV : Hid (∀ c : Bool, (c = true ↔ L.length ≤ 24) → c = vbsB L) := fun c h => by
        rw [Bool.eq_iff_iff, vbsB_iff, h]; exact ⟨fun h => ⟨h, hok⟩, fun h => h.1⟩
      clear hok
      by_cases h16 : L.length ≤ 24
      · go_wp2
        go_ret
        exact ⟨ret_bool (HV.out _ (by simp; omega)), hb⟩
      · go_wp2
        go_ret
        exact ⟨ret_bool (HV.out _ (by simp; omega)), hb⟩

set_option maxHeartbeats 1600000 in
theorem validBoxes_c (v : Value) (L : List Bx) (w : World) (h : Row boxE w v L) : Calls Try.prog 39 #[v] w fun e w' => e = .returned (.bool (vbsB L)) ∧ Below w.heap.size w w' := by
  obtain ⟨A1, c1, rfl, hc1, hm1⟩ := h.form
  unfold maxLen at hm1
  by_cases h16 : L.length ≤ 24
  · go_enter Try.func39, Try.ntmps39
    go_wp2
    go_loopw [10] (fun i wr => ∃ k : Nat, i = .int .i64 k ∧ k ≤ L.length ∧ (∀ j ∈ L.take k, VB j) ∧ Below w.heap.size w wr) (fun i _ => L.length - (intOf i).toNat)
    case atStart => exact ⟨0, rfl, by omega, by simp, Below.refl _ _⟩
    case round =>
      obtain ⟨k, rfl, hk, hok, hb⟩ := hrel
      by_cases hlt : k < L.length
      · obtain ⟨b1, o1, rfl, -, hx⟩ := row_boxs (h.below hb) (by omega)
        obtain ⟨hx0, hx1, hx2, hx3⟩ := hx k hlt
        have HOK := hid hok
        have hsz := hb.size
        have HB := hid hb
        clear hx h hok hb
        go_wp2_with fail
        refine (ValidBox_c L[k] _).mono ?_
        rintro e w2 ⟨rfl, hb2⟩
        have HB2 := hid ((HB.out.alloc hsz _).trans (hb2.mono (by simp; omega)))
        clear hb2
        by_cases hj : VB L[k]
        · have HK : Hid (∀ j ∈ L.take (k + 1), VB j) := by
            rw [Hid, List.take_succ_eq_append_getElem hlt]
            intro j hj'
            rcases List.mem_append.1 hj' with hj' | hj'
            · exact HOK.out j hj'
            · simp at hj'; subst hj'; exact hj
          rw [vbB_iff.2 hj]
          clear hj
          go_wp2
          exact ⟨⟨k + 1, by go_num, by omega, HK.out, HB2.out⟩, by simp [intOf]; omega⟩
        · have HF : Hid (vbsB L = false) := by
            rw [Hid, vbsB_not]; exact fun hv => hj (hv.2 _ (List.getElem_mem hlt))
          rw [vbB_not.2 hj]
          clear hj
          go_wp2
          go_ret
          exact ⟨ret_bool HF.out.symm, HB2.out⟩
      · rw [List.take_of_length_le (by omega)] at hok
        have HV := hid (vbsB_iff.2 ⟨h16, hok⟩)
        clear hok
        go_wp2
        go_ret
        exact ⟨ret_bool HV.out.symm, hb⟩
  · have HF : Hid (vbsB L = false) := by rw [Hid, vbsB_not]; exact fun hv => h16 hv.1
    go_enter Try.func39, Try.ntmps39
    go_wp2
    go_ret
    exact ⟨ret_bool HF.out.symm, Below.refl _ _⟩

theorem areaL_take {L : List Bx} (h : ∀ b ∈ L, VB b) (hA : areaL L ≤ 40000) (k : Nat) (hk : k < L.length) :
    areaL (L.take (k + 1)) = areaL (L.take k) + L[k].w * L[k].h ∧ 0 ≤ areaL (L.take k) ∧ areaL (L.take k) + L[k].w * L[k].h ≤ 40000 ∧ 1 ≤ L[k].w * L[k].h := by
  have hp : ∀ M : List Bx, (∀ b ∈ M, VB b) → 0 ≤ areaL M := fun M hM => by have := areaL_len hM; omega
  have h1 : areaL (L.take (k + 1)) = areaL (L.take k) + L[k].w * L[k].h := by
    rw [List.take_succ_eq_append_getElem hk, areaL_append, areaL_cons, areaL_nil]; omega
  have h2 : areaL L = areaL (L.take (k + 1)) + areaL (L.drop (k + 1)) := by rw [← areaL_append, List.take_append_drop]
  have h3 := hp (L.take k) (fun b hb => h b (List.mem_of_mem_take hb))
  have h4 := hp (L.drop (k + 1)) (fun b hb => h b (List.mem_of_mem_drop hb))
  have h5 := (h L[k] (List.getElem_mem hk)).area
  omega

end Go.Proofs.Ytafcohmneeabbaa
