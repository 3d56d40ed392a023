/-
  Contracts of the small functions over lists of boxes that the laws call; boxes apart.
-/
import Derived.Test.YtafcohmneeabbaaCov
import Derived.Test.YtafcohmneeabbaaMeetV
import Derived.Test.YtafcohmneeabbaaBlk
namespace Go.Proofs.Ytafcohmneeabbaa
set_option linter.unusedSimpArgs false
set_option linter.unusedVariables false
open Go.RowKit

theorem areaL_takeM {L : List Bx} (h : ∀ b ∈ L, VB b) (hA : areaL L ≤ 4000000) (k : Nat) (hk : k < L.length) :
    areaL (L.take (k + 1)) = areaL (L.take k) + L[k].w * L[k].h ∧ 0 ≤ areaL (L.take k) ∧ areaL (L.take k) + L[k].w * L[k].h ≤ 4000000 ∧ 1 ≤ L[k].w * L[k].h := by
  have hp : ∀ M : List Bx, (∀ b ∈ M, VB b) → 0 ≤ areaL M := fun M hM => by have := areaL_len hM; omega
  have h1 : areaL (L.take (k + 1)) = areaL (L.take k) + L[k].w * L[k].h := by
    rw [List.take_succ_eq_append_getElem hk, areaL_append, areaL_cons, areaL_nil]; omega
  have h2 : areaL L = areaL (L.take (k + 1)) + areaL (L.drop (k + 1)) := by rw [← areaL_append, List.take_append_drop]
  have h3 := hp (L.take k) (fun b hb => h b (List.mem_of_mem_take hb))
  have h4 := hp (L.drop (k + 1)) (fun b hb => h b (List.mem_of_mem_drop hb))
  have h5 := (h L[k] (List.getElem_mem hk)).area
  omega

set_option maxHeartbeats 1600000 in
theorem area_c (v : Value) (L : List Bx) (w : World) (h : Row boxE w v L) (hV : ∀ b ∈ L, VB b) (hA : areaL L ≤ 4000000) : Calls Try.prog 13 #[v] w fun e w' => e = .returned (.int .i64 (areaL L)) ∧ Dr w w' := by
  obtain ⟨A1, c1, rfl, hc1, hm1⟩ := h.form
  unfold maxLen at hm1
  have HVV := hid hV
  have HAA := hid hA
  clear hV hA
  go_enter Try.func13, Try.ntmps13
  go_wp2
  go_loopw [3, 4] (fun n i wr => ∃ k : Nat, i = .int .i64 k ∧ k ≤ L.length ∧ n = .int .i64 (areaL (L.take k)) ∧ Dr w wr) (fun _ i _ => L.length - (intOf i).toNat)
  case atStart => exact ⟨0, rfl, by omega, rfl, Dr.refl _⟩
  case round =>
    obtain ⟨k, rfl, hk, rfl, hd⟩ := hrel
    by_cases hlt : k < L.length
    · obtain ⟨b1, o1, rfl, -, hx⟩ := row_boxs (h.dr hd) (by omega)
      obtain ⟨hx0, hx1, hx2, hx3⟩ := hx k hlt
      obtain ⟨e1, e2, e3, e4⟩ := areaL_takeM HVV.out HAA.out k hlt
      have hv := HVV.out _ (List.getElem_mem hlt)
      unfold VB at hv
      obtain ⟨v1, v2, v3, v4, v5, v6, v7, v8⟩ := hv
      have hw1 : IntKind.i64.wrap (L[k].w * L[k].h) = L[k].w * L[k].h := IntWalk.i64_in _ (by omega)
      have hw2 : IntKind.i64.wrap (areaL (L.take k) + L[k].w * L[k].h) = areaL (L.take k) + L[k].w * L[k].h := IntWalk.i64_in _ (by omega)
      have HE := hid e1
      have HD := hid hd
      clear hx h hd e1
      go_wp2
      go_quiet (fail)
      go_wp2
      exact ⟨⟨k + 1, by go_num, by omega, by rw [HE.out], HD.out.step _⟩, by simp [intOf]; omega⟩
    · have e : areaL L = areaL (L.take k) := by rw [List.take_of_length_le (by omega)]
      have HE := hid e
      have HD := hid hd
      clear e hd
      go_wp2
      go_ret
      exact ⟨ret_int HE.out.symm, HD.out⟩

/-- No two boxes have a point in common. -/
def Apart (L : List Bx) : Prop := ∀ i j, (hi : i < L.length) → (hj : j < i) → mtB L[i] (L[j]'(by omega)) = false
instance (L : List Bx) : Decidable (Apart L) := by
  refine decidable_of_iff (∀ i : Fin L.length, ∀ j : Fin i.1, mtB L[i.1] (L[j.1]'(by omega)) = false) ?_
  exact ⟨fun h i j hi hj => h ⟨i, hi⟩ ⟨j, hj⟩, fun h i j => h i.1 j.1 i.2 j.2⟩
def apB (L : List Bx) : Bool := vbsB L && decide (Apart L)
theorem apB_t {L : List Bx} (h : VBs L) (ha : Apart L) : apB L = true := by simp [apB, vbsB_iff.2 h, ha]
theorem apB_f {L : List Bx} (h : vbsB L = false) : apB L = false := by simp [apB, h]
theorem apB_no {L : List Bx} (h : ¬ Apart L) : apB L = false := by simp [apB, h]

set_option maxHeartbeats 3200000 in
set_option maxRecDepth 100000 in
theorem ApartBoxes_c (v : Value) (L : List Bx) (w : World) (h : Row boxE w v L) : Calls Try.prog 10 #[v] w fun e w' => e = .returned (.bool (apB L)) ∧ Below w.heap.size w w' := by
  obtain ⟨A1, c1, rfl, hc1, hm1⟩ := h.form
  unfold maxLen at hm1
  have HH := hid h
  clear h
  go_enter Try.func10, Try.ntmps10
  go_wp2_with fail
  refine (validBoxes_c _ L _ HH.out).mono ?_
  rintro e w1 ⟨rfl, hb⟩
  have HB := hid hb
  clear hb
  cases hv : vbsB L with
  | false =>
    have HE := hid (apB_f hv)
    clear hv
    go_wp2
    go_ret
    exact ⟨ret_bool HE.out.symm, HB.out⟩
  | true =>
    have HV := hid (vbsB_iff.1 hv)
    clear hv
    go_wp2
    go_loopw [14] (fun i wr => ∃ k : Nat, i = .int .i64 k ∧ k ≤ L.length ∧ (∀ i j, (hi : i < L.length) → (hj : j < i) → i < k → mtB L[i] (L[j]'(by omega)) = false) ∧ Below w.heap.size w wr) (fun i _ => L.length - (intOf i).toNat)
    case atStart => exact ⟨0, rfl, by omega, fun i j _ _ h => by omega, HB.out⟩
    case round =>
      obtain ⟨k, rfl, hk, hno, hb⟩ := hrel
      obtain ⟨wo, rfl⟩ : ∃ wo : World, wo = wr := ⟨_, rfl⟩
      have HNO := hid hno
      have HBr := hid hb
      have hszr := hb.size
      clear hno hb
      by_cases hlt : k < L.length
      · obtain ⟨b1, o1, rfl, hb1, hx⟩ := row_boxs HH.out (by omega)
        have HX : Hid (∀ wz, Below w.heap.size w wz → ∀ k (hk : k < L.length), wz.cell? ⟨b1, o1 + k * 4, none⟩ = some (.int .i64 L[k].x) ∧ wz.cell? ⟨b1, o1 + k * 4 + 1, none⟩ = some (.int .i64 L[k].y) ∧ wz.cell? ⟨b1, o1 + k * 4 + 2, none⟩ = some (.int .i64 L[k].w) ∧ wz.cell? ⟨b1, o1 + k * 4 + 3, none⟩ = some (.int .i64 L[k].h)) := fun wz hb k hk =>
          ⟨(hb.cell (p := ⟨b1, _, none⟩) hb1).trans (hx k hk).1, (hb.cell (p := ⟨b1, _, none⟩) hb1).trans (hx k hk).2.1, (hb.cell (p := ⟨b1, _, none⟩) hb1).trans (hx k hk).2.2.1, (hb.cell (p := ⟨b1, _, none⟩) hb1).trans (hx k hk).2.2.2⟩
        obtain ⟨hx0, hx1, hx2, hx3⟩ := HX.out wo HBr.out k hlt
        have HQ0 := hid (Blk.new wo #[.int .i64 L[k].x, .int .i64 L[k].y, .int .i64 L[k].w, .int .i64 L[k].h] 53)
        have HB0 := hid (HBr.out.alloc hszr (.cells #[.int .i64 L[k].x, .int .i64 L[k].y, .int .i64 L[k].w, .int .i64 L[k].h] 53))
        have hVk := HV.out.2 _ (List.getElem_mem hlt)
        have HVK := hid hVk
        clear hx hVk
        go_wp2
        go_loopw [23] (fun i wi => ∃ q : Nat, i = .int .i64 q ∧ q ≤ k ∧ (∀ j (hj : j < q) (h2 : q ≤ k), mtB L[k] (L[j]'(by omega)) = false) ∧ Blk wi wo.heap.size #[.int .i64 L[k].x, .int .i64 L[k].y, .int .i64 L[k].w, .int .i64 L[k].h] 53 ∧ Below w.heap.size w wi) (fun i _ => k - (intOf i).toNat)
        case atStart => exact ⟨0, rfl, by omega, fun j h _ => by omega, HQ0.out, HB0.out⟩
        case round =>
          obtain ⟨q, rfl, hq, hnq, hblk, hb⟩ := hrel
          have HNQ := hid hnq
          have HBi := hid hb
          have HQi := hid hblk
          have hszi := hb.size
          clear hnq hb hblk hx0 hx1 hx2 hx3 HQ0 HB0
          by_cases hqk : q < k
          · have hql : q < L.length := by omega
            obtain ⟨hx0, hx1, hx2, hx3⟩ := HX.out wr HBi.out q hql
            have c_Q := fun (o : Nat) => HQi.out.cell o
            have l_Q := HQi.out.lt
            have HB1 := hid (HBi.out.alloc hszi (.cells #[.int .i64 L[q].x, .int .i64 L[q].y, .int .i64 L[q].w, .int .i64 L[q].h] 53))
            have HQ1 := hid (HQi.out.alloc (.cells #[.int .i64 L[q].x, .int .i64 L[q].y, .int .i64 L[q].w, .int .i64 L[q].h] 53))
            have HVQ := hid (HV.out.2 _ (List.getElem_mem hql))
            go_wp2_with fail
            refine (MeetOf_c L[k] L[q] _).mono ?_
            rintro e w2 ⟨rfl, hb⟩
            have HB2 := hid (HB1.out.trans (hb.mono HB1.out.size))
            have HQ2 := hid (HQ1.out.go hb)
            have hsz2 := HB2.out.size
            obtain ⟨m, hm⟩ : ∃ m, m = meetBx L[k] L[q] := ⟨_, rfl⟩
            rw [← hm]
            clear hb hm c_Q l_Q
            cases hok : meetOk L[k] L[q] with
            | true =>
              have HF : Hid (apB L = false) := apB_no (fun ha => by
                have h1 := (meetOk_t hok).2.2.1
                rw [ha k q hlt hqk] at h1; cases h1)
              clear hok
              go_wp2
              go_ret
              exact ⟨ret_bool HF.out.symm, HB2.out.alloc hsz2 _⟩
            | false =>
              have HNQ2 : Hid (∀ j (hj : j < q + 1) (h2 : q + 1 ≤ k), mtB L[k] (L[j]'(by omega)) = false) := fun j hj h2 => by
                by_cases e : j = q
                · subst e
                  have h1 := hok
                  rw [meetOk, vbB_iff.2 HVK.out, vbB_iff.2 HVQ.out] at h1
                  simpa using h1
                · exact HNQ.out j (by omega) (by omega)
              clear hok
              go_wp2
              exact ⟨⟨q + 1, by go_num, by omega, HNQ2.out, HQ2.out.alloc _, HB2.out.alloc hsz2 _⟩, by simp [intOf]; omega⟩
          · have e : q = k := by omega
            have HNO2 : Hid (∀ i j, (hi : i < L.length) → (hj : j < i) → i < k + 1 → mtB L[i] (L[j]'(by omega)) = false) := fun i j hi hj h => by
              by_cases e2 : i = k
              · subst e2; exact HNQ.out j (by omega) (by omega)
              · exact HNO.out i j hi hj (by omega)
            clear e
            go_wp2
            exact ⟨⟨k + 1, by go_num, by omega, HNO2.out, HBi.out⟩, by simp [intOf]; omega⟩
      · have HT : Hid (apB L = true) := apB_t HV.out (fun i j hi hj => HNO.out i j hi hj (by omega))
        go_wp2
        go_ret
        exact ⟨ret_bool HT.out.symm, HBr.out⟩

end Go.Proofs.Ytafcohmneeabbaa
