/-
  Contract: coverArea and CoverArea of the reference.
-/
import Derived.Test.YtcfhncckeedipaaCov
import Derived.Test.YtcfhncckeedipaaCat
import Derived.Deep.RegionHeld3
namespace Go.Proofs.Ytcfhncckeedipaa
set_option linter.unusedSimpArgs false
set_option linter.unusedVariables false
open Go.RowKit

theorem cut_room {R : List Bx} {b : Bx} (hR : ∀ r ∈ R, VB r) (hA : areaL R ≤ 40000) (hb : VB b) (p : Nat) (hp : p < R.length) : (cutL (R.take p) b).length + (leftL R[p] b).length ≤ 4194304 := by
  have h0 : ∀ r ∈ R.take p, VB r := fun r hr => hR r (List.mem_of_mem_take hr)
  have h1 := leftL_len R[p] b
  have h2 := areaL_len (cutL_valid h0 hb)
  have h3 := cutL_area h0 hb
  have h4 := (areaL_take hR hA p hp).2.2
  omega

theorem Own.drew {α : Type} {E : Enc α} {e : TypeId} {base : Nat} {w : World} {v : Value} {L : List α} (h : Own E e base w v L) : Own E e base w.drew v L := h

set_option maxHeartbeats 800000 in
set_option maxRecDepth 100000 in
theorem scoverArea_c (v : Value) (L : List Bx) (w : World) (h : Row boxE w v L) (hV : VBs L) : Calls Try.prog 81 #[v] w fun e w' => e = .returned (.int .i64 (covN L)) ∧ Below w.heap.size w w' := by
  obtain ⟨A1, c1, rfl, hc1, hm1⟩ := h.form
  unfold maxLen at hm1
  obtain ⟨i0, hi0, hz0, hz1, hz2⟩ := info_parts box_info
  have hl24 : L.length ≤ 24 := hV.1
  have HVV := hid hV.2
  clear hV
  go_enter Try.func81, Try.ntmps81
  go_wp2
  go_loopw [3, 4] (fun n i wr => ∃ k : Nat, i = .int .i64 k ∧ k ≤ L.length ∧ n = .int .i64 (covTo L k) ∧ Below w.heap.size w wr) (fun _ i _ => L.length - (intOf i).toNat)
  case atStart => exact ⟨0, rfl, by omega, by rw [covTo_zero], Below.refl _ _⟩
  case round =>
    obtain ⟨k, rfl, hk, rfl, hb⟩ := hrel
    by_cases hlt : k < L.length
    · obtain ⟨wo, rfl⟩ : ∃ wo : World, wo = wr := ⟨_, rfl⟩
      obtain ⟨b1, o1, rfl, -, hx⟩ := row_boxs (h.below hb) (by omega)
      obtain ⟨hx0, hx1, hx2, hx3⟩ := hx k hlt
      have HR := hid (h.go hb)
      have HB := hid hb
      have hbd := covTo_bd L k
      obtain ⟨bd1, bd2⟩ := hbd
      have HS := hid (covTo_succ HVV.out k hlt)
      clear hx h hb
      go_wp2
      have HO0 := hid (Own.lit boxE wo wo.heap.size 44 #[.int .i64 L[k].x, .int .i64 L[k].y, .int .i64 L[k].w, .int .i64 L[k].h] [L[k]] 1 rfl rfl (Nat.le_refl _) (by simp [maxLen]))
      go_loopw [5, 6] (fun r q wm => ∃ j : Nat, q = .int .i64 j ∧ j ≤ k ∧ Own boxE 44 wo.heap.size wm r (restOf L[k] (L.take j)) ∧ Below wo.heap.size wo wm) (fun _ q _ => k - (intOf q).toNat)
      case atStart => exact ⟨0, rfl, by omega, HO0.out, (Below.refl _ _).alloc (Nat.le_refl _) _⟩
      case round =>
        obtain ⟨j, rfl, hj, ho, hbm⟩ := hrel
        obtain ⟨hR1, hR2, -⟩ := restOf_ok (HVV.out L[k] (List.getElem_mem hlt)) j L HVV.out (by omega)
        obtain ⟨R, hR⟩ : ∃ R, R = restOf L[k] (L.take j) := ⟨_, rfl⟩
        rw [← hR] at hR1 hR2 ho
        have HRE := hid hR
        clear hR hx0 hx1 hx2 hx3 HO0
        obtain ⟨A2, c2, rfl, hc2, hm2⟩ := ho.rowB.form
        unfold maxLen at hm2
        have hRl := areaL_len hR1
        have hRl' : R.length ≤ 40000 := by omega
        have HO := hid ho
        have HBM := hid hbm
        have HV1 := hid hR1
        have HA1 := hid hR2
        clear hRl hR1 hR2 ho hbm
        by_cases hjk : j < k
        · have hjL : j < L.length := by omega
          have HJ : Hid (restOf L[k] (L.take (j + 1)) = cutL R L[j]) := by
            rw [Hid, List.take_succ_eq_append_getElem hjL, restOf_succ, HRE.out]
          obtain ⟨wm', rfl⟩ : ∃ wm' : World, wm' = wr := ⟨_, rfl⟩
          have HRM := hid (HR.out.go HBM.out)
          go_wp2
          have HN0 := hid (Own.lit0 boxE wm' wm'.heap.size 44 (Nat.le_refl _))
          go_loopw [7, 8] (fun nx q wi => ∃ p : Nat, q = .int .i64 p ∧ p ≤ R.length ∧ Own boxE 44 wm'.heap.size wi nx (cutL (R.take p) L[j]) ∧ Below wm'.heap.size wm' wi) (fun _ q _ => R.length - (intOf q).toNat)
          case atStart => exact ⟨0, rfl, by omega, HN0.out, (Below.refl _ _).alloc (Nat.le_refl _) _⟩
          case round =>
            obtain ⟨p, rfl, hp, ho, hbi⟩ := hrel
            clear HN0
            by_cases hpl : p < R.length
            · obtain ⟨b2, o2, rfl, hb2, hy⟩ := row_boxs (HO.out.rowB.below hbi) (by omega)
              obtain ⟨hy0, hy1, hy2, hy3⟩ := hy p hpl
              obtain ⟨b3, o3, hA, hb1, hx⟩ := row_boxs (HRM.out.below hbi) (by omega)
              injection hA with hA
              injection hA with hA1 hA2
              obtain ⟨hx0, hx1, hx2, hx3⟩ := hx j hjL
              subst hA1; subst hA2
              have HNO := hid ho
              have HBI := hid hbi
              have HP : Hid (cutL (R.take (p + 1)) L[j] = cutL (R.take p) L[j] ++ leftL R[p] L[j]) := by
                rw [Hid, List.take_succ_eq_append_getElem hpl, cutL_append, cutL_one]
              have HPL := hid (cut_room HV1.out HA1.out (HVV.out L[j] (List.getElem_mem hjL)) p hpl)
              clear hx hy ho hbi
              obtain ⟨L2, hL2⟩ : ∃ M : List Bx, M = cutL (R.take p) L[j] ++ leftL R[p] L[j] := ⟨_, rfl⟩
              have HL2 := hid hL2
              clear hL2
              go_wp2
              have ZN := hid HNO.out.drew
              have ZB := hid HBI.out.drew
              go_region_held3 (fun w' => w'.cell? ⟨b2, o2 + p * 4, none⟩ = some (.int .i64 R[p].x) ∧ w'.cell? ⟨b2, o2 + p * 4 + 1, none⟩ = some (.int .i64 R[p].y) ∧ w'.cell? ⟨b2, o2 + p * 4 + 2, none⟩ = some (.int .i64 R[p].w) ∧ w'.cell? ⟨b2, o2 + p * 4 + 3, none⟩ = some (.int .i64 R[p].h) ∧ w'.cell? ⟨b1, o1 + j * 4, none⟩ = some (.int .i64 L[j].x) ∧ w'.cell? ⟨b1, o1 + j * 4 + 1, none⟩ = some (.int .i64 L[j].y) ∧ w'.cell? ⟨b1, o1 + j * 4 + 2, none⟩ = some (.int .i64 L[j].w) ∧ w'.cell? ⟨b1, o1 + j * 4 + 3, none⟩ = some (.int .i64 L[j].h)) (go_keep)
                (first | (go_at_call 77; refine (sleftOver_c R[p] L[j] _ (HV1.out _ (List.getElem_mem hpl)) (HVV.out _ (List.getElem_mem hjL))).mono ?_; rintro e w3 ⟨v3, rfl, ho3, hb3⟩; have HO3 := hid ho3; have ZN3 := hid (ZN.out.below hb3); have ZB3 := hid (ZB.out.trans (hb3.mono ZB.out.size)); obtain ⟨hcA, hfA⟩ := bcellB (hb3.mono ZB.out.size); clear ho3 hb3) | (refine step_cat boxE _ rfl (.tmp 32) (.tmp 41) _ rfl wm'.heap.size 44 i0 _ 32 Try.underlying47 hi0 hz0 hz1 hz2 rfl (by omega) _ _ rfl ZN3.out _ _ _ rfl HO3.out.rowB HPL.out ZB3.out.size L2 HL2.out ?_; intro v' w' ho' hg' hat'; have HO' := hid ho'; have HB' := hid (ZB3.out.grown hg' ZB3.out.size (fun q hq => (HNO.out.lt q hq).1)); obtain ⟨hcB, hfB⟩ := bcellB ((Below.refl wm'.heap.size w3).grown hg' ZB3.out.size (fun q hq => (HNO.out.lt q hq).1)); clear ho' hg' hat'))
              go_wp2
              exact ⟨⟨p + 1, by go_num, by omega, by rw [HP.out, ← HL2.out]; exact HO'.out, HB'.out⟩, by simp [intOf]; omega⟩
            · have e : p = R.length := by omega
              have e2 : R.take p = R := List.take_of_length_le (by omega)
              rw [e2, ← HJ.out] at ho
              have HNO := hid (ho.base_le HBM.out.size)
              have HBI := hid (HBM.out.trans (hbi.mono HBM.out.size))
              clear ho hbi e2
              go_wp2
              exact ⟨⟨j + 1, by go_num, by omega, HNO.out, HBI.out⟩, by simp [intOf]; omega⟩
        · have e : j = k := by omega
          subst e
          have HB2 := hid (HB.out.trans (HBM.out.mono HB.out.size))
          have e1 : Hid (areaL R = areaL (restOf L[j] (L.take j))) := by rw [Hid, HRE.out]
          have a0 : 0 ≤ areaL R := by have := areaL_len HV1.out; omega
          have a1 := HA1.out
          go_wp2_with fail
          refine (sareaOf_c _ R _ HO.out.rowB HV1.out HA1.out).mono ?_
          rintro e w3 ⟨rfl, hd3⟩
          have HD3 := hid hd3
          clear hd3
          go_wp2
          exact ⟨⟨j + 1, by go_num, by omega, by rw [HS.out, ← e1.out], HB2.out.trans (HD3.out.below _)⟩, by simp [intOf]; omega⟩
    · have e : k = L.length := by omega
      have HC : Hid (covTo L k = covN L) := by rw [Hid, e, covTo_all]
      have HB := hid hb
      clear e hb
      go_wp2
      go_ret
      exact ⟨ret_int HC.out, HB.out⟩

set_option maxHeartbeats 1600000 in
theorem sCoverArea_c (v : Value) (L : List Bx) (w : World) (h : Row boxE w v L) : Calls Try.prog 49 #[v] w fun e w' => e = .returned (.int .i64 (covOut L)) ∧ Below w.heap.size w w' := by
  by_cases hv : VBs L
  · have HV := hid (vbsB_iff.2 hv)
    have HO : Hid (covOut L = covN L) := by rw [Hid, covOut, if_pos HV.out]
    have HVV := hid hv
    clear hv
    go_enter Try.func49, Try.ntmps49
    go_wp2_with fail
    refine (svalidBoxes_c v L _ h).mono ?_
    rintro e w1 ⟨rfl, hb1⟩
    rw [HV.out]
    have HB := hid hb1
    clear hb1
    go_wp2_with fail
    refine (scoverArea_c v L _ (h.go HB.out) HVV.out).mono ?_
    rintro e w2 ⟨rfl, hb2⟩
    have HB2 := hid (HB.out.trans (hb2.mono HB.out.size))
    clear hb2
    go_wp2
    go_ret
    exact ⟨ret_int HO.out.symm, HB2.out⟩
  · have HV := hid (vbsB_not.2 hv)
    have HO : Hid (covOut L = -1) := by rw [Hid, covOut, if_neg (by rw [HV.out]; simp)]
    clear hv
    go_enter Try.func49, Try.ntmps49
    go_wp2_with fail
    refine (svalidBoxes_c v L _ h).mono ?_
    rintro e w1 ⟨rfl, hb1⟩
    rw [HV.out]
    have HB := hid hb1
    clear hb1
    go_wp2
    go_ret
    exact ⟨ret_int HO.out.symm, HB.out⟩

end Go.Proofs.Ytcfhncckeedipaa
