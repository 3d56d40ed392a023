/-
  The law FnCoverArea, walked (written by a program of mine).
-/
import Derived.Test.YtcfhncckeedipaaDrBoxes
import Derived.Test.YtcfhncckeedipaaBoxQ
import Derived.Test.YtcfhncckeedipaaCovI
import Derived.Test.YtcfhncckeedipaaCovS
import Derived.Test.YtcfhncckeedipaaGrow
import Derived.Deep.RegionHeld3
namespace Go.Proofs.Ytcfhncckeedipaa
set_option linter.unusedSimpArgs false
set_option linter.unusedVariables false
open Go.RowKit
theorem gw_row {α : Type} {E : Enc α} {N : Nat} {wr W : World} {v : Value} {L : List α} (h : Row E wr v L) (hb : Below wr.heap.size wr W) (hN : wr.heap.size ≤ N) (q : GW N W) : Row E q.w v L := h.go (hb.trans (q.h.mono hN))

set_option maxHeartbeats 12800000 in
set_option maxRecDepth 100000 in
theorem FnCoverArea_c (v : Value) (L : List Int) (w : World) (h : Row byteE w v L ∧ ∀ x ∈ L, 0 ≤ x ∧ x ≤ 255) : Calls Try.prog 11 #[v] w fun e w' => e = .returned (.bool true) ∧ Below w.heap.size w w' := by
  obtain ⟨h, hb⟩ := h
  obtain ⟨A, c, rfl, hc1, hm1⟩ := h.form
  unfold maxLen at hm1
  by_cases hle : 1048576 < L.length
  · have hd : decide ((1048576 : Int) < (L.length : Int)) = true := by simp; omega
    go_enter Try.func11, Try.ntmps11
    go_wp2
    go_ret
    exact ⟨rfl, Below.refl _ _⟩
  · have hd : decide ((1048576 : Int) < (L.length : Int)) = false := by simp; omega
    have HH := hid h
    have HB := hid hb
    clear h hb hle
    go_enter Try.func11, Try.ntmps11
    go_wp2_with fail
    refine (DrawCoverArea_c _ L _ HH.out HB.out).mono ?_
    rintro e w1 ⟨u, M, rfl, hM, hl, hT, hb⟩
    have HM1 := hid hM
    have HB1 := hid hb
    clear hM hT hb
    obtain ⟨Am, km, hvm, hkm, hmm⟩ := HM1.out.form
    subst hvm
    unfold maxLen at hmm
    obtain ⟨x, hx⟩ : ∃ x, x = covOut M := ⟨_, rfl⟩
    have HX := hid hx
    have hxx : (x != x) = false := by simp
    have hxe : (x == x) = true := by simp
    clear hx
    go_wp2_with fail
    refine (CoverArea_c _ M _ HM1.out).mono ?_
    rintro e w2 ⟨rfl, hb⟩
    have HM_2 := hid (HM1.out.go hb)
    have HB_2 := hid (HB1.out.trans (hb.mono HB1.out.size))
    rw [← HX.out]
    clear hb
    go_wp2_with fail
    refine (sCoverArea_c _ M _ HM_2.out).mono ?_
    rintro e w3 ⟨rfl, hb⟩
    have HM_3 := hid (HM_2.out.go hb)
    have HB_3 := hid (HB_2.out.trans (hb.mono HB_2.out.size))
    rw [← HX.out]
    clear hb
    cases hv : vbsB M with
    | false =>
      have hx0 : decide (x < 0) = true := by rw [HX.out, covOut_f hv]; rfl
      clear hv
      go_wp2_with fail
      refine (sCoverArea_c _ M _ HM_3.out).mono ?_
      rintro e w4 ⟨rfl, hb⟩
      have HM_4 := hid (HM_3.out.go hb)
      have HB_4 := hid (HB_3.out.trans (hb.mono HB_3.out.size))
      rw [← HX.out]
      clear hb
      go_wp2
      go_ret
      exact ⟨rfl, HB_4.out⟩
    | true =>
      have hvs := vbsB_iff.1 hv
      have h3 : x = covN M := by rw [HX.out, covOut_t hvs]
      have hbd := covN_bd M
      have hx0 : decide (x < 0) = false := decide_eq_false (by omega)
      have har := areaL_bd hvs.2
      have HVS := hid hvs
      have HX3 := hid h3
      have hxa : decide (x ≤ areaL M) = true := decide_eq_true (by rw [h3]; exact cov_area hvs.2)
      have HRV : Hid (covOut M.reverse = x) := by
        rw [Hid, covOut_t ⟨by simpa using hvs.1, fun b hb => hvs.2 b (by simpa using hb)⟩, cov_rev, h3]
      obtain ⟨i0, hi0, hz0, hz1, hz2⟩ := info_parts box_info
      clear hv hvs h3
      have HO0 := hid (Own.lit0 boxE w3 w3.heap.size 44 (Nat.le_refl _))
      have HW0 : Hid (Below w3.heap.size w3 (w3.alloc (.cells #[] 44))) := (Below.refl _ _).alloc (Nat.le_refl _) _
      go_wp2
      go_loopw [5, 6] (fun o i wr => ∃ k : Nat, i = .int .i64 ((k : Int) - 1) ∧ k ≤ M.length ∧ Below w3.heap.size w3 wr ∧ Own boxE 44 w3.heap.size wr o (M.drop k).reverse) (fun _ i _ => (intOf i + 1).toNat)
      case atStart => exact ⟨M.length, rfl, by omega, HW0.out, by simpa using HO0.out⟩
      case round =>
        obtain ⟨k, rfl, hk, hb, ho⟩ := hrel
        clear HO0 HW0
        have HO := hid ho
        have HBr := hid hb
        have HMr := hid (HM_3.out.below hb)
        have hsz := hb.size
        clear ho hb
        by_cases h0 : 0 < k
        · obtain ⟨j, rfl⟩ : ∃ j, k = j + 1 := ⟨k - 1, by omega⟩
          obtain ⟨b1, o1, rfl, hb1, hx⟩ := row_boxs HMr.out (by omega)
          obtain ⟨x0, x1, x2, x3⟩ := hx j (by omega)
          have e : ((j + 1 : Nat) : Int) - 1 = j := by omega
          have HLn : Hid (((M.drop (j + 1)).reverse).length ≤ 4194304) := by rw [Hid]; simp; omega
          obtain ⟨L2, hL2⟩ : ∃ Z : List Bx, Z = (M.drop (j + 1)).reverse ++ [M[j]] := ⟨_, rfl⟩
          have HL2 := hid hL2
          have HL3 : Hid (L2 = (M.drop j).reverse) := by rw [Hid, hL2, List.drop_eq_getElem_cons (show j < M.length by omega), List.reverse_cons]
          clear hx hL2
          simp only [e]
          clear e
          go_wp2_with (at_builtin; refine wpList_pushN boxE _ rfl (.tmp 36) (.tmp 41) _ rfl w3.heap.size 44 i0 _ 32 Try.underlying47 hi0 hz0 hz1 hz2 rfl (by omega) _ _ rfl HO.out _ M[j] _ rfl rfl (by simp) HLn.out hsz L2 HL2.out ?_)
          intro v' w' ho' hg' hat'
          rw [HL3.out] at ho'
          have HO' := hid ho'
          have HB' := hid (HBr.out.grown hg' hsz (fun q hq => (HO.out.lt q hq).1))
          clear ho' hg' hat'
          go_wp2
          exact ⟨⟨j, by go_num, by omega, HB'.out, HO'.out⟩, by simp [intOf]⟩
        · have e : k = 0 := by omega
          subst e
          have hrr := HO.out.rowB
          rw [List.drop_zero] at hrr
          have HRr := hid hrr
          clear hrr
          have HMr2 := hid (HM_3.out.go HBr.out)
          have HB2 := hid (HB_3.out.trans (HBr.out.mono HB_3.out.size))
          clear HO h0
          by_cases h2 : 2 ≤ M.length
          · have h2d : decide ((2 : Int) ≤ (M.length : Int)) = true := decide_eq_true (by omega)
            have hlt0 : 0 < M.length := by omega
            have hlt1 : 1 < M.length := by omega
            have hlt2 : (1 : Int) < (M.length : Int) := by omega
            obtain ⟨b1, o1, rfl, hb1, hx⟩ := row_boxs HMr2.out (by omega)
            obtain ⟨x0, x1, x2, x3⟩ := hx 0 hlt0
            obtain ⟨z0, z1, z2, z3⟩ := hx 1 hlt1
            simp only [Nat.zero_mul, Nat.one_mul, Nat.add_zero] at x0 x1 x2 x3 z0 z1 z2 z3
            have HL2 := hid h2
            have HT2 := hid (HMr2.out.take 2 HL2.out)
            have htk : M.take 2 = [(M[0]'hlt0), (M[1]'hlt1)] := by
              rw [List.take_succ_eq_append_getElem (show 1 < M.length by omega), List.take_succ_eq_append_getElem (show 0 < M.length by omega)]; rfl
            have hv0 := HVS.out.2 (M[0]'hlt0) (List.getElem_mem _)
            have hv1 := HVS.out.2 (M[1]'hlt1) (List.getElem_mem _)
            have hma := meet_area (b := (M[1]'hlt1)) hv0
            have hct : covOut (M.take 2) = areaL (M.take 2) - (meetBx (M[0]'hlt0) (M[1]'hlt1)).w * (meetBx (M[0]'hlt0) (M[1]'hlt1)).h := by
              rw [covOut_t ⟨by simp; omega, fun b hb => HVS.out.2 b (List.mem_of_mem_take hb)⟩, htk]
              exact cov_two hv0 hv1
            have ha2 := areaL_bd (L := M.take 2) (fun b hb => HVS.out.2 b (List.mem_of_mem_take hb))
            have hl2 : (M.take 2).length = 2 := by simp; omega
            rw [hl2] at ha2
            have HMC0 := hid (fun w => MeetOf_c (M[0]'hlt0) (M[1]'hlt1) w)
            obtain ⟨m, hm⟩ : ∃ m, m = meetBx (M[0]'hlt0) (M[1]'hlt1) := ⟨_, rfl⟩
            obtain ⟨ok, hok⟩ : ∃ c, c = meetOk (M[0]'hlt0) (M[1]'hlt1) := ⟨_, rfl⟩
            have HMC := hid HMC0.out
            rw [← hm] at hct hma
            rw [← hm, ← hok] at HMC
            obtain ⟨p, hp⟩ : ∃ p, p = (M[0]'hlt0) := ⟨_, rfl⟩
            obtain ⟨q, hq⟩ : ∃ q, q = (M[1]'hlt1) := ⟨_, rfl⟩
            rw [← hp] at x0 x1 x2 x3 HMC
            rw [← hq] at z0 z1 z2 z3 HMC
            have HCT := hid hct
            have hb1' : b1 < wr.heap.size + 1 := by omega
            clear hx htk hv0 hv1 HMC0 hm hok hp hq hct hl2 h2
            obtain ⟨ar2, har2⟩ : ∃ z, z = areaL (M.take 2) := ⟨_, rfl⟩
            have HAR2 := hid har2
            rw [← har2] at ha2
            have HCA : Hid (∀ w, Row boxE w (.slice (some ⟨b1, o1, none⟩) 2 km) (M.take 2) → Calls Try.prog 48 #[.slice (some ⟨b1, o1, none⟩) 2 km] w fun e w' => e = .returned (.int .i64 (ar2 - m.w * m.h)) ∧ Below w.heap.size w w') := fun w h => by
              have := CoverArea_c _ (M.take 2) w h
              rwa [HCT.out, ← HAR2.out] at this
            have HCB : Hid (∀ w, Row boxE w (.slice (some ⟨b1, o1, none⟩) 2 km) (M.take 2) → Calls Try.prog 46 #[.slice (some ⟨b1, o1, none⟩) 2 km] w fun e w' => e = .returned (.int .i64 ar2) ∧ Below w.heap.size w w') := fun w h =>
              (area_c _ (M.take 2) w h (fun b hb => HVS.out.2 b (List.mem_of_mem_take hb)) (by rw [← HAR2.out]; omega)).mono fun e w' ⟨h1, h2⟩ => ⟨by rw [h1, HAR2.out], h2.below _⟩
            have hs1 : IntKind.i64.wrap (m.w * m.h) = m.w * m.h := IntWalk.i64_in _ (by omega)
            have hs2 : IntKind.i64.wrap (ar2 - m.w * m.h) = ar2 - m.w * m.h := IntWalk.i64_in _ (by omega)
            have ht : (ar2 - m.w * m.h != ar2 - m.w * m.h) = false := by simp
            clear har2
            go_wp2
            have ZK := hid ((Below.refl _ _).drew : Below wr.heap.size wr wr.drew)
            go_region_held3 (fun w' => ∀ b o, b < wr.heap.size → w'.cell? ⟨b, o, none⟩ = wr.cell? ⟨b, o, none⟩) (first | with_reducible exact fun b o h => ZK.out.cell (p := ⟨b, o, none⟩) h | with_reducible exact fun b o h => (ZK.out.alloc ZK.out.size _).cell (p := ⟨b, o, none⟩) h | with_reducible exact fun b o h => (((Below.refl _ _).alloc (Nat.le_refl _) _).drew).cell (p := ⟨b, o, none⟩) h | with_reducible exact fun b o h => ((((ZK.out.setCell (Nat.le_refl _) _).setCell (Nat.le_refl _) _).setCell (Nat.le_refl _) _).setCell (Nat.le_refl _) _).cell (p := ⟨b, o, none⟩) h)
              (first | (go_at_call 43; ((with_reducible refine (HMC.out _).mono ?_); rintro e wq ⟨rfl, hb⟩; obtain ⟨hc2, hf2, hs2⟩ := bcell hb; (try have hz2 : wr.heap.size < wq.heap.size := (by simp at hs2; omega)); (first | with_reducible replace ZK := hid (ZK.out.trans (hb.mono ZK.out.size)) | with_reducible replace ZK := hid ((((Below.refl wr.heap.size wr).alloc (Nat.le_refl _) _).drew).trans (hb.mono (((Below.refl wr.heap.size wr).alloc (Nat.le_refl _) _).drew).size))); clear hb hs2)))
            all_goals
              go_wp2
              have hq := @GW.cell
              first
                | (have HBW := hid (ZK.out.alloc ZK.out.size (.cells #[.int .i64 m.x, .int .i64 m.y, .int .i64 m.w, .int .i64 m.h] 44))
                   have hN : wr.heap.size ≤ wq.heap.size + 1 := Nat.le_succ_of_le ZK.out.size
                   have hNW : wq.heap.size + 1 ≤ (wq.alloc (.cells #[.int .i64 m.x, .int .i64 m.y, .int .i64 m.w, .int .i64 m.h] 44)).heap.size := by simp
                   refine wp_region_grow (wq.heap.size + 1) (wq.alloc (.cells #[.int .i64 m.x, .int .i64 m.y, .int .i64 m.w, .int .i64 m.h] 44)) (by kernel_rfl) (by kernel_rfl) ?_)
                | (have HBW := hid ((((ZK.out.setCell (p := ⟨wr.heap.size, 0, none⟩) (Nat.le_refl _) (.int .i64 m.x)).setCell (p := ⟨wr.heap.size, 1, none⟩) (Nat.le_refl _) (.int .i64 m.y)).setCell (p := ⟨wr.heap.size, 2, none⟩) (Nat.le_refl _) (.int .i64 m.w)).setCell (p := ⟨wr.heap.size, 3, none⟩) (Nat.le_refl _) (.int .i64 m.h))
                   have hN : wr.heap.size ≤ wq.heap.size := ZK.out.size
                   have hNW : wq.heap.size ≤ ((((wq.setCell ⟨wr.heap.size, 0, none⟩ (.int .i64 m.x)).setCell ⟨wr.heap.size, 1, none⟩ (.int .i64 m.y)).setCell ⟨wr.heap.size, 2, none⟩ (.int .i64 m.w)).setCell ⟨wr.heap.size, 3, none⟩ (.int .i64 m.h)).heap.size := by simp
                   refine wp_region_grow wq.heap.size ((((wq.setCell ⟨wr.heap.size, 0, none⟩ (.int .i64 m.x)).setCell ⟨wr.heap.size, 1, none⟩ (.int .i64 m.y)).setCell ⟨wr.heap.size, 2, none⟩ (.int .i64 m.w)).setCell ⟨wr.heap.size, 3, none⟩ (.int .i64 m.h)) (by kernel_rfl) (by kernel_rfl) ?_)
              repeat (go_big_quiet_step (first | (go_at_call 48; exact GW.call hNW (HCA.out _ (gw_row HT2.out HBW.out hN _))) | (go_at_call 46; exact GW.call hNW (HCB.out _ (gw_row HT2.out HBW.out hN _)))))
              refine wpQuiet_nil ?_
              rintro _ ⟨q, rfl⟩
              have HQ := hid (HBW.out.trans (q.h.mono hN))
              clear hq
              have HMq := hid (HMr2.out.go HQ.out)
              have HRq := hid (HRr.out.go HQ.out)
              have HBq := hid (HB2.out.trans (HQ.out.mono HB2.out.size))
              go_wp2_with fail
              refine (CoverArea_c _ M.reverse _ HRq.out).mono ?_
              rintro e w21 ⟨rfl, hb⟩
              have HM_21 := hid (HMq.out.go hb)
              have HR_21 := hid (HRq.out.go hb)
              have HB_21 := hid (HBq.out.trans (hb.mono HBq.out.size))
              rw [HRV.out]
              clear hb
              go_wp2_with fail
              refine (area_c _ M _ HM_21.out HVS.out.2 (by have := HVS.out.1; omega)).mono ?_
              rintro e w22 ⟨rfl, hd⟩
              have HM_22 := hid (HM_21.out.drR hd)
              have HR_22 := hid (HR_21.out.drR hd)
              have HB_22 := hid (HB_21.out.trans (hd.below _))
              clear hd
              go_wp2
              go_ret
              exact ⟨rfl, HB_22.out⟩
          · have h2d : decide ((2 : Int) ≤ (M.length : Int)) = false := decide_eq_false (by omega)
            clear h2
            go_wp2_with fail
            refine (CoverArea_c _ M.reverse _ HRr.out).mono ?_
            rintro e w21 ⟨rfl, hb⟩
            have HM_21 := hid (HMr2.out.go hb)
            have HR_21 := hid (HRr.out.go hb)
            have HB_21 := hid (HB2.out.trans (hb.mono HB2.out.size))
            rw [HRV.out]
            clear hb
            go_wp2_with fail
            refine (area_c _ M _ HM_21.out HVS.out.2 (by have := HVS.out.1; omega)).mono ?_
            rintro e w22 ⟨rfl, hd⟩
            have HM_22 := hid (HM_21.out.drR hd)
            have HR_22 := hid (HR_21.out.drR hd)
            have HB_22 := hid (HB_21.out.trans (hd.below _))
            clear hd
            go_wp2
            go_ret
            exact ⟨rfl, HB_22.out⟩

end Go.Proofs.Ytcfhncckeedipaa
