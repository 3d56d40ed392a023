/-
  The law FnCoverAreaMore, walked (written by a program of mine).
-/
import Derived.Test.YtcfhncckeedipaaDrBoxes
import Derived.Test.YtcfhncckeedipaaBoxQ
import Derived.Test.YtcfhncckeedipaaCovI
import Derived.Test.YtcfhncckeedipaaCovS
import Derived.Test.YtcfhncckeedipaaCat
import Derived.Test.YtcfhncckeedipaaGrow
import Derived.Deep.RegionHeld3
namespace Go.Proofs.Ytcfhncckeedipaa
set_option linter.unusedSimpArgs false
set_option linter.unusedVariables false
open Go.RowKit
theorem RowB.voidB {α : Type} {E : Enc α} {B : Nat} {w : World} {L : List α} (A : Option Addr) (c : Nat) (n : Nat) (h0 : L.length = 0) (hn : n = 0) (hc : c ≤ maxLen) : RowB E B w (.slice A n c) L := by
  subst hn
  exact ⟨A, c, by rw [h0], by omega, hc, fun h => by omega⟩
theorem RowB.dropB {α : Type} {E : Enc α} {B : Nat} {w : World} {b off n c : Nat} {L : List α} (h : RowB E B w (.slice (some ⟨b, off, none⟩) n c) L) (k : Nat) (hk : k ≤ n) : RowB E B w (.slice (some ⟨b, off + k * E.sz, none⟩) (n - k) (c - k)) (L.drop k) := by
  obtain ⟨A', c', h0, h1, h2, h3⟩ := h
  injection h0 with hA hn hc
  subst hn; subst hc
  have hl : (L.drop k).length = L.length - k := by simp
  refine ⟨_, c - k, by rw [hl], by rw [hl]; omega, by omega, fun h0 => ?_⟩
  obtain ⟨b', off', e, hb, hc⟩ := h3 (by rw [hl] at h0; omega)
  rw [← hA] at e
  injection e with e
  injection e with e1 e2
  subst e1 e2
  refine ⟨b, _, rfl, hb, fun j u hu => ?_⟩
  rw [← E.flat_drop, List.getElem?_drop] at hu
  rw [Nat.add_assoc]
  exact hc _ u hu

set_option maxHeartbeats 12800000 in
set_option maxRecDepth 100000 in
theorem FnCoverAreaMore_c (v : Value) (L : List Int) (w : World) (h : Row byteE w v L ∧ ∀ x ∈ L, 0 ≤ x ∧ x ≤ 255) : Calls Try.prog 12 #[v] w fun e w' => e = .returned (.bool true) ∧ Below w.heap.size w w' := by
  obtain ⟨h, hb⟩ := h
  obtain ⟨A, c, rfl, hc1, hm1⟩ := h.form
  unfold maxLen at hm1
  by_cases hle : 1048576 < L.length
  · have hd : decide ((1048576 : Int) < (L.length : Int)) = true := by simp; omega
    go_enter Try.func12, Try.ntmps12
    go_wp2
    go_ret
    exact ⟨rfl, Below.refl _ _⟩
  · have hd : decide ((1048576 : Int) < (L.length : Int)) = false := by simp; omega
    have HH := hid h
    have HB := hid hb
    clear h hb hle
    go_enter Try.func12, Try.ntmps12
    go_wp2_with fail
    refine (DrawCoverArea_c _ L _ HH.out HB.out).mono ?_
    rintro e w1 ⟨u, M, rfl, hM, hl, hT, hb⟩
    have HM1 := hid hM
    have HB1 := hid hb
    clear hM hT hb
    obtain ⟨Am, km, hvm, hkm, hmm⟩ := HM1.out.form
    subst hvm
    unfold maxLen at hmm
    obtain ⟨x, hx⟩ : ∃ x, x = covOut M := ⟨_, rfl⟩
    have HX := hid hx
    have hxx : (x != x) = false := by simp
    have hxe : (x == x) = true := by simp
    clear hx
    go_wp2_with fail
    refine (CoverArea_c _ M _ HM1.out).mono ?_
    rintro e w2 ⟨rfl, hb⟩
    have HM_2 := hid (HM1.out.go hb)
    have HB_2 := hid (HB1.out.trans (hb.mono HB1.out.size))
    rw [← HX.out]
    clear hb
    go_wp2_with fail
    refine (sCoverArea_c _ M _ HM_2.out).mono ?_
    rintro e w3 ⟨rfl, hb⟩
    have HM_3 := hid (HM_2.out.go hb)
    have HB_3 := hid (HB_2.out.trans (hb.mono HB_2.out.size))
    rw [← HX.out]
    clear hb
    cases hv : vbsB M with
    | false =>
      have hx0 : decide (x < 0) = true := by rw [HX.out, covOut_f hv]; rfl
      clear hv
      go_wp2_with fail
      refine (sCoverArea_c _ M _ HM_3.out).mono ?_
      rintro e w4 ⟨rfl, hb⟩
      have HM_4 := hid (HM_3.out.go hb)
      have HB_4 := hid (HB_3.out.trans (hb.mono HB_3.out.size))
      rw [← HX.out]
      clear hb
      go_wp2
      go_ret
      exact ⟨rfl, HB_4.out⟩
    | true =>
      have hvs := vbsB_iff.1 hv
      have h3 : x = covN M := by rw [HX.out, covOut_t hvs]
      have hbd := covN_bd M
      have hx0 : decide (x < 0) = false := decide_eq_false (by omega)
      have HVS := hid hvs
      have HX3 := hid h3
      obtain ⟨i0, hi0, hz0, hz1, hz2⟩ := info_parts box_info
      have hbx : 0 ≤ x ∧ x ≤ 40000 := by omega
      clear hv hvs h3 hbd
      go_wp2
      go_loopw [5] (fun i wr => ∃ k : Nat, i = .int .i64 k ∧ k ≤ M.length ∧ Below w3.heap.size w3 wr) (fun i _ => M.length - (intOf i).toNat)
      case atStart => exact ⟨0, rfl, by omega, Below.refl _ _⟩
      case round =>
        obtain ⟨k, rfl, hk, hb⟩ := hrel
        have HBr := hid (HB_3.out.trans (hb.mono HB_3.out.size))
        have HBs := hid hb
        have HMr := hid (HM_3.out.go hb)
        have hsz := hb.size
        clear hb
        by_cases hlt : k < M.length
        · obtain ⟨b1, o1, rfl, hb1, hx⟩ := row_boxs HMr.out (by omega)
          have HXC := hid hx
          have hless := cov_less HVS.out.2 k hlt
          have HRS : Hid (VBs (M.take k ++ M.drop (k + 1))) := ⟨by have := HVS.out.1; simp; omega, fun b hb => by
            rcases List.mem_append.1 hb with hb | hb
            · exact HVS.out.2 b (List.mem_of_mem_take hb)
            · exact HVS.out.2 b (List.mem_of_mem_drop hb)⟩
          have HSM : Hid (VBs (M ++ [M[k]])) := ⟨by simp; omega, fun b hb => by
            rcases List.mem_append.1 hb with hb | hb
            · exact HVS.out.2 b hb
            · simp at hb; subst hb; exact HVS.out.2 _ (List.getElem_mem hlt)⟩
          have HCM : Hid (covOut (M ++ [M[k]]) = x) := by
            rw [Hid, covOut_t HSM.out, HX3.out]
            refine cov_same fun b => ⟨fun hb => ?_, fun hb => List.mem_append_left _ hb⟩
            rcases List.mem_append.1 hb with hb | hb
            · exact hb
            · simp at hb; subst hb; exact List.getElem_mem hlt
          obtain ⟨n, hn⟩ : ∃ n, n = covN (M.take k ++ M.drop (k + 1)) := ⟨_, rfl⟩
          have HCR : Hid (covOut (M.take k ++ M.drop (k + 1)) = n) := by rw [Hid, covOut_t HRS.out, hn]
          have hnb := covN_bd (M.take k ++ M.drop (k + 1))
          rw [← hn] at hless hnb
          rw [← HX3.out] at hless
          have hva := (HVS.out.2 _ (List.getElem_mem hlt)).area
          have hve := HVS.out.2 _ (List.getElem_mem hlt)
          unfold VB at hve
          have hs1 : IntKind.i64.wrap (M[k].w * M[k].h) = M[k].w * M[k].h := IntWalk.i64_in _ (by omega)
          have hs2 : IntKind.i64.wrap (x - M[k].w * M[k].h) = x - M[k].w * M[k].h := IntWalk.i64_in _ (by omega)
          have ht1 : decide (x < n) = false := decide_eq_false (by omega)
          have ht2 : decide (n < x - M[k].w * M[k].h) = false := decide_eq_false (by omega)
          have ht3 : decide ((M.length : Int) < 24) = true := decide_eq_true (by omega)
          have HS := hid (And.intro hs1 (And.intro hs2 (And.intro ht1 (And.intro ht2 ht3))))
          have HN1 : Hid (([] : List Bx).length + (M.take k).length ≤ 4194304) := by rw [Hid]; simp; omega
          have HN2 : Hid ((M.take k).length + (M.drop (k + 1)).length ≤ 4194304) := by rw [Hid]; simp; omega
          have HN3 : Hid (([] : List Bx).length + M.length ≤ 4194304) := by rw [Hid]; simp; omega
          have HN4 : Hid (M.length + [M[k]].length ≤ 4194304) := by rw [Hid]; simp; omega
          have HTK := hid (HMr.out.take k (by omega))
          have hw1 : IntKind.i64.wrap ((k : Int) + 1) = (k : Int) + 1 := IntWalk.i64_in _ (by omega)
          have hj0 : (0 : Int) ≤ (k : Int) + 1 := by omega
          have htn : ((k : Int) + 1).toNat = k + 1 := by omega
          have hjc : (k : Int) ≤ (km : Int) := by omega
          have hjn : (k : Int) + 1 ≤ (M.length : Int) := by omega
          clear hx hless hn hnb hva hve hs1 hs2 ht1 ht2 ht3
          have ZA := hid (((Below.refl wr.heap.size wr).alloc (Nat.le_refl _) (.cells #[] 44)).drew)
          have ZO0 := hid ((Own.lit0 boxE wr wr.heap.size 44 (Nat.le_refl _)).dr (Dr.refl _).one)
          have ZR1 := hid (HTK.out.below ZA.out)
          have HDR : Hid (∀ wz, Below wr.heap.size wr wz → RowB boxE wr.heap.size wz (.slice (if km = k + 1 then some ⟨b1, o1, none⟩ else some ⟨b1, o1 + (k + 1) * 4, none⟩) (M.length - (k + 1)) (km - (k + 1))) (M.drop (k + 1))) := fun wz hb => by
            by_cases hcap : km = k + 1
            · rw [if_pos hcap]
              exact RowB.voidB _ _ _ (by simp; omega) (by omega) (by rw [hcap]; simp [maxLen])
            · rw [if_neg hcap]
              exact (HMr.out.dropB (k + 1) hlt).below hb
          go_wp2
          go_region_held3 (fun w' => ∀ b o, b < wr.heap.size → w'.cell? ⟨b, o, none⟩ = wr.cell? ⟨b, o, none⟩) (first | with_reducible exact fun b o h => ZA.out.cell (p := ⟨b, o, none⟩) h | with_reducible exact fun b o h => ((Below.refl wr.heap.size wr).drew).cell (p := ⟨b, o, none⟩) h | with_reducible exact fun b o h => ZX.out.cell (p := ⟨b, o, none⟩) h | with_reducible exact fun b o h => ZW.out.cell (p := ⟨b, o, none⟩) h)
            (first | (refine step_cat boxE _ rfl (.tmp 33) (.tmp 36) _ rfl wr.heap.size 44 i0 _ 32 Try.underlying47 hi0 hz0 hz1 hz2 rfl (by omega) (.slice (some ⟨wr.heap.size, 0, none⟩) 0 0) _ rfl ZO0.out _ _ _ rfl ZR1.out HN1.out (by simp) (M.take k) (by simp) ?_; intro v1 wa ho1 hg1 hat1; have ZO1 := hid ho1; have ZW := hid (ZA.out.grown hg1 (by simp) (by simp [Value.ownBlock])); clear ho1 hg1 hat1) | (refine step_cat boxE _ rfl (.tmp 37) (.tmp 41) _ rfl wr.heap.size 44 i0 _ 32 Try.underlying47 hi0 hz0 hz1 hz2 rfl (by omega) _ _ rfl ZO1.out _ _ _ rfl (HDR.out _ ZW.out) HN2.out ZW.out.size (M.take k ++ M.drop (k + 1)) rfl ?_; intro v2 wb ho2 hg2 hat2; have ZO2 := hid ho2; have ZX := hid (ZW.out.grown hg2 ZW.out.size (fun q hq => (ZO1.out.lt q hq).1)); clear ho2 hg2 hat2) | fail)
          generalize (if km = k + 1 then (some ⟨b1, o1, none⟩ : Option Addr) else some ⟨b1, o1 + (k + 1) * 4, none⟩) = U
          have HRr := hid ZO2.out.rowB
          have HMb := hid (HMr.out.go ZX.out)
          have HBb := hid (HBr.out.trans (ZX.out.mono HBr.out.size))
          clear hw1 hj0 htn
          go_wp2_with fail
          refine (CoverArea_c _ (M.take k ++ M.drop (k + 1)) _ HRr.out).mono ?_
          rintro e wc ⟨rfl, hb⟩
          rw [HCR.out]
          have HMc := hid (HMb.out.go hb)
          have HBc := hid (HBb.out.trans (hb.mono HBb.out.size))
          have HBsc := hid (ZX.out.trans (hb.mono ZX.out.size))
          clear hb
          obtain ⟨hs1, hs2, ht1, ht2, ht3⟩ := HS.out
          obtain ⟨x0, x1, x2, x3⟩ : wc.cell? ⟨b1, o1 + k * 4, none⟩ = some (.int .i64 M[k].x) ∧ wc.cell? ⟨b1, o1 + k * 4 + 1, none⟩ = some (.int .i64 M[k].y) ∧ wc.cell? ⟨b1, o1 + k * 4 + 2, none⟩ = some (.int .i64 M[k].w) ∧ wc.cell? ⟨b1, o1 + k * 4 + 3, none⟩ = some (.int .i64 M[k].h) :=
            ⟨(HBsc.out.cell (p := ⟨b1, _, none⟩) hb1).trans (HXC.out k hlt).1, (HBsc.out.cell (p := ⟨b1, _, none⟩) hb1).trans (HXC.out k hlt).2.1, (HBsc.out.cell (p := ⟨b1, _, none⟩) hb1).trans (HXC.out k hlt).2.2.1, (HBsc.out.cell (p := ⟨b1, _, none⟩) hb1).trans (HXC.out k hlt).2.2.2⟩
          have hbl : b1 < wc.heap.size := by have := HBsc.out.size; omega
          clear HRr HMb HBb ZX ZO2 ZW ZO1
          obtain ⟨L5, hL5⟩ : ∃ Z : List Bx, Z = M ++ [M[k]] := ⟨_, rfl⟩
          have HL5 := hid hL5
          clear hL5
          have CA := hid ((((Below.refl wc.heap.size wc).alloc (Nat.le_refl _) (.cells #[.int .i64 M[k].x, .int .i64 M[k].y, .int .i64 M[k].w, .int .i64 M[k].h] 44)).alloc (by simp) (.cells #[] 44)).drew)
          have CO0 := hid (show Own boxE 44 wc.heap.size ((wc.alloc (.cells #[.int .i64 M[k].x, .int .i64 M[k].y, .int .i64 M[k].w, .int .i64 M[k].h] 44)).alloc (.cells #[] 44)).drew (.slice (some ⟨wc.heap.size + 1, 0, none⟩) 0 0) [] by
            have := (Own.lit0 boxE (wc.alloc (.cells #[.int .i64 M[k].x, .int .i64 M[k].y, .int .i64 M[k].w, .int .i64 M[k].h] 44)) wc.heap.size 44 (by simp)).dr (Dr.refl _).one
            simpa using this)
          have CE := hid (((Own.lit boxE wc wc.heap.size 44 #[.int .i64 M[k].x, .int .i64 M[k].y, .int .i64 M[k].w, .int .i64 M[k].h] [M[k]] 1 rfl rfl (Nat.le_refl _) (by simp [maxLen])).alloc (.cells #[] 44)).dr (Dr.refl _).one)
          have CR1 := hid (HMc.out.below CA.out)
          have XA := hid (((Below.refl wc.heap.size wc).alloc (Nat.le_refl _) (.cells #[] 44)).drew)
          have XO0 := hid ((Own.lit0 boxE wc wc.heap.size 44 (Nat.le_refl _)).dr (Dr.refl _).one)
          have XR1 := hid (HMc.out.below XA.out)
          have YA := hid ((((Below.refl wc.heap.size wc).alloc (Nat.le_refl _) (.cells #[] 44)).alloc (by simp) (.cells #[.int .i64 M[k].x, .int .i64 M[k].y, .int .i64 M[k].w, .int .i64 M[k].h] 44)).drew)
          have YO0 := hid (((Own.lit0 boxE wc wc.heap.size 44 (Nat.le_refl _)).alloc (.cells #[.int .i64 M[k].x, .int .i64 M[k].y, .int .i64 M[k].w, .int .i64 M[k].h] 44)).dr (Dr.refl _).one)
          have YE := hid (show Own boxE 44 (wc.heap.size + 1) ((wc.alloc (.cells #[] 44)).alloc (.cells #[.int .i64 M[k].x, .int .i64 M[k].y, .int .i64 M[k].w, .int .i64 M[k].h] 44)).drew (.slice (some ⟨wc.heap.size + 1, 0, none⟩) 1 1) [M[k]] by
            have := (Own.lit boxE (wc.alloc (.cells #[] 44)) (wc.heap.size + 1) 44 #[.int .i64 M[k].x, .int .i64 M[k].y, .int .i64 M[k].w, .int .i64 M[k].h] [M[k]] 1 rfl rfl (by simp) (by simp [maxLen])).dr (Dr.refl _).one
            simpa using this)
          have YR1 := hid (HMc.out.below YA.out)
          have HCA : Hid (∀ w v, Row boxE w v L5 → Calls Try.prog 48 #[v] w fun e w' => e = .returned (.int .i64 x) ∧ Below w.heap.size w w') := fun w v h => by
            have := CoverArea_c _ L5 w h
            rwa [HL5.out, HCM.out] at this
          go_wp2
          go_region_held3 (fun w' => ∀ b o, b < wc.heap.size → w'.cell? ⟨b, o, none⟩ = wc.cell? ⟨b, o, none⟩) (first | with_reducible exact fun b o h => YA.out.cell (p := ⟨b, o, none⟩) h | with_reducible exact fun b o h => ((Below.refl wc.heap.size wc).drew).cell (p := ⟨b, o, none⟩) h | with_reducible exact fun b o h => (((Below.refl wc.heap.size wc).alloc (Nat.le_refl _) _).drew).cell (p := ⟨b, o, none⟩) h | with_reducible exact fun b o h => YZ.out.cell (p := ⟨b, o, none⟩) h | with_reducible exact fun b o h => YX.out.cell (p := ⟨b, o, none⟩) h | with_reducible exact fun b o h => YW.out.cell (p := ⟨b, o, none⟩) h | with_reducible exact fun b o h => (YW.out.alloc YW.out.size _).cell (p := ⟨b, o, none⟩) h | with_reducible exact fun b o h => XA.out.cell (p := ⟨b, o, none⟩) h | with_reducible exact fun b o h => CA.out.cell (p := ⟨b, o, none⟩) h | fail)
            (first | (refine step_catG boxE _ (by kernel_rfl) (.tmp 70) (.tmp 71) _ rfl wc.heap.size 44 i0 _ 32 Try.underlying47 hi0 hz0 hz1 hz2 rfl (by omega) (.slice (some ⟨wc.heap.size + 1, 0, none⟩) 0 0) _ rfl CO0.out _ _ _ rfl CR1.out HN3.out (by simp <;> omega) M (by simp) ?_; intro v3 wd ho1 hg1 hat1; have YO1 := hid ho1; have YE1 := hid (CE.out.kept hg1 (.inr (by simp [Value.ownBlock] <;> omega))); have YW := hid (CA.out.grown hg1 (by simp <;> omega) (by simp [Value.ownBlock] <;> omega)); clear ho1 hg1 hat1) | (refine step_catG boxE _ (by kernel_rfl) (.tmp 70) (.tmp 71) _ rfl wc.heap.size 44 i0 _ 32 Try.underlying47 hi0 hz0 hz1 hz2 rfl (by omega) (.slice (some ⟨wc.heap.size, 0, none⟩) 0 0) _ rfl YO0.out _ _ _ rfl YR1.out HN3.out (by simp <;> omega) M (by simp) ?_; intro v3 wd ho1 hg1 hat1; have YO1 := hid ho1; have YE1 := hid (YE.out.kept hg1 (.inr (by simp [Value.ownBlock] <;> omega))); have YW := hid (YA.out.grown hg1 (by simp <;> omega) (by simp [Value.ownBlock] <;> omega)); clear ho1 hg1 hat1) | (refine step_catG boxE _ (by kernel_rfl) (.tmp 70) (.tmp 71) _ rfl wc.heap.size 44 i0 _ 32 Try.underlying47 hi0 hz0 hz1 hz2 rfl (by omega) (.slice (some ⟨wc.heap.size, 0, none⟩) 0 0) _ rfl XO0.out _ _ _ rfl XR1.out HN3.out (by simp) M (by simp) ?_; intro v3 wd ho1 hg1 hat1; have YO1 := hid ho1; have YW := hid (XA.out.grown hg1 (by simp) (by simp [Value.ownBlock] <;> omega)); clear ho1 hg1 hat1) | (refine step_catG boxE _ (by kernel_rfl) (.tmp 72) (.tmp 77) _ rfl wc.heap.size 44 i0 _ 32 Try.underlying47 hi0 hz0 hz1 hz2 rfl (by omega) _ _ rfl YO1.out _ _ _ rfl YE1.out.rowB HN4.out YW.out.size L5 HL5.out ?_; intro v4 we ho2 hg2 hat2; have YO2 := hid ho2; have YX := hid (YW.out.grown hg2 YW.out.size (fun q hq => (YO1.out.lt q hq).1)); clear ho2 hg2 hat2) | (refine step_catG boxE _ (by kernel_rfl) (.tmp 72) (.tmp 77) _ rfl wc.heap.size 44 i0 _ 32 Try.underlying47 hi0 hz0 hz1 hz2 rfl (by omega) _ _ rfl (YO1.out.alloc _) _ _ _ rfl (Own.lit boxE wd wd.heap.size 44 #[.int .i64 M[k].x, .int .i64 M[k].y, .int .i64 M[k].w, .int .i64 M[k].h] [M[k]] 1 rfl rfl (Nat.le_refl _) (by simp [maxLen])).rowB HN4.out (YW.out.alloc YW.out.size _).size L5 HL5.out ?_; intro v4 we ho2 hg2 hat2; have YO2 := hid ho2; have YX := hid ((YW.out.alloc YW.out.size _).grown hg2 (YW.out.alloc YW.out.size _).size (fun q hq => (YO1.out.lt q hq).1)); clear ho2 hg2 hat2) | (go_at_call 48; ((with_reducible refine (HCA.out _ _ YO2.out.rowB).mono ?_); rintro e wf ⟨rfl, hb⟩; have YZ := hid (YX.out.trans (hb.mono YX.out.size)); clear hb)) | fail)
          all_goals
            go_wp2
            exact ⟨⟨k + 1, by go_num, by omega, HBs.out.trans ((HBsc.out.trans (YZ.out.mono HBsc.out.size)).mono hsz)⟩, by simp [intOf]; omega⟩
        · go_wp2
          go_ret
          exact ⟨rfl, HBr.out⟩

end Go.Proofs.Ytcfhncckeedipaa
