/-
  The law FnCountSteps, walked (written by a program of mine).
-/
import Derived.Test.YtafcohmneeabbaaGrowF
import Derived.Deep.RegionHeld3
namespace Go.Proofs.Ytafcohmneeabbaa
set_option linter.unusedSimpArgs false
set_option linter.unusedVariables false
open Go.RowKit

theorem nodes_sub {o a : Int} {l r : Tr} (h : nodes (.cut o a l r) ≤ 255) : nodes l ≤ 255 ∧ nodes r ≤ 255 := by simp only [nodes] at h; omega
theorem cnt_some {p : Pl} (h : ¬ treeOut cntT p < 0) : ∃ t, wf p = some t ∧ nodes t ≤ 255 ∧ cuts t ≤ 10 ∧ treeOut cntT p = cst t := by
  unfold treeOut at h
  cases hw : wf p with
  | none => rw [hw] at h; simp at h
  | some t =>
    rw [hw] at h
    simp only at h
    by_cases hn : (nodes t : Int) ≤ 255
    · rw [if_pos hn] at h
      unfold cntT at h
      by_cases hc : cuts t ≤ 10
      · exact ⟨t, rfl, by omega, hc, by rw [treeOut_some hw hn, cntT, if_pos hc]⟩
      · rw [if_neg hc] at h; simp at h
    · rw [if_neg hn] at h; simp at h
theorem wf_two {p : Pl} {t : Tr} (h : wf p = some t) (hk : p.ks.length = 2) : ∃ o a l r, t = .cut o a l r := by
  obtain ⟨o, a, q, b, ks⟩ := p
  cases t with
  | cut o a l r => exact ⟨o, a, l, r, rfl⟩
  | leaf o' q' b' =>
    exfalso
    by_cases hc : cutB o = true
    · rw [wf_eq, if_pos hc] at h
      split at h
      · split at h
        · split at h <;> simp at h
        · cases h
      · cases h
    · rw [wf_eq, if_neg hc] at h
      split at h
      · rename_i h2
        simp only [Pl.ks] at hk
        omega
      · cases h
theorem TR.out {B : Nat} {w : World} {t : Tr} {s : Sh} (h : TR B w t s) (hn : nodes t ≤ 255) (f : Tr → Int) : treeOut f (unTr t) = f t := treeOut_some h.wf_un (by omega)

set_option maxHeartbeats 12800000 in
set_option maxRecDepth 100000 in
theorem FnCountSteps_c (v : Value) (L : List Int) (w : World) (h : Row byteE w v L ∧ ∀ x ∈ L, 0 ≤ x ∧ x ≤ 255) : Calls Try.prog 8 #[v] w fun e w' => e = .returned (.bool true) ∧ Below w.heap.size w w' := by
  obtain ⟨h, hb⟩ := h
  obtain ⟨A, c, rfl, hc1, hm1⟩ := h.form
  unfold maxLen at hm1
  by_cases hle : 1048576 < L.length
  · have hd : decide ((1048576 : Int) < (L.length : Int)) = true := by simp; omega
    go_enter Try.func8, Try.ntmps8
    go_wp2
    go_ret
    exact ⟨rfl, Below.refl _ _⟩
  · have hd : decide ((1048576 : Int) < (L.length : Int)) = false := by simp; omega
    have HH := hid h
    have HB := hid hb
    clear h hb hle
    go_enter Try.func8, Try.ntmps8
    go_wp2_with fail
    refine (DrawCountSteps_c _ L _ HH.out HB.out).mono ?_
    rintro e w1 ⟨n, ⟨so, sa, sp, st, ka, kn, kc⟩, p, rfl, k1, k2, hb⟩
    have HP_1 := hid ((PlanDraw.pr k1 k2).go ((Below.refl _ _).alloc (Nat.le_refl _) (.cells #[.int .i64 so, .int .i64 sa, .int .i64 sp, .bool st, .slice ka kn kc] 30)))
    have HB1 := hid (hb.alloc hb.size (.cells #[.int .i64 so, .int .i64 sa, .int .i64 sp, .bool st, .slice ka kn kc] 30))
    have QP := hid (Blk.new w1 #[.int .i64 so, .int .i64 sa, .int .i64 sp, .bool st, .slice ka kn kc] 30)
    clear k1 k2 hb
    try clear c_K f_K l_K
    have c_K := fun (o : Nat) => QP.out.cell o
    have f_K := fun (o : Nat) => QP.out.frz o
    have l_K := QP.out.lt
    have hkn : kn = p.ks.length := HP_1.out.kn
    have HKN := hid hkn
    clear hkn
    go_wp2_with fail
    refine (CountSteps_c (s := (⟨so, sa, sp, st, ka, kn, kc⟩ : Sh)) HP_1.out).mono ?_
    rintro e w2 ⟨rfl, hb⟩
    have HP_2 := hid (HP_1.out.go hb)
    have QK_2 := hid (QP.out.go hb)
    have HB_2 := hid (HB1.out.trans (hb.mono HB1.out.size))
    try clear c_K f_K l_K
    have c_K := fun (o : Nat) => QK_2.out.cell o
    have f_K := fun (o : Nat) => QK_2.out.frz o
    have l_K := QK_2.out.lt
    clear hb
    go_wp2_with fail
    refine (sCountSteps_c (s := (⟨so, sa, sp, st, ka, kn, kc⟩ : Sh)) HP_2.out).mono ?_
    rintro e w3 ⟨rfl, hb⟩
    have HP_3 := hid (HP_2.out.go hb)
    have QK_3 := hid (QK_2.out.go hb)
    have HB_3 := hid (HB_2.out.trans (hb.mono HB_2.out.size))
    try clear c_K f_K l_K
    have c_K := fun (o : Nat) => QK_3.out.cell o
    have f_K := fun (o : Nat) => QK_3.out.frz o
    have l_K := QK_3.out.lt
    clear hb
    by_cases hneg : treeOut cntT p < 0
    · have d1 : decide (treeOut cntT p < 0) = true := decide_eq_true hneg
      clear hneg
      go_wp2_with fail
      refine (sCountSteps_c (s := (⟨so, sa, sp, st, ka, kn, kc⟩ : Sh)) HP_3.out).mono ?_
      rintro e w4 ⟨rfl, hb⟩
      have HP_4 := hid (HP_3.out.go hb)
      have QK_4 := hid (QK_3.out.go hb)
      have HB_4 := hid (HB_3.out.trans (hb.mono HB_3.out.size))
      try clear c_K f_K l_K
      have c_K := fun (o : Nat) => QK_4.out.cell o
      have f_K := fun (o : Nat) => QK_4.out.frz o
      have l_K := QK_4.out.lt
      clear hb
      go_wp2
      go_ret
      exact ⟨rfl, HB_4.out⟩
    · have d1 : decide (treeOut cntT p < 0) = false := decide_eq_false hneg
      obtain ⟨t, hw, hn, hc, hcn⟩ := cnt_some hneg
      have HCN := hid hcn
      clear hneg hcn
      by_cases hk2 : kn = 2
      · obtain ⟨o, a, l, r, rfl⟩ := wf_two hw (by have := HKN.out; omega)
        have HT := hid (HP_3.out.tr hw)
        obtain ⟨-, -, -, -, -, sl, sr, hr, hl, hrr⟩ := HT.out
        obtain ⟨-, hkc, b1, o1, hka, hb1, x0, x1, x2, x3, x4, y0, y1, y2, y3, y4⟩ := row_two hr
        obtain ⟨nl, hpl⟩ := hl.pr
        obtain ⟨nr, hpr⟩ := hrr.pr
        obtain ⟨hnl, hnr⟩ := nodes_sub hn
        have hcs := hc
        simp only [cuts] at hcs
        obtain ⟨E1, E2, E3, E4, E5⟩ := counts_cut o a l r hc
        have hCL : ∀ (w : World), PR w.heap.size w nl (unTr l) sl → Calls Try.prog 17 #[.agg #[.int .i64 sl.o, .int .i64 sl.a, .int .i64 sl.p, .bool sl.t, .slice sl.ka sl.kn sl.kc]] w fun e w' => e = .returned (.int .i64 ((cuts l : Nat) : Int)) ∧ Below w.heap.size w w' := fun w h => by have := CutsOf_c h; rw [hl.out hnl cutI] at this; exact this
        have hCR : ∀ (w : World), PR w.heap.size w nr (unTr r) sr → Calls Try.prog 17 #[.agg #[.int .i64 sr.o, .int .i64 sr.a, .int .i64 sr.p, .bool sr.t, .slice sr.ka sr.kn sr.kc]] w fun e w' => e = .returned (.int .i64 ((cuts r : Nat) : Int)) ∧ Below w.heap.size w w' := fun w h => by have := CutsOf_c h; rw [hrr.out hnr cutI] at this; exact this
        have hOL : ∀ (w : World), PR w.heap.size w nl (unTr l) sl → Calls Try.prog 32 #[.agg #[.int .i64 sl.o, .int .i64 sl.a, .int .i64 sl.p, .bool sl.t, .slice sl.ka sl.kn sl.kc]] w fun e w' => e = .returned (.int .i64 (cst l)) ∧ Below w.heap.size w w' := fun w h => by have := CountSteps_c h; rw [(hl.out hnl cntT).trans (by unfold cntT; rw [if_pos (by omega)])] at this; exact this
        have hOR : ∀ (w : World), PR w.heap.size w nr (unTr r) sr → Calls Try.prog 32 #[.agg #[.int .i64 sr.o, .int .i64 sr.a, .int .i64 sr.p, .bool sr.t, .slice sr.ka sr.kn sr.kc]] w fun e w' => e = .returned (.int .i64 (cst r)) ∧ Below w.heap.size w w' := fun w h => by have := CountSteps_c h; rw [(hrr.out hnr cntT).trans (by unfold cntT; rw [if_pos (by omega)])] at this; exact this
        have HCL := hid hCL
        have HCR := hid hCR
        have HOL := hid hOL
        have HOR := hid hOR
        have HL0 := hid hpl
        have HR0 := hid hpr
        have hbb : b1 < w3.heap.size := hb1
        have HX0 := hid (And.intro x0 (And.intro x1 (And.intro x2 (And.intro x3 (And.intro x4 (And.intro y0 (And.intro y1 (And.intro y2 (And.intro y3 y4)))))))))
        subst hka
        subst hk2
        obtain ⟨F, hF⟩ : ∃ F : Nat → Nat, F = fun j => bin (cuts l) j := ⟨_, rfl⟩
        have HRW : Hid (∀ j, j < cuts r → wrap64 ((wrap64 ((F j : Nat) * ((cuts l : Int) + ((j : Int) + 1)))).tdiv ((j : Int) + 1)) = (F (j + 1) : Nat)) := by
          intro j hj
          rw [hF]
          have := round_wrap 1 (cuts l) j (by have := E2 j (by omega); have h1 := cstN_pos l; have h2 := cstN_pos r; have h3 := Nat.mul_pos h1 h2; have h4 := Nat.le_mul_of_pos_left (bin (cuts l) j) h3; omega) (by omega)
          simpa using this
        have HF0 : Hid (F 0 = 1) := by rw [Hid, hF]; exact bin_zero _
        have hfb : ∀ j, j ≤ cuts r → F j ≤ 3628800 ∧ ((F j : Nat) : Int) * cst l ≤ 3628800 ∧ 0 ≤ ((F j : Nat) : Int) * cst l := fun j hj => by
          rw [hF]
          have h0 := E2 j hj
          have h1 := cstN_pos l
          have h2 := cstN_pos r
          have h4 : cstN l * bin (cuts l) j ≤ 3628800 := by
            refine Nat.le_trans ?_ h0
            rw [Nat.mul_right_comm]
            exact Nat.le_mul_of_pos_right _ h2
          have h5 := Nat.le_mul_of_pos_left (bin (cuts l) j) h1
          have e : ((bin (cuts l) j : Nat) : Int) * cst l = ((cstN l * bin (cuts l) j : Nat) : Int) := by rw [cst, Int.natCast_mul, Int.mul_comm]
          simp only []
          rw [e]
          omega
        have HFB := hid hfb
        have HE1 : Hid (cst (.cut o a l r) = ((F (cuts r) : Nat) : Int) * cst l * cst r) := by
          rw [Hid, E1, hF, cst, cst, Int.natCast_mul, Int.natCast_mul, Int.mul_comm, Int.mul_assoc]
        have hE2 : cst (.cut o a l r) = ((cstN l * cstN r * bin (cuts l) (cuts r) : Nat) : Int) := E1
        have hE3 := E2 (cuts r) (Nat.le_refl _)
        have hE4 : 0 ≤ cst (.cut o a l r) ∧ cst (.cut o a l r) ≤ 3628800 := by omega
        have HE4 := hid hE4
        have d2 : (((2 : Nat) : Int) != 2) = false := rfl
        clear hr hl hrr x0 x1 x2 x3 x4 y0 y1 y2 y3 y4 hpl hpr hnl hnr hw hn HT hb1 hc E1 E2 E3 E4 E5 hF hCL hCR hOL hOR hfb hE2 hE3 hE4
        obtain ⟨wx, hwx⟩ : ∃ Z : World, Z = w3 := ⟨_, rfl⟩
        clear hwx
        obtain ⟨x0, x1, x2, x3, x4, y0, y1, y2, y3, y4⟩ := HX0.out
        go_wp2_with fail
        refine (HCL.out _ HL0.out).mono ?_
        rintro e w4 ⟨rfl, hb⟩
        have HP_4 := hid (HP_3.out.go hb)
        have HL_4 := hid (HL0.out.go hb)
        have HR_4 := hid (HR0.out.go hb)
        have QK_4 := hid (QK_3.out.go hb)
        have HB_4 := hid (HB_3.out.trans (hb.mono HB_3.out.size))
        try clear c_K f_K l_K
        have c_K := fun (o : Nat) => QK_4.out.cell o
        have f_K := fun (o : Nat) => QK_4.out.frz o
        have l_K := QK_4.out.lt
        obtain ⟨hcc, -, hsz⟩ := bcell hb
        have hb2 : b1 < w4.heap.size := by omega
        have x0n := (hcc b1 (o1) hbb).trans x0
        have x1n := (hcc b1 (o1 + 1) hbb).trans x1
        have x2n := (hcc b1 (o1 + 2) hbb).trans x2
        have x3n := (hcc b1 (o1 + 3) hbb).trans x3
        have x4n := (hcc b1 (o1 + 4) hbb).trans x4
        have y0n := (hcc b1 (o1 + 5) hbb).trans y0
        have y1n := (hcc b1 (o1 + 5 + 1) hbb).trans y1
        have y2n := (hcc b1 (o1 + 5 + 2) hbb).trans y2
        have y3n := (hcc b1 (o1 + 5 + 3) hbb).trans y3
        have y4n := (hcc b1 (o1 + 5 + 4) hbb).trans y4
        clear hcc hsz x0 x1 x2 x3 x4 y0 y1 y2 y3 y4
        clear hb
        go_wp2_with fail
        refine (HCR.out _ HR_4.out).mono ?_
        rintro e w5 ⟨rfl, hb⟩
        have HP_5 := hid (HP_4.out.go hb)
        have HL_5 := hid (HL_4.out.go hb)
        have HR_5 := hid (HR_4.out.go hb)
        have QK_5 := hid (QK_4.out.go hb)
        have HB_5 := hid (HB_4.out.trans (hb.mono HB_4.out.size))
        try clear c_K f_K l_K
        have c_K := fun (o : Nat) => QK_5.out.cell o
        have f_K := fun (o : Nat) => QK_5.out.frz o
        have l_K := QK_5.out.lt
        obtain ⟨hcc, -, hsz⟩ := bcell hb
        have hb3 : b1 < w5.heap.size := by omega
        have x0 := (hcc b1 (o1) hb2).trans x0n
        have x1 := (hcc b1 (o1 + 1) hb2).trans x1n
        have x2 := (hcc b1 (o1 + 2) hb2).trans x2n
        have x3 := (hcc b1 (o1 + 3) hb2).trans x3n
        have x4 := (hcc b1 (o1 + 4) hb2).trans x4n
        have y0 := (hcc b1 (o1 + 5) hb2).trans y0n
        have y1 := (hcc b1 (o1 + 5 + 1) hb2).trans y1n
        have y2 := (hcc b1 (o1 + 5 + 2) hb2).trans y2n
        have y3 := (hcc b1 (o1 + 5 + 3) hb2).trans y3n
        have y4 := (hcc b1 (o1 + 5 + 4) hb2).trans y4n
        clear hcc hsz x0n x1n x2n x3n x4n y0n y1n y2n y3n y4n
        clear hb
        have hq1 : cuts l ≤ 10 := by omega
        have hq2 : cuts r ≤ 10 := by omega
        clear hcs
        go_wp2
        go_loop [7, 8] (fun x i => ∃ j : Nat, i = .int .i64 ((j : Int) + 1) ∧ j ≤ cuts r ∧ x = .int .i64 (F j : Nat)) (fun _ i => (cuts r + 1 - intOf i).toNat)
        case atStart => exact ⟨0, rfl, by omega, by rw [HF0.out]; rfl⟩
        case round =>
          obtain ⟨j, rfl, hj, rfl⟩ := hrel
          by_cases hlt : j < cuts r
          · have HQ := hid (HRW.out j hlt)
            go_wp2
            exact ⟨⟨j + 1, by go_num, by omega, by rw [HQ.out]⟩, by simp [intOf]; omega⟩
          · have e : j = cuts r := by omega
            subst e
            obtain ⟨fb1, fb2, fb3⟩ := HFB.out (cuts r) (Nat.le_refl _)
            obtain ⟨he1, he2⟩ := HE4.out
            have he3 : 0 ≤ ((F (cuts r) : Nat) : Int) * cst l * cst r ∧ ((F (cuts r) : Nat) : Int) * cst l * cst r ≤ 3628800 := by have := HE1.out; omega
            have hw1 : IntKind.i64.wrap (((F (cuts r) : Nat) : Int) * cst l) = ((F (cuts r) : Nat) : Int) * cst l := IntWalk.i64_in _ (by omega)
            have hw2 : IntKind.i64.wrap (((F (cuts r) : Nat) : Int) * cst l * cst r) = ((F (cuts r) : Nat) : Int) * cst l * cst r := IntWalk.i64_in _ (by omega)
            clear he3 he1 he2 fb1 fb2 fb3
            go_wp2
            have ZK := hid ((Below.refl _ _).drew : Below w5.heap.size w5 w5.drew)
            go_region_held3 (fun w' => ∀ b o, b < w5.heap.size → w'.cell? ⟨b, o, none⟩ = w5.cell? ⟨b, o, none⟩) (exact fun b o h => ZK.out.cell (p := ⟨b, o, none⟩) h)
              (first | (go_at_call 32; ((with_reducible refine (HOL.out _ (HL_5.out.go ZK.out)).mono ?_); rintro e wq ⟨rfl, hb⟩; replace ZK := hid (ZK.out.trans (hb.mono ZK.out.size)); clear hb)) | (go_at_call 32; ((with_reducible refine (HOR.out _ (HR_5.out.go ZK.out)).mono ?_); rintro e wq ⟨rfl, hb⟩; replace ZK := hid (ZK.out.trans (hb.mono ZK.out.size)); clear hb)) | fail)
            all_goals
              have HBQ := hid ZK.out
              clear hw1 hw2
              have HE : Hid ((treeOut cntT p == ((F (cuts r) : Nat) : Int) * cst l * cst r) = true) := by rw [Hid, beq_iff_eq, HCN.out, HE1.out]
              go_wp2
              go_ret
              exact ⟨ret_bool HE.out, HB_5.out.trans (HBQ.out.mono HB_5.out.size)⟩
      · have d2 : ((kn : Int) != 2) = true := by rw [bne_iff_ne]; omega
        clear hk2
        go_wp2_with fail
        refine (sCountSteps_c (s := (⟨so, sa, sp, st, ka, kn, kc⟩ : Sh)) HP_3.out).mono ?_
        rintro e w4 ⟨rfl, hb⟩
        have HP_4 := hid (HP_3.out.go hb)
        have QK_4 := hid (QK_3.out.go hb)
        have HB_4 := hid (HB_3.out.trans (hb.mono HB_3.out.size))
        try clear c_K f_K l_K
        have c_K := fun (o : Nat) => QK_4.out.cell o
        have f_K := fun (o : Nat) => QK_4.out.frz o
        have l_K := QK_4.out.lt
        clear hb
        go_wp2
        go_ret
        exact ⟨rfl, HB_4.out⟩

end Go.Proofs.Ytafcohmneeabbaa
