/-
  The law FnExactBestSteps, walked.
-/
import Derived.Test.YtjohhjpoglaagaaPlanBest
import Derived.Test.YtjohhjpoglaagaaPlanMark
import Derived.Test.YtjohhjpoglaagaaLawStagesOf
namespace Go.Proofs.Ytjohhjpoglaagaa
set_option linter.unusedSimpArgs false
set_option linter.unusedVariables false
open Go.RowKit

set_option maxHeartbeats 6400000 in
set_option maxRecDepth 100000 in
theorem FnExactBestSteps_c (n : Nat) (s : Sh) (p : Pl) (w : World) (h : PR w.heap.size w n p s) : Calls Try.prog 14 #[.agg #[.int .i64 s.o, .int .i64 s.a, .int .i64 s.p, .bool s.t, .slice s.ka s.kn s.kc]] w fun e w' => e = .returned (.bool true) ∧ Below w.heap.size w w' := by
  have HB0 := hid (below_pl (o := s.o) (a := s.a) (p := s.p) (t := s.t) (ka := s.ka) (kn := s.kn) (kc := s.kc) (ty := 24) w)
  have HP := hid (fun w1 (hb : Below w.heap.size w w1) => h.go hb)
  have HLN := hid (bstOut_len p)
  obtain ⟨M, hM⟩ : ∃ M, M = bstOut p := ⟨_, rfl⟩
  have hln := bstOut_len p
  rw [← hM] at hln
  have HME := hid hM
  clear h hM
  obtain ⟨W0, hW0⟩ : ∃ W0, W0 = w.alloc (.cells #[.int .i64 s.o, .int .i64 s.a, .int .i64 s.p, .bool s.t, .slice s.ka s.kn s.kc] 24) := ⟨_, rfl⟩
  have HW0 := hid hW0
  have hws : W0.heap.size = w.heap.size + 1 := by rw [hW0]; simp
  have HWS := hid hws
  have HBW : Hid (Below w.heap.size w W0) := by rw [Hid, hW0]; exact HB0.out
  have hcel : ∀ o, W0.cell? ⟨w.heap.size, o, none⟩ = (w.alloc (.cells #[.int .i64 s.o, .int .i64 s.a, .int .i64 s.p, .bool s.t, .slice s.ka s.kn s.kc] 24)).cell? ⟨w.heap.size, o, none⟩ := fun o => by rw [hW0]
  have HCEL := hid hcel
  clear hW0 hcel hws
  by_cases hle : (tot p.ks : Int) ≤ 1048576
  · have HE := hid (szR_t hle)
    have HT : Hid (tot p.ks ≤ 4194304) := by rw [Hid]; omega
    go_enter Try.func14, Try.ntmps14
    go_wp2_with fail
    refine (szPlan_c (n := n) (p := p) (s := s) (HP.out _ HB0.out) (by omega) (by omega)).mono ?_
    rintro e w1 ⟨rfl, hb⟩
    rw [HE.out]
    have HK1 : Hid (Below W0.heap.size W0 w1) := by rw [Hid, HW0.out]; exact hb
    have cb1 := fun o => (HK1.out.cell (p := ⟨w.heap.size, o, none⟩) (by rw [HWS.out]; simp)).trans (HCEL.out o)
    clear hb
    go_wp2_with fail
    refine (toPlan_c (n := n) (p := p) (s := s) (HP.out _ (HBW.out.trans (HK1.out.mono HBW.out.size))) HT.out).mono ?_
    rintro e w2 ⟨s1, rfl, hs1, hod1, hb⟩
    have HP1 := hid (OD.pr hs1 hod1)
    have HK2 := hid (HK1.out.trans (hb.mono HK1.out.size))
    clear hb hs1 hod1 cb1
    have cb2 := fun o => (HK2.out.cell (p := ⟨w.heap.size, o, none⟩) (by rw [HWS.out]; simp)).trans (HCEL.out o)
    go_wp2_with fail
    refine (sBestSteps_c (n := n) (p := p) (s := s1) HP1.out).mono ?_
    rintro e w3 ⟨vw, rfl, how, hb⟩
    have HK3 := hid (HK2.out.trans (hb.mono HK2.out.size))
    rw [← HME.out] at how
    have HOW3 := hid how
    clear hb cb2 how
    have cb3 := fun o => (HK3.out.cell (p := ⟨w.heap.size, o, none⟩) (by rw [HWS.out]; simp)).trans (HCEL.out o)
    go_wp2_with fail
    refine (toPlan_c (n := n) (p := p) (s := s) (HP.out _ (HBW.out.trans (HK3.out.mono HBW.out.size))) HT.out).mono ?_
    rintro e w4 ⟨s2, rfl, hs2, hod2, hb⟩
    have HK4 := hid (HK3.out.trans (hb.mono HK3.out.size))
    have HOW4 := hid (HOW3.out.below hb)
    have HP2 := hid (OD.pr hs2 hod2)
    have HOD := hid hod2
    clear hb hs2 hod2 cb3
    have cb4 := fun o => (HK4.out.cell (p := ⟨w.heap.size, o, none⟩) (by rw [HWS.out]; simp)).trans (HCEL.out o)
    have HX := hid (below_pl (o := s2.o) (a := s2.a) (p := s2.p) (t := s2.t) (ka := s2.ka) (kn := s2.kn) (kc := s2.kc) (ty := 29) w4)
    have y4 : w.heap.size < w4.heap.size := by have := HK4.out.size; have := HWS.out; omega
    go_wp2_with fail
    refine (BestSteps_c (n := n) (p := p) (s := s2) (HP2.out.go HX.out)).mono ?_
    rintro e w5 ⟨vg, rfl, hog, hb⟩
    rw [← HME.out] at hog
    obtain ⟨hcx, -, hsx⟩ := bcell hb
    have HB45 := hid (HX.out.trans (hb.mono HX.out.size))
    have HK5 := hid (HK4.out.trans (HB45.out.mono HK4.out.size))
    have HOG5 := hid hog
    have HOW5 := hid (HOW4.out.below HB45.out)
    have HOD5 := hid (HOD.out.below HB45.out (Nat.le_refl _))
    have hk5 : w4.heap.size < w5.heap.size := by simp at hsx; omega
    have hcx' : ∀ o, w5.cell? ⟨w4.heap.size, o, none⟩ = (w4.alloc (.cells #[.int .i64 s2.o, .int .i64 s2.a, .int .i64 s2.p, .bool s2.t, .slice s2.ka s2.kn s2.kc] 29)).cell? ⟨w4.heap.size, o, none⟩ := fun o => hcx _ o (by simp)
    have HCX := hid hcx'
    clear hb hog cb4 hcx hsx
    have cb5 := fun o => (HK5.out.cell (p := ⟨w.heap.size, o, none⟩) (by rw [HWS.out]; simp)).trans (HCEL.out o)
    have y5 : w.heap.size < w5.heap.size := by omega
    go_wp2_with fail
    refine (eqIntS_c _ _ M M _ HOG5.out.rowB HOW5.out.rowB).mono ?_
    rintro e w6 ⟨rfl, hd⟩
    simp only [decide_true]
    have HD6 := hid hd
    have HB46 := hid (HB45.out.trans (hd.below _))
    have HK6 := hid (HK5.out.trans (hd.below _))
    have HOG6 := hid (HOG5.out.dr hd)
    have HOW6 := hid (HOW5.out.dr hd)
    have HOD6 := hid (HOD5.out.below (hd.below w5.heap.size) (by omega))
    have cx6 := fun o => (hd.cell ⟨w4.heap.size, o, none⟩).trans (HCX.out o)
    have HCX6 := hid cx6
    have y6 : w5.heap.size = w6.heap.size := hd.size.symm
    have hk6 : w4.heap.size < w6.heap.size := by omega
    have y6' : w.heap.size < w6.heap.size := by omega
    have HY6 := hid y6
    clear hd cb5 hcx' y6
    have cb6 := fun o => (HK6.out.cell (p := ⟨w.heap.size, o, none⟩) (by rw [HWS.out]; simp)).trans (HCEL.out o)
    go_wp2
    have ZK := hid ((Below.refl _ _).drew : Below w6.heap.size w6 w6.drew)
    go_region_held3 (fun w' => ∀ b o, b < w6.heap.size → w'.cell? ⟨b, o, none⟩ = w6.cell? ⟨b, o, none⟩) (exact fun b o h => ZK.out.cell (p := ⟨b, o, none⟩) h)
      (first | (go_at_call 17; ((with_reducible refine (toPlan_c (n := n) (p := p) (s := s) (HP.out _ (HBW.out.trans ((HK6.out.trans (ZK.out.mono HK6.out.size)).mono HBW.out.size))) HT.out).mono ?_); rintro e w7 ⟨s3, rfl, hs3, hod3, hb⟩; have HP3 := hid (OD.pr hs3 hod3); replace ZK := hid (ZK.out.trans (hb.mono ZK.out.size)); clear hb hs3 hod3)) | (go_at_call 19; ((with_reducible refine (eqPlan_c (n := n) (m := n) (p := p) (s1 := s2) (s2 := s3) ((HP2.out.go HB46.out).go ZK.out) HP3.out).mono ?_); rintro e w8 ⟨rfl, hb⟩; replace ZK := hid (ZK.out.trans (hb.mono ZK.out.size)); clear hb)))
    all_goals
      have HB48 := hid (HB46.out.trans (ZK.out.mono HB46.out.size))
      have HK8 := hid (HK6.out.trans (ZK.out.mono HK6.out.size))
      have HOG8 := hid (HOG6.out.below ZK.out)
      have HOW8 := hid (HOW6.out.below ZK.out)
      have HOD8 := hid (HOD6.out.below ZK.out (by omega))
      have cx8 := fun o => (ZK.out.cell (p := ⟨w4.heap.size, o, none⟩) hk6).trans (HCX6.out o)
      have hk8 : w4.heap.size < w8.heap.size := by have := ZK.out.size; omega
      clear ZK
      go_wp2_with fail
      refine (markPlan_c (n := n) (p := p) (s := s2) HOD8.out (by omega) (by omega) (by omega)).mono ?_
      rintro e w9 ⟨L', rfl, -, -, -, hr⟩
      have hw3 : ∀ q, vw.ownBlock = some q → q < w3.heap.size ∨ w4.heap.size ≤ q := fun q hq => .inl (HOW3.out.lt q hq).2
      have hg3 : ∀ q, vg.ownBlock = some q → q < w3.heap.size ∨ w4.heap.size ≤ q := fun q hq => .inr (by have := (HOG5.out.lt q hq).1; simp at this; omega)
      have HOG9 := hid (HOG8.out.rng hr hg3)
      have HOW9 := hid (HOW8.out.rng hr hw3)
      have HK9 := hid (HK8.out.trans (hr.below HK3.out.size (Nat.le_trans HK3.out.size (by have := HOD.out.le; omega))))
      have y9 := hr.size
      clear hr hw3 hg3 cx8
      go_wp2_with fail
      refine (eqIntS_c _ _ M M _ HOG9.out.rowB HOW9.out.rowB).mono ?_
      rintro e w10 ⟨rfl, hd⟩
      simp only [decide_true]
      have HK10 := hid (HK9.out.trans (hd.below _))
      have HOG10 := hid (HOG9.out.dr hd)
      have HOW10 := hid (HOW9.out.dr hd)
      have hne : vw.ownBlock = none ∨ vw.ownBlock ≠ vg.ownBlock := by
        have h1 := HOW3.out.lt
        have h2 := HOG5.out.lt
        have h3 := HK4.out.size
        cases hv : vw.ownBlock with
        | none => exact .inl rfl
        | some q =>
          refine .inr fun h4 => ?_
          have h5 := (h1 q hv).2
          have h6 := (h2 q h4.symm).1
          have h7 := HOD.out.le
          simp at h6
          omega
      have HNE := hid hne
      clear hd hne
      go_wp2_with fail
      refine (markIntS_c _ M _ 1 _ HOG10.out (by omega) (by omega) (by omega)).mono ?_
      rintro e w11 ⟨rfl, hog, hg⟩
      have HOG11 := hid hog
      have HOW11 := hid (HOW10.out.kept hg HNE.out)
      have HK11 := hid (HK10.out.grown hg HK10.out.size (fun k hk => by have := (HOG5.out.lt k hk).1; have := HK4.out.size; simp at *; omega))
      clear hog hg
      go_wp2_with fail
      refine (heldIntS_c _ 1 M.length _ HOG11.out.rowB (by omega) (by omega) (by omega)).mono ?_
      rintro e w12 ⟨rfl, hd⟩
      have HK12 := hid (HK11.out.trans (hd.below _))
      have HOG12 := hid (HOG11.out.dr hd)
      have HOW12 := hid (HOW11.out.dr hd)
      have cb12 := fun o => (HK12.out.cell (p := ⟨w.heap.size, o, none⟩) (by rw [HWS.out]; simp)).trans (HCEL.out o)
      clear hd
      go_wp2_with fail
      refine (toPlan_c (n := n) (p := p) (s := s) (HP.out _ (HBW.out.trans (HK12.out.mono HBW.out.size))) HT.out).mono ?_
      rintro e w13 ⟨s4, rfl, hs4, hod4, hb⟩
      have HK13 := hid (HK12.out.trans (hb.mono HK12.out.size))
      have HOG13 := hid (HOG12.out.below hb)
      have HOW13 := hid (HOW12.out.below hb)
      have HP4 := hid (OD.pr hs4 hod4)
      clear hb hs4 hod4 cb12
      go_wp2_with fail
      refine (BestSteps_c (n := n) (p := p) (s := s4) HP4.out).mono ?_
      rintro e w14 ⟨vh, rfl, hoh, hb⟩
      rw [← HME.out] at hoh
      have HK14 := hid (HK13.out.trans (hb.mono HK13.out.size))
      have HOG14 := hid (HOG13.out.below hb)
      have HOW14 := hid (HOW13.out.below hb)
      have HOH14 := hid hoh
      clear hb hoh
      go_wp2_with fail
      refine (eqIntS_c _ _ M M _ HOH14.out.rowB HOW14.out.rowB).mono ?_
      rintro e w15 ⟨rfl, hd⟩
      simp only [decide_true]
      have HK15 := hid (HK14.out.trans (hd.below _))
      have HOG15 := hid (HOG14.out.dr hd)
      clear hd
      go_wp2_with fail
      refine (heldIntS_c _ 1 M.length _ HOG15.out.rowB (by omega) (by omega) (by omega)).mono ?_
      rintro e w16 ⟨rfl, hd⟩
      have HK16 := hid (HK15.out.trans (hd.below _))
      clear hd
      go_wp2
      go_ret
      exact ⟨rfl, HBW.out.trans (HK16.out.mono HBW.out.size)⟩
  · have HE := hid (szR_f hle)
    go_enter Try.func14, Try.ntmps14
    go_wp2_with fail
    refine (szPlan_c (n := n) (p := p) (s := s) (HP.out _ HB0.out) (by omega) (by omega)).mono ?_
    rintro e w1 ⟨rfl, hb⟩
    have HB1 := hid (HB0.out.trans (hb.mono HB0.out.size))
    rw [HE.out]
    clear hb
    go_wp2
    go_ret
    exact ⟨rfl, HB1.out⟩

end Go.Proofs.Ytjohhjpoglaagaa
