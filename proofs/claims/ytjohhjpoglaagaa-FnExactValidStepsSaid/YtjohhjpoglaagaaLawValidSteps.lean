/-
  The law FnExactValidSteps, walked.
-/
import Derived.Test.YtjohhjpoglaagaaVStepsI
import Derived.Test.YtjohhjpoglaagaaLawStagesOf
namespace Go.Proofs.Ytjohhjpoglaagaa
set_option linter.unusedSimpArgs false
set_option linter.unusedVariables false
open Go.RowKit

set_option maxHeartbeats 3200000 in
set_option maxRecDepth 100000 in
theorem FnExactValidSteps_c (n : Nat) (s : Sh) (p : Pl) (v : Value) (S : List Int) (w : World) (h : PR w.heap.size w n p s) (hs : Row intE w v S) : Calls Try.prog 12 #[.agg #[.int .i64 s.o, .int .i64 s.a, .int .i64 s.p, .bool s.t, .slice s.ka s.kn s.kc], v] w fun e w' => e = .returned (.bool true) ∧ Below w.heap.size w w' := by
  have HB0 := hid (below_pl (o := s.o) (a := s.a) (p := s.p) (t := s.t) (ka := s.ka) (kn := s.kn) (kc := s.kc) (ty := 24) w)
  have HP := hid (fun w1 (hb : Below w.heap.size w w1) => h.go hb)
  have HS := hid (fun w1 (hb : Below w.heap.size w w1) => hs.go hb)
  obtain ⟨A1, c1, rfl, hc1, hm1⟩ := hs.form
  unfold maxLen at hm1
  clear h hs
  by_cases hlen : (S.length : Int) ≤ 1048576
  · by_cases hle : (tot p.ks : Int) ≤ 1048576
    · have HE := hid (szR_t hle)
      have HT : Hid (tot p.ks ≤ 4194304) := by rw [Hid]; omega
      have HSL : Hid (S.length ≤ 4194304) := by rw [Hid]; omega
      go_enter Try.func12, Try.ntmps12
      go_wp2_with fail
      refine (szPlan_c (n := n) (p := p) (s := s) (HP.out _ HB0.out) (by omega) (by omega)).mono ?_
      rintro e w1 ⟨rfl, hb⟩
      have HB1 := hid (HB0.out.trans (hb.mono HB0.out.size))
      obtain ⟨c1', f1, z1⟩ := bcell hb
      have y1 : w.heap.size < w1.heap.size := by simp at z1; omega
      rw [HE.out]
      clear hb f1 z1
      go_wp2_with fail
      refine (toPlan_c (n := n) (p := p) (s := s) (HP.out _ HB1.out) HT.out).mono ?_
      rintro e w2 ⟨s1, rfl, hs1, hod1, hb⟩
      have HB2 := hid (HB1.out.trans (hb.mono HB1.out.size))
      obtain ⟨c2, f2, z2⟩ := bcell hb
      have y2 : w.heap.size < w2.heap.size := by omega
      have HP1 := hid (OD.pr hs1 hod1)
      clear hb f2 hs1 hod1
      go_wp2_with fail
      refine (toIntS_c _ S _ (HS.out _ HB2.out) HSL.out).mono ?_
      rintro e wa ⟨va, rfl, hoa, hb⟩
      have HBa := hid (HB2.out.trans (hb.mono HB2.out.size))
      obtain ⟨ca, fa, za⟩ := bcell hb
      have ya : w.heap.size < wa.heap.size := by omega
      have HP1a := hid (HP1.out.go hb)
      have HOa := hid hoa
      clear hb fa hoa
      go_wp2_with fail
      refine (sValidSteps_c (n := n) (p := p) (s := s1) HP1a.out HOa.out.rowB).mono ?_
      rintro e w3 ⟨rfl, hb⟩
      have HB3 := hid (HBa.out.trans (hb.mono HBa.out.size))
      obtain ⟨c3, f3, z3⟩ := bcell hb
      have y3 : w.heap.size < w3.heap.size := by omega
      clear hb f3
      go_wp2_with fail
      refine (toPlan_c (n := n) (p := p) (s := s) (HP.out _ HB3.out) HT.out).mono ?_
      rintro e w4 ⟨s2, rfl, hs2, hod2, hb⟩
      have HB4 := hid (HB3.out.trans (hb.mono HB3.out.size))
      obtain ⟨c4, f4, z4⟩ := bcell hb
      have y4 : w.heap.size < w4.heap.size := by omega
      have HP2 := hid (OD.pr hs2 hod2)
      have HX := hid (below_pl (o := s2.o) (a := s2.a) (p := s2.p) (t := s2.t) (ka := s2.ka) (kn := s2.kn) (kc := s2.kc) (ty := 29) w4)
      have HB4x := hid (HB4.out.trans (HX.out.mono HB4.out.size))
      clear hb f4 hs2 hod2
      go_wp2_with fail
      refine (toIntS_c _ S _ (HS.out _ HB4x.out) HSL.out).mono ?_
      rintro e wb ⟨vb, rfl, hob, hb⟩
      have HXb := hid (HX.out.trans (hb.mono HX.out.size))
      have HBb := hid (HB4x.out.trans (hb.mono HB4x.out.size))
      obtain ⟨cb, fb, zb⟩ := bcell hb
      have yb : w.heap.size < wb.heap.size := by simp at zb; omega
      have yb2 : w4.heap.size < wb.heap.size := by simp at zb; omega
      have HOb := hid hob
      clear hb fb hob
      go_wp2_with fail
      refine (ValidSteps_c (n := n) (p := p) (s := s2) (HP2.out.go HXb.out) HOb.out.rowB).mono ?_
      rintro e w5 ⟨rfl, hb⟩
      have HK := hid (HXb.out.trans (hb.mono HXb.out.size))
      have HOb5 := hid (HOb.out.below hb)
      have HB5 := hid (HB4.out.trans (HK.out.mono HB4.out.size))
      obtain ⟨c5, f5, z5⟩ := bcell hb
      have y5 : w.heap.size < w4.heap.size + 1 := by omega
      have y6 : w.heap.size < w5.heap.size := by omega
      have y7 : w4.heap.size < w5.heap.size := by omega
      clear hb f5
      go_wp2
      have ZK := hid ((Below.refl _ _).drew : Below w5.heap.size w5 w5.drew)
      go_region_held3 (fun w' => ∀ b o, b < w5.heap.size → w'.cell? ⟨b, o, none⟩ = w5.cell? ⟨b, o, none⟩) (exact fun b o h => ZK.out.cell (p := ⟨b, o, none⟩) h)
        (first | (go_at_call 17; ((with_reducible refine (toPlan_c (n := n) (p := p) (s := s) (HP.out _ (HB5.out.trans (ZK.out.mono HB5.out.size))) HT.out).mono ?_); rintro e w6 ⟨s3, rfl, hs3, hod3, hb⟩; have HP3 := hid (OD.pr hs3 hod3); replace ZK := hid (ZK.out.trans (hb.mono ZK.out.size)); clear hb hs3 hod3)) | (go_at_call 19; ((with_reducible refine (eqPlan_c (n := n) (m := n) (p := p) (s1 := s2) (s2 := s3) ((HP2.out.go HK.out).go ZK.out) HP3.out).mono ?_); rintro e w7 ⟨rfl, hb⟩; replace ZK := hid (ZK.out.trans (hb.mono ZK.out.size)); clear hb)))
      all_goals
        have HB7 := hid (HB5.out.trans (ZK.out.mono HB5.out.size))
        have HOb7 := hid (HOb5.out.below ZK.out)
        clear ZK
        go_wp2_with fail
        refine (toIntS_c _ S _ (HS.out _ HB7.out) HSL.out).mono ?_
        rintro e w8 ⟨vc, rfl, hoc, hb⟩
        have HB8 := hid (HB7.out.trans (hb.mono HB7.out.size))
        have HOb8 := hid (HOb7.out.below hb)
        have HOc := hid hoc
        clear hb hoc
        go_wp2_with fail
        refine (eqIntS_c _ _ S S _ HOb8.out.rowB HOc.out.rowB).mono ?_
        rintro e w9 ⟨rfl, hd⟩
        simp only [decide_true]
        have HB9 := hid (HB8.out.trans (hd.below _))
        clear hd
        go_wp2
        go_ret
        exact ⟨rfl, HB9.out⟩
    · have HE := hid (szR_f hle)
      go_enter Try.func12, Try.ntmps12
      go_wp2_with fail
      refine (szPlan_c (n := n) (p := p) (s := s) (HP.out _ HB0.out) (by omega) (by omega)).mono ?_
      rintro e w1 ⟨rfl, hb⟩
      have HB1 := hid (HB0.out.trans (hb.mono HB0.out.size))
      rw [HE.out]
      clear hb
      go_wp2
      go_ret
      exact ⟨rfl, HB1.out⟩
  · go_enter Try.func12, Try.ntmps12
    go_wp2
    go_ret
    exact ⟨rfl, HB0.out⟩

end Go.Proofs.Ytjohhjpoglaagaa
