/-
  The law FnExactStagesOf, walked.
-/
import Derived.Test.YtjohhjpoglaagaaPlanStg
import Derived.Test.YtjohhjpoglaagaaPlanEq
namespace Go.Proofs.Ytjohhjpoglaagaa
set_option linter.unusedSimpArgs false
set_option linter.unusedVariables false
open Go.RowKit

theorem OD.pr {e : TypeId} {w : World} {n lo : Nat} {p : Pl} {s : Sh} (hs : s.same p) (h : OD e w n lo w.heap.size s.kv p.ks) : PR w.heap.size w n p s := ⟨hs, h.fr (Nat.le_refl _)⟩

set_option maxHeartbeats 1600000 in
set_option maxRecDepth 100000 in
theorem FnExactStagesOf_c (n : Nat) (s : Sh) (p : Pl) (w : World) (h : PR w.heap.size w n p s) : Calls Try.prog 3 #[.agg #[.int .i64 s.o, .int .i64 s.a, .int .i64 s.p, .bool s.t, .slice s.ka s.kn s.kc]] w fun e w' => e = .returned (.bool true) ∧ Below w.heap.size w w' := by
  have HB0 := hid (below_pl (o := s.o) (a := s.a) (p := s.p) (t := s.t) (ka := s.ka) (kn := s.kn) (kc := s.kc) (ty := 24) w)
  have HP := hid (fun w1 (hb : Below w.heap.size w w1) => h.go hb)
  clear h
  by_cases hle : (tot p.ks : Int) ≤ 1048576
  · have HE := hid (szR_t hle)
    have HT : Hid (tot p.ks ≤ 4194304) := by rw [Hid]; omega
    go_enter Try.func3, Try.ntmps3
    go_wp2_with fail
    refine (szPlan_c (n := n) (p := p) (s := s) (HP.out _ HB0.out) (by omega) (by omega)).mono ?_
    rintro e w1 ⟨rfl, hb⟩
    have HB1 := hid (HB0.out.trans (hb.mono HB0.out.size))
    obtain ⟨c1, f1, z1⟩ := bcell hb
    have y1 : w.heap.size < w1.heap.size := by simp at z1; omega
    rw [HE.out]
    clear hb f1 z1
    go_wp2_with fail
    refine (toPlan_c (n := n) (p := p) (s := s) (HP.out _ HB1.out) HT.out).mono ?_
    rintro e w2 ⟨s1, rfl, hs1, hod1, hb⟩
    have HB2 := hid (HB1.out.trans (hb.mono HB1.out.size))
    obtain ⟨c2, f2, z2⟩ := bcell hb
    have y2 : w.heap.size < w2.heap.size := by omega
    have HP1 := hid (OD.pr hs1 hod1)
    clear hb f2 hs1 hod1
    go_wp2_with fail
    refine (sStagesOf_c (n := n) (p := p) (s := s1) HP1.out).mono ?_
    rintro e w3 ⟨rfl, hb⟩
    have HB3 := hid (HB2.out.trans (hb.mono HB2.out.size))
    obtain ⟨c3, f3, z3⟩ := bcell hb
    have y3 : w.heap.size < w3.heap.size := by omega
    clear hb f3
    go_wp2_with fail
    refine (toPlan_c (n := n) (p := p) (s := s) (HP.out _ HB3.out) HT.out).mono ?_
    rintro e w4 ⟨s2, rfl, hs2, hod2, hb⟩
    have HB4 := hid (HB3.out.trans (hb.mono HB3.out.size))
    obtain ⟨c4, f4, z4⟩ := bcell hb
    have y4 : w.heap.size < w4.heap.size := by omega
    have HP2 := hid (OD.pr hs2 hod2)
    clear hb f4 hs2 hod2
    go_wp2_with fail
    refine (StagesOf_c (n := n) (p := p) (s := s2) (HP2.out.go (below_pl _))).mono ?_
    rintro e w5 ⟨rfl, hb⟩
    have HK := hid ((below_pl (o := s2.o) (a := s2.a) (p := s2.p) (t := s2.t) (ka := s2.ka) (kn := s2.kn) (kc := s2.kc) (ty := 29) w4).trans (hb.mono (by simp)))
    have HB5 := hid (HB4.out.trans (HK.out.mono HB4.out.size))
    obtain ⟨c5, f5, z5⟩ := bcell hb
    have y5 : w.heap.size < w4.heap.size + 1 := by omega
    have y6 : w.heap.size < w5.heap.size := by simp at z5; omega
    have y7 : w4.heap.size < w5.heap.size := by simp at z5; omega
    clear hb f5
    go_wp2
    have ZK := hid ((Below.refl _ _).drew : Below w5.heap.size w5 w5.drew)
    go_region_held3 (fun w' => ∀ b o, b < w5.heap.size → w'.cell? ⟨b, o, none⟩ = w5.cell? ⟨b, o, none⟩) (exact fun b o h => ZK.out.cell (p := ⟨b, o, none⟩) h)
      (first | (go_at_call 17; ((with_reducible refine (toPlan_c (n := n) (p := p) (s := s) (HP.out _ (HB5.out.trans (ZK.out.mono HB5.out.size))) HT.out).mono ?_); rintro e w6 ⟨s3, rfl, hs3, hod3, hb⟩; have HP3 := hid (OD.pr hs3 hod3); replace ZK := hid (ZK.out.trans (hb.mono ZK.out.size)); clear hb hs3 hod3)) | (go_at_call 19; ((with_reducible refine (eqPlan_c (n := n) (m := n) (p := p) (s1 := s2) (s2 := s3) ((HP2.out.go HK.out).go ZK.out) HP3.out).mono ?_); rintro e w7 ⟨rfl, hb⟩; replace ZK := hid (ZK.out.trans (hb.mono ZK.out.size)); clear hb)))
    all_goals
      go_wp2
      go_ret
      exact ⟨rfl, HB5.out.trans (ZK.out.mono HB5.out.size)⟩
  · have HE := hid (szR_f hle)
    go_enter Try.func3, Try.ntmps3
    go_wp2_with fail
    refine (szPlan_c (n := n) (p := p) (s := s) (HP.out _ HB0.out) (by omega) (by omega)).mono ?_
    rintro e w1 ⟨rfl, hb⟩
    have HB1 := hid (HB0.out.trans (hb.mono HB0.out.size))
    rw [HE.out]
    clear hb
    go_wp2
    go_ret
    exact ⟨rfl, HB1.out⟩

end Go.Proofs.Ytjohhjpoglaagaa
