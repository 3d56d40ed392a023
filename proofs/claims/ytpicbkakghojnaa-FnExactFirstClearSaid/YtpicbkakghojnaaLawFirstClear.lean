/-
  The law FnExactFirstClear, walked.
-/
import Derived.Test.YtpicbkakghojnaaFirstT
import Derived.Test.YtpicbkakghojnaaLawClearAt
namespace Go.Proofs.Ytpicbkakghojnaa
set_option linter.unusedSimpArgs false
set_option linter.unusedVariables false
open Go.RowKit

set_option maxHeartbeats 3200000 in
set_option maxRecDepth 100000 in
theorem FnExactFirstClear_c (p : Pc) (s : Ps) (ba bb : Int) (w : World) (h : PvR w.heap.size w p s ∧ I64 p.l ∧ I64 p.w ∧ I64 p.h) (_ : (Lit.int .i64 ba).wf = true) (_ : (Lit.int .i64 bb).wf = true) : Calls Try.prog 4 #[.agg #[.int .i64 s.l, .int .i64 s.w, .int .i64 s.h, .slice s.ka s.kn s.kc], .int .i64 ba, .int .i64 bb] w fun e w' => e = .returned (.bool true) ∧ Below w.heap.size w w' := by
  have B2 := hid (below_ps (l := s.l) (x := s.w) (y := s.h) (ka := s.ka) (kn := s.kn) (kc := s.kc) (ty := 24) w)
  obtain ⟨h, -, hW, hH⟩ := h
  have HI := hid (And.intro hW hH)
  have HP := hid (fun w1 (hb : Below w.heap.size w w1) => h.go hb)
  clear h hW hH
  by_cases hle : (p.f.length : Int) ≤ 1048576
  · have HT : Hid (p.f.length ≤ 4194304) := by rw [Hid]; omega
    have HN : Hid (decide ((1048576 : Int) - p.f.length < 0) = false) := by rw [Hid]; simp; omega
    go_enter Try.func4, Try.ntmps4
    go_wp2_with fail
    refine (szPiece_t p s 1048576 _ (HP.out _ B2.out) (by omega) (by omega) hle).mono ?_
    rintro e w1 ⟨rfl, hb⟩
    have HB1 := hid (B2.out.trans (hb.mono B2.out.size))
    obtain ⟨c1, f1, z1⟩ := bcell hb
    have y1 : w.heap.size < w1.heap.size := by simp at z1; omega
    clear hb f1 z1
    have hneg : decide ((1048576 : Int) - p.f.length < 0) = false := HN.out
    go_wp2_with fail
    refine (toPiece_c p s _ (HP.out _ HB1.out) HT.out).mono ?_
    rintro e w2 ⟨s1, rfl, hs1, hod1, hb⟩
    have HP1 := hid (Own.pvr hs1 hod1)
    have HB2 := hid (HB1.out.trans (hb.mono HB1.out.size))
    obtain ⟨c2, f2, z2⟩ := bcell hb
    have y2 : w.heap.size < w2.heap.size := by omega
    clear hb hs1 hod1 f2 z2
    go_wp2_with fail
    refine (sFirstClear_c p s1 ba bb _ HP1.out HI.out.1 HI.out.2).mono ?_
    rintro e w3 ⟨rfl, hb⟩
    have HB3 := hid (HB2.out.trans (hb.mono HB2.out.size))
    obtain ⟨c3, f3, z3⟩ := bcell hb
    have y3 : w.heap.size < w3.heap.size := by omega
    have y3a : w.heap.size < w3.heap.size + 1 := by omega
    clear hb f3 z3 HP1
    obtain ⟨r, hr⟩ : ∃ r, r = fcG p ba bb := ⟨_, rfl⟩
    have HFC := hid (fun s => FirstClear_c p s ba bb)
    rw [← hr] at HFC
    simp only [← hr]
    clear hr
    have hne : (fcO r != fcO r) = false := by simp
    have HE := hid (eqBox_c (fcV r) (fcV r))
    have HB3a := hid (HB3.out.alloc (by omega) (.cells #[.int .i64 (fcV r).x, .int .i64 (fcV r).y, .int .i64 (fcV r).w, .int .i64 (fcV r).h] 33))
    have HR1 : Hid (∀ o, (w3.alloc (.cells #[.int .i64 (fcV r).x, .int .i64 (fcV r).y, .int .i64 (fcV r).w, .int .i64 (fcV r).h] 33)).cell? ⟨w3.heap.size, o, none⟩ = #[Value.int .i64 (fcV r).x, .int .i64 (fcV r).y, .int .i64 (fcV r).w, .int .i64 (fcV r).h][o]?) := fun o => by
      rw [World.cell?_alloc_at _ _ _ _ rfl]
    go_wp2_with fail
    refine (toPiece_c p s _ (HP.out _ HB3a.out) HT.out).mono ?_
    rintro e w4 ⟨s2, rfl, hs2, hod2, hb⟩
    have HP2 := hid (Own.pvr hs2 hod2)
    have HB4 := hid (HB3a.out.trans (hb.mono HB3a.out.size))
    obtain ⟨c4, f4, z4⟩ := bcell hb
    have y4 : w3.heap.size < w4.heap.size := by simp at z4; omega
    have y4a : w.heap.size < w4.heap.size := by omega
    have y4b : w3.heap.size < w4.heap.size + 1 := by omega
    have y4c : w.heap.size < w4.heap.size + 1 := by omega
    clear hb hs2 hod2 f4 z4
    have HB4a := hid (HB4.out.trans ((below_ps (l := s2.l) (x := s2.w) (y := s2.h) (ka := s2.ka) (kn := s2.kn) (kc := s2.kc) (ty := 31) w4).mono HB4.out.size))
    go_wp2_with fail
    refine (HFC.out s2 _ (HP2.out.go (below_ps _))).mono ?_
    rintro e w5 ⟨rfl, hb⟩
    have HP5 := hid ((HP2.out.go (below_ps _)).go hb)
    have HB5 := hid (HB4a.out.trans (hb.mono HB4a.out.size))
    obtain ⟨c5, f5, z5⟩ := bcell hb
    have y5 : w4.heap.size < w5.heap.size := by simp at z5; omega
    have y5a : w3.heap.size < w5.heap.size := by omega
    have y5b : w.heap.size < w5.heap.size := by omega
    have y5c : w4.heap.size < w5.heap.size + 1 := by omega
    have y5d : w3.heap.size < w5.heap.size + 1 := by omega
    have y5e : w.heap.size < w5.heap.size + 1 := by omega
    clear hb f5 z5 HFC
    have HB5a := hid (HB5.out.alloc (by omega) (.cells #[.int .i64 (fcV r).x, .int .i64 (fcV r).y, .int .i64 (fcV r).w, .int .i64 (fcV r).h] 33))
    have HP5a := hid (HP5.out.go ((Below.refl _ _).alloc (Nat.le_refl _) (.cells #[.int .i64 (fcV r).x, .int .i64 (fcV r).y, .int .i64 (fcV r).w, .int .i64 (fcV r).h] 33)))
    go_wp2_with fail
    refine (HE.out _).mono ?_
    rintro e q ⟨rfl, hb⟩
    have HBq := hid (HB5a.out.trans (hb.mono HB5a.out.size))
    have HPq := hid (HP5a.out.go hb)
    obtain ⟨c6, f6, z6⟩ := bcell hb
    have y6 : w5.heap.size < q.heap.size := by simp at z6; omega
    have y6a : w4.heap.size < q.heap.size := by omega
    have y6b : w3.heap.size < q.heap.size := by omega
    have y6c : w.heap.size < q.heap.size := by omega
    simp only [decide_true]
    clear hb f6 z6 HE
    go_wp2
    have ZK := hid ((Below.refl _ _).drew : Below q.heap.size q q.drew)
    go_region_held3 (fun w' => ∀ b o, b < q.heap.size → w'.cell? ⟨b, o, none⟩ = q.cell? ⟨b, o, none⟩) (exact fun b o h => ZK.out.cell (p := ⟨b, o, none⟩) h)
      (first | (go_at_call 16; ((with_reducible refine (toPiece_c p s _ (HP.out _ (HBq.out.trans (ZK.out.mono HBq.out.size))) HT.out).mono ?_); rintro e w6 ⟨s3, rfl, hs3, hod3, hb⟩; have HP3 := hid (Own.pvr hs3 hod3); replace ZK := hid (ZK.out.trans (hb.mono ZK.out.size)); clear hb hs3 hod3)) | (go_at_call 19; ((with_reducible refine (eqPiece_c p s2 s3 _ (HPq.out.go ZK.out) HP3.out).mono ?_); rintro e w7 ⟨rfl, hb⟩; replace ZK := hid (ZK.out.trans (hb.mono ZK.out.size)); clear hb)))
    all_goals
      go_wp2
      go_ret
      exact ⟨rfl, HBq.out.trans (ZK.out.mono HBq.out.size)⟩
  · have HE := hid hle
    go_enter Try.func4, Try.ntmps4
    go_wp2_with fail
    refine (szPiece_f p s 1048576 _ (HP.out _ B2.out) (by omega) (by omega) (by omega)).mono ?_
    rintro e w1 ⟨rfl, hb⟩
    have HB1 := hid (B2.out.trans (hb.mono B2.out.size))
    clear hb
    go_wp2
    go_ret
    exact ⟨rfl, HB1.out⟩

end Go.Proofs.Ytpicbkakghojnaa
