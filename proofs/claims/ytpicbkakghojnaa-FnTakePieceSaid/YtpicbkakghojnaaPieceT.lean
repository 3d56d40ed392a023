/-
  Contracts: clear boxes of a piece, by the reference (the guards too).
-/
import Derived.Test.YtpicbkakghojnaaPieceS
namespace Go.Proofs.Ytpicbkakghojnaa
set_option linter.unusedSimpArgs false
set_option linter.unusedVariables false
open Go.RowKit

set_option maxHeartbeats 3200000 in
set_option maxRecDepth 100000 in
theorem sClearAt_c (p : Pc) (s : Ps) (b : Bx) (w : World) (h : PvR w.heap.size w p s) (hW : I64 p.w) (hH : I64 p.h) : Calls Try.prog 15 #[.agg #[.int .i64 s.l, .int .i64 s.w, .int .i64 s.h, .slice s.ka s.kn s.kc], .agg #[.int .i64 b.x, .int .i64 b.y, .int .i64 b.w, .int .i64 b.h]] w fun e w' => e = .returned (.bool (caB p b)) ∧ Below w.heap.size w w' := by
  have B2 := hid ((below_ps (l := s.l) (x := s.w) (y := s.h) (ka := s.ka) (kn := s.kn) (kc := s.kc) (ty := 31) w).alloc (by simp) (.cells #[.int .i64 b.x, .int .i64 b.y, .int .i64 b.w, .int .i64 b.h] 33))
  obtain ⟨g1, g2, g3⟩ := id h.1
  have HP := hid (fun w1 (hb : Below w.heap.size w w1) => h.go hb)
  obtain ⟨sl, sw, sh, ka, kn, kc⟩ := s
  obtain ⟨pl, pw, ph, f⟩ := p
  simp only at g1 g2 g3 hW hH
  subst g1 g2 g3
  have HI := hid (And.intro hW hH)
  clear h hW hH
  cases hv : vpB ⟨sl, sw, sh, f⟩ with
  | false =>
    have HR : Hid (caB ⟨sl, sw, sh, f⟩ b = false) := by rw [Hid, caB, hv]; rfl
    have HV := hid hv
    clear hv
    go_enter Try.func15, Try.ntmps15
    go_wp2_with fail
    refine (svalidPiece_c ⟨sl, sw, sh, f⟩ ⟨sl, sw, sh, ka, kn, kc⟩ _ (HP.out _ B2.out) HI.out.1 HI.out.2).mono ?_
    rintro e w1 ⟨rfl, hb⟩
    have HB1 := hid (B2.out.trans (hb.mono B2.out.size))
    rw [HV.out]
    clear hb
    go_wp2
    go_ret
    exact ⟨ret_bool HR.out.symm, HB1.out⟩
  | true =>
    have HV := hid hv
    have hvp := vpB_iff.1 hv
    clear hv
    go_enter Try.func15, Try.ntmps15
    go_wp2_with fail
    refine (svalidPiece_c ⟨sl, sw, sh, f⟩ ⟨sl, sw, sh, ka, kn, kc⟩ _ (HP.out _ B2.out) HI.out.1 HI.out.2).mono ?_
    rintro e w1 ⟨rfl, hb⟩
    have HB1 := hid (B2.out.trans (hb.mono B2.out.size))
    obtain ⟨c1, f1, z1⟩ := bcell hb
    have y1 : w.heap.size < w1.heap.size := by simp at z1; omega
    have y1' : w.heap.size + 1 < w1.heap.size := by simp at z1; omega
    rw [HV.out]
    clear hb f1 z1
    by_cases hB : VB b
    · go_wp2_with fail
      refine (svalidBox_t b hB _).mono ?_
      rintro e w2 ⟨rfl, hb⟩
      have HB2 := hid (HB1.out.trans (hb.mono HB1.out.size))
      obtain ⟨c2, f2, z2⟩ := bcell hb
      have y2 : w.heap.size < w2.heap.size := by omega
      have y2' : w.heap.size + 1 < w2.heap.size := by omega
      clear hb f2 z2
      go_wp2_with fail
      refine (sinsideOf_c b sw sh hB HI.out.1 HI.out.2 _).mono ?_
      rintro e w3 ⟨rfl, hb⟩
      have HB3 := hid (HB2.out.trans (hb.mono HB2.out.size))
      obtain ⟨c3, f3, z3⟩ := bcell hb
      have y3 : w.heap.size < w3.heap.size := by omega
      have y3' : w.heap.size + 1 < w3.heap.size := by omega
      clear hb f3 z3
      rw [fitB_ok hB]
      by_cases ho : okF sw sh b
      · have hd : decide (okF sw sh b) = true := by simpa using ho
        have HR : Hid (clB f b = caB ⟨sl, sw, sh, f⟩ b) := by rw [Hid, caB, HV.out]; simp [ho]
        have HVB : Hid (∀ g ∈ f, VB g) := fun g hg => (hvp.2.2.2.2 g hg).1
        have HBB := hid hB
        clear hvp hB ho
        rw [hd]
        clear hd
        go_wp2_with fail
        refine (sclearAt_c ⟨sl, sw, sh, f⟩ ⟨sl, sw, sh, ka, kn, kc⟩ b _ (HP.out _ HB3.out) HVB.out HBB.out).mono ?_
        rintro e w4 ⟨rfl, hb⟩
        have HB4 := hid (HB3.out.trans (hb.mono HB3.out.size))
        clear hb
        go_wp2
        go_ret
        exact ⟨ret_bool HR.out, HB4.out⟩
      · have hd : decide (okF sw sh b) = false := by simpa using ho
        have HR : Hid (caB ⟨sl, sw, sh, f⟩ b = false) := by rw [Hid, caB]; simp [ho]
        clear hvp hB ho
        rw [hd]
        clear hd
        go_wp2
        go_ret
        exact ⟨ret_bool HR.out.symm, HB3.out⟩
    · have HR : Hid (caB ⟨sl, sw, sh, f⟩ b = false) := by rw [Hid, caB]; simp [show ¬ okF sw sh b from fun h => hB h.1]
      clear hvp
      go_wp2_with fail
      refine (svalidBox_f b hB _).mono ?_
      rintro e w2 ⟨rfl, hb⟩
      have HB2 := hid (HB1.out.trans (hb.mono HB1.out.size))
      clear hb hB
      go_wp2
      go_ret
      exact ⟨ret_bool HR.out.symm, HB2.out⟩

end Go.Proofs.Ytpicbkakghojnaa
