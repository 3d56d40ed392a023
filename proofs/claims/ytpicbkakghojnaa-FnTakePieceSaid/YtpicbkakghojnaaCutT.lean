/-
  Contracts: a part cut out of a piece, by the reference (the guards too).
-/
import Derived.Test.YtpicbkakghojnaaCutS
namespace Go.Proofs.Ytpicbkakghojnaa
set_option linter.unusedSimpArgs false
set_option linter.unusedVariables false
open Go.RowKit

theorem own_res4 {e : TypeId} {w : World} {g base : Nat} {s : Ps} {L : List Bx} (h : Own boxE e base w s.kv L) (hg : g < base) (u0 u1 u2 u3 : Value) {b0 : Nat} (hb : b0 ≤ base) :
    Own boxE e b0 ((((w.setCell ⟨g, 0, none⟩ u0).setCell ⟨g, 1, none⟩ u1).setCell ⟨g, 2, none⟩ u2).setCell ⟨g, 3, none⟩ u3) s.kv L :=
  ((((h.setCell_far (p := ⟨g, 0, none⟩) hg _).setCell_far (p := ⟨g, 1, none⟩) hg _).setCell_far (p := ⟨g, 2, none⟩) hg _).setCell_far (p := ⟨g, 3, none⟩) hg _).base_le hb

set_option maxHeartbeats 6400000 in
set_option maxRecDepth 100000 in
theorem sCutOut_c (p : Pc) (s : Ps) (b : Bx) (l : Int) (w : World) (h : PvR w.heap.size w p s) (hW : I64 p.w) (hH : I64 p.h) : Calls Try.prog 34 #[.agg #[.int .i64 s.l, .int .i64 s.w, .int .i64 s.h, .slice s.ka s.kn s.kc], .agg #[.int .i64 b.x, .int .i64 b.y, .int .i64 b.w, .int .i64 b.h], .int .i64 l] w fun e w' => PcOut w.heap.size (coR p b l) e w' ∧ Below w.heap.size w w' := by
  have B3 := hid (((below_ps (l := s.l) (x := s.w) (y := s.h) (ka := s.ka) (kn := s.kn) (kc := s.kc) (ty := 31) w).alloc (by simp) (.cells #[.int .i64 b.x, .int .i64 b.y, .int .i64 b.w, .int .i64 b.h] 33)).alloc (by simp; omega) (.cells #[.int .i64 0, .int .i64 0, .int .i64 0, .slice none 0 0] 31))
  obtain ⟨g1, g2, g3⟩ := id h.1
  have HP := hid (fun w1 (hb : Below w.heap.size w w1) => h.go hb)
  obtain ⟨sl, sw, sh, ka, kn, kc⟩ := s
  obtain ⟨pl, pw, ph, f⟩ := p
  simp only at g1 g2 g3 hW hH
  subst g1 g2 g3
  have HI := hid (And.intro hW hH)
  clear h hW hH
  cases hv : vpB ⟨sl, sw, sh, f⟩ with
  | false =>
    have HG := hid (coR_f (p := ⟨sl, sw, sh, f⟩) (b := b) (l := l) (fun h => vpB_not.1 hv h.1))
    have HV := hid hv
    clear hv
    go_enter Try.func34, Try.ntmps34
    go_wp2_with fail
    refine (svalidPiece_c ⟨sl, sw, sh, f⟩ ⟨sl, sw, sh, ka, kn, kc⟩ _ (HP.out _ B3.out) HI.out.1 HI.out.2).mono ?_
    rintro e w1 ⟨rfl, hb⟩
    have HB1 := hid (B3.out.trans (hb.mono B3.out.size))
    have hcz := fun (o : Nat) => hb.cell (p := ⟨w.heap.size + 1 + 1, o, none⟩) (by simp)
    have hfz := fun (o : Nat) => hb.frozen (p := ⟨w.heap.size + 1 + 1, o, none⟩) (by simp)
    have hzz : w.heap.size + 1 + 1 < w1.heap.size := by have := hb.size; simp at this; omega
    rw [HV.out]
    clear hb
    go_wp2
    refine bodyPost_ret (v := .agg #[.int .i64 0, .int .i64 0, .int .i64 0, .slice none 0 0]) (by simp [results, Try.results34, go_sem, hcz]) rfl ⟨by rw [HG.out]; exact pcOut_zero _ _, ?_⟩
    exact ((((HB1.out.setCell (by simp; omega) _).setCell (by simp; omega) _).setCell (by simp; omega) _).setCell (by simp; omega) _)
  | true =>
    have HV := hid hv
    have hvp := vpB_iff.1 hv
    clear hv
    go_enter Try.func34, Try.ntmps34
    go_wp2_with fail
    refine (svalidPiece_c ⟨sl, sw, sh, f⟩ ⟨sl, sw, sh, ka, kn, kc⟩ _ (HP.out _ B3.out) HI.out.1 HI.out.2).mono ?_
    rintro e w1 ⟨rfl, hb⟩
    have HB1 := hid (B3.out.trans (hb.mono B3.out.size))
    have c1 := fun (o : Nat) => hb.cell (p := ⟨w.heap.size, o, none⟩) (by simp; omega)
    have d1 := fun (o : Nat) => hb.cell (p := ⟨w.heap.size + 1, o, none⟩) (by simp)
    have hcz := fun (o : Nat) => hb.cell (p := ⟨w.heap.size + 1 + 1, o, none⟩) (by simp)
    have hfz := fun (o : Nat) => hb.frozen (p := ⟨w.heap.size + 1 + 1, o, none⟩) (by simp)
    have y1 : w.heap.size < w1.heap.size := by have := hb.size; simp at this; omega
    have y2 : w.heap.size + 1 < w1.heap.size := by have := hb.size; simp at this; omega
    have y3 : w.heap.size + 1 + 1 < w1.heap.size := by have := hb.size; simp at this; omega
    rw [HV.out]
    clear hb
    by_cases hB : VB b
    · go_wp2_with fail
      refine (svalidBox_t b hB _).mono ?_
      rintro e w2 ⟨rfl, hb⟩
      have HB2 := hid (HB1.out.trans (hb.mono HB1.out.size))
      obtain ⟨c2, f2, z2⟩ := bcell hb
      have y4 : w.heap.size < w2.heap.size := by omega
      have y5 : w.heap.size + 1 < w2.heap.size := by omega
      have y6 : w.heap.size + 1 + 1 < w2.heap.size := by omega
      clear hb z2
      go_wp2_with fail
      refine (sinsideOf_c b sw sh hB HI.out.1 HI.out.2 _).mono ?_
      rintro e w3 ⟨rfl, hb⟩
      have HB3 := hid (HB2.out.trans (hb.mono HB2.out.size))
      obtain ⟨c3, f3, z3⟩ := bcell hb
      have y7 : w.heap.size < w3.heap.size := by omega
      have y8 : w.heap.size + 1 < w3.heap.size := by omega
      have y9 : w.heap.size + 1 + 1 < w3.heap.size := by omega
      clear hb z3
      rw [fitB_ok hB]
      by_cases ho : okF sw sh b
      · have hd : decide (okF sw sh b) = true := by simpa using ho
        have HVB : Hid (∀ g ∈ f, VB g) := fun g hg => (hvp.2.2.2.2 g hg).1
        have HBB := hid hB
        have H6 : Hid (f.length ≤ 6) := hvp.2.2.2.1
        rw [hd]
        clear hd
        by_cases hl : 1 ≤ l ∧ l ≤ 9999
        · have HG := hid (coR_t (p := ⟨sl, sw, sh, f⟩) (b := b) (l := l) ⟨hvp, ho, hl⟩)
          obtain ⟨l1, l2⟩ := hl
          clear hvp hB ho
          go_wp2_with fail
          refine (inRange_t _ _ _ _ l1 l2).mono ?_; rintro e w4 ⟨rfl, rfl⟩
          go_wp2_with fail
          refine (scutOut_c ⟨sl, sw, sh, f⟩ ⟨sl, sw, sh, ka, kn, kc⟩ b l _ (HP.out _ HB3.out) HVB.out HBB.out H6.out).mono ?_
          rintro e w5 ⟨⟨s', rfl, hs', ho'⟩, hb⟩
          have HB5 := hid (HB3.out.trans (hb.mono HB3.out.size))
          obtain ⟨c5, f5, z5⟩ := bcell hb
          have y10 : w.heap.size + 1 + 1 < w5.heap.size := by omega
          have HO := hid ho'
          have HS := hid hs'
          clear hb z5 ho' hs'
          go_wp2
          refine bodyPost_ret (v := .agg #[.int .i64 s'.l, .int .i64 s'.w, .int .i64 s'.h, .slice s'.ka s'.kn s'.kc]) (by simp [results, Try.results34, go_sem, hcz, c2, c3, c5, y3, y6, y9, y10]) rfl ⟨?_, ?_⟩
          · rw [HG.out]
            exact ⟨s', rfl, HS.out, own_res4 HO.out (by omega) _ _ _ _ (by omega)⟩
          · exact ((((HB5.out.setCell (by simp; omega) _).setCell (by simp; omega) _).setCell (by simp; omega) _).setCell (by simp; omega) _)
        · have HG := hid (coR_f (p := ⟨sl, sw, sh, f⟩) (b := b) (l := l) (fun h => hl h.2.2))
          have HN : Hid (l < 1 ∨ 9999 < l) := by rw [Hid]; omega
          clear hvp hB ho hl
          go_wp2_with fail
          refine (inRange_f _ _ _ _ HN.out).mono ?_; rintro e w4 ⟨rfl, rfl⟩
          go_wp2
          refine bodyPost_ret (v := .agg #[.int .i64 0, .int .i64 0, .int .i64 0, .slice none 0 0]) (by simp [results, Try.results34, go_sem, hcz, c2, c3, y3, y6, y9]) rfl ⟨by rw [HG.out]; exact pcOut_zero _ _, ?_⟩
          exact ((((HB3.out.setCell (by simp; omega) _).setCell (by simp; omega) _).setCell (by simp; omega) _).setCell (by simp; omega) _)
      · have hd : decide (okF sw sh b) = false := by simpa using ho
        have HG := hid (coR_f (p := ⟨sl, sw, sh, f⟩) (b := b) (l := l) (fun h => ho h.2.1))
        rw [hd]
        clear hd hvp hB ho
        go_wp2
        refine bodyPost_ret (v := .agg #[.int .i64 0, .int .i64 0, .int .i64 0, .slice none 0 0]) (by simp [results, Try.results34, go_sem, hcz, c2, c3, y3, y6, y9]) rfl ⟨by rw [HG.out]; exact pcOut_zero _ _, ?_⟩
        exact ((((HB3.out.setCell (by simp; omega) _).setCell (by simp; omega) _).setCell (by simp; omega) _).setCell (by simp; omega) _)
    · have HG := hid (coR_f (p := ⟨sl, sw, sh, f⟩) (b := b) (l := l) (fun h => hB h.2.1.1))
      have HN := hid hB
      clear hvp hB
      go_wp2_with fail
      refine (svalidBox_f b HN.out _).mono ?_
      rintro e w2 ⟨rfl, hb⟩
      have HB2 := hid (HB1.out.trans (hb.mono HB1.out.size))
      obtain ⟨c2, f2, z2⟩ := bcell hb
      have y6 : w.heap.size + 1 + 1 < w2.heap.size := by omega
      clear hb z2
      go_wp2
      refine bodyPost_ret (v := .agg #[.int .i64 0, .int .i64 0, .int .i64 0, .slice none 0 0]) (by simp [results, Try.results34, go_sem, hcz, c2, y3, y6]) rfl ⟨by rw [HG.out]; exact pcOut_zero _ _, ?_⟩
      exact ((((HB2.out.setCell (by simp; omega) _).setCell (by simp; omega) _).setCell (by simp; omega) _).setCell (by simp; omega) _)

end Go.Proofs.Ytpicbkakghojnaa
