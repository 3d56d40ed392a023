/-
  Contracts: the first clear box of a size, by the program and by the reference (the guards too).
-/
import Derived.Test.YtpicbkakghojnaaFirst
namespace Go.Proofs.Ytpicbkakghojnaa
set_option linter.unusedSimpArgs false
set_option linter.unusedVariables false
open Go.RowKit

/-- The first clear box, for any arguments. -/
def fcG (p : Pc) (a b : Int) : Option Bx := if VP p ∧ (1 ≤ a ∧ a ≤ 200) ∧ (1 ≤ b ∧ b ≤ 200) then fcR p a b else none
theorem fcG_t {p : Pc} {a b : Int} (h : VP p) (h1 : 1 ≤ a) (h2 : a ≤ 200) (h3 : 1 ≤ b) (h4 : b ≤ 200) : fcG p a b = fcR p a b := if_pos ⟨h, ⟨h1, h2⟩, ⟨h3, h4⟩⟩
theorem fcG_f {p : Pc} {a b : Int} (h : ¬ (VP p ∧ (1 ≤ a ∧ a ≤ 200) ∧ (1 ≤ b ∧ b ≤ 200))) : fcG p a b = none := if_neg h
theorem below4 {B : Nat} {w w1 : World} (h : Below B w w1) {p0 p1 p2 p3 : Addr} (h0 : B ≤ p0.block) (h1 : B ≤ p1.block) (h2 : B ≤ p2.block) (h3 : B ≤ p3.block) (u0 u1 u2 u3 : Value) : Below B w ((((w1.setCell p0 u0).setCell p1 u1).setCell p2 u2).setCell p3 u3) := below_set4 h h0 h1 h2 h3 u0 u1 u2 u3

set_option maxHeartbeats 3200000 in
set_option maxRecDepth 100000 in
theorem FirstClear_c (p : Pc) (s : Ps) (ba bb : Int) (w : World) (h : PvR w.heap.size w p s) : Calls Try.prog 21 #[.agg #[.int .i64 s.l, .int .i64 s.w, .int .i64 s.h, .slice s.ka s.kn s.kc], .int .i64 ba, .int .i64 bb] w fun e w' => e = .returned (.tuple #[.agg #[.int .i64 (fcV (fcG p ba bb)).x, .int .i64 (fcV (fcG p ba bb)).y, .int .i64 (fcV (fcG p ba bb)).w, .int .i64 (fcV (fcG p ba bb)).h], .bool (fcO (fcG p ba bb))]) ∧ Below w.heap.size w w' := by
  have B2 := hid ((below_ps (l := s.l) (x := s.w) (y := s.h) (ka := s.ka) (kn := s.kn) (kc := s.kc) (ty := 31) w).alloc (by simp) (.cells #[.int .i64 0, .int .i64 0, .int .i64 0, .int .i64 0] 33))
  have HP := hid (fun w1 (hb : Below w.heap.size w w1) => h.go hb)
  by_cases hv : VP p
  · have HV : Hid (∀ w1, PvR w1.heap.size w1 p s → Calls Try.prog 37 #[.agg #[.int .i64 s.l, .int .i64 s.w, .int .i64 s.h, .slice s.ka s.kn s.kc]] w1 fun e w' => e = .returned (.bool true) ∧ Below w1.heap.size w1 w') := fun w1 hp => by
      have := ValidPiece_c p s w1 hp
      rwa [vpB_iff.2 hv] at this
    have HM : Hid (∀ w1 b, VB b → Row boxE w1 s.kv p.f → Calls Try.prog 58 #[s.kv, .agg #[.int .i64 b.x, .int .i64 b.y, .int .i64 b.w, .int .i64 b.h]] w1 fun e w' => e = .returned (.bool (!clB p.f b)) ∧ Below w1.heap.size w1 w') := fun w1 b hb hr => meetsFlaw_c _ p.f b w1 hr (fun f hf => (hv.2.2.2.2 f hf).1) hb
    by_cases hok : (1 ≤ ba ∧ ba ≤ 200) ∧ (1 ≤ bb ∧ bb ≤ 200)
    · obtain ⟨⟨ha1, ha2⟩, hb1, hb2⟩ := hok
      have hG := fcG_t hv ha1 ha2 hb1 hb2
      obtain ⟨g1, g2, g3⟩ := id h.1
      obtain ⟨sl, sw, sh, ka, kn, kc⟩ := s
      obtain ⟨pl, pw, ph, f⟩ := p
      simp only at g1 g2 g3
      subst g1 g2 g3
      obtain ⟨v1, ⟨v2, v3⟩, ⟨v4, v5⟩, -, v6⟩ := hv
      simp only at v2 v3 v4 v5 v6
      have HR : Hid (fcG ⟨sl, sw, sh, f⟩ ba bb = fcY f ba bb (sw - ba + 1 - 0).toNat (sh - bb + 1 - 0).toNat 0) := hG
      revert HR
      generalize fcG ⟨sl, sw, sh, f⟩ ba bb = R
      intro HR
      clear h v1 v6 hG
      have d1 : decide (ba < 1) = false := by simp; omega
      have d2 : decide (200 < ba) = false := by simp; omega
      have d3 : decide (bb < 1) = false := by simp; omega
      have d4 : decide (200 < bb) = false := by simp; omega
      go_enter Try.func21, Try.ntmps21
      go_wp2_with fail
      refine (HV.out _ (HP.out _ B2.out)).mono ?_
      rintro e w1 ⟨rfl, hb⟩
      have HW1 := hid (show Below (w.heap.size + 1 + 1) _ w1 from hb.mono (by simp))
      clear hb
      go_wp2
      go_loopw [8] (fun i wr => ∃ y : Int, i = .int .i64 y ∧ 0 ≤ y ∧ y ≤ 200 ∧ R = fcY f ba bb (sw - ba + 1 - 0).toNat (sh - bb + 1 - y).toNat y ∧ Below (w.heap.size + 1 + 1) ((w.alloc (.cells #[.int .i64 sl, .int .i64 sw, .int .i64 sh, .slice ka kn kc] 31)).alloc (.cells #[.int .i64 0, .int .i64 0, .int .i64 0, .int .i64 0] 33)) wr) (fun i _ => 300 - (intOf i).toNat)
      case atStart => exact ⟨0, rfl, by omega, by omega, HR.out, HW1.out⟩
      case round =>
        obtain ⟨y, rfl, hy0, hy1, hr, hb⟩ := hrel
        have hbz : w.heap.size + 1 + 1 ≤ wr.heap.size := by have := hb.size; simp at this; omega
        have hbx := fun (o : Nat) => hb.cell (p := ⟨w.heap.size, o, none⟩) (by simp; omega)
        have hby := fun (o : Nat) => hb.cell (p := ⟨w.heap.size + 1, o, none⟩) (by simp)
        have hfy := fun (o : Nat) => hb.frozen (p := ⟨w.heap.size + 1, o, none⟩) (by simp)
        have HRY := hid hr
        have HBW := hid hb
        have HBn := hid (B2.out.trans (hb.mono (by omega)))
        clear hr hb
        by_cases hlt : y + bb ≤ sh
        · go_wp2
          go_loopw [9] (fun i wi => ∃ x : Int, i = .int .i64 x ∧ 0 ≤ x ∧ x ≤ 200 ∧ fcX f ba bb y (sw - ba + 1 - 0).toNat 0 = fcX f ba bb y (sw - ba + 1 - x).toNat x ∧ Below (w.heap.size + 1 + 1) ((w.alloc (.cells #[.int .i64 sl, .int .i64 sw, .int .i64 sh, .slice ka kn kc] 31)).alloc (.cells #[.int .i64 0, .int .i64 0, .int .i64 0, .int .i64 0] 33)) wi) (fun i _ => 300 - (intOf i).toNat)
          case atStart => exact ⟨0, rfl, by omega, by omega, rfl, HBW.out⟩
          case round =>
            obtain ⟨x, rfl, hx0, hx1, hr, hb⟩ := hrel
            clear hbz hbx hby hfy
            have hbz : w.heap.size + 1 + 1 ≤ wr.heap.size := by have := hb.size; simp at this; omega
            have hbx := fun (o : Nat) => hb.cell (p := ⟨w.heap.size, o, none⟩) (by simp; omega)
            have hby := fun (o : Nat) => hb.cell (p := ⟨w.heap.size + 1, o, none⟩) (by simp)
            have hfy := fun (o : Nat) => hb.frozen (p := ⟨w.heap.size + 1, o, none⟩) (by simp)
            have HRX := hid hr
            have HBW2 := hid hb
            have HBn2 := hid (B2.out.trans (hb.mono (by omega)))
            have y1 : w.heap.size < wr.heap.size := by omega
            have y2 : w.heap.size + 1 < wr.heap.size := by omega
            have y3 : w.heap.size < wr.heap.size + 1 := by omega
            have y4 : w.heap.size + 1 < wr.heap.size + 1 := by omega
            clear hr hb
            by_cases hlx : x + ba ≤ sw
            · have HVB : Hid (VB ⟨x, y, ba, bb⟩) := by rw [Hid]; unfold VB; simp only; omega
              cases hc : clB f ⟨x, y, ba, bb⟩ with
              | true =>
                have HRR := hid (HRY.out.trans (fcY_t hlt (HRX.out.trans (fcX_t hlx hc))))
                have HC := hid hc
                clear hc
                go_wp2_with fail
                refine (HM.out _ ⟨x, y, ba, bb⟩ HVB.out (HP.out _ (HBn2.out.alloc (by omega) _)).2).mono ?_
                rintro e w1 ⟨rfl, hb⟩
                have HB3 := hid ((HBn2.out.alloc (by omega) (.cells #[.int .i64 x, .int .i64 y, .int .i64 ba, .int .i64 bb] 33)).trans (hb.mono (by simp; omega)))
                have hcy := fun (o : Nat) => ((HBW2.out.alloc (by omega) (.cells #[.int .i64 x, .int .i64 y, .int .i64 ba, .int .i64 bb] 33)).trans (hb.mono (by simp; omega))).cell (p := ⟨w.heap.size + 1, o, none⟩) (by simp)
                obtain ⟨c1, f1, z1⟩ := bcell hb
                have y5 : w.heap.size < w1.heap.size := by simp at z1; omega
                have y6 : w.heap.size + 1 < w1.heap.size := by simp at z1; omega
                have y7 : wr.heap.size < w1.heap.size := by simp at z1; omega
                simp only [HC.out]
                clear hb z1
                go_wp2
                refine bodyPost_ret (v := .tuple #[.agg #[.int .i64 x, .int .i64 y, .int .i64 ba, .int .i64 bb], .bool true]) (by simp [results, Try.results21, go_sem, hcy]) rfl ⟨by rw [HRR.out]; rfl, ?_⟩
                exact ((((HB3.out.setCell (by simp) _).setCell (by simp) _).setCell (by simp) _).setCell (by simp) _)
              | false =>
                have HRX2 := hid (HRX.out.trans (fcX_f hlx hc))
                have HC := hid hc
                clear hc
                go_wp2_with fail
                refine (HM.out _ ⟨x, y, ba, bb⟩ HVB.out (HP.out _ (HBn2.out.alloc (by omega) _)).2).mono ?_
                rintro e w1 ⟨rfl, hb⟩
                have HB3 := hid ((HBW2.out.alloc (by omega) (.cells #[.int .i64 x, .int .i64 y, .int .i64 ba, .int .i64 bb] 33)).trans (hb.mono (by simp; omega)))
                simp only [HC.out]
                clear hb
                go_wp2
                exact ⟨⟨x + 1, by go_num, by omega, by omega, HRX2.out, HB3.out⟩, by simp [intOf]; omega⟩
            · have HN := hid (HRY.out.trans (fcY_f hlt (HRX.out.trans (fcX_end hlx))))
              go_wp2
              exact ⟨⟨y + 1, by go_num, by omega, by omega, HN.out, HBW2.out⟩, by simp [intOf]; omega⟩
        · have HE := hid (HRY.out.trans (fcY_end hlt))
          go_wp2
          refine bodyPost_ret (v := .tuple #[.agg #[.int .i64 0, .int .i64 0, .int .i64 0, .int .i64 0], .bool false]) (by simp [results, Try.results21, go_sem, hby]) rfl ⟨by rw [HE.out]; rfl, ?_⟩
          exact ((((HBn.out.setCell (by simp) _).setCell (by simp) _).setCell (by simp) _).setCell (by simp) _)
    · have HG := hid (fcG_f (p := p) (a := ba) (b := bb) (fun h => hok h.2))
      have hcase : decide (ba < 1) = true ∨ (decide (ba < 1) = false ∧ decide (200 < ba) = true) ∨ (decide (ba < 1) = false ∧ decide (200 < ba) = false ∧ decide (bb < 1) = true) ∨ (decide (ba < 1) = false ∧ decide (200 < ba) = false ∧ decide (bb < 1) = false ∧ decide (200 < bb) = true) := by simp; omega
      clear hok hv h
      rcases hcase with d1 | ⟨d1, d2⟩ | ⟨d1, d2, d3⟩ | ⟨d1, d2, d3, d4⟩
      all_goals
        go_enter Try.func21, Try.ntmps21
        go_wp2_with fail
        refine (HV.out _ (HP.out _ B2.out)).mono ?_
        rintro e w1 ⟨rfl, hb⟩
        have HB1 := hid (B2.out.trans (hb.mono B2.out.size))
        have hby := fun (o : Nat) => hb.cell (p := ⟨w.heap.size + 1, o, none⟩) (by simp)
        have hfy := fun (o : Nat) => hb.frozen (p := ⟨w.heap.size + 1, o, none⟩) (by simp)
        have hz1 : w.heap.size + 1 < w1.heap.size := by have := hb.size; simp at this; omega
        clear hb
        go_wp2
        refine bodyPost_ret (v := .tuple #[.agg #[.int .i64 0, .int .i64 0, .int .i64 0, .int .i64 0], .bool false]) (by simp [results, Try.results21, go_sem, hby]) rfl ⟨by rw [HG.out]; rfl, ?_⟩
        exact ((((HB1.out.setCell (by simp) _).setCell (by simp) _).setCell (by simp) _).setCell (by simp) _)
  · have HV : Hid (∀ w1, PvR w1.heap.size w1 p s → Calls Try.prog 37 #[.agg #[.int .i64 s.l, .int .i64 s.w, .int .i64 s.h, .slice s.ka s.kn s.kc]] w1 fun e w' => e = .returned (.bool false) ∧ Below w1.heap.size w1 w') := fun w1 hp => by
      have := ValidPiece_c p s w1 hp
      rwa [vpB_not.2 hv] at this
    have HG := hid (fcG_f (p := p) (a := ba) (b := bb) (fun h => hv h.1))
    clear hv h
    go_enter Try.func21, Try.ntmps21
    go_wp2_with fail
    refine (HV.out _ (HP.out _ B2.out)).mono ?_
    rintro e w1 ⟨rfl, hb⟩
    have HB1 := hid (B2.out.trans (hb.mono B2.out.size))
    have hby := fun (o : Nat) => hb.cell (p := ⟨w.heap.size + 1, o, none⟩) (by simp)
    have hfy := fun (o : Nat) => hb.frozen (p := ⟨w.heap.size + 1, o, none⟩) (by simp)
    have hz1 : w.heap.size + 1 < w1.heap.size := by have := hb.size; simp at this; omega
    clear hb
    go_wp2
    refine bodyPost_ret (v := .tuple #[.agg #[.int .i64 0, .int .i64 0, .int .i64 0, .int .i64 0], .bool false]) (by simp [results, Try.results21, go_sem, hby]) rfl ⟨by rw [HG.out]; rfl, ?_⟩
    exact ((((HB1.out.setCell (by simp) _).setCell (by simp) _).setCell (by simp) _).setCell (by simp) _)

end Go.Proofs.Ytpicbkakghojnaa
