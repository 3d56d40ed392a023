/-
  Contracts: the first clear box of a size, by the reference (the guards too).
-/
import Derived.Test.YtpicbkakghojnaaFirstI
namespace Go.Proofs.Ytpicbkakghojnaa
set_option linter.unusedSimpArgs false
set_option linter.unusedVariables false
open Go.RowKit

set_option maxHeartbeats 3200000 in
set_option maxRecDepth 100000 in
theorem sFirstClear_c (p : Pc) (s : Ps) (ba bb : Int) (w : World) (h : PvR w.heap.size w p s) (hW : I64 p.w) (hH : I64 p.h) : Calls Try.prog 20 #[.agg #[.int .i64 s.l, .int .i64 s.w, .int .i64 s.h, .slice s.ka s.kn s.kc], .int .i64 ba, .int .i64 bb] w fun e w' => e = .returned (.tuple #[.agg #[.int .i64 (fcV (fcG p ba bb)).x, .int .i64 (fcV (fcG p ba bb)).y, .int .i64 (fcV (fcG p ba bb)).w, .int .i64 (fcV (fcG p ba bb)).h], .bool (fcO (fcG p ba bb))]) ∧ Below w.heap.size w w' := by
  have B2 := hid ((below_ps (l := s.l) (x := s.w) (y := s.h) (ka := s.ka) (kn := s.kn) (kc := s.kc) (ty := 31) w).alloc (by simp) (.cells #[.int .i64 0, .int .i64 0, .int .i64 0, .int .i64 0] 33))
  have HP := hid (fun w1 (hb : Below w.heap.size w w1) => h.go hb)
  have HI := hid (And.intro hW hH)
  have HSV := hid (svalidPiece_c p s)
  clear hW hH
  by_cases hv : VP p
  · have HV : Hid (∀ w1, PvR w1.heap.size w1 p s → Calls Try.prog 52 #[.agg #[.int .i64 s.l, .int .i64 s.w, .int .i64 s.h, .slice s.ka s.kn s.kc]] w1 fun e w' => e = .returned (.bool true) ∧ Below w1.heap.size w1 w') := fun w1 hp => by
      have := HSV.out w1 hp HI.out.1 HI.out.2
      rwa [vpB_iff.2 hv] at this
    have HF := hid (fun w1 hp => sfirstClear_c p s ba bb w1 hp hv)
    by_cases hoa : (1 ≤ ba ∧ ba ≤ 200)
    · by_cases hob : (1 ≤ bb ∧ bb ≤ 200)
      · have HG := hid (fcG_t hv hoa.1 hoa.2 hob.1 hob.2)
        obtain ⟨ha1, ha2⟩ := hoa
        obtain ⟨hb1, hb2⟩ := hob
        clear h hv
        go_enter Try.func20, Try.ntmps20
        go_wp2_with fail
        refine (HV.out _ (HP.out _ B2.out)).mono ?_
        rintro e w1 ⟨rfl, hb⟩
        have HB1 := hid (B2.out.trans (hb.mono B2.out.size))
        have hbx := fun (o : Nat) => hb.cell (p := ⟨w.heap.size, o, none⟩) (by simp; omega)
        have hby := fun (o : Nat) => hb.cell (p := ⟨w.heap.size + 1, o, none⟩) (by simp)
        have hfy := fun (o : Nat) => hb.frozen (p := ⟨w.heap.size + 1, o, none⟩) (by simp)
        have hz0 : w.heap.size < w1.heap.size := by have := hb.size; simp at this; omega
        have hz1 : w.heap.size + 1 < w1.heap.size := by have := hb.size; simp at this; omega
        clear hb
        go_wp2_with fail
        refine (inRange_t _ _ _ _ ha1 ha2).mono ?_; rintro e w2 ⟨rfl, rfl⟩
        go_wp2_with fail
        refine (inRange_t _ _ _ _ hb1 hb2).mono ?_; rintro e w2 ⟨rfl, rfl⟩
        go_wp2_with fail
        refine (HF.out _ (HP.out _ HB1.out) ha1 ha2 hb1 hb2).mono ?_
        rintro e w2 ⟨rfl, hb⟩
        have HB2 := hid (HB1.out.trans (hb.mono HB1.out.size))
        obtain ⟨c2, f2, z2⟩ := bcell hb
        have hz2 : w.heap.size + 1 < w2.heap.size := by omega
        obtain ⟨r, hr⟩ : ∃ r, r = fcR p ba bb := ⟨_, rfl⟩
        rw [← hr] at HG
        simp only [← hr]
        clear hb z2 hr
        go_wp2
        refine bodyPost_ret (v := .tuple #[.agg #[.int .i64 (fcV r).x, .int .i64 (fcV r).y, .int .i64 (fcV r).w, .int .i64 (fcV r).h], .bool (fcO r)]) (by simp [results, Try.results20, go_sem, hby, c2, hz1]) rfl ⟨by rw [HG.out], ?_⟩
        exact ((((HB2.out.setCell (by simp) _).setCell (by simp) _).setCell (by simp) _).setCell (by simp) _)
      · have HG := hid (fcG_f (p := p) (a := ba) (b := bb) (fun h => hob h.2.2))
        obtain ⟨ha1, ha2⟩ := hoa
        have HN : Hid (bb < 1 ∨ 200 < bb) := by rw [Hid]; omega
        clear h hv hob
        go_enter Try.func20, Try.ntmps20
        go_wp2_with fail
        refine (HV.out _ (HP.out _ B2.out)).mono ?_
        rintro e w1 ⟨rfl, hb⟩
        have HB1 := hid (B2.out.trans (hb.mono B2.out.size))
        have hby := fun (o : Nat) => hb.cell (p := ⟨w.heap.size + 1, o, none⟩) (by simp)
        have hfy := fun (o : Nat) => hb.frozen (p := ⟨w.heap.size + 1, o, none⟩) (by simp)
        have hz1 : w.heap.size + 1 < w1.heap.size := by have := hb.size; simp at this; omega
        clear hb
        go_wp2_with fail
        refine (inRange_t _ _ _ _ ha1 ha2).mono ?_; rintro e w2 ⟨rfl, rfl⟩
        go_wp2_with fail
        refine (inRange_f _ _ _ _ HN.out).mono ?_; rintro e w2 ⟨rfl, rfl⟩
        go_wp2
        refine bodyPost_ret (v := .tuple #[.agg #[.int .i64 0, .int .i64 0, .int .i64 0, .int .i64 0], .bool false]) (by simp [results, Try.results20, go_sem, hby]) rfl ⟨by rw [HG.out]; rfl, ?_⟩
        exact ((((HB1.out.setCell (by simp) _).setCell (by simp) _).setCell (by simp) _).setCell (by simp) _)
    · have HG := hid (fcG_f (p := p) (a := ba) (b := bb) (fun h => hoa h.2.1))
      have HN : Hid (ba < 1 ∨ 200 < ba) := by rw [Hid]; omega
      clear h hv hoa
      go_enter Try.func20, Try.ntmps20
      go_wp2_with fail
      refine (HV.out _ (HP.out _ B2.out)).mono ?_
      rintro e w1 ⟨rfl, hb⟩
      have HB1 := hid (B2.out.trans (hb.mono B2.out.size))
      have hby := fun (o : Nat) => hb.cell (p := ⟨w.heap.size + 1, o, none⟩) (by simp)
      have hfy := fun (o : Nat) => hb.frozen (p := ⟨w.heap.size + 1, o, none⟩) (by simp)
      have hz1 : w.heap.size + 1 < w1.heap.size := by have := hb.size; simp at this; omega
      clear hb
      go_wp2_with fail
      refine (inRange_f _ _ _ _ HN.out).mono ?_; rintro e w2 ⟨rfl, rfl⟩
      go_wp2
      refine bodyPost_ret (v := .tuple #[.agg #[.int .i64 0, .int .i64 0, .int .i64 0, .int .i64 0], .bool false]) (by simp [results, Try.results20, go_sem, hby]) rfl ⟨by rw [HG.out]; rfl, ?_⟩
      exact ((((HB1.out.setCell (by simp) _).setCell (by simp) _).setCell (by simp) _).setCell (by simp) _)
  · have HV : Hid (∀ w1, PvR w1.heap.size w1 p s → Calls Try.prog 52 #[.agg #[.int .i64 s.l, .int .i64 s.w, .int .i64 s.h, .slice s.ka s.kn s.kc]] w1 fun e w' => e = .returned (.bool false) ∧ Below w1.heap.size w1 w') := fun w1 hp => by
      have := HSV.out w1 hp HI.out.1 HI.out.2
      rwa [vpB_not.2 hv] at this
    have HG := hid (fcG_f (p := p) (a := ba) (b := bb) (fun h => hv h.1))
    clear hv h
    go_enter Try.func20, Try.ntmps20
    go_wp2_with fail
    refine (HV.out _ (HP.out _ B2.out)).mono ?_
    rintro e w1 ⟨rfl, hb⟩
    have HB1 := hid (B2.out.trans (hb.mono B2.out.size))
    have hby := fun (o : Nat) => hb.cell (p := ⟨w.heap.size + 1, o, none⟩) (by simp)
    have hfy := fun (o : Nat) => hb.frozen (p := ⟨w.heap.size + 1, o, none⟩) (by simp)
    have hz1 : w.heap.size + 1 < w1.heap.size := by have := hb.size; simp at this; omega
    clear hb
    go_wp2
    refine bodyPost_ret (v := .tuple #[.agg #[.int .i64 0, .int .i64 0, .int .i64 0, .int .i64 0], .bool false]) (by simp [results, Try.results20, go_sem, hby]) rfl ⟨by rw [HG.out]; rfl, ?_⟩
    exact ((((HB1.out.setCell (by simp) _).setCell (by simp) _).setCell (by simp) _).setCell (by simp) _)

end Go.Proofs.Ytpicbkakghojnaa
