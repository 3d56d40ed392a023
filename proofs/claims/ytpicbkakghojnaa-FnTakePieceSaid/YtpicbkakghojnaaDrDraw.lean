/-
  Contracts: what the generators of the reference draw for laws over pieces.
-/
import Derived.Test.YtpicbkakghojnaaDrPcA
namespace Go.Proofs.Ytpicbkakghojnaa
set_option linter.unusedSimpArgs false
set_option linter.unusedVariables false
open Go.RowKit

theorem smB_tB {b : Bx} (h : smB b) : tB b := by unfold smB at h; unfold tB; omega
theorem tP_I64 {n : Nat} {p : Pc} (h : tP n p) : I64 p.w ∧ I64 p.h := by unfold tP at h; unfold I64; omega

set_option maxHeartbeats 6400000 in
set_option maxRecDepth 100000 in
theorem boxIn_c (B a : Nat) (p : Pc) (s : Ps) (m : Int) (w : World) (h : Rd B w a m) (hm : m ≤ 700000) (hp : PvR w.heap.size w p s) (hI : I64 p.w ∧ I64 p.h) : Calls Try.prog 72 #[.pointer (some ⟨a, 0, none⟩), .agg #[.int .i64 s.l, .int .i64 s.w, .int .i64 s.h, .slice s.ka s.kn s.kc]] w (BoxOut B a (m + 9) tB w) := by
  obtain ⟨g1, g2, g3⟩ := id hp.1
  obtain ⟨sl, sw, sh, ka, kn, kc⟩ := s
  obtain ⟨pl, pw, ph, f⟩ := p
  simp only at g1 g2 g3 hI
  subst g1 g2 g3
  have hla := h.lt
  have hlo := h.lo
  have HB0 := hid ((below_ps (l := sl) (x := sw) (y := sh) (ka := ka) (kn := kn) (kc := kc) (ty := 31) w).alloc (by simp) (.cells #[.int .i64 0, .int .i64 0, .int .i64 0, .int .i64 0] 33))
  have HP := hid (hp.go HB0.out)
  have HI := hid hI
  have HR0 := hid ((h.alloc (.cells #[.int .i64 sl, .int .i64 sw, .int .i64 sh, .slice ka kn kc] 31)).alloc (.cells #[.int .i64 0, .int .i64 0, .int .i64 0, .int .i64 0] 33))
  have HG0 := hid (gr_alloc (gr_alloc (World.grownBy.refl w (some a)) (.cells #[.int .i64 sl, .int .i64 sw, .int .i64 sh, .slice ka kn kc] 31)) (.cells #[.int .i64 0, .int .i64 0, .int .i64 0, .int .i64 0] 33))
  have HKp := hid ((Blk.new w #[.int .i64 sl, .int .i64 sw, .int .i64 sh, .slice ka kn kc] 31).alloc (.cells #[.int .i64 0, .int .i64 0, .int .i64 0, .int .i64 0] 33))
  have HKq := hid (show Blk ((w.alloc (.cells #[.int .i64 sl, .int .i64 sw, .int .i64 sh, .slice ka kn kc] 31)).alloc (.cells #[.int .i64 0, .int .i64 0, .int .i64 0, .int .i64 0] 33)) (w.heap.size + 1) #[.int .i64 0, .int .i64 0, .int .i64 0, .int .i64 0] 33 by
    have := Blk.new (w.alloc (.cells #[.int .i64 sl, .int .i64 sw, .int .i64 sh, .slice ka kn kc] 31)) #[.int .i64 0, .int .i64 0, .int .i64 0, .int .i64 0] 33
    rw [World.size_alloc] at this
    exact this)
  have HFIN : Hid (∀ (X : World) (b : Bx), tB b → Rd B X a (m + 9) → w.grownBy X (some a) → BoxOut B a (m + 9) tB w (.returned (.agg #[.int .i64 b.x, .int .i64 b.y, .int .i64 b.w, .int .i64 b.h])) ((((X.setCell ⟨w.heap.size + 1, 0, none⟩ (.int .i64 b.x)).setCell ⟨w.heap.size + 1, 1, none⟩ (.int .i64 b.y)).setCell ⟨w.heap.size + 1, 2, none⟩ (.int .i64 b.w)).setCell ⟨w.heap.size + 1, 3, none⟩ (.int .i64 b.h))) := fun X b hb hR hG =>
    ⟨b, rfl, hb, (((hR.set (by omega) (by omega) 0 _).set (by omega) (by omega) 1 _).set (by omega) (by omega) 2 _).set (by omega) (by omega) 3 _, gr_set (gr_set (gr_set (gr_set hG (by omega) 0 _) (by omega) 1 _) (by omega) 2 _) (by omega) 3 _⟩
  clear h hp hI
  cases hv : vpB ⟨sl, sw, sh, f⟩ with
  | false =>
    have HV := hid hv
    clear hv
    go_enter Try.func72, Try.ntmps72
    go_wp2_with fail
    refine (svalidPiece_c ⟨sl, sw, sh, f⟩ ⟨sl, sw, sh, ka, kn, kc⟩ _ HP.out HI.out.1 HI.out.2).mono ?_
    rintro e w1 ⟨rfl, hb⟩
    rw [HV.out]
    have HR1 := hid (HR0.out.below hb)
    have HG1 := hid (gr_below HG0.out hb)
    have HKq1 := hid (HKq.out.go hb)
    clear hb
    go_wp2_with fail
    refine (anyBox_c B a _ _ HR1.out (by omega)).mono ?_
    rintro e w2 ⟨b, rfl, hq, hR, hg⟩
    have HF := hid (HFIN.out w2 b hq (hR.up (by omega)) (grown_trans HG1.out hg))
    have k := HKq1.out.grown hg (fun e => by injection e with e; omega)
    have c_q := fun (o : Nat) => k.cell o
    have f_q := fun (o : Nat) => k.frz o
    have l_q := k.lt
    clear hq hR hg k
    go_wp2
    exact bodyPost_ret (v := .agg #[.int .i64 b.x, .int .i64 b.y, .int .i64 b.w, .int .i64 b.h]) (by simp [results, Try.results72, go_sem, c_q]) rfl HF.out
  | true =>
    have HV := hid hv
    obtain ⟨-, ⟨v1, v2⟩, ⟨v3, v4⟩, -⟩ := vpB_iff.1 hv
    simp only at v1 v2 v3 v4
    clear hv
    go_enter Try.func72, Try.ntmps72
    go_wp2_with fail
    refine (svalidPiece_c ⟨sl, sw, sh, f⟩ ⟨sl, sw, sh, ka, kn, kc⟩ _ HP.out HI.out.1 HI.out.2).mono ?_
    rintro e w1 ⟨rfl, hb⟩
    rw [HV.out]
    have HR1 := hid (HR0.out.below hb)
    have HG1 := hid (gr_below HG0.out hb)
    have HKq1 := hid (HKq.out.go hb)
    have HKp1 := hid (HKp.out.go hb)
    clear hb
    go_wp2_with fail
    refine (pick_c B a 8 _ _ HR1.out (by omega) (by omega) (by omega)).mono ?_
    rintro e w2 ⟨x, rfl, hp, hR, hg⟩
    have HR2 := hid hR
    have HG2 := hid (grown_trans HG1.out hg)
    have HKq2 := hid (HKq1.out.grown hg (fun e => by injection e with e; omega))
    have kp := HKp1.out.grown hg (fun e => by injection e with e; omega)
    have c_p := fun (o : Nat) => kp.cell o
    have l_p := kp.lt
    clear hp hR hg kp
    by_cases hx : x = 0
    · have hd : (x == 0) = true := by simpa using hx
      clear hx
      go_wp2_with fail
      refine (anyBox_c B a _ _ HR2.out (by omega)).mono ?_
      rintro e w3 ⟨b, rfl, hq, hR, hg⟩
      have HF := hid (HFIN.out w3 b hq (hR.up (by omega)) (grown_trans HG2.out hg))
      have k := HKq2.out.grown hg (fun e => by injection e with e; omega)
      have c_q := fun (o : Nat) => k.cell o
      have f_q := fun (o : Nat) => k.frz o
      have l_q := k.lt
      clear hq hR hg k
      go_wp2
      exact bodyPost_ret (v := .agg #[.int .i64 b.x, .int .i64 b.y, .int .i64 b.w, .int .i64 b.h]) (by simp [results, Try.results72, go_sem, c_q]) rfl HF.out
    · have hd : (x == 0) = false := by simpa using hx
      clear hx
      go_wp2_with fail
      refine (someBox_c B a sw sh _ _ HR2.out (by omega) (by omega) (by omega) (by omega) (by omega)).mono ?_
      rintro e w3 ⟨b, rfl, hq, hR, hg⟩
      have HF := hid (HFIN.out w3 b (smB_tB hq) (hR.up (by omega)) (grown_trans HG2.out hg))
      have k := HKq2.out.grown hg (fun e => by injection e with e; omega)
      have c_q := fun (o : Nat) => k.cell o
      have f_q := fun (o : Nat) => k.frz o
      have l_q := k.lt
      clear hq hR hg k
      go_wp2
      exact bodyPost_ret (v := .agg #[.int .i64 b.x, .int .i64 b.y, .int .i64 b.w, .int .i64 b.h]) (by simp [results, Try.results72, go_sem, c_q]) rfl HF.out

end Go.Proofs.Ytpicbkakghojnaa
