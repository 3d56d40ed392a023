/-
  Contracts: a plan with some cuts, drawn by the generators of the reference (written by a program of mine).
-/
import Derived.Test.YtafcohmneeabbaaGrowE
import Derived.Test.YtafcohmneeabbaaPlanCnt
namespace Go.Proofs.Ytafcohmneeabbaa
set_option linter.unusedSimpArgs false
set_option linter.unusedVariables false
open Go.RowKit

theorem any_fin2 {B a N : Nat} {m : Int} {n : Nat} {W H : Int} {pA : Option Addr} {pn pc : Nat} {s : Sh} {p : Pl} {w wx wf : World} (hs : s.same p) (hq : FQ (fun q => N ≤ q ∧ q < wx.heap.size) wx n s.kv p.ks) (hN : w.heap.size + 1 < N) (hR : Rd B wx a m) (h6 : w.grownBy wx (some a)) (hla : a < w.heap.size) (hlo : B ≤ a)
    (hf : Kp (fun q => q = w.heap.size ∨ q = w.heap.size + 1) wx wf) : AnyOut B a m w (.returned (.tuple #[.agg #[.int .i64 W, .int .i64 H, .slice pA pn pc], .agg #[.int .i64 s.o, .int .i64 s.a, .int .i64 s.p, .bool s.t, .slice s.ka s.kn s.kc]])) wf := by
  have hs1 := hf.size
  have hs6 := h6.size
  have hl5 := hR.lt
  refine ⟨n, s, p, W, H, pA, pn, pc, rfl, hs, hq.heap (fun q hq => hf.block q (by omega) (by omega)) (fun q hq => ⟨by omega, by omega⟩), ?_, ?_⟩
  · obtain ⟨A, n, c, L, q, e1, e2, e3, e4⟩ := hR
    exact ⟨A, n, c, L, q, (hf.block a hl5 (by omega)).trans e1, e2.heap (fun k hk => hf.block k (by omega) (by omega)), e3, e4⟩
  · exact ⟨hf.os.trans h6.os, hf.tape.trans h6.tape, hf.output.trans h6.output, by omega, fun k hk hne => (hf.block k (by omega) (by omega)).trans (h6.block k hk hne)⟩
theorem GP.tr {s : Sh} {p : Pl} (h : GP 5 s p) : ∃ t, wf p = some t ∧ cuts t ≤ 15 ∧ nodes t ≤ 255 := by
  obtain ⟨-, t, h1, -, h2⟩ := h
  have h3 := nodes_cuts t
  exact ⟨t, h1, by omega, by omega⟩
/-- Where the walk of cutsPlan stands. -/
structure CSt (B a : Nat) (m : Int) (w w1 : World) : Prop where
  rd : Rd B w1 a m
  gr : w.grownBy w1 (some a)
  rq : Blk w1 w.heap.size #[.int .i64 0, .int .i64 0, .slice none 0 0] 47
  rr : Blk w1 (w.heap.size + 1) #[.int .i64 0, .int .i64 0, .int .i64 0, .bool false, .slice none 0 0] 30

set_option maxHeartbeats 6400000 in
set_option maxRecDepth 100000 in
theorem cutsPlan_c (B a : Nat) (most m : Int) (w : World) (h : Rd B w a m) (hm : m ≤ 300000) (hm0 : 0 ≤ most) (hm1 : most ≤ 1000) : Calls Try.prog 57 #[.pointer (some ⟨a, 0, none⟩), .int .i64 most] w (AnyOut B a (m + 2100) w) := by
  have HR0 := hid h
  have HG0 := hid (World.grownBy.refl w (some a))
  have hla := h.lt
  have hlo := h.lo
  clear h
  go_enter Try.func57, Try.ntmps57
  have HS0 := hid (show CSt B a m w ((w.alloc (.cells #[.int .i64 0, .int .i64 0, .slice none 0 0] 47)).alloc (.cells #[.int .i64 0, .int .i64 0, .int .i64 0, .bool false, .slice none 0 0] 30)) from ⟨(HR0.out.alloc _).alloc _, gr_alloc (gr_alloc HG0.out _) _, (Blk.new w _ _).alloc _, by have := Blk.new (w.alloc (.cells #[.int .i64 0, .int .i64 0, .slice none 0 0] 47)) #[.int .i64 0, .int .i64 0, .int .i64 0, .bool false, .slice none 0 0] 30; simpa using this⟩)
  go_wp2
  go_loopw [6] (fun i wr => ∃ k : Nat, i = .int .i64 k ∧ k ≤ 4 ∧ CSt B a (m + 400 * k) w wr) (fun i _ => 4 - (intOf i).toNat)
  case atStart => exact ⟨0, rfl, by omega, ⟨HS0.out.rd.up (by omega), HS0.out.gr, HS0.out.rq, HS0.out.rr⟩⟩
  case round =>
    obtain ⟨k, rfl, hk, hst⟩ := hrel
    have HS := hid hst
    clear hst
    have hwr : w.heap.size + 1 < wr.heap.size := HS.out.rr.lt
    by_cases hk4 : k < 4
    · go_wp2_with fail
      refine (workPlan_c B a (m + 400 * k) _ HS.out.rd (by omega)).mono ?_
      rintro e w1 ⟨s, pl, W, H, pA, pn, pc, rfl, k1, k2, k3, k4, k5, k6⟩
      have hk6 := k6.size
      have hz1 : w.heap.size + 1 < w1.heap.size := by omega
      have hbb := (((Below.refl w1.heap.size w1).alloc (Nat.le_refl _) (.cells #[.int .i64 W, .int .i64 H, .slice pA pn pc] 47)).alloc (by simp) (.cells #[.int .i64 s.o, .int .i64 s.a, .int .i64 s.p, .bool s.t, .slice s.ka s.kn s.kc] 30))
      have HA := hid (show ASt B a w1.heap.size (w1.heap.size + 1) w1.heap.size (m + 400 * k + 400) 5 W H pA pn pc s pl w ((w1.alloc (.cells #[.int .i64 W, .int .i64 H, .slice pA pn pc] 47)).alloc (.cells #[.int .i64 s.o, .int .i64 s.a, .int .i64 s.p, .bool s.t, .slice s.ka s.kn s.kc] 30)) from ⟨k5.below hbb, gr_below (grown_trans HS.out.gr k6) hbb, (Blk.new w1 _ _).alloc _, by have := Blk.new (w1.alloc (.cells #[.int .i64 W, .int .i64 H, .slice pA pn pc] 47)) #[.int .i64 s.o, .int .i64 s.a, .int .i64 s.p, .bool s.t, .slice s.ka s.kn s.kc] 30; simpa using this, k2.heap (fun q hq => hbb.block q hq.2) (fun q hq => ⟨by omega, hq.2⟩), k1.1, (HS.out.rq.grown k6 (fun e => by injection e with e; omega)).go hbb, (HS.out.rr.grown k6 (fun e => by injection e with e; omega)).go hbb, Nat.le_refl _, by omega, by omega, hz1, hla, hlo⟩)
      obtain ⟨t, hw, hc, hn⟩ := k1.tr
      have HT := hid ((PR.tr (p := pl) (s := s) ⟨k1.1, FQ.fr (B := w1.heap.size) (fun q hq => hq.2) k2⟩ hw).go hbb)
      have HN := hid hn
      have hc1 : cutI t ≤ 15 := by unfold cutI; omega
      have hc0 : 0 ≤ cutI t := by unfold cutI; omega
      clear k1 k2 k3 k4 k5 k6 hbb hw hc hn
      try clear c_K f_K l_K c_P f_P l_P c_Q f_Q l_Q c_R f_R l_R
      have c_K := fun (o : Nat) => HA.out.kw.cell o
      have f_K := fun (o : Nat) => HA.out.kw.frz o
      have l_K := HA.out.kw.lt
      have c_P := fun (o : Nat) => HA.out.pw.cell o
      have f_P := fun (o : Nat) => HA.out.pw.frz o
      have l_P := HA.out.pw.lt
      have c_Q := fun (o : Nat) => HA.out.rq.cell o
      have f_Q := fun (o : Nat) => HA.out.rq.frz o
      have l_Q := HA.out.rq.lt
      have c_R := fun (o : Nat) => HA.out.rr.cell o
      have f_R := fun (o : Nat) => HA.out.rr.frz o
      have l_R := HA.out.rr.lt
      go_wp2_with fail
      refine (scutsOf_c t HN.out s _ HT.out).mono ?_
      rintro e w2 ⟨rfl, hb⟩
      have HA2 := hid (HA.out.go hb)
      have HT2 := hid (HT.out.go hb)
      clear hb
      try clear c_K f_K l_K c_P f_P l_P c_Q f_Q l_Q c_R f_R l_R
      have c_K := fun (o : Nat) => HA2.out.kw.cell o
      have f_K := fun (o : Nat) => HA2.out.kw.frz o
      have l_K := HA2.out.kw.lt
      have c_P := fun (o : Nat) => HA2.out.pw.cell o
      have f_P := fun (o : Nat) => HA2.out.pw.frz o
      have l_P := HA2.out.pw.lt
      have c_Q := fun (o : Nat) => HA2.out.rq.cell o
      have f_Q := fun (o : Nat) => HA2.out.rq.frz o
      have l_Q := HA2.out.rq.lt
      have c_R := fun (o : Nat) => HA2.out.rr.cell o
      have f_R := fun (o : Nat) => HA2.out.rr.frz o
      have l_R := HA2.out.rr.lt
      by_cases hm1 : cutI t ≤ most
      · have d1 : decide (cutI t ≤ most) = true := decide_eq_true hm1
        clear hm1
        go_wp2_with fail
        refine (scutsOf_c t HN.out s _ HT2.out).mono ?_
        rintro e w3 ⟨rfl, hb⟩
        have HA3 := hid (HA2.out.go hb)
        clear hb
        try clear c_K f_K l_K c_P f_P l_P c_Q f_Q l_Q c_R f_R l_R
        have c_K := fun (o : Nat) => HA3.out.kw.cell o
        have f_K := fun (o : Nat) => HA3.out.kw.frz o
        have l_K := HA3.out.kw.lt
        have c_P := fun (o : Nat) => HA3.out.pw.cell o
        have f_P := fun (o : Nat) => HA3.out.pw.frz o
        have l_P := HA3.out.pw.lt
        have c_Q := fun (o : Nat) => HA3.out.rq.cell o
        have f_Q := fun (o : Nat) => HA3.out.rq.frz o
        have l_Q := HA3.out.rq.lt
        have c_R := fun (o : Nat) => HA3.out.rr.cell o
        have f_R := fun (o : Nat) => HA3.out.rr.frz o
        have l_R := HA3.out.rr.lt
        by_cases hm2 : 1 < cutI t
        · have d2 : decide (1 < cutI t) = true := decide_eq_true hm2
          clear hm2
          go_upto_region 6 with (fail)
          go_region
          all_goals
            obtain ⟨wf, hwf⟩ : ∃ Z : World, Z = ((((((((w3.setCell ⟨w.heap.size, 0, none⟩ (.int .i64 W)).setCell ⟨w.heap.size, 1, none⟩ (.int .i64 H)).setCell ⟨w.heap.size, 2, none⟩ (.slice pA pn pc)).setCell ⟨w.heap.size + 1, 0, none⟩ (.int .i64 s.o)).setCell ⟨w.heap.size + 1, 1, none⟩ (.int .i64 s.a)).setCell ⟨w.heap.size + 1, 2, none⟩ (.int .i64 s.p)).setCell ⟨w.heap.size + 1, 3, none⟩ (.bool s.t)).setCell ⟨w.heap.size + 1, 4, none⟩ (.slice s.ka s.kn s.kc)).drew := ⟨_, rfl⟩
            have BQ := hid (show Blk wf w.heap.size #[.int .i64 W, .int .i64 H, .slice pA pn pc] 47 by rw [hwf]; have := ((((((((HA3.out.rq).set 0 (.int .i64 W)).set 1 (.int .i64 H)).set 2 (.slice pA pn pc)).setO (p := ⟨w.heap.size + 1, 0, none⟩) (by simp) (.int .i64 s.o)).setO (p := ⟨w.heap.size + 1, 1, none⟩) (by simp) (.int .i64 s.a)).setO (p := ⟨w.heap.size + 1, 2, none⟩) (by simp) (.int .i64 s.p)).setO (p := ⟨w.heap.size + 1, 3, none⟩) (by simp) (.bool s.t)).setO (p := ⟨w.heap.size + 1, 4, none⟩) (by simp) (.slice s.ka s.kn s.kc); exact Blk.draw1 (by simpa using this))
            have BR := hid (show Blk wf (w.heap.size + 1) #[.int .i64 s.o, .int .i64 s.a, .int .i64 s.p, .bool s.t, .slice s.ka s.kn s.kc] 30 by rw [hwf]; have := ((((((((HA3.out.rr).setO (p := ⟨w.heap.size, 0, none⟩) (by simp) (.int .i64 W)).setO (p := ⟨w.heap.size, 1, none⟩) (by simp) (.int .i64 H)).setO (p := ⟨w.heap.size, 2, none⟩) (by simp) (.slice pA pn pc)).set 0 (.int .i64 s.o)).set 1 (.int .i64 s.a)).set 2 (.int .i64 s.p)).set 3 (.bool s.t)).set 4 (.slice s.ka s.kn s.kc); exact Blk.draw1 (by simpa using this))
            have HKP := hid (show Kp (fun q => q = w.heap.size ∨ q = w.heap.size + 1) w3 wf by rw [hwf]; exact (((((((((Kp.refl (fun q => q = w.heap.size ∨ q = w.heap.size + 1) w3).set (q := w.heap.size) (.inl (.inl rfl)) 0 (.int .i64 W)).set (q := w.heap.size) (.inl (.inl rfl)) 1 (.int .i64 H)).set (q := w.heap.size) (.inl (.inl rfl)) 2 (.slice pA pn pc)).set (q := w.heap.size + 1) (.inl (.inr rfl)) 0 (.int .i64 s.o)).set (q := w.heap.size + 1) (.inl (.inr rfl)) 1 (.int .i64 s.a)).set (q := w.heap.size + 1) (.inl (.inr rfl)) 2 (.int .i64 s.p)).set (q := w.heap.size + 1) (.inl (.inr rfl)) 3 (.bool s.t)).set (q := w.heap.size + 1) (.inl (.inr rfl)) 4 (.slice s.ka s.kn s.kc)).dr (Dr.refl _).one)
            rw [← hwf]
            clear hwf
            try clear c_K f_K l_K c_P f_P l_P c_Q f_Q l_Q c_R f_R l_R
            have c_BQ := fun (o : Nat) => BQ.out.cell o
            have c_BR := fun (o : Nat) => BR.out.cell o
            go_wp2
            exact bodyPost_ret (v := .tuple #[.agg #[.int .i64 W, .int .i64 H, .slice pA pn pc], .agg #[.int .i64 s.o, .int .i64 s.a, .int .i64 s.p, .bool s.t, .slice s.ka s.kn s.kc]]) (by simp [results, Try.results57, go_sem, c_BQ, c_BR]) rfl (any_fin (HA3.out.up (by omega)) HKP.out)
        · have d2 : decide (1 < cutI t) = false := decide_eq_false hm2
          have HA4 := hid (HA3.out.up (show m + 400 * (k : Int) + 400 ≤ m + 400 * ((k + 1 : Nat) : Int) by omega))
          go_wp2
          exact ⟨⟨k + 1, by go_num, by omega, ⟨HA4.out.rd, HA4.out.gr, HA4.out.rq, HA4.out.rr⟩⟩, by simp [intOf]; omega⟩
      · have d1 : decide (cutI t ≤ most) = false := decide_eq_false hm1
        have HA4 := hid (HA2.out.up (show m + 400 * (k : Int) + 400 ≤ m + 400 * ((k + 1 : Nat) : Int) by omega))
        go_wp2
        exact ⟨⟨k + 1, by go_num, by omega, ⟨HA4.out.rd, HA4.out.gr, HA4.out.rq, HA4.out.rr⟩⟩, by simp [intOf]; omega⟩
    · go_wp2_with fail
      refine (anyPlan_c B a (m + 400 * k) _ HS.out.rd (by omega)).mono ?_
      rintro e w1 ⟨n, s, pl, W, H, pA, pn, pc, rfl, k1, k2, k3, k4⟩
      have HX := hid (And.intro k1 (And.intro k2 (And.intro k3 (grown_trans HS.out.gr k4))))
      have HQ1 := hid (HS.out.rq.grown k4 (fun e => by injection e with e; omega))
      have HR1 := hid (HS.out.rr.grown k4 (fun e => by injection e with e; omega))
      have hs1 := k4.size
      clear k1 k2 k3 k4
      have c_Q := fun (o : Nat) => HQ1.out.cell o
      have f_Q := fun (o : Nat) => HQ1.out.frz o
      have l_Q := HQ1.out.lt
      have c_R := fun (o : Nat) => HR1.out.cell o
      have f_R := fun (o : Nat) => HR1.out.frz o
      have l_R := HR1.out.lt
      go_wp2
      obtain ⟨wf, hwf⟩ : ∃ Z : World, Z = ((((((((w1.setCell ⟨w.heap.size, 0, none⟩ (.int .i64 W)).setCell ⟨w.heap.size, 1, none⟩ (.int .i64 H)).setCell ⟨w.heap.size, 2, none⟩ (.slice pA pn pc)).setCell ⟨w.heap.size + 1, 0, none⟩ (.int .i64 s.o)).setCell ⟨w.heap.size + 1, 1, none⟩ (.int .i64 s.a)).setCell ⟨w.heap.size + 1, 2, none⟩ (.int .i64 s.p)).setCell ⟨w.heap.size + 1, 3, none⟩ (.bool s.t)).setCell ⟨w.heap.size + 1, 4, none⟩ (.slice s.ka s.kn s.kc)) := ⟨_, rfl⟩
      have BQ := hid (show Blk wf w.heap.size #[.int .i64 W, .int .i64 H, .slice pA pn pc] 47 by rw [hwf]; have := ((((((((HQ1.out).set 0 (.int .i64 W)).set 1 (.int .i64 H)).set 2 (.slice pA pn pc)).setO (p := ⟨w.heap.size + 1, 0, none⟩) (by simp) (.int .i64 s.o)).setO (p := ⟨w.heap.size + 1, 1, none⟩) (by simp) (.int .i64 s.a)).setO (p := ⟨w.heap.size + 1, 2, none⟩) (by simp) (.int .i64 s.p)).setO (p := ⟨w.heap.size + 1, 3, none⟩) (by simp) (.bool s.t)).setO (p := ⟨w.heap.size + 1, 4, none⟩) (by simp) (.slice s.ka s.kn s.kc); simpa using this)
      have BR := hid (show Blk wf (w.heap.size + 1) #[.int .i64 s.o, .int .i64 s.a, .int .i64 s.p, .bool s.t, .slice s.ka s.kn s.kc] 30 by rw [hwf]; have := ((((((((HR1.out).setO (p := ⟨w.heap.size, 0, none⟩) (by simp) (.int .i64 W)).setO (p := ⟨w.heap.size, 1, none⟩) (by simp) (.int .i64 H)).setO (p := ⟨w.heap.size, 2, none⟩) (by simp) (.slice pA pn pc)).set 0 (.int .i64 s.o)).set 1 (.int .i64 s.a)).set 2 (.int .i64 s.p)).set 3 (.bool s.t)).set 4 (.slice s.ka s.kn s.kc); simpa using this)
      have HKP := hid (show Kp (fun q => q = w.heap.size ∨ q = w.heap.size + 1) w1 wf by rw [hwf]; exact ((((((((Kp.refl (fun q => q = w.heap.size ∨ q = w.heap.size + 1) w1).set (q := w.heap.size) (.inl (.inl rfl)) 0 (.int .i64 W)).set (q := w.heap.size) (.inl (.inl rfl)) 1 (.int .i64 H)).set (q := w.heap.size) (.inl (.inl rfl)) 2 (.slice pA pn pc)).set (q := w.heap.size + 1) (.inl (.inr rfl)) 0 (.int .i64 s.o)).set (q := w.heap.size + 1) (.inl (.inr rfl)) 1 (.int .i64 s.a)).set (q := w.heap.size + 1) (.inl (.inr rfl)) 2 (.int .i64 s.p)).set (q := w.heap.size + 1) (.inl (.inr rfl)) 3 (.bool s.t)).set (q := w.heap.size + 1) (.inl (.inr rfl)) 4 (.slice s.ka s.kn s.kc))
      rw [← hwf]
      clear hwf c_Q f_Q l_Q c_R f_R l_R
      have c_BQ := fun (o : Nat) => BQ.out.cell o
      have c_BR := fun (o : Nat) => BR.out.cell o
      obtain ⟨k1, k2, k3, k4⟩ := HX.out
      exact bodyPost_ret (v := .tuple #[.agg #[.int .i64 W, .int .i64 H, .slice pA pn pc], .agg #[.int .i64 s.o, .int .i64 s.a, .int .i64 s.p, .bool s.t, .slice s.ka s.kn s.kc]]) (by simp [results, Try.results57, go_sem, c_BQ, c_BR]) rfl (any_fin2 k1 k2 hwr (k3.up (by omega)) k4 hla hlo HKP.out)

set_option maxHeartbeats 3200000 in
set_option maxRecDepth 100000 in
theorem DrawCountSteps_c (v : Value) (L : List Int) (w : World) (h : Row byteE w v L) (hb : ∀ x ∈ L, 0 ≤ x ∧ x ≤ 255) : Calls Try.prog 31 #[v] w (PlanDraw w) := by
  have HR := hid h
  have HB := hid hb
  clear h hb
  go_enter Try.func31, Try.ntmps31
  go_wp2_with fail
  refine (newReader_c w.heap.size _ L _ (HR.out.below ((Below.refl _ _).alloc (Nat.le_refl _) _)) (by simp) HB.out).mono ?_
  rintro e w1 ⟨rfl, hR, hb, hs⟩
  have HB1 := hid (((Below.refl _ _).alloc (Nat.le_refl _) _).trans (hb.mono (by simp)) : Below w.heap.size w w1)
  have HQ1 := hid ((Blk.new w #[.int .i64 0, .int .i64 0, .int .i64 0, .bool false, .slice none 0 0] 30).go hb)
  simp only [World.size_alloc] at hR hs
  have HR1 := hid hR
  clear hR hb
  go_wp2_with fail
  refine (cutsPlan_c w.heap.size (w.heap.size + 1) 10 0 _ HR1.out (by omega) (by omega) (by omega)).mono ?_
  rintro e w2 ⟨n, s, p, W, H, pA, pn, pc, rfl, k1, k2, k3, k4⟩
  have HQ2 := hid (HQ1.out.grown k4 (fun e => by injection e with e; omega))
  have HB2 := hid (below_gr HB1.out k4 HB1.out.size (Nat.le_succ _))
  have HF := hid k2
  have HS := hid k1
  have hs2 := k4.size
  clear k1 k2 k3 k4
  have c_Q := fun (o : Nat) => HQ2.out.cell o
  have f_Q := fun (o : Nat) => HQ2.out.frz o
  have l_Q := HQ2.out.lt
  have c_F := fun (o : Nat) => (show Blk ((((((((w2.setCell ⟨w.heap.size, 0, none⟩ (.int .i64 s.o)).setCell ⟨w.heap.size, 1, none⟩ (.int .i64 s.a)).setCell ⟨w.heap.size, 2, none⟩ (.int .i64 s.p)).setCell ⟨w.heap.size, 3, none⟩ (.bool s.t)).setCell ⟨w.heap.size, 4, none⟩ (.slice s.ka s.kn s.kc))).alloc (.cells #[.int .i64 W, .int .i64 H, .slice pA pn pc] 47)).alloc (.cells #[.int .i64 s.o, .int .i64 s.a, .int .i64 s.p, .bool s.t, .slice s.ka s.kn s.kc] 30)) w.heap.size #[.int .i64 s.o, .int .i64 s.a, .int .i64 s.p, .bool s.t, .slice s.ka s.kn s.kc] 30 by have := (((((((HQ2.out).set 0 (.int .i64 s.o)).set 1 (.int .i64 s.a)).set 2 (.int .i64 s.p)).set 3 (.bool s.t)).set 4 (.slice s.ka s.kn s.kc)).alloc (.cells #[.int .i64 W, .int .i64 H, .slice pA pn pc] 47)).alloc (.cells #[.int .i64 s.o, .int .i64 s.a, .int .i64 s.p, .bool s.t, .slice s.ka s.kn s.kc] 30); simpa using this).cell o
  go_wp2
  clear c_Q f_Q
  exact bodyPost_ret (v := .agg #[.int .i64 s.o, .int .i64 s.a, .int .i64 s.p, .bool s.t, .slice s.ka s.kn s.kc]) (by simp [results, Try.results31, go_sem, c_F]) rfl (draw_fin HF.out HS.out (by omega) HB2.out ((((((((Kp.refl (fun q => q = w.heap.size) w2).set (q := w.heap.size) (.inl rfl) 0 (.int .i64 s.o)).set (q := w.heap.size) (.inl rfl) 1 (.int .i64 s.a)).set (q := w.heap.size) (.inl rfl) 2 (.int .i64 s.p)).set (q := w.heap.size) (.inl rfl) 3 (.bool s.t)).set (q := w.heap.size) (.inl rfl) 4 (.slice s.ka s.kn s.kc)).alloc (.cells #[.int .i64 W, .int .i64 H, .slice pA pn pc] 47)).alloc (.cells #[.int .i64 s.o, .int .i64 s.a, .int .i64 s.p, .bool s.t, .slice s.ka s.kn s.kc] 30)))

end Go.Proofs.Ytafcohmneeabbaa
