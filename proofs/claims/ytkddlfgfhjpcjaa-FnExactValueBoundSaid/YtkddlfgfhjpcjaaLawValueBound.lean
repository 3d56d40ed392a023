/-
  The law FnExactValueBound, walked.
-/
import Derived.Test.YtkddlfgfhjpcjaaValue
import Derived.Deep.RegionHeld3
namespace Go.Proofs.Ytkddlfgfhjpcjaa
set_option linter.unusedSimpArgs false
set_option linter.unusedVariables false
open Go.RowKit

theorem Own.wvr {e : TypeId} {w : World} {lo : Nat} {p : Wk} {s : Ws} (hs : s.same p) (h : Own paneE e lo w s.kv p.f) : WvR w.heap.size w p s := ⟨hs, h.rowB⟩
theorem WvR.shape {B : Nat} {w : World} {p : Wk} {s : Ws} (h : WvR B w p s) : ∃ A c, s = ⟨p.w, p.h, A, p.f.length, c⟩ := by
  obtain ⟨⟨h1, h2⟩, A, c, e, -⟩ := h
  obtain ⟨sw, sh, ka, kn, kc⟩ := s
  simp only [Ws.kv, Value.slice.injEq] at e
  obtain ⟨rfl, rfl, rfl⟩ := e
  simp only at h1 h2
  subst h1; subst h2
  exact ⟨_, _, rfl⟩

set_option maxHeartbeats 3200000 in
set_option maxRecDepth 100000 in
theorem FnExactValueBound_c (p : Wk) (s : Ws) (v : Value) (V : List Int) (w : World) (h : WvR w.heap.size w p s) (hv : Row intE w v V) : Calls Try.prog 5 #[.agg #[.int .i64 s.w, .int .i64 s.h, .slice s.ka s.kn s.kc], v] w fun e w' => e = .returned (.bool true) ∧ Below w.heap.size w w' := by
  have B2 := hid (below_ws (x := s.w) (y := s.h) (ka := s.ka) (kn := s.kn) (kc := s.kc) (ty := 35) w)
  have HQ0 := hid (Blk.new w #[.int .i64 s.w, .int .i64 s.h, .slice s.ka s.kn s.kc] 35)
  have HP := hid (fun w1 (hb : Below w.heap.size w w1) => h.go hb)
  clear h
  obtain ⟨Av, kv, rfl, hkv, hmv⟩ := hv.form
  unfold maxLen at hmv
  have HV := hid (fun w1 (hb : Below w.heap.size w w1) => RowB.go hv hb)
  clear hv
  by_cases hvl : V.length ≤ 1048576
  case neg =>
    have hvd : decide ((1048576 : Int) < (V.length : Int)) = true := decide_eq_true (by omega)
    go_enter Try.func5, Try.ntmps5
    go_wp2
    go_ret
    exact ⟨rfl, B2.out⟩
  have hvd : decide ((1048576 : Int) < (V.length : Int)) = false := decide_eq_false (by omega)
  have HVL : Hid (V.length ≤ 4194304) := by rw [Hid]; omega
  by_cases hle : (p.f.length : Int) ≤ 1048576
  · have HT : Hid (p.f.length ≤ 4194304) := by rw [Hid]; omega
    have HN : Hid (decide ((1048576 : Int) - p.f.length < 0) = false) := by rw [Hid]; simp; omega
    go_enter Try.func5, Try.ntmps5
    go_wp2_with fail
    refine (szWork_t p s 1048576 _ (HP.out _ B2.out) (by omega) (by omega) hle).mono ?_
    rintro e w1 ⟨rfl, hb⟩
    have HB1 := hid (B2.out.trans (hb.mono B2.out.size))
    have HQ1 := hid (HQ0.out.go hb)
    have c_q := fun (o : Nat) => HQ1.out.cell o
    have l_q := HQ1.out.lt
    clear hb
    have hneg : decide ((1048576 : Int) - p.f.length < 0) = false := HN.out
    go_wp2_with fail
    refine (toWork_c p s _ (HP.out _ HB1.out) HT.out).mono ?_
    rintro e w2 ⟨s1, rfl, hs1, hod1, hb⟩
    have HP1 := hid (Own.wvr hs1 hod1)
    have HB2 := hid (HB1.out.trans (hb.mono HB1.out.size))
    have HQ2 := hid (HQ1.out.go hb)
    obtain ⟨A1, k1, rfl⟩ := HP1.out.shape
    clear hb hs1 hod1 c_q l_q hneg
    have c_q := fun (o : Nat) => HQ2.out.cell o
    have l_q := HQ2.out.lt
    go_wp2_with fail
    refine (toIntS_c _ V _ (HV.out _ HB2.out) HVL.out).mono ?_
    rintro e w2a ⟨u1, rfl, hou, hb⟩
    have HU1 := hid hou.rowB
    replace HB2 := hid (HB2.out.trans (hb.mono HB2.out.size))
    replace HQ2 := hid (HQ2.out.go hb)
    replace HP1 := hid (HP1.out.go hb)
    clear hb hou c_q l_q
    have c_q := fun (o : Nat) => HQ2.out.cell o
    have l_q := HQ2.out.lt
    go_wp2_with fail
    refine (sValueBound_c p.w p.h p.f A1 k1 _ V _ HP1.out.2 HU1.out HT.out).mono ?_
    rintro e w3 ⟨rfl, hb⟩
    have HB3 := hid (HB2.out.trans (hb.mono HB2.out.size))
    have HQ3 := hid (HQ2.out.go hb)
    clear hb c_q l_q
    have c_q := fun (o : Nat) => HQ3.out.cell o
    have l_q := HQ3.out.lt
    go_wp2_with fail
    refine (toWork_c p s _ (HP.out _ HB3.out) HT.out).mono ?_
    rintro e w4 ⟨s2, rfl, hs2, hod2, hb⟩
    have HP2 := hid (Own.wvr hs2 hod2)
    have HB4 := hid (HB3.out.trans (hb.mono HB3.out.size))
    have HQ4 := hid (HQ3.out.go hb)
    obtain ⟨A2, k2, rfl⟩ := HP2.out.shape
    have HB5 := hid (HB4.out.alloc HB4.out.size (.cells #[.int .i64 p.w, .int .i64 p.h, .slice A2 p.f.length k2] 40))
    have HQ5 := hid (HQ4.out.alloc (.cells #[.int .i64 p.w, .int .i64 p.h, .slice A2 p.f.length k2] 40))
    have HX5 := hid (Blk.new w4 #[.int .i64 p.w, .int .i64 p.h, .slice A2 p.f.length k2] 40)
    have HP5 := hid (HP2.out.go ((Below.refl _ _).alloc (Nat.le_refl _) (.cells #[.int .i64 p.w, .int .i64 p.h, .slice A2 p.f.length k2] 40)))
    clear hb hs2 hod2 c_q l_q
    go_wp2_with fail
    refine (toIntS_c _ V _ (HV.out _ HB5.out) HVL.out).mono ?_
    rintro e w5a ⟨u2, rfl, hou, hb⟩
    have HU2 := hid hou.rowB
    replace HB5 := hid (HB5.out.trans (hb.mono HB5.out.size))
    replace HQ5 := hid (HQ5.out.go hb)
    replace HX5 := hid (HX5.out.go hb)
    replace HP5 := hid (HP5.out.go hb)
    clear hb hou
    have c_q := fun (o : Nat) => HQ5.out.cell o
    have l_q := HQ5.out.lt
    have c_x := fun (o : Nat) => HX5.out.cell o
    have l_x := HX5.out.lt
    go_wp2_with fail
    refine (ValueBound_c p.w p.h p.f A2 k2 _ V _ HP5.out.2 HU2.out).mono ?_
    rintro e w6 ⟨rfl, hb⟩
    have HU6 := hid (HU2.out.go hb)
    clear c_q l_q c_x l_x
    have HB6 := hid (HB5.out.trans (hb.mono HB5.out.size))
    have HQ6 := hid (HQ5.out.go hb)
    have HX6 := hid (HX5.out.go hb)
    have HP6 := hid (HP5.out.go hb)
    have c_q := fun (o : Nat) => HQ6.out.cell o
    have l_q := HQ6.out.lt
    have c_x := fun (o : Nat) => HX6.out.cell o
    have l_x := HX6.out.lt
    clear hb
    obtain ⟨z, hz⟩ : ∃ z, z = vbOut p.w p.h p.f V := ⟨_, rfl⟩
    rw [← hz]
    have hne : (z != z) = false := by simp
    clear hz
    go_wp2
    have ZK := hid ((Below.refl _ _).drew : Below w6.heap.size w6 w6.drew)
    go_region_held3 (fun w' => ∀ b o, b < w6.heap.size → w'.cell? ⟨b, o, none⟩ = w6.cell? ⟨b, o, none⟩) (exact fun b o h => ZK.out.cell (p := ⟨b, o, none⟩) h)
      (first | (go_at_call 20; ((with_reducible refine (toWork_c p s _ (HP.out _ (HB6.out.trans (ZK.out.mono HB6.out.size))) HT.out).mono ?_); rintro e w7 ⟨s3, rfl, hs3, hod3, hb⟩; have HP3 := hid (Own.wvr hs3 hod3); replace ZK := hid (ZK.out.trans (hb.mono ZK.out.size)); clear hb hs3 hod3)) | (go_at_call 23; ((with_reducible refine (eqWork_c p ⟨p.w, p.h, A2, p.f.length, k2⟩ s3 _ (HP6.out.go ZK.out) HP3.out).mono ?_); rintro e w8 ⟨rfl, hb⟩; replace ZK := hid (ZK.out.trans (hb.mono ZK.out.size)); clear hb)) | fail)
    all_goals
      have HB8 := hid (HB6.out.trans (ZK.out.mono HB6.out.size))
      have HU8 := hid (HU6.out.go ZK.out)
      clear ZK HP3
      go_wp2_with fail
      refine (toIntS_c _ V _ (HV.out _ HB8.out) HVL.out).mono ?_
      rintro e w9 ⟨u3, rfl, hou, hb⟩
      have HU3 := hid hou.rowB
      have HB9 := hid (HB8.out.trans (hb.mono HB8.out.size))
      have HU9 := hid (HU8.out.go hb)
      clear hb hou
      go_wp2_with fail
      refine (eqIntS_c _ _ V V _ HU9.out HU3.out).mono ?_
      rintro e w10 ⟨rfl, hd⟩
      simp only [decide_true]
      have HB10 := hid (HB9.out.trans (hd.below _))
      clear hd
      go_wp2
      go_ret
      exact ⟨rfl, HB10.out⟩
  · have HE := hid hle
    go_enter Try.func5, Try.ntmps5
    go_wp2_with fail
    refine (szWork_f p s 1048576 _ (HP.out _ B2.out) (by omega) (by omega) (by omega)).mono ?_
    rintro e w1 ⟨rfl, hb⟩
    have HB1 := hid (B2.out.trans (hb.mono B2.out.size))
    clear hb
    go_wp2
    go_ret
    exact ⟨rfl, HB1.out⟩

end Go.Proofs.Ytkddlfgfhjpcjaa
