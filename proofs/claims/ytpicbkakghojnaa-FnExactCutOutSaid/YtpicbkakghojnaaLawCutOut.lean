/-
  The law FnExactCutOut, walked (written by a program of mine).
-/
import Derived.Test.YtpicbkakghojnaaCutT
import Derived.Test.YtpicbkakghojnaaPcAt
import Derived.Test.YtpicbkakghojnaaLawClearAt
namespace Go.Proofs.Ytpicbkakghojnaa
set_option linter.unusedSimpArgs false
set_option linter.unusedVariables false
open Go.RowKit

set_option maxHeartbeats 12800000 in
set_option maxRecDepth 100000 in
theorem FnExactCutOut_c (p : Pc) (s : Ps) (b : Bx) (l : Int) (w : World) (h : PvR w.heap.size w p s ∧ I64 p.l ∧ I64 p.w ∧ I64 p.h) (_ : (Lit.int .i64 l).wf = true) : Calls Try.prog 8 #[.agg #[.int .i64 s.l, .int .i64 s.w, .int .i64 s.h, .slice s.ka s.kn s.kc], .agg #[.int .i64 b.x, .int .i64 b.y, .int .i64 b.w, .int .i64 b.h], .int .i64 l] w fun e w' => e = .returned (.bool true) ∧ Below w.heap.size w w' := by
  have HB0 := hid ((below_ps (l := s.l) (x := s.w) (y := s.h) (ka := s.ka) (kn := s.kn) (kc := s.kc) (ty := 24) w).alloc (by simp) (.cells #[.int .i64 b.x, .int .i64 b.y, .int .i64 b.w, .int .i64 b.h] 26))
  obtain ⟨h, -, hW, hH⟩ := h
  have HI := hid (And.intro hW hH)
  have HP := hid (fun w1 (hb : Below w.heap.size w w1) => h.go hb)
  have HK := hid ((Blk.new w #[.int .i64 s.l, .int .i64 s.w, .int .i64 s.h, .slice s.ka s.kn s.kc] 24).alloc (.cells #[.int .i64 b.x, .int .i64 b.y, .int .i64 b.w, .int .i64 b.h] 26))
  have HKb : Hid (Blk ((w.alloc (.cells #[.int .i64 s.l, .int .i64 s.w, .int .i64 s.h, .slice s.ka s.kn s.kc] 24)).alloc (.cells #[.int .i64 b.x, .int .i64 b.y, .int .i64 b.w, .int .i64 b.h] 26)) (w.heap.size + 1) #[.int .i64 b.x, .int .i64 b.y, .int .i64 b.w, .int .i64 b.h] 26) := by
    have := Blk.new (w.alloc (.cells #[.int .i64 s.l, .int .i64 s.w, .int .i64 s.h, .slice s.ka s.kn s.kc] 24)) #[.int .i64 b.x, .int .i64 b.y, .int .i64 b.w, .int .i64 b.h] 26
    rw [World.size_alloc] at this
    exact this
  clear h hW hH
  by_cases hle : (p.f.length : Int) ≤ 1048576
  · have HT : Hid (p.f.length ≤ 4194304) := by rw [Hid]; omega
    have hneg : decide ((1048576 : Int) - p.f.length < 0) = false := by simp; omega
    have hk0 : decide ((1 : Int) + 4 * p.f.length < 0) = false := by simp; omega
    have HRL := hid (coR_len p b l)
    have HSP := hid (fun s w => sCutOut_c p s b l w)
    have HIP := hid (fun s w => CutOut_c p s b l w)
    generalize coR p b l = r at HRL HSP HIP
    have hk1 : decide ((1 : Int) + 4 * r.f.length < 0) = false := by simp; omega
    have hqm : ((1 : Int) + 4 * (r.f.length : Int) != 1 + 4 * (r.f.length : Int)) = false := by simp
    have hlt6 : r.f.length ≤ 4194304 := Nat.le_trans HRL.out (by omega)
    have hltp : p.f.length ≤ 4194304 := HT.out
    go_enter Try.func8, Try.ntmps8
    go_wp2_with fail
    refine (szPiece_t p s 1048576 _ (HP.out _ HB0.out) (by omega) (by omega) hle).mono ?_
    rintro e w1 ⟨rfl, hb⟩
    have HK_1 := hid (HK.out.go hb)
    have HKb_1 := hid (HKb.out.go hb)
    have HB1 := hid (HB0.out.trans (hb.mono HB0.out.size))
    clear hb
    try clear c_K l_K
    have c_K := fun (o : Nat) => (HK_1.out).cell o
    have l_K := (HK_1.out).lt
    try clear c_Kb l_Kb
    have c_Kb := fun (o : Nat) => (HKb_1.out).cell o
    have l_Kb := (HKb_1.out).lt
    have i0 := l_K
    have i0b := l_Kb
    go_upto_region 6 with (fail)
    go_cut [8] (fun pv wx => ∃ (q : Nat) (s' : Ps), pv = .pointer (some ⟨q, 0, none⟩) ∧ s'.same r ∧ PcAt (w1.heap.size) wx.heap.size wx q s' r.f ∧ Below w1.heap.size w1 wx)
    case first =>
      have ZK := hid ((Below.refl _ _).drew : Below w1.heap.size w1 w1.drew)
      have ZQ := hid (Nat.le_refl w1.heap.size)
      go_region_held3 (fun w' => ∀ b o, b < w1.heap.size → w'.cell? ⟨b, o, none⟩ = w1.cell? ⟨b, o, none⟩) (first | with_reducible exact fun b o h => (ZK.out).cell (p := ⟨b, o, none⟩) h | with_reducible exact fun b o h => ((ZK.out.alloc ZK.out.size (.cells #[.int .i64 0, .int .i64 0, .int .i64 0, .slice none 0 0] 31))).cell (p := ⟨b, o, none⟩) h | with_reducible exact fun b o h => (((Below.refl w1.heap.size w1).alloc (Nat.le_refl _) (.cells #[.int .i64 0, .int .i64 0, .int .i64 0, .slice none 0 0] 31)).drew).cell (p := ⟨b, o, none⟩) h | with_reducible exact fun b o h => (ZK.out.alloc ZK.out.size _).cell (p := ⟨b, o, none⟩) h | with_reducible exact fun b o h => ((ZK.out.setCell ZQ.out _)).cell (p := ⟨b, o, none⟩) h | with_reducible exact fun b o h => (((ZK.out.setCell ZQ.out _).setCell ZQ.out _)).cell (p := ⟨b, o, none⟩) h | with_reducible exact fun b o h => ((((ZK.out.setCell ZQ.out _).setCell ZQ.out _).setCell ZQ.out _)).cell (p := ⟨b, o, none⟩) h | with_reducible exact fun b o h => (((((ZK.out.setCell ZQ.out _).setCell ZQ.out _).setCell ZQ.out _).setCell ZQ.out _)).cell (p := ⟨b, o, none⟩) h)
        (first | (go_at_call 16; (first | ((with_reducible refine (toPiece_c p s _ (HP.out _ (HB1.out.trans ((ZK.out).mono HB1.out.size))) HT.out).mono ?_); rintro e wz0 ⟨s1, rfl, hs1, hod1, hb⟩; (try replace ZB := hid (ZB.out.go hb)); have HP1 := hid (Own.pvr hs1 hod1); have Z1 := hid (Below.refl wz0.heap.size wz0); clear hs1 hod1; replace ZK := hid ((ZK.out).trans (hb.mono (ZK.out).size)); clear hb) | ((with_reducible refine (toPiece_c p s _ (HP.out _ (HB1.out.trans (((ZK.out.alloc ZK.out.size (.cells #[.int .i64 0, .int .i64 0, .int .i64 0, .slice none 0 0] 31))).mono HB1.out.size))) HT.out).mono ?_); rintro e wz0 ⟨s1, rfl, hs1, hod1, hb⟩; have ZQ := hid ZK.out.size; have ZB := hid ((Blk.new _ #[.int .i64 0, .int .i64 0, .int .i64 0, .slice none 0 0] 31).go hb); have HP1 := hid (Own.pvr hs1 hod1); have Z1 := hid (Below.refl wz0.heap.size wz0); clear hs1 hod1; replace ZK := hid (((ZK.out.alloc ZK.out.size (.cells #[.int .i64 0, .int .i64 0, .int .i64 0, .slice none 0 0] 31))).trans (hb.mono ((ZK.out.alloc ZK.out.size (.cells #[.int .i64 0, .int .i64 0, .int .i64 0, .slice none 0 0] 31))).size)); clear hb) | ((with_reducible refine (toPiece_c p s _ (HP.out _ (HB1.out.trans ((((Below.refl w1.heap.size w1).alloc (Nat.le_refl _) (.cells #[.int .i64 0, .int .i64 0, .int .i64 0, .slice none 0 0] 31)).drew).mono HB1.out.size))) HT.out).mono ?_); rintro e wz0 ⟨s1, rfl, hs1, hod1, hb⟩; have ZQ := hid (Nat.le_refl w1.heap.size); have ZB := hid ((Blk.new _ #[.int .i64 0, .int .i64 0, .int .i64 0, .slice none 0 0] 31).draw1.go hb); have HP1 := hid (Own.pvr hs1 hod1); have Z1 := hid (Below.refl wz0.heap.size wz0); clear hs1 hod1; replace ZK := hid ((((Below.refl w1.heap.size w1).alloc (Nat.le_refl _) (.cells #[.int .i64 0, .int .i64 0, .int .i64 0, .slice none 0 0] 31)).drew).trans (hb.mono (((Below.refl w1.heap.size w1).alloc (Nat.le_refl _) (.cells #[.int .i64 0, .int .i64 0, .int .i64 0, .slice none 0 0] 31)).drew).size)); clear hb))) | (go_at_call 17; (first | ((with_reducible refine (toBox_c b _).mono ?_); rintro e wz1 ⟨rfl, hb⟩; (try replace ZB := hid (ZB.out.go hb)); (try replace Z1 := hid (Z1.out.trans (hb.mono (Z1.out).size))); replace ZK := hid ((ZK.out).trans (hb.mono (ZK.out).size)); clear hb) | ((with_reducible refine (toBox_c b _).mono ?_); rintro e wz1 ⟨rfl, hb⟩; have ZQ := hid ZK.out.size; have ZB := hid ((Blk.new _ #[.int .i64 0, .int .i64 0, .int .i64 0, .slice none 0 0] 31).go hb); (try replace Z1 := hid ((Z1.out.alloc Z1.out.size (.cells #[.int .i64 0, .int .i64 0, .int .i64 0, .slice none 0 0] 31)).trans (hb.mono ((Z1.out.alloc Z1.out.size (.cells #[.int .i64 0, .int .i64 0, .int .i64 0, .slice none 0 0] 31))).size))); replace ZK := hid (((ZK.out.alloc ZK.out.size (.cells #[.int .i64 0, .int .i64 0, .int .i64 0, .slice none 0 0] 31))).trans (hb.mono ((ZK.out.alloc ZK.out.size (.cells #[.int .i64 0, .int .i64 0, .int .i64 0, .slice none 0 0] 31))).size)); clear hb) | ((with_reducible refine (toBox_c b _).mono ?_); rintro e wz1 ⟨rfl, hb⟩; have ZQ := hid (Nat.le_refl w1.heap.size); have ZB := hid ((Blk.new _ #[.int .i64 0, .int .i64 0, .int .i64 0, .slice none 0 0] 31).draw1.go hb); (try replace Z1 := hid (Z1.out.trans (hb.mono (Z1.out).size))); replace ZK := hid ((((Below.refl w1.heap.size w1).alloc (Nat.le_refl _) (.cells #[.int .i64 0, .int .i64 0, .int .i64 0, .slice none 0 0] 31)).drew).trans (hb.mono (((Below.refl w1.heap.size w1).alloc (Nat.le_refl _) (.cells #[.int .i64 0, .int .i64 0, .int .i64 0, .slice none 0 0] 31)).drew).size)); clear hb))) | (go_at_call 34; (first | ((with_reducible refine (HSP.out s1 _ (HP1.out.go Z1.out) HI.out.1 HI.out.2).mono ?_); rintro e wz2 ⟨⟨sn, rfl, hsn, hon⟩, hb⟩; have ZS := hid (ZK.out).size; (try (have ZL := hid ZB.out.lt)); (try replace ZB := hid (ZB.out.go hb)); (try have cB := (fun (o : Nat) => ZB.out.cell o)); (try have fB := (fun (o : Nat) => ZB.out.frz o)); have HSn := hid hsn; have HOn := hid hon; clear hsn hon; replace ZK := hid ((ZK.out).trans (hb.mono (ZK.out).size)); clear hb) | ((with_reducible refine (HSP.out s1 _ (HP1.out.go (Z1.out.alloc Z1.out.size (.cells #[.int .i64 0, .int .i64 0, .int .i64 0, .slice none 0 0] 31))) HI.out.1 HI.out.2).mono ?_); rintro e wz2 ⟨⟨sn, rfl, hsn, hon⟩, hb⟩; have ZS := hid ((ZK.out.alloc ZK.out.size (.cells #[.int .i64 0, .int .i64 0, .int .i64 0, .slice none 0 0] 31))).size; have ZQ := hid ZK.out.size; have ZB := hid ((Blk.new _ #[.int .i64 0, .int .i64 0, .int .i64 0, .slice none 0 0] 31).go hb); have ZL := hid (new_lt hb); (try have cB := (fun (o : Nat) => ZB.out.cell o)); (try have fB := (fun (o : Nat) => ZB.out.frz o)); have HSn := hid hsn; have HOn := hid hon; clear hsn hon; replace ZK := hid (((ZK.out.alloc ZK.out.size (.cells #[.int .i64 0, .int .i64 0, .int .i64 0, .slice none 0 0] 31))).trans (hb.mono ((ZK.out.alloc ZK.out.size (.cells #[.int .i64 0, .int .i64 0, .int .i64 0, .slice none 0 0] 31))).size)); clear hb) | ((with_reducible refine (HSP.out s1 _ (HP1.out.go Z1.out) HI.out.1 HI.out.2).mono ?_); rintro e wz2 ⟨⟨sn, rfl, hsn, hon⟩, hb⟩; have ZS := hid (((Below.refl w1.heap.size w1).alloc (Nat.le_refl _) (.cells #[.int .i64 0, .int .i64 0, .int .i64 0, .slice none 0 0] 31)).drew).size; have ZQ := hid (Nat.le_refl w1.heap.size); have ZB := hid ((Blk.new _ #[.int .i64 0, .int .i64 0, .int .i64 0, .slice none 0 0] 31).draw1.go hb); have ZL := hid (new_lt1 hb); (try have cB := (fun (o : Nat) => ZB.out.cell o)); (try have fB := (fun (o : Nat) => ZB.out.frz o)); have HSn := hid hsn; have HOn := hid hon; clear hsn hon; replace ZK := hid ((((Below.refl w1.heap.size w1).alloc (Nat.le_refl _) (.cells #[.int .i64 0, .int .i64 0, .int .i64 0, .slice none 0 0] 31)).drew).trans (hb.mono (((Below.refl w1.heap.size w1).alloc (Nat.le_refl _) (.cells #[.int .i64 0, .int .i64 0, .int .i64 0, .slice none 0 0] 31)).drew).size)); clear hb))))
      all_goals
        go_wp2
        go_meet
        case rel =>
          first
            | with_reducible exact ⟨_, sn, rfl, HSn.out, PcAt.mkA (HOn.out.base_le ZS.out) ZK.out.size, ZK.out.alloc ZK.out.size _⟩
            | with_reducible exact ⟨_, sn, rfl, HSn.out, PcAt.late ZB.out HOn.out ZL.out ZQ.out, ((((ZK.out.setCell ZQ.out _).setCell ZQ.out _).setCell ZQ.out _).setCell ZQ.out _)⟩
    case rest =>
      obtain ⟨qw, sw, rfl, hsw, hpw, hb⟩ := hcut
      rename World => w2
      have HK_2 := hid (HK_1.out.go hb)
      have HKb_2 := hid (HKb_1.out.go hb)
      have HB2 := hid (HB1.out.trans (hb.mono HB1.out.size))
      have izw := hb.size
      clear hb
      have Hw_2 := hid hpw
      have HSw := hid hsw
      clear hpw hsw
      try clear c_K l_K
      have c_K := fun (o : Nat) => (HK_2.out).cell o
      have l_K := (HK_2.out).lt
      try clear c_Kb l_Kb
      have c_Kb := fun (o : Nat) => (HKb_2.out).cell o
      have l_Kb := (HKb_2.out).lt
      try clear c_w l_w
      have c_w := fun (o : Nat) => (Hw_2.out.1).cell o
      have l_w := (Hw_2.out.1).lt
      go_wp2_with fail
      refine (toPiece_c p s _ (HP.out _ HB2.out) HT.out).mono ?_
      rintro e w3 ⟨s2, rfl, hs2, hod2, hb⟩
      have HS2 := hid hs2
      have HO2 := hid hod2
      have i2 := hb.size
      clear hs2 hod2
      have HK_3 := hid (HK_2.out.go hb)
      have HKb_3 := hid (HKb_2.out.go hb)
      have Hw_3 := hid (Hw_2.out.go hb)
      have HB3 := hid (HB2.out.trans (hb.mono HB2.out.size))
      clear hb
      try clear c_K l_K
      have c_K := fun (o : Nat) => (HK_3.out).cell o
      have l_K := (HK_3.out).lt
      try clear c_Kb l_Kb
      have c_Kb := fun (o : Nat) => (HKb_3.out).cell o
      have l_Kb := (HKb_3.out).lt
      try clear c_w l_w
      have c_w := fun (o : Nat) => (Hw_3.out.1).cell o
      have l_w := (Hw_3.out.1).lt
      have hsz_x : w2.heap.size ≤ w3.heap.size := i2
      have HK_4 := hid (HK_3.out.go ((Below.refl _ _).alloc (Nat.le_refl _) (.cells #[.int .i64 s2.l, .int .i64 s2.w, .int .i64 s2.h, .slice s2.ka s2.kn s2.kc] 31)))
      have HKb_4 := hid (HKb_3.out.go ((Below.refl _ _).alloc (Nat.le_refl _) (.cells #[.int .i64 s2.l, .int .i64 s2.w, .int .i64 s2.h, .slice s2.ka s2.kn s2.kc] 31)))
      have Hw_4 := hid (Hw_3.out.go ((Below.refl _ _).alloc (Nat.le_refl _) (.cells #[.int .i64 s2.l, .int .i64 s2.w, .int .i64 s2.h, .slice s2.ka s2.kn s2.kc] 31)))
      have HB4 := hid (HB3.out.trans (((Below.refl _ _).alloc (Nat.le_refl _) (.cells #[.int .i64 s2.l, .int .i64 s2.w, .int .i64 s2.h, .slice s2.ka s2.kn s2.kc] 31)).mono HB3.out.size))
      have Hx_4 := hid (PcAt.mk_ (s := s2) HO2.out hsz_x)
      go_upto_region 8 with (fail)
      obtain ⟨X4, hX4⟩ : ∃ X, X = (w3.alloc (.cells #[.int .i64 s2.l, .int .i64 s2.w, .int .i64 s2.h, .slice s2.ka s2.kn s2.kc] 31)) := ⟨_, rfl⟩
      rw [← hX4] at HB4 HK_4 HKb_4 Hw_4 Hx_4
      rw [← hX4]
      have HX4 := hid hX4
      clear hX4
      have iX4 : X4.heap.size = w3.heap.size + 1 := by rw [HX4.out]; simp
      have iX4a : w3.heap.size + 1 ≤ X4.heap.size := by omega
      clear iX4
      try clear c_K l_K
      have c_K := fun (o : Nat) => (HK_4.out).cell o
      have l_K := (HK_4.out).lt
      try clear c_Kb l_Kb
      have c_Kb := fun (o : Nat) => (HKb_4.out).cell o
      have l_Kb := (HKb_4.out).lt
      try clear c_w l_w
      have c_w := fun (o : Nat) => (Hw_4.out.1).cell o
      have l_w := (Hw_4.out.1).lt
      try clear c_x l_x
      have c_x := fun (o : Nat) => (Hx_4.out.1).cell o
      have l_x := (Hx_4.out.1).lt
      go_cut [10] (fun pv wx => ∃ (q : Nat) (s' : Ps), pv = .pointer (some ⟨q, 0, none⟩) ∧ s'.same r ∧ PcAt (X4.heap.size) wx.heap.size wx q s' r.f ∧ Below X4.heap.size X4 wx)
      case first =>
        have ZK := hid ((Below.refl _ _).drew : Below X4.heap.size X4 X4.drew)
        have ZQ := hid (Nat.le_refl X4.heap.size)
        go_region_held3 (fun w' => ∀ b o, b < X4.heap.size → w'.cell? ⟨b, o, none⟩ = X4.cell? ⟨b, o, none⟩) (first | with_reducible exact fun b o h => (ZK.out).cell (p := ⟨b, o, none⟩) h | with_reducible exact fun b o h => ((ZK.out.alloc ZK.out.size (.cells #[.int .i64 0, .int .i64 0, .int .i64 0, .slice none 0 0] 31))).cell (p := ⟨b, o, none⟩) h | with_reducible exact fun b o h => (((Below.refl X4.heap.size X4).alloc (Nat.le_refl _) (.cells #[.int .i64 0, .int .i64 0, .int .i64 0, .slice none 0 0] 31)).drew).cell (p := ⟨b, o, none⟩) h | with_reducible exact fun b o h => (ZK.out.alloc ZK.out.size _).cell (p := ⟨b, o, none⟩) h | with_reducible exact fun b o h => ((ZK.out.setCell ZQ.out _)).cell (p := ⟨b, o, none⟩) h | with_reducible exact fun b o h => (((ZK.out.setCell ZQ.out _).setCell ZQ.out _)).cell (p := ⟨b, o, none⟩) h | with_reducible exact fun b o h => ((((ZK.out.setCell ZQ.out _).setCell ZQ.out _).setCell ZQ.out _)).cell (p := ⟨b, o, none⟩) h | with_reducible exact fun b o h => (((((ZK.out.setCell ZQ.out _).setCell ZQ.out _).setCell ZQ.out _).setCell ZQ.out _)).cell (p := ⟨b, o, none⟩) h)
          (first | (go_at_call 17; (first | ((with_reducible refine (toBox_c b _).mono ?_); rintro e wz0 ⟨rfl, hb⟩; (try replace ZB := hid (ZB.out.go hb)); replace ZK := hid ((ZK.out).trans (hb.mono (ZK.out).size)); clear hb) | ((with_reducible refine (toBox_c b _).mono ?_); rintro e wz0 ⟨rfl, hb⟩; have ZQ := hid ZK.out.size; have ZB := hid ((Blk.new _ #[.int .i64 0, .int .i64 0, .int .i64 0, .slice none 0 0] 31).go hb); replace ZK := hid (((ZK.out.alloc ZK.out.size (.cells #[.int .i64 0, .int .i64 0, .int .i64 0, .slice none 0 0] 31))).trans (hb.mono ((ZK.out.alloc ZK.out.size (.cells #[.int .i64 0, .int .i64 0, .int .i64 0, .slice none 0 0] 31))).size)); clear hb) | ((with_reducible refine (toBox_c b _).mono ?_); rintro e wz0 ⟨rfl, hb⟩; have ZQ := hid (Nat.le_refl X4.heap.size); have ZB := hid ((Blk.new _ #[.int .i64 0, .int .i64 0, .int .i64 0, .slice none 0 0] 31).draw1.go hb); replace ZK := hid ((((Below.refl X4.heap.size X4).alloc (Nat.le_refl _) (.cells #[.int .i64 0, .int .i64 0, .int .i64 0, .slice none 0 0] 31)).drew).trans (hb.mono (((Below.refl X4.heap.size X4).alloc (Nat.le_refl _) (.cells #[.int .i64 0, .int .i64 0, .int .i64 0, .slice none 0 0] 31)).drew).size)); clear hb))) | (go_at_call 35; (first | ((with_reducible refine (HIP.out s2 _ ((Hx_4.out.go (ZK.out)).pvr HS2.out)).mono ?_); rintro e wz1 ⟨⟨sn, rfl, hsn, hon⟩, hb⟩; have ZS := hid (ZK.out).size; (try (have ZL := hid ZB.out.lt)); (try replace ZB := hid (ZB.out.go hb)); (try have cB := (fun (o : Nat) => ZB.out.cell o)); (try have fB := (fun (o : Nat) => ZB.out.frz o)); have HSn := hid hsn; have HOn := hid hon; clear hsn hon; replace ZK := hid ((ZK.out).trans (hb.mono (ZK.out).size)); clear hb) | ((with_reducible refine (HIP.out s2 _ ((Hx_4.out.go ((ZK.out.alloc ZK.out.size (.cells #[.int .i64 0, .int .i64 0, .int .i64 0, .slice none 0 0] 31)))).pvr HS2.out)).mono ?_); rintro e wz1 ⟨⟨sn, rfl, hsn, hon⟩, hb⟩; have ZS := hid ((ZK.out.alloc ZK.out.size (.cells #[.int .i64 0, .int .i64 0, .int .i64 0, .slice none 0 0] 31))).size; have ZQ := hid ZK.out.size; have ZB := hid ((Blk.new _ #[.int .i64 0, .int .i64 0, .int .i64 0, .slice none 0 0] 31).go hb); have ZL := hid (new_lt hb); (try have cB := (fun (o : Nat) => ZB.out.cell o)); (try have fB := (fun (o : Nat) => ZB.out.frz o)); have HSn := hid hsn; have HOn := hid hon; clear hsn hon; replace ZK := hid (((ZK.out.alloc ZK.out.size (.cells #[.int .i64 0, .int .i64 0, .int .i64 0, .slice none 0 0] 31))).trans (hb.mono ((ZK.out.alloc ZK.out.size (.cells #[.int .i64 0, .int .i64 0, .int .i64 0, .slice none 0 0] 31))).size)); clear hb) | ((with_reducible refine (HIP.out s2 _ ((Hx_4.out.go (((Below.refl X4.heap.size X4).alloc (Nat.le_refl _) (.cells #[.int .i64 0, .int .i64 0, .int .i64 0, .slice none 0 0] 31)).drew)).pvr HS2.out)).mono ?_); rintro e wz1 ⟨⟨sn, rfl, hsn, hon⟩, hb⟩; have ZS := hid (((Below.refl X4.heap.size X4).alloc (Nat.le_refl _) (.cells #[.int .i64 0, .int .i64 0, .int .i64 0, .slice none 0 0] 31)).drew).size; have ZQ := hid (Nat.le_refl X4.heap.size); have ZB := hid ((Blk.new _ #[.int .i64 0, .int .i64 0, .int .i64 0, .slice none 0 0] 31).draw1.go hb); have ZL := hid (new_lt1 hb); (try have cB := (fun (o : Nat) => ZB.out.cell o)); (try have fB := (fun (o : Nat) => ZB.out.frz o)); have HSn := hid hsn; have HOn := hid hon; clear hsn hon; replace ZK := hid ((((Below.refl X4.heap.size X4).alloc (Nat.le_refl _) (.cells #[.int .i64 0, .int .i64 0, .int .i64 0, .slice none 0 0] 31)).drew).trans (hb.mono (((Below.refl X4.heap.size X4).alloc (Nat.le_refl _) (.cells #[.int .i64 0, .int .i64 0, .int .i64 0, .slice none 0 0] 31)).drew).size)); clear hb))))
        all_goals
          go_wp2
          go_meet
          case rel =>
            first
              | with_reducible exact ⟨_, sn, rfl, HSn.out, PcAt.mkA (HOn.out.base_le ZS.out) ZK.out.size, ZK.out.alloc ZK.out.size _⟩
              | with_reducible exact ⟨_, sn, rfl, HSn.out, PcAt.late ZB.out HOn.out ZL.out ZQ.out, ((((ZK.out.setCell ZQ.out _).setCell ZQ.out _).setCell ZQ.out _).setCell ZQ.out _)⟩
      case rest =>
        obtain ⟨qg, sg, rfl, hsg, hpg, hb⟩ := hcut
        rename World => w5
        have HK_5 := hid (HK_4.out.go hb)
        have HKb_5 := hid (HKb_4.out.go hb)
        have Hw_5 := hid (Hw_4.out.go hb)
        have Hx_5 := hid (Hx_4.out.go hb)
        have HB5 := hid (HB4.out.trans (hb.mono HB4.out.size))
        have izg := hb.size
        clear hb
        have Hg_5 := hid hpg
        have HSg := hid hsg
        clear hpg hsg
        try clear c_K l_K
        have c_K := fun (o : Nat) => (HK_5.out).cell o
        have l_K := (HK_5.out).lt
        try clear c_Kb l_Kb
        have c_Kb := fun (o : Nat) => (HKb_5.out).cell o
        have l_Kb := (HKb_5.out).lt
        try clear c_w l_w
        have c_w := fun (o : Nat) => (Hw_5.out.1).cell o
        have l_w := (Hw_5.out.1).lt
        try clear c_x l_x
        have c_x := fun (o : Nat) => (Hx_5.out.1).cell o
        have l_x := (Hx_5.out.1).lt
        try clear c_g l_g
        have c_g := fun (o : Nat) => (Hg_5.out.1).cell o
        have l_g := (Hg_5.out.1).lt
        go_wp2_with fail
        refine (eqPiece_c r sg sw _ (Hg_5.out.pvr HSg.out) (Hw_5.out.pvr HSw.out)).mono ?_
        rintro e w6 ⟨rfl, hb⟩
        have HK_6 := hid (HK_5.out.go hb)
        have HKb_6 := hid (HKb_5.out.go hb)
        have Hw_6 := hid (Hw_5.out.go hb)
        have Hx_6 := hid (Hx_5.out.go hb)
        have Hg_6 := hid (Hg_5.out.go hb)
        have HB6 := hid (HB5.out.trans (hb.mono HB5.out.size))
        clear hb
        try clear c_K l_K
        have c_K := fun (o : Nat) => (HK_6.out).cell o
        have l_K := (HK_6.out).lt
        try clear c_Kb l_Kb
        have c_Kb := fun (o : Nat) => (HKb_6.out).cell o
        have l_Kb := (HKb_6.out).lt
        try clear c_w l_w
        have c_w := fun (o : Nat) => (Hw_6.out.1).cell o
        have l_w := (Hw_6.out.1).lt
        try clear c_x l_x
        have c_x := fun (o : Nat) => (Hx_6.out.1).cell o
        have l_x := (Hx_6.out.1).lt
        try clear c_g l_g
        have c_g := fun (o : Nat) => (Hg_6.out.1).cell o
        have l_g := (Hg_6.out.1).lt
        go_wp2
        have ZK := hid ((Below.refl _ _).drew : Below w6.heap.size w6 w6.drew)
        go_region_held3 (fun w' => ∀ b o, b < w6.heap.size → w'.cell? ⟨b, o, none⟩ = w6.cell? ⟨b, o, none⟩) (exact fun b o h => ZK.out.cell (p := ⟨b, o, none⟩) h)
          (first | (go_at_call 16; ((with_reducible refine (toPiece_c p s _ (HP.out _ (HB6.out.trans (ZK.out.mono HB6.out.size))) HT.out).mono ?_); rintro e wA ⟨s3, rfl, hs3, hod3, hb⟩; have HP3 := hid (Own.pvr hs3 hod3); replace ZK := hid (ZK.out.trans (hb.mono ZK.out.size)); clear hb hs3 hod3)) | (go_at_call 19; ((with_reducible refine (eqPiece_c p s2 s3 _ ((Hx_6.out.go ZK.out).pvr HS2.out) HP3.out).mono ?_); rintro e wB ⟨rfl, hb⟩; replace ZK := hid (ZK.out.trans (hb.mono ZK.out.size)); clear hb)))
        have hb := ZK.out
        have HK_7 := hid (HK_6.out.go hb)
        have HKb_7 := hid (HKb_6.out.go hb)
        have Hw_7 := hid (Hw_6.out.go hb)
        have Hx_7 := hid (Hx_6.out.go hb)
        have Hg_7 := hid (Hg_6.out.go hb)
        have HB7 := hid (HB6.out.trans (hb.mono HB6.out.size))
        clear hb ZK
        try clear c_K l_K
        have c_K := fun (o : Nat) => (HK_7.out).cell o
        have l_K := (HK_7.out).lt
        try clear c_Kb l_Kb
        have c_Kb := fun (o : Nat) => (HKb_7.out).cell o
        have l_Kb := (HKb_7.out).lt
        try clear c_w l_w
        have c_w := fun (o : Nat) => (Hw_7.out.1).cell o
        have l_w := (Hw_7.out.1).lt
        try clear c_x l_x
        have c_x := fun (o : Nat) => (Hx_7.out.1).cell o
        have l_x := (Hx_7.out.1).lt
        try clear c_g l_g
        have c_g := fun (o : Nat) => (Hg_7.out.1).cell o
        have l_g := (Hg_7.out.1).lt
        go_wp2_with fail
        refine (markPiece_c p s2 _ 1 _ Hx_7.out.2.1 hltp (by omega) (by omega)).mono ?_
        rintro e w8 ⟨rfl, ho, hg⟩
        have HK_8 := hid (HK_7.out.kept_lo hg (fun k hk => by have := (Hx_7.out.rows k hk).1; omega))
        have HKb_8 := hid (HKb_7.out.kept_lo hg (fun k hk => by have := (Hx_7.out.rows k hk).1; omega))
        have Hw_8 := hid (Hw_7.out.kept_hi hg (fun k hk => by have := (Hx_7.out.rows k hk).1; omega))
        have Hx_8 := hid (Hx_7.out.mark ho hg)
        have Hg_8 := hid (Hg_7.out.kept_lo hg (fun k hk => by have := (Hx_7.out.rows k hk).2; omega))
        have HB8 := hid (HB7.out.grown hg HB7.out.size (fun k hk => by have := (Hx_7.out.rows k hk).1; omega))
        clear hg ho
        try clear c_K l_K
        have c_K := fun (o : Nat) => (HK_8.out).cell o
        have l_K := (HK_8.out).lt
        try clear c_Kb l_Kb
        have c_Kb := fun (o : Nat) => (HKb_8.out).cell o
        have l_Kb := (HKb_8.out).lt
        try clear c_w l_w
        have c_w := fun (o : Nat) => (Hw_8.out.1).cell o
        have l_w := (Hw_8.out.1).lt
        try clear c_x l_x
        have c_x := fun (o : Nat) => (Hx_8.out.1).cell o
        have l_x := (Hx_8.out.1).lt
        try clear c_g l_g
        have c_g := fun (o : Nat) => (Hg_8.out.1).cell o
        have l_g := (Hg_8.out.1).lt
        go_wp2_with fail
        refine (eqPiece_c r sg sw _ (Hg_8.out.pvr HSg.out) (Hw_8.out.pvr HSw.out)).mono ?_
        rintro e w9 ⟨rfl, hb⟩
        have HK_9 := hid (HK_8.out.go hb)
        have HKb_9 := hid (HKb_8.out.go hb)
        have Hw_9 := hid (Hw_8.out.go hb)
        have Hx_9 := hid (Hx_8.out.go hb)
        have Hg_9 := hid (Hg_8.out.go hb)
        have HB9 := hid (HB8.out.trans (hb.mono HB8.out.size))
        clear hb
        try clear c_K l_K
        have c_K := fun (o : Nat) => (HK_9.out).cell o
        have l_K := (HK_9.out).lt
        try clear c_Kb l_Kb
        have c_Kb := fun (o : Nat) => (HKb_9.out).cell o
        have l_Kb := (HKb_9.out).lt
        try clear c_w l_w
        have c_w := fun (o : Nat) => (Hw_9.out.1).cell o
        have l_w := (Hw_9.out.1).lt
        try clear c_x l_x
        have c_x := fun (o : Nat) => (Hx_9.out.1).cell o
        have l_x := (Hx_9.out.1).lt
        try clear c_g l_g
        have c_g := fun (o : Nat) => (Hg_9.out.1).cell o
        have l_g := (Hg_9.out.1).lt
        go_wp2_with fail
        refine (markPiece_c r sg _ 1 _ Hg_9.out.2.1 hlt6 (by omega) (by omega)).mono ?_
        rintro e w10 ⟨rfl, ho, hg⟩
        have HK_10 := hid (HK_9.out.kept_lo hg (fun k hk => by have := (Hg_9.out.rows k hk).1; omega))
        have HKb_10 := hid (HKb_9.out.kept_lo hg (fun k hk => by have := (Hg_9.out.rows k hk).1; omega))
        have Hw_10 := hid (Hw_9.out.kept_hi hg (fun k hk => by have := (Hg_9.out.rows k hk).1; omega))
        have Hx_10 := hid (Hx_9.out.kept_hi hg (fun k hk => by have := (Hg_9.out.rows k hk).1; omega))
        have Hg_10 := hid (Hg_9.out.mark ho hg)
        have HB10 := hid (HB9.out.grown hg HB9.out.size (fun k hk => by have := (Hg_9.out.rows k hk).1; omega))
        clear hg ho
        try clear c_K l_K
        have c_K := fun (o : Nat) => (HK_10.out).cell o
        have l_K := (HK_10.out).lt
        try clear c_Kb l_Kb
        have c_Kb := fun (o : Nat) => (HKb_10.out).cell o
        have l_Kb := (HKb_10.out).lt
        try clear c_w l_w
        have c_w := fun (o : Nat) => (Hw_10.out.1).cell o
        have l_w := (Hw_10.out.1).lt
        try clear c_x l_x
        have c_x := fun (o : Nat) => (Hx_10.out.1).cell o
        have l_x := (Hx_10.out.1).lt
        try clear c_g l_g
        have c_g := fun (o : Nat) => (Hg_10.out.1).cell o
        have l_g := (Hg_10.out.1).lt
        go_wp2_with fail
        refine (heldPiece_c sg 1 r.f.length _ Hg_10.out.2.1.rowB hlt6 (by omega) (by omega)).mono ?_
        rintro e w11 ⟨rfl, hb⟩
        have HK_11 := hid (HK_10.out.go hb)
        have HKb_11 := hid (HKb_10.out.go hb)
        have Hw_11 := hid (Hw_10.out.go hb)
        have Hx_11 := hid (Hx_10.out.go hb)
        have Hg_11 := hid (Hg_10.out.go hb)
        have HB11 := hid (HB10.out.trans (hb.mono HB10.out.size))
        clear hb
        try clear c_K l_K
        have c_K := fun (o : Nat) => (HK_11.out).cell o
        have l_K := (HK_11.out).lt
        try clear c_Kb l_Kb
        have c_Kb := fun (o : Nat) => (HKb_11.out).cell o
        have l_Kb := (HKb_11.out).lt
        try clear c_w l_w
        have c_w := fun (o : Nat) => (Hw_11.out.1).cell o
        have l_w := (Hw_11.out.1).lt
        try clear c_x l_x
        have c_x := fun (o : Nat) => (Hx_11.out.1).cell o
        have l_x := (Hx_11.out.1).lt
        try clear c_g l_g
        have c_g := fun (o : Nat) => (Hg_11.out.1).cell o
        have l_g := (Hg_11.out.1).lt
        go_upto_region 25 with (fail)
        go_cut [14] (fun pv wx => ∃ (q : Nat) (s' : Ps), pv = .pointer (some ⟨q, 0, none⟩) ∧ s'.same r ∧ PcAt (w11.heap.size) wx.heap.size wx q s' r.f ∧ Below w11.heap.size w11 wx)
        case first =>
          have ZK := hid ((Below.refl _ _).drew : Below w11.heap.size w11 w11.drew)
          have ZQ := hid (Nat.le_refl w11.heap.size)
          go_region_held3 (fun w' => ∀ b o, b < w11.heap.size → w'.cell? ⟨b, o, none⟩ = w11.cell? ⟨b, o, none⟩) (first | with_reducible exact fun b o h => (ZK.out).cell (p := ⟨b, o, none⟩) h | with_reducible exact fun b o h => ((ZK.out.alloc ZK.out.size (.cells #[.int .i64 0, .int .i64 0, .int .i64 0, .slice none 0 0] 31))).cell (p := ⟨b, o, none⟩) h | with_reducible exact fun b o h => (((Below.refl w11.heap.size w11).alloc (Nat.le_refl _) (.cells #[.int .i64 0, .int .i64 0, .int .i64 0, .slice none 0 0] 31)).drew).cell (p := ⟨b, o, none⟩) h | with_reducible exact fun b o h => (ZK.out.alloc ZK.out.size _).cell (p := ⟨b, o, none⟩) h | with_reducible exact fun b o h => ((ZK.out.setCell ZQ.out _)).cell (p := ⟨b, o, none⟩) h | with_reducible exact fun b o h => (((ZK.out.setCell ZQ.out _).setCell ZQ.out _)).cell (p := ⟨b, o, none⟩) h | with_reducible exact fun b o h => ((((ZK.out.setCell ZQ.out _).setCell ZQ.out _).setCell ZQ.out _)).cell (p := ⟨b, o, none⟩) h | with_reducible exact fun b o h => (((((ZK.out.setCell ZQ.out _).setCell ZQ.out _).setCell ZQ.out _).setCell ZQ.out _)).cell (p := ⟨b, o, none⟩) h)
            (first | (go_at_call 16; (first | ((with_reducible refine (toPiece_c p s _ (HP.out _ (HB11.out.trans ((ZK.out).mono HB11.out.size))) HT.out).mono ?_); rintro e wz0 ⟨s1, rfl, hs1, hod1, hb⟩; (try replace ZB := hid (ZB.out.go hb)); have HP1 := hid (Own.pvr hs1 hod1); have Z1 := hid (Below.refl wz0.heap.size wz0); clear hs1 hod1; replace ZK := hid ((ZK.out).trans (hb.mono (ZK.out).size)); clear hb) | ((with_reducible refine (toPiece_c p s _ (HP.out _ (HB11.out.trans (((ZK.out.alloc ZK.out.size (.cells #[.int .i64 0, .int .i64 0, .int .i64 0, .slice none 0 0] 31))).mono HB11.out.size))) HT.out).mono ?_); rintro e wz0 ⟨s1, rfl, hs1, hod1, hb⟩; have ZQ := hid ZK.out.size; have ZB := hid ((Blk.new _ #[.int .i64 0, .int .i64 0, .int .i64 0, .slice none 0 0] 31).go hb); have HP1 := hid (Own.pvr hs1 hod1); have Z1 := hid (Below.refl wz0.heap.size wz0); clear hs1 hod1; replace ZK := hid (((ZK.out.alloc ZK.out.size (.cells #[.int .i64 0, .int .i64 0, .int .i64 0, .slice none 0 0] 31))).trans (hb.mono ((ZK.out.alloc ZK.out.size (.cells #[.int .i64 0, .int .i64 0, .int .i64 0, .slice none 0 0] 31))).size)); clear hb) | ((with_reducible refine (toPiece_c p s _ (HP.out _ (HB11.out.trans ((((Below.refl w11.heap.size w11).alloc (Nat.le_refl _) (.cells #[.int .i64 0, .int .i64 0, .int .i64 0, .slice none 0 0] 31)).drew).mono HB11.out.size))) HT.out).mono ?_); rintro e wz0 ⟨s1, rfl, hs1, hod1, hb⟩; have ZQ := hid (Nat.le_refl w11.heap.size); have ZB := hid ((Blk.new _ #[.int .i64 0, .int .i64 0, .int .i64 0, .slice none 0 0] 31).draw1.go hb); have HP1 := hid (Own.pvr hs1 hod1); have Z1 := hid (Below.refl wz0.heap.size wz0); clear hs1 hod1; replace ZK := hid ((((Below.refl w11.heap.size w11).alloc (Nat.le_refl _) (.cells #[.int .i64 0, .int .i64 0, .int .i64 0, .slice none 0 0] 31)).drew).trans (hb.mono (((Below.refl w11.heap.size w11).alloc (Nat.le_refl _) (.cells #[.int .i64 0, .int .i64 0, .int .i64 0, .slice none 0 0] 31)).drew).size)); clear hb))) | (go_at_call 17; (first | ((with_reducible refine (toBox_c b _).mono ?_); rintro e wz1 ⟨rfl, hb⟩; (try replace ZB := hid (ZB.out.go hb)); (try replace Z1 := hid (Z1.out.trans (hb.mono (Z1.out).size))); replace ZK := hid ((ZK.out).trans (hb.mono (ZK.out).size)); clear hb) | ((with_reducible refine (toBox_c b _).mono ?_); rintro e wz1 ⟨rfl, hb⟩; have ZQ := hid ZK.out.size; have ZB := hid ((Blk.new _ #[.int .i64 0, .int .i64 0, .int .i64 0, .slice none 0 0] 31).go hb); (try replace Z1 := hid ((Z1.out.alloc Z1.out.size (.cells #[.int .i64 0, .int .i64 0, .int .i64 0, .slice none 0 0] 31)).trans (hb.mono ((Z1.out.alloc Z1.out.size (.cells #[.int .i64 0, .int .i64 0, .int .i64 0, .slice none 0 0] 31))).size))); replace ZK := hid (((ZK.out.alloc ZK.out.size (.cells #[.int .i64 0, .int .i64 0, .int .i64 0, .slice none 0 0] 31))).trans (hb.mono ((ZK.out.alloc ZK.out.size (.cells #[.int .i64 0, .int .i64 0, .int .i64 0, .slice none 0 0] 31))).size)); clear hb) | ((with_reducible refine (toBox_c b _).mono ?_); rintro e wz1 ⟨rfl, hb⟩; have ZQ := hid (Nat.le_refl w11.heap.size); have ZB := hid ((Blk.new _ #[.int .i64 0, .int .i64 0, .int .i64 0, .slice none 0 0] 31).draw1.go hb); (try replace Z1 := hid (Z1.out.trans (hb.mono (Z1.out).size))); replace ZK := hid ((((Below.refl w11.heap.size w11).alloc (Nat.le_refl _) (.cells #[.int .i64 0, .int .i64 0, .int .i64 0, .slice none 0 0] 31)).drew).trans (hb.mono (((Below.refl w11.heap.size w11).alloc (Nat.le_refl _) (.cells #[.int .i64 0, .int .i64 0, .int .i64 0, .slice none 0 0] 31)).drew).size)); clear hb))) | (go_at_call 35; (first | ((with_reducible refine (HIP.out s1 _ (HP1.out.go Z1.out)).mono ?_); rintro e wz2 ⟨⟨sn, rfl, hsn, hon⟩, hb⟩; have ZS := hid (ZK.out).size; (try (have ZL := hid ZB.out.lt)); (try replace ZB := hid (ZB.out.go hb)); (try have cB := (fun (o : Nat) => ZB.out.cell o)); (try have fB := (fun (o : Nat) => ZB.out.frz o)); have HSn := hid hsn; have HOn := hid hon; clear hsn hon; replace ZK := hid ((ZK.out).trans (hb.mono (ZK.out).size)); clear hb) | ((with_reducible refine (HIP.out s1 _ (HP1.out.go (Z1.out.alloc Z1.out.size (.cells #[.int .i64 0, .int .i64 0, .int .i64 0, .slice none 0 0] 31)))).mono ?_); rintro e wz2 ⟨⟨sn, rfl, hsn, hon⟩, hb⟩; have ZS := hid ((ZK.out.alloc ZK.out.size (.cells #[.int .i64 0, .int .i64 0, .int .i64 0, .slice none 0 0] 31))).size; have ZQ := hid ZK.out.size; have ZB := hid ((Blk.new _ #[.int .i64 0, .int .i64 0, .int .i64 0, .slice none 0 0] 31).go hb); have ZL := hid (new_lt hb); (try have cB := (fun (o : Nat) => ZB.out.cell o)); (try have fB := (fun (o : Nat) => ZB.out.frz o)); have HSn := hid hsn; have HOn := hid hon; clear hsn hon; replace ZK := hid (((ZK.out.alloc ZK.out.size (.cells #[.int .i64 0, .int .i64 0, .int .i64 0, .slice none 0 0] 31))).trans (hb.mono ((ZK.out.alloc ZK.out.size (.cells #[.int .i64 0, .int .i64 0, .int .i64 0, .slice none 0 0] 31))).size)); clear hb) | ((with_reducible refine (HIP.out s1 _ (HP1.out.go Z1.out)).mono ?_); rintro e wz2 ⟨⟨sn, rfl, hsn, hon⟩, hb⟩; have ZS := hid (((Below.refl w11.heap.size w11).alloc (Nat.le_refl _) (.cells #[.int .i64 0, .int .i64 0, .int .i64 0, .slice none 0 0] 31)).drew).size; have ZQ := hid (Nat.le_refl w11.heap.size); have ZB := hid ((Blk.new _ #[.int .i64 0, .int .i64 0, .int .i64 0, .slice none 0 0] 31).draw1.go hb); have ZL := hid (new_lt1 hb); (try have cB := (fun (o : Nat) => ZB.out.cell o)); (try have fB := (fun (o : Nat) => ZB.out.frz o)); have HSn := hid hsn; have HOn := hid hon; clear hsn hon; replace ZK := hid ((((Below.refl w11.heap.size w11).alloc (Nat.le_refl _) (.cells #[.int .i64 0, .int .i64 0, .int .i64 0, .slice none 0 0] 31)).drew).trans (hb.mono (((Below.refl w11.heap.size w11).alloc (Nat.le_refl _) (.cells #[.int .i64 0, .int .i64 0, .int .i64 0, .slice none 0 0] 31)).drew).size)); clear hb))))
          all_goals
            go_wp2
            go_meet
            case rel =>
              first
                | with_reducible exact ⟨_, sn, rfl, HSn.out, PcAt.mkA (HOn.out.base_le ZS.out) ZK.out.size, ZK.out.alloc ZK.out.size _⟩
                | with_reducible exact ⟨_, sn, rfl, HSn.out, PcAt.late ZB.out HOn.out ZL.out ZQ.out, ((((ZK.out.setCell ZQ.out _).setCell ZQ.out _).setCell ZQ.out _).setCell ZQ.out _)⟩
        case rest =>
          obtain ⟨qh, sh, rfl, hsh, hph, hb⟩ := hcut
          rename World => w12
          have HK_12 := hid (HK_11.out.go hb)
          have HKb_12 := hid (HKb_11.out.go hb)
          have Hw_12 := hid (Hw_11.out.go hb)
          have Hx_12 := hid (Hx_11.out.go hb)
          have Hg_12 := hid (Hg_11.out.go hb)
          have HB12 := hid (HB11.out.trans (hb.mono HB11.out.size))
          have izh := hb.size
          clear hb
          have Hh_12 := hid hph
          have HSh := hid hsh
          clear hph hsh
          try clear c_K l_K
          have c_K := fun (o : Nat) => (HK_12.out).cell o
          have l_K := (HK_12.out).lt
          try clear c_Kb l_Kb
          have c_Kb := fun (o : Nat) => (HKb_12.out).cell o
          have l_Kb := (HKb_12.out).lt
          try clear c_w l_w
          have c_w := fun (o : Nat) => (Hw_12.out.1).cell o
          have l_w := (Hw_12.out.1).lt
          try clear c_x l_x
          have c_x := fun (o : Nat) => (Hx_12.out.1).cell o
          have l_x := (Hx_12.out.1).lt
          try clear c_g l_g
          have c_g := fun (o : Nat) => (Hg_12.out.1).cell o
          have l_g := (Hg_12.out.1).lt
          try clear c_h l_h
          have c_h := fun (o : Nat) => (Hh_12.out.1).cell o
          have l_h := (Hh_12.out.1).lt
          go_wp2_with fail
          refine (eqPiece_c r sh sw _ (Hh_12.out.pvr HSh.out) (Hw_12.out.pvr HSw.out)).mono ?_
          rintro e w13 ⟨rfl, hb⟩
          have HK_13 := hid (HK_12.out.go hb)
          have HKb_13 := hid (HKb_12.out.go hb)
          have Hw_13 := hid (Hw_12.out.go hb)
          have Hx_13 := hid (Hx_12.out.go hb)
          have Hg_13 := hid (Hg_12.out.go hb)
          have Hh_13 := hid (Hh_12.out.go hb)
          have HB13 := hid (HB12.out.trans (hb.mono HB12.out.size))
          clear hb
          try clear c_K l_K
          have c_K := fun (o : Nat) => (HK_13.out).cell o
          have l_K := (HK_13.out).lt
          try clear c_Kb l_Kb
          have c_Kb := fun (o : Nat) => (HKb_13.out).cell o
          have l_Kb := (HKb_13.out).lt
          try clear c_w l_w
          have c_w := fun (o : Nat) => (Hw_13.out.1).cell o
          have l_w := (Hw_13.out.1).lt
          try clear c_x l_x
          have c_x := fun (o : Nat) => (Hx_13.out.1).cell o
          have l_x := (Hx_13.out.1).lt
          try clear c_g l_g
          have c_g := fun (o : Nat) => (Hg_13.out.1).cell o
          have l_g := (Hg_13.out.1).lt
          try clear c_h l_h
          have c_h := fun (o : Nat) => (Hh_13.out.1).cell o
          have l_h := (Hh_13.out.1).lt
          go_wp2_with fail
          refine (heldPiece_c sg 1 r.f.length _ Hg_13.out.2.1.rowB hlt6 (by omega) (by omega)).mono ?_
          rintro e w14 ⟨rfl, hb⟩
          have HK_14 := hid (HK_13.out.go hb)
          have HKb_14 := hid (HKb_13.out.go hb)
          have Hw_14 := hid (Hw_13.out.go hb)
          have Hx_14 := hid (Hx_13.out.go hb)
          have Hg_14 := hid (Hg_13.out.go hb)
          have Hh_14 := hid (Hh_13.out.go hb)
          have HB14 := hid (HB13.out.trans (hb.mono HB13.out.size))
          clear hb
          try clear c_K l_K
          have c_K := fun (o : Nat) => (HK_14.out).cell o
          have l_K := (HK_14.out).lt
          try clear c_Kb l_Kb
          have c_Kb := fun (o : Nat) => (HKb_14.out).cell o
          have l_Kb := (HKb_14.out).lt
          try clear c_w l_w
          have c_w := fun (o : Nat) => (Hw_14.out.1).cell o
          have l_w := (Hw_14.out.1).lt
          try clear c_x l_x
          have c_x := fun (o : Nat) => (Hx_14.out.1).cell o
          have l_x := (Hx_14.out.1).lt
          try clear c_g l_g
          have c_g := fun (o : Nat) => (Hg_14.out.1).cell o
          have l_g := (Hg_14.out.1).lt
          try clear c_h l_h
          have c_h := fun (o : Nat) => (Hh_14.out.1).cell o
          have l_h := (Hh_14.out.1).lt
          go_wp2
          go_ret
          exact ⟨rfl, HB14.out⟩
  · have HE := hid hle
    go_enter Try.func8, Try.ntmps8
    go_wp2_with fail
    refine (szPiece_f p s 1048576 _ (HP.out _ HB0.out) (by omega) (by omega) (by omega)).mono ?_
    rintro e w1 ⟨rfl, hb⟩
    have HB1 := hid (HB0.out.trans (hb.mono HB0.out.size))
    clear hb
    go_wp2
    go_ret
    exact ⟨rfl, HB1.out⟩

end Go.Proofs.Ytpicbkakghojnaa
