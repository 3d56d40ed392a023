/-
  The law FnCutOut, walked (written by a program of mine).
-/
import Derived.Test.YtpicbkakghojnaaEqPc
import Derived.Test.YtpicbkakghojnaaLawFnClearAt
import Derived.Test.YtpicbkakghojnaaLawClearAt
namespace Go.Proofs.Ytpicbkakghojnaa
set_option linter.unusedSimpArgs false
set_option linter.unusedVariables false
open Go.RowKit

set_option maxHeartbeats 12800000 in
set_option maxRecDepth 100000 in
theorem FnCutOut_c (v : Value) (L : List Int) (w : World) (h : Row byteE w v L ∧ ∀ x ∈ L, 0 ≤ x ∧ x ≤ 255) : Calls Try.prog 11 #[v] w fun e w' => e = .returned (.bool true) ∧ Below w.heap.size w w' := by
  obtain ⟨h, hb⟩ := h
  obtain ⟨A, c, rfl, hc1, hm1⟩ := h.form
  unfold maxLen at hm1
  by_cases hle : 1048576 < L.length
  · have hd : decide ((1048576 : Int) < (L.length : Int)) = true := by simp; omega
    go_enter Try.func11, Try.ntmps11
    go_wp2
    go_ret
    exact ⟨rfl, Below.refl _ _⟩
  · have hd : decide ((1048576 : Int) < (L.length : Int)) = false := by simp; omega
    have HH := hid h
    have HB := hid hb
    clear h hb hle
    go_enter Try.func11, Try.ntmps11
    go_wp2_with fail
    refine (DrawCutOut_c _ L _ HH.out HB.out).mono ?_
    rintro e w1 ⟨p, s, b, l, rfl, -, ⟨l0, l1⟩, hs, ht, ho, hb⟩
    have HS := hid hs
    have HI := hid (tP_I64 ht)
    have HB1 := hid ((hb.alloc hb.size (.cells #[.int .i64 s.l, .int .i64 s.w, .int .i64 s.h, .slice s.ka s.kn s.kc] 31)).alloc (Nat.le_trans hb.size (by simp)) (.cells #[.int .i64 b.x, .int .i64 b.y, .int .i64 b.w, .int .i64 b.h] 33))
    have hsz := hb.size
    have Hp := hid (PcAt.mk_ ho hsz)
    have Hp_1 := hid (Hp.out.go ((Below.refl _ _).alloc (Nat.le_refl _) (.cells #[.int .i64 b.x, .int .i64 b.y, .int .i64 b.w, .int .i64 b.h] 33)))
    have Hb_1 := hid (show Blk ((w1.alloc (.cells #[.int .i64 s.l, .int .i64 s.w, .int .i64 s.h, .slice s.ka s.kn s.kc] 31)).alloc (.cells #[.int .i64 b.x, .int .i64 b.y, .int .i64 b.w, .int .i64 b.h] 33)) (w1.heap.size + 1) #[.int .i64 b.x, .int .i64 b.y, .int .i64 b.w, .int .i64 b.h] 33 by
      have := Blk.new (w1.alloc (.cells #[.int .i64 s.l, .int .i64 s.w, .int .i64 s.h, .slice s.ka s.kn s.kc] 31)) #[.int .i64 b.x, .int .i64 b.y, .int .i64 b.w, .int .i64 b.h] 33
      rw [World.size_alloc] at this
      exact this)
    have HCP := hid (fun w hp => sCutOut_c p s b l w hp HI.out.1 HI.out.2)
    have HR1 := hid (fun h : coOk p b l => coR_coR h)
    have HR2 := hid (fun h : coOk p b l => coR_valid h)
    have HRW := hid (coR_w (p := p) (b := b) (l := l))
    obtain ⟨r, hr⟩ : ∃ r, r = coR p b l := ⟨_, rfl⟩
    rw [← hr] at HR1 HR2 HRW
    have HCI := hid (fun w hp => CutOut_c p s b l w hp)
    simp only [← hr] at HCP HCI
    have HRR := hid hr
    clear hs ht ho hb Hp hr
    go_wp2_with fail
    refine (HCI.out _ (Hp_1.out.pvr HS.out)).mono ?_
    rintro e w2 ⟨⟨s2, rfl, hs2, ho2⟩, hb⟩
    have HS2 := hid hs2
    have HO2 := hid (ho2.base_le (base' := w1.heap.size) (by simp; omega))
    have i2 := hb.size
    have i3 : w1.heap.size ≤ w2.heap.size := by simp at i2; omega
    clear hs2 ho2 i2
    have Hp_2 := hid (Hp_1.out.go hb)
    have Hb_2 := hid (Hb_1.out.go hb)
    have HB2 := hid (HB1.out.trans (hb.mono HB1.out.size))
    clear hb
    try clear c_p l_p
    have c_p := fun (o : Nat) => (Hp_2.out.1).cell o
    have l_p := (Hp_2.out.1).lt
    try clear c_b l_b
    have c_b := fun (o : Nat) => (Hb_2.out).cell o
    have l_b := (Hb_2.out).lt
    have hsz_o : w1.heap.size ≤ w2.heap.size := i3
    have Hp_3 := hid (Hp_2.out.go ((Below.refl _ _).alloc (Nat.le_refl _) (.cells #[.int .i64 s2.l, .int .i64 s2.w, .int .i64 s2.h, .slice s2.ka s2.kn s2.kc] 31)))
    have Hb_3 := hid (Hb_2.out.go ((Below.refl _ _).alloc (Nat.le_refl _) (.cells #[.int .i64 s2.l, .int .i64 s2.w, .int .i64 s2.h, .slice s2.ka s2.kn s2.kc] 31)))
    have HB3 := hid (HB2.out.trans (((Below.refl _ _).alloc (Nat.le_refl _) (.cells #[.int .i64 s2.l, .int .i64 s2.w, .int .i64 s2.h, .slice s2.ka s2.kn s2.kc] 31)).mono HB2.out.size))
    have Ho_3 := hid (PcAt.mk_ (s := s2) HO2.out hsz_o)
    go_upto_region 5 with (fail)
    obtain ⟨X3, hX3⟩ : ∃ X, X = (w2.alloc (.cells #[.int .i64 s2.l, .int .i64 s2.w, .int .i64 s2.h, .slice s2.ka s2.kn s2.kc] 31)) := ⟨_, rfl⟩
    rw [← hX3] at HB3 Hp_3 Hb_3 Ho_3
    rw [← hX3]
    clear hX3
    try clear c_p l_p
    have c_p := fun (o : Nat) => (Hp_3.out.1).cell o
    have l_p := (Hp_3.out.1).lt
    try clear c_b l_b
    have c_b := fun (o : Nat) => (Hb_3.out).cell o
    have l_b := (Hb_3.out).lt
    try clear c_o l_o
    have c_o := fun (o : Nat) => (Ho_3.out.1).cell o
    have l_o := (Ho_3.out.1).lt
    by_cases hok : coOk p b l
    · have hw0 : (s2.w == 0) = false := by rw [HS2.out.2.1]; simp; exact fun e => (HRW.out.1 e) hok
      have HK := hid hok
      obtain ⟨⟨-, ⟨p1, p2⟩, ⟨p3, p4⟩, -⟩, ⟨⟨b1, b2, b3, b4, b5, b6, b7, b8⟩, -⟩, -⟩ := hok
      have ZK := hid ((Below.refl _ _).drew : Below X3.heap.size X3 X3.drew)
      go_region_held3 (fun w' => ∀ b o, b < X3.heap.size → w'.cell? ⟨b, o, none⟩ = X3.cell? ⟨b, o, none⟩) (exact fun b o h => ZK.out.cell (p := ⟨b, o, none⟩) h)
        (first | (go_at_call 34; ((with_reducible refine (HCP.out _ ((Hp_3.out.go ZK.out).pvr HS.out)).mono ?_); rintro e wa ⟨⟨s3, rfl, hs3, ho3⟩, hb⟩; have HP3 := hid (Own.pvr hs3 ho3); (clear hs3 ho3); replace ZK := hid (ZK.out.trans (hb.mono ZK.out.size)); clear hb)) | (go_at_call 43; ((with_reducible refine (equalPiece_c r s2 s3 _ ((Ho_3.out.go ZK.out).pvr HS2.out) HP3.out).mono ?_); rintro e wB ⟨rfl, hb⟩; replace ZK := hid (ZK.out.trans (hb.mono ZK.out.size)); clear hb)))
      have hb := ZK.out
      have Hp_4 := hid (Hp_3.out.go hb)
      have Hb_4 := hid (Hb_3.out.go hb)
      have Ho_4 := hid (Ho_3.out.go hb)
      have HB4 := hid (HB3.out.trans (hb.mono HB3.out.size))
      clear hb ZK
      try clear c_p l_p
      have c_p := fun (o : Nat) => (Hp_4.out.1).cell o
      have l_p := (Hp_4.out.1).lt
      try clear c_b l_b
      have c_b := fun (o : Nat) => (Hb_4.out).cell o
      have l_b := (Hb_4.out).lt
      try clear c_o l_o
      have c_o := fun (o : Nat) => (Ho_4.out.1).cell o
      have l_o := (Ho_4.out.1).lt
      have hcr := HR1.out HK.out
      have HC1 : Hid (∀ w, PvR w.heap.size w r s2 → Calls Try.prog 35 #[.agg #[.int .i64 s2.l, .int .i64 s2.w, .int .i64 s2.h, .slice s2.ka s2.kn s2.kc], .agg #[.int .i64 (b.w / 3), .int .i64 (b.h / 4), .int .i64 (b.w - b.w / 3), .int .i64 (b.h - b.h / 4)], .int .i64 l] w fun e w' => PcOut w.heap.size (coR r (cIn b) l) e w' ∧ Below w.heap.size w w') := fun w hp => CutOut_c r s2 (cIn b) l w hp
      have HC2 : Hid (∀ w, PvR w.heap.size w p s → Calls Try.prog 35 #[.agg #[.int .i64 s.l, .int .i64 s.w, .int .i64 s.h, .slice s.ka s.kn s.kc], .agg #[.int .i64 (b.x + b.w / 3), .int .i64 (b.y + b.h / 4), .int .i64 (b.w - b.w / 3), .int .i64 (b.h - b.h / 4)], .int .i64 l] w fun e w' => PcOut w.heap.size (coR r (cIn b) l) e w' ∧ Below w.heap.size w w') := fun w hp => by
        rw [hcr]
        exact CutOut_c p s (dIn b) l w hp
      have HC3 : Hid (∀ w, PvR w.heap.size w p s → Calls Try.prog 35 #[.agg #[.int .i64 s.l, .int .i64 s.w, .int .i64 s.h, .slice s.ka s.kn s.kc], .agg #[.int .i64 0, .int .i64 0, .int .i64 s.w, .int .i64 s.h], .int .i64 s.l] w fun e w' => PcOut w.heap.size p e w' ∧ Below w.heap.size w w') := fun w hp => by
        have := CutOut_c p s ⟨0, 0, s.w, s.h⟩ s.l w hp
        rw [hp.1.1, hp.1.2.1, hp.1.2.2, coR_self HK.out.1] at this
        rw [hp.1.1, hp.1.2.1, hp.1.2.2]
        exact this
      have HVP : Hid (∀ w, PvR w.heap.size w r s2 → Calls Try.prog 37 #[.agg #[.int .i64 s2.l, .int .i64 s2.w, .int .i64 s2.h, .slice s2.ka s2.kn s2.kc]] w fun e w' => e = .returned (.bool true) ∧ Below w.heap.size w w') := fun w hp => by
        have := ValidPiece_c r s2 w hp
        rwa [vpB_iff.2 (HR2.out HK.out)] at this
      clear hcr
      generalize coR r (cIn b) l = rc at HC1 HC2
      have Hp_5 := hid (Hp_4.out.go ((Below.refl _ _).alloc (Nat.le_refl _) (.cells #[.int .i64 (b.w / 3), .int .i64 (b.h / 4), .int .i64 (b.w - b.w / 3), .int .i64 (b.h - b.h / 4)] 33)))
      have Hb_5 := hid (Hb_4.out.go ((Below.refl _ _).alloc (Nat.le_refl _) (.cells #[.int .i64 (b.w / 3), .int .i64 (b.h / 4), .int .i64 (b.w - b.w / 3), .int .i64 (b.h - b.h / 4)] 33)))
      have Ho_5 := hid (Ho_4.out.go ((Below.refl _ _).alloc (Nat.le_refl _) (.cells #[.int .i64 (b.w / 3), .int .i64 (b.h / 4), .int .i64 (b.w - b.w / 3), .int .i64 (b.h - b.h / 4)] 33)))
      have HB5 := hid (HB4.out.trans (((Below.refl _ _).alloc (Nat.le_refl _) (.cells #[.int .i64 (b.w / 3), .int .i64 (b.h / 4), .int .i64 (b.w - b.w / 3), .int .i64 (b.h - b.h / 4)] 33)).mono HB4.out.size))
      have Hc_5 := hid (Blk.new wB #[.int .i64 (b.w / 3), .int .i64 (b.h / 4), .int .i64 (b.w - b.w / 3), .int .i64 (b.h - b.h / 4)] 33)
      have Hp_6 := hid (Hp_5.out.go ((Below.refl _ _).alloc (Nat.le_refl _) (.cells #[.int .i64 (b.x + b.w / 3), .int .i64 (b.y + b.h / 4), .int .i64 (b.w - b.w / 3), .int .i64 (b.h - b.h / 4)] 33)))
      have Hb_6 := hid (Hb_5.out.go ((Below.refl _ _).alloc (Nat.le_refl _) (.cells #[.int .i64 (b.x + b.w / 3), .int .i64 (b.y + b.h / 4), .int .i64 (b.w - b.w / 3), .int .i64 (b.h - b.h / 4)] 33)))
      have Ho_6 := hid (Ho_5.out.go ((Below.refl _ _).alloc (Nat.le_refl _) (.cells #[.int .i64 (b.x + b.w / 3), .int .i64 (b.y + b.h / 4), .int .i64 (b.w - b.w / 3), .int .i64 (b.h - b.h / 4)] 33)))
      have Hc_6 := hid (Hc_5.out.go ((Below.refl _ _).alloc (Nat.le_refl _) (.cells #[.int .i64 (b.x + b.w / 3), .int .i64 (b.y + b.h / 4), .int .i64 (b.w - b.w / 3), .int .i64 (b.h - b.h / 4)] 33)))
      have HB6 := hid (HB5.out.trans (((Below.refl _ _).alloc (Nat.le_refl _) (.cells #[.int .i64 (b.x + b.w / 3), .int .i64 (b.y + b.h / 4), .int .i64 (b.w - b.w / 3), .int .i64 (b.h - b.h / 4)] 33)).mono HB5.out.size))
      have Hd_6 := hid (show Blk ((wB.alloc (.cells #[.int .i64 (b.w / 3), .int .i64 (b.h / 4), .int .i64 (b.w - b.w / 3), .int .i64 (b.h - b.h / 4)] 33)).alloc (.cells #[.int .i64 (b.x + b.w / 3), .int .i64 (b.y + b.h / 4), .int .i64 (b.w - b.w / 3), .int .i64 (b.h - b.h / 4)] 33)) (wB.heap.size + 1) #[.int .i64 (b.x + b.w / 3), .int .i64 (b.y + b.h / 4), .int .i64 (b.w - b.w / 3), .int .i64 (b.h - b.h / 4)] 33 by have := Blk.new (wB.alloc (.cells #[.int .i64 (b.w / 3), .int .i64 (b.h / 4), .int .i64 (b.w - b.w / 3), .int .i64 (b.h - b.h / 4)] 33)) #[.int .i64 (b.x + b.w / 3), .int .i64 (b.y + b.h / 4), .int .i64 (b.w - b.w / 3), .int .i64 (b.h - b.h / 4)] 33; rw [World.size_alloc] at this; exact this)
      go_upto_region 9 with (fail)
      obtain ⟨X9, hX9⟩ : ∃ X, X = (wB.alloc (.cells #[.int .i64 (b.w / 3), .int .i64 (b.h / 4), .int .i64 (b.w - b.w / 3), .int .i64 (b.h - b.h / 4)] 33)).alloc (.cells #[.int .i64 (b.x + b.w / 3), .int .i64 (b.y + b.h / 4), .int .i64 (b.w - b.w / 3), .int .i64 (b.h - b.h / 4)] 33) := ⟨_, rfl⟩
      rw [← hX9] at HB6 Hp_6 Hb_6 Ho_6 Hc_6 Hd_6
      rw [← hX9]
      clear hX9
      try clear c_p l_p
      have c_p := fun (o : Nat) => (Hp_6.out.1).cell o
      have l_p := (Hp_6.out.1).lt
      try clear c_b l_b
      have c_b := fun (o : Nat) => (Hb_6.out).cell o
      have l_b := (Hb_6.out).lt
      try clear c_o l_o
      have c_o := fun (o : Nat) => (Ho_6.out.1).cell o
      have l_o := (Ho_6.out.1).lt
      try clear c_c l_c
      have c_c := fun (o : Nat) => (Hc_6.out).cell o
      have l_c := (Hc_6.out).lt
      try clear c_d l_d
      have c_d := fun (o : Nat) => (Hd_6.out).cell o
      have l_d := (Hd_6.out).lt
      have ZK := hid ((Below.refl _ _).drew : Below X9.heap.size X9 X9.drew)
      go_region_held3 (fun w' => ∀ b o, b < X9.heap.size → w'.cell? ⟨b, o, none⟩ = X9.cell? ⟨b, o, none⟩) (exact fun b o h => ZK.out.cell (p := ⟨b, o, none⟩) h)
        (first | (go_at_call 35; (first | ((with_reducible refine (HC1.out _ ((Ho_6.out.go ZK.out).pvr HS2.out)).mono ?_); rintro e wc1 ⟨⟨s3, rfl, hs3, ho3⟩, hb⟩; (try replace HP3 := hid (HP3.out.go hb)); (try replace HP4 := hid (HP4.out.go hb)); (try replace HP5 := hid (HP5.out.go hb)); (have HP3 := hid (Own.pvr hs3 ho3)); (clear hs3 ho3); replace ZK := hid (ZK.out.trans (hb.mono ZK.out.size)); clear hb) | ((with_reducible refine (HC2.out _ ((Hp_6.out.go ZK.out).pvr HS.out)).mono ?_); rintro e wc2 ⟨⟨s4, rfl, hs4, ho4⟩, hb⟩; (try replace HP3 := hid (HP3.out.go hb)); (try replace HP4 := hid (HP4.out.go hb)); (try replace HP5 := hid (HP5.out.go hb)); (have HP4 := hid (Own.pvr hs4 ho4)); (clear hs4 ho4); replace ZK := hid (ZK.out.trans (hb.mono ZK.out.size)); clear hb) | ((with_reducible refine (HC3.out _ ((Hp_6.out.go ZK.out).pvr HS.out)).mono ?_); rintro e wc3 ⟨⟨s5, rfl, hs5, ho5⟩, hb⟩; (try replace HP3 := hid (HP3.out.go hb)); (try replace HP4 := hid (HP4.out.go hb)); (try replace HP5 := hid (HP5.out.go hb)); (have HP5 := hid (Own.pvr hs5 ho5)); (clear hs5 ho5); replace ZK := hid (ZK.out.trans (hb.mono ZK.out.size)); clear hb))) | (go_at_call 43; (first | ((with_reducible refine (equalPiece_c rc s3 s4 _ HP3.out HP4.out).mono ?_); rintro e wd1 ⟨rfl, hb⟩; (try replace HP3 := hid (HP3.out.go hb)); (try replace HP4 := hid (HP4.out.go hb)); (try replace HP5 := hid (HP5.out.go hb)); replace ZK := hid (ZK.out.trans (hb.mono ZK.out.size)); clear hb) | ((with_reducible refine (equalPiece_c p s5 s _ HP5.out ((Hp_6.out.go ZK.out).pvr HS.out)).mono ?_); rintro e wd2 ⟨rfl, hb⟩; replace ZK := hid (ZK.out.trans (hb.mono ZK.out.size)); clear hb))) | (go_at_call 37; ((with_reducible refine (HVP.out _ ((Ho_6.out.go ZK.out).pvr HS2.out)).mono ?_); rintro e wv ⟨rfl, hb⟩; replace ZK := hid (ZK.out.trans (hb.mono ZK.out.size)); clear hb)))
      have hb := ZK.out
      have Hp_7 := hid (Hp_6.out.go hb)
      have Hb_7 := hid (Hb_6.out.go hb)
      have Ho_7 := hid (Ho_6.out.go hb)
      have Hc_7 := hid (Hc_6.out.go hb)
      have Hd_7 := hid (Hd_6.out.go hb)
      have HB7 := hid (HB6.out.trans (hb.mono HB6.out.size))
      clear hb ZK
      try clear c_p l_p
      have c_p := fun (o : Nat) => (Hp_7.out.1).cell o
      have l_p := (Hp_7.out.1).lt
      try clear c_b l_b
      have c_b := fun (o : Nat) => (Hb_7.out).cell o
      have l_b := (Hb_7.out).lt
      try clear c_o l_o
      have c_o := fun (o : Nat) => (Ho_7.out.1).cell o
      have l_o := (Ho_7.out.1).lt
      try clear c_c l_c
      have c_c := fun (o : Nat) => (Hc_7.out).cell o
      have l_c := (Hc_7.out).lt
      try clear c_d l_d
      have c_d := fun (o : Nat) => (Hd_7.out).cell o
      have l_d := (Hd_7.out).lt
      go_wp2
      go_ret
      exact ⟨rfl, HB7.out⟩
    · have hw0 : (s2.w == 0) = true := by rw [HS2.out.2.1]; simp; exact HRW.out.2 hok
      clear hok
      have ZK := hid ((Below.refl _ _).drew : Below X3.heap.size X3 X3.drew)
      go_region_held3 (fun w' => ∀ b o, b < X3.heap.size → w'.cell? ⟨b, o, none⟩ = X3.cell? ⟨b, o, none⟩) (exact fun b o h => ZK.out.cell (p := ⟨b, o, none⟩) h)
        (first | (go_at_call 34; ((with_reducible refine (HCP.out _ ((Hp_3.out.go ZK.out).pvr HS.out)).mono ?_); rintro e wa ⟨⟨s3, rfl, hs3, ho3⟩, hb⟩; have HP3 := hid (Own.pvr hs3 ho3); (clear hs3 ho3); replace ZK := hid (ZK.out.trans (hb.mono ZK.out.size)); clear hb)) | (go_at_call 43; ((with_reducible refine (equalPiece_c r s2 s3 _ ((Ho_3.out.go ZK.out).pvr HS2.out) HP3.out).mono ?_); rintro e wB ⟨rfl, hb⟩; replace ZK := hid (ZK.out.trans (hb.mono ZK.out.size)); clear hb)))
      have hb := ZK.out
      have Hp_4 := hid (Hp_3.out.go hb)
      have Hb_4 := hid (Hb_3.out.go hb)
      have Ho_4 := hid (Ho_3.out.go hb)
      have HB4 := hid (HB3.out.trans (hb.mono HB3.out.size))
      clear hb ZK
      try clear c_p l_p
      have c_p := fun (o : Nat) => (Hp_4.out.1).cell o
      have l_p := (Hp_4.out.1).lt
      try clear c_b l_b
      have c_b := fun (o : Nat) => (Hb_4.out).cell o
      have l_b := (Hb_4.out).lt
      try clear c_o l_o
      have c_o := fun (o : Nat) => (Ho_4.out.1).cell o
      have l_o := (Ho_4.out.1).lt
      go_upto_region 6 with (fail)
      clear HP3
      have ZK := hid ((Below.refl _ _).drew : Below wB.heap.size wB wB.drew)
      go_region_held3 (fun w' => ∀ b o, b < wB.heap.size → w'.cell? ⟨b, o, none⟩ = wB.cell? ⟨b, o, none⟩) (exact fun b o h => ZK.out.cell (p := ⟨b, o, none⟩) h)
        (first | (go_at_call 34; ((with_reducible refine (HCP.out _ ((Hp_4.out.go ZK.out).pvr HS.out)).mono ?_); rintro e wa ⟨⟨s3, rfl, hs3, ho3⟩, hb⟩; have HP3 := hid (Own.pvr hs3 ho3); (clear hs3 ho3); replace ZK := hid (ZK.out.trans (hb.mono ZK.out.size)); clear hb)) | (go_at_call 43; ((with_reducible refine (equalPiece_c r s2 s3 _ ((Ho_4.out.go ZK.out).pvr HS2.out) HP3.out).mono ?_); rintro e wE ⟨rfl, hb⟩; replace ZK := hid (ZK.out.trans (hb.mono ZK.out.size)); clear hb)))
      have hb := ZK.out
      have Hp_5 := hid (Hp_4.out.go hb)
      have Hb_5 := hid (Hb_4.out.go hb)
      have Ho_5 := hid (Ho_4.out.go hb)
      have HB5 := hid (HB4.out.trans (hb.mono HB4.out.size))
      clear hb ZK
      try clear c_p l_p
      have c_p := fun (o : Nat) => (Hp_5.out.1).cell o
      have l_p := (Hp_5.out.1).lt
      try clear c_b l_b
      have c_b := fun (o : Nat) => (Hb_5.out).cell o
      have l_b := (Hb_5.out).lt
      try clear c_o l_o
      have c_o := fun (o : Nat) => (Ho_5.out.1).cell o
      have l_o := (Ho_5.out.1).lt
      go_wp2
      go_ret
      exact ⟨rfl, HB5.out⟩

end Go.Proofs.Ytpicbkakghojnaa
