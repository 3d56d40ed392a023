/-
  The law FnTurnPiece, walked (written by a program of mine).
-/
import Derived.Test.YtpicbkakghojnaaLgLaw
import Derived.Test.YtpicbkakghojnaaEqPc
import Derived.Test.YtpicbkakghojnaaTurnPs
import Derived.Test.YtpicbkakghojnaaLawClearAt
namespace Go.Proofs.Ytpicbkakghojnaa
set_option linter.unusedSimpArgs false
set_option linter.unusedVariables false
open Go.RowKit

set_option maxHeartbeats 12800000 in
set_option maxRecDepth 100000 in
theorem FnTurnPiece_c (v : Value) (L : List Int) (w : World) (h : Row byteE w v L ∧ ∀ x ∈ L, 0 ≤ x ∧ x ≤ 255) : Calls Try.prog 12 #[v] w fun e w' => e = .returned (.bool true) ∧ Below w.heap.size w w' := by
  obtain ⟨h, hb⟩ := h
  obtain ⟨A, c, rfl, hc1, hm1⟩ := h.form
  unfold maxLen at hm1
  by_cases hle : 1048576 < L.length
  · have hd : decide ((1048576 : Int) < (L.length : Int)) = true := by simp; omega
    go_enter Try.func12, Try.ntmps12
    go_wp2
    go_ret
    exact ⟨rfl, Below.refl _ _⟩
  · have hd : decide ((1048576 : Int) < (L.length : Int)) = false := by simp; omega
    have HH := hid h
    have HB := hid hb
    clear h hb hle
    go_enter Try.func12, Try.ntmps12
    go_wp2_with fail
    refine (DrawTurnPiece_c _ L _ HH.out HB.out).mono ?_
    rintro e w1 ⟨p, s, rfl, hs, ht, ho, hb⟩
    have HS := hid hs
    have HI := hid (tP_I64 ht)
    have HB1 := hid (hb.alloc hb.size (.cells #[.int .i64 s.l, .int .i64 s.w, .int .i64 s.h, .slice s.ka s.kn s.kc] 31))
    have hsz := hb.size
    have Hp_1 := hid (PcAt.mk_ ho hsz)
    have HCP := hid (fun w hp => sTurnPiece_c p s w hp HI.out.1 HI.out.2)
    have HCI := hid (fun w hp => TurnPiece_c p s w hp)
    have HL1 := hid (fun w hp => LargestClear_c p s w hp)
    have HTT := hid (fun h : VP p => tuR_tuR h)
    have HLA := hid (fun h : VP p => lg_area h)
    have HLP := hid (fun h : VP p => lg_pos h)
    obtain ⟨r, hr⟩ : ∃ r, r = tuR p := ⟨_, rfl⟩
    simp only [← hr] at HCP HCI HTT HLA HLP
    clear hs ht ho hb hr
    go_wp2_with fail
    refine (HCI.out _ (Hp_1.out.pvr HS.out)).mono ?_
    rintro e w2 ⟨⟨s2, rfl, hs2, ho2⟩, hb⟩
    have HS2 := hid hs2
    have HO2 := hid (ho2.base_le (base' := w1.heap.size) (by simp))
    have i2 := hb.size
    have i3 : w1.heap.size ≤ w2.heap.size := by simp at i2; omega
    clear hs2 ho2 i2
    have Hp_2 := hid (Hp_1.out.go hb)
    have HB2 := hid (HB1.out.trans (hb.mono HB1.out.size))
    clear hb
    try clear c_p l_p
    have c_p := fun (o : Nat) => (Hp_2.out.1).cell o
    have l_p := (Hp_2.out.1).lt
    have hsz_o : w1.heap.size ≤ w2.heap.size := i3
    have Hp_3 := hid (Hp_2.out.go ((Below.refl _ _).alloc (Nat.le_refl _) (.cells #[.int .i64 s2.l, .int .i64 s2.w, .int .i64 s2.h, .slice s2.ka s2.kn s2.kc] 31)))
    have HB3 := hid (HB2.out.trans (((Below.refl _ _).alloc (Nat.le_refl _) (.cells #[.int .i64 s2.l, .int .i64 s2.w, .int .i64 s2.h, .slice s2.ka s2.kn s2.kc] 31)).mono HB2.out.size))
    have Ho_3 := hid (PcAt.mk_ (s := s2) HO2.out hsz_o)
    go_upto_region 5 with (fail)
    obtain ⟨X3, hX3⟩ : ∃ X, X = (w2.alloc (.cells #[.int .i64 s2.l, .int .i64 s2.w, .int .i64 s2.h, .slice s2.ka s2.kn s2.kc] 31)) := ⟨_, rfl⟩
    rw [← hX3] at HB3 Hp_3 Ho_3
    rw [← hX3]
    clear hX3
    try clear c_p l_p
    have c_p := fun (o : Nat) => (Hp_3.out.1).cell o
    have l_p := (Hp_3.out.1).lt
    try clear c_o l_o
    have c_o := fun (o : Nat) => (Ho_3.out.1).cell o
    have l_o := (Ho_3.out.1).lt
    by_cases hok : VP p
    · have HVP : Hid (∀ w, PvR w.heap.size w p s → Calls Try.prog 37 #[.agg #[.int .i64 s.l, .int .i64 s.w, .int .i64 s.h, .slice s.ka s.kn s.kc]] w fun e w' => e = .returned (.bool true) ∧ Below w.heap.size w w') := fun w hp => by
        have := ValidPiece_c p s w hp
        rwa [vpB_iff.2 hok] at this
      have HK := hid hok
      clear hok
      have ZK := hid ((Below.refl _ _).drew : Below X3.heap.size X3 X3.drew)
      go_region_held3 (fun w' => ∀ b o, b < X3.heap.size → w'.cell? ⟨b, o, none⟩ = X3.cell? ⟨b, o, none⟩) (exact fun b o h => ZK.out.cell (p := ⟨b, o, none⟩) h)
        (first | (go_at_call 30; ((with_reducible refine (HCP.out _ ((Hp_3.out.go ZK.out).pvr HS.out)).mono ?_); rintro e wa ⟨⟨s3, rfl, hs3, ho3⟩, hb⟩; have HP3 := hid (Own.pvr hs3 ho3); (clear hs3 ho3); replace ZK := hid (ZK.out.trans (hb.mono ZK.out.size)); clear hb)) | (go_at_call 43; ((with_reducible refine (equalPiece_c r s2 s3 _ ((Ho_3.out.go ZK.out).pvr HS2.out) HP3.out).mono ?_); rintro e wq ⟨rfl, hb⟩; replace ZK := hid (ZK.out.trans (hb.mono ZK.out.size)); clear hb)) | (go_at_call 37; ((with_reducible refine (HVP.out _ ((Hp_3.out.go ZK.out).pvr HS.out)).mono ?_); rintro e wv ⟨rfl, hb⟩; replace ZK := hid (ZK.out.trans (hb.mono ZK.out.size)); clear hb)))
      have hb := ZK.out
      have Hp_4 := hid (Hp_3.out.go hb)
      have Ho_4 := hid (Ho_3.out.go hb)
      have HB4 := hid (HB3.out.trans (hb.mono HB3.out.size))
      clear hb ZK
      try clear c_p l_p
      have c_p := fun (o : Nat) => (Hp_4.out.1).cell o
      have l_p := (Hp_4.out.1).lt
      try clear c_o l_o
      have c_o := fun (o : Nat) => (Ho_4.out.1).cell o
      have l_o := (Ho_4.out.1).lt
      clear HP3
      go_wp2_with fail
      refine (HL1.out _ (Hp_4.out.pvr HS.out)).mono ?_
      rintro e w5 ⟨rfl, hb⟩
      have Hp_5 := hid (Hp_4.out.go hb)
      have Ho_5 := hid (Ho_4.out.go hb)
      have HB5 := hid (HB4.out.trans (hb.mono HB4.out.size))
      clear hb
      try clear c_p l_p
      have c_p := fun (o : Nat) => (Hp_5.out.1).cell o
      have l_p := (Hp_5.out.1).lt
      try clear c_o l_o
      have c_o := fun (o : Nat) => (Ho_5.out.1).cell o
      have l_o := (Ho_5.out.1).lt
      have hlp := HLP.out HK.out
      have hla := HLA.out HK.out
      have hsa := (lgR_sB p).ar
      have hsb := (lgR_sB r).ar
      have HL2 := hid (fun w hp => LargestClear_c r s2 w hp)
      rw [← hlp] at HL2
      have HT2 : Hid (∀ w, PvR w.heap.size w r s2 → Calls Try.prog 31 #[.agg #[.int .i64 s2.l, .int .i64 s2.w, .int .i64 s2.h, .slice s2.ka s2.kn s2.kc]] w fun e w' => PcOut w.heap.size p e w' ∧ Below w.heap.size w w') := fun w hp => by
        have := TurnPiece_c r s2 w hp
        rwa [HTT.out HK.out] at this
      unfold ar at hla
      generalize posB (lgR p) = ob at HL2
      generalize lgR p = a at hla hsa
      generalize lgR r = b at hla hsb HL2
      obtain ⟨S, hS⟩ : ∃ S, S = a.w * a.h := ⟨_, rfl⟩
      have ew1 : IntKind.i64.wrap (a.w * a.h) = S := by rw [hS]; exact IntWalk.i64_in _ (by omega)
      have ew2 : IntKind.i64.wrap (b.w * b.h) = S := by rw [hS, hla]; exact IntWalk.i64_in _ (by omega)
      have eS : (S == S) = true := by simp
      have eO : (ob == ob) = true := by simp
      clear hlp hla hsa hsb hS
      have Hp_6 := hid (Hp_5.out.go ((Below.refl _ _).alloc (Nat.le_refl _) (.cells #[.int .i64 a.x, .int .i64 a.y, .int .i64 a.w, .int .i64 a.h] 33)))
      have Ho_6 := hid (Ho_5.out.go ((Below.refl _ _).alloc (Nat.le_refl _) (.cells #[.int .i64 a.x, .int .i64 a.y, .int .i64 a.w, .int .i64 a.h] 33)))
      have HB6 := hid (HB5.out.trans (((Below.refl _ _).alloc (Nat.le_refl _) (.cells #[.int .i64 a.x, .int .i64 a.y, .int .i64 a.w, .int .i64 a.h] 33)).mono HB5.out.size))
      have Ha_6 := hid (Blk.new w5 #[.int .i64 a.x, .int .i64 a.y, .int .i64 a.w, .int .i64 a.h] 33)
      go_wp2_with fail
      refine (HL2.out _ (Ho_6.out.pvr HS2.out)).mono ?_
      rintro e w7 ⟨rfl, hb⟩
      have Hp_7 := hid (Hp_6.out.go hb)
      have Ho_7 := hid (Ho_6.out.go hb)
      have Ha_7 := hid (Ha_6.out.go hb)
      have HB7 := hid (HB6.out.trans (hb.mono HB6.out.size))
      clear hb
      try clear c_p l_p
      have c_p := fun (o : Nat) => (Hp_7.out.1).cell o
      have l_p := (Hp_7.out.1).lt
      try clear c_o l_o
      have c_o := fun (o : Nat) => (Ho_7.out.1).cell o
      have l_o := (Ho_7.out.1).lt
      try clear c_a l_a
      have c_a := fun (o : Nat) => (Ha_7.out).cell o
      have l_a := (Ha_7.out).lt
      have Hp_8 := hid (Hp_7.out.go ((Below.refl _ _).alloc (Nat.le_refl _) (.cells #[.int .i64 b.x, .int .i64 b.y, .int .i64 b.w, .int .i64 b.h] 33)))
      have Ho_8 := hid (Ho_7.out.go ((Below.refl _ _).alloc (Nat.le_refl _) (.cells #[.int .i64 b.x, .int .i64 b.y, .int .i64 b.w, .int .i64 b.h] 33)))
      have Ha_8 := hid (Ha_7.out.go ((Below.refl _ _).alloc (Nat.le_refl _) (.cells #[.int .i64 b.x, .int .i64 b.y, .int .i64 b.w, .int .i64 b.h] 33)))
      have HB8 := hid (HB7.out.trans (((Below.refl _ _).alloc (Nat.le_refl _) (.cells #[.int .i64 b.x, .int .i64 b.y, .int .i64 b.w, .int .i64 b.h] 33)).mono HB7.out.size))
      have Hb_8 := hid (Blk.new w7 #[.int .i64 b.x, .int .i64 b.y, .int .i64 b.w, .int .i64 b.h] 33)
      go_upto_region 9 with (fail)
      obtain ⟨X9, hX9⟩ : ∃ X, X = w7.alloc (.cells #[.int .i64 b.x, .int .i64 b.y, .int .i64 b.w, .int .i64 b.h] 33) := ⟨_, rfl⟩
      rw [← hX9] at HB8 Hp_8 Ho_8 Ha_8 Hb_8
      rw [← hX9]
      clear hX9
      try clear c_p l_p
      have c_p := fun (o : Nat) => (Hp_8.out.1).cell o
      have l_p := (Hp_8.out.1).lt
      try clear c_o l_o
      have c_o := fun (o : Nat) => (Ho_8.out.1).cell o
      have l_o := (Ho_8.out.1).lt
      try clear c_a l_a
      have c_a := fun (o : Nat) => (Ha_8.out).cell o
      have l_a := (Ha_8.out).lt
      try clear c_b l_b
      have c_b := fun (o : Nat) => (Hb_8.out).cell o
      have l_b := (Hb_8.out).lt
      have ZK := hid ((Below.refl _ _).drew : Below X9.heap.size X9 X9.drew)
      go_region_held3 (fun w' => ∀ b o, b < X9.heap.size → w'.cell? ⟨b, o, none⟩ = X9.cell? ⟨b, o, none⟩) (exact fun b o h => ZK.out.cell (p := ⟨b, o, none⟩) h)
        (first | (go_at_call 31; ((with_reducible refine (HT2.out _ ((Ho_8.out.go ZK.out).pvr HS2.out)).mono ?_); rintro e wa ⟨⟨s5, rfl, hs5, ho5⟩, hb⟩; have HP5 := hid (Own.pvr hs5 ho5); (clear hs5 ho5); replace ZK := hid (ZK.out.trans (hb.mono ZK.out.size)); clear hb)) | (go_at_call 43; ((with_reducible refine (equalPiece_c p s5 s _ HP5.out ((Hp_8.out.go ZK.out).pvr HS.out)).mono ?_); rintro e wz ⟨rfl, hb⟩; replace ZK := hid (ZK.out.trans (hb.mono ZK.out.size)); clear hb)))
      have hb := ZK.out
      have Hp_9 := hid (Hp_8.out.go hb)
      have Ho_9 := hid (Ho_8.out.go hb)
      have Ha_9 := hid (Ha_8.out.go hb)
      have Hb_9 := hid (Hb_8.out.go hb)
      have HB9 := hid (HB8.out.trans (hb.mono HB8.out.size))
      clear hb ZK
      try clear c_p l_p
      have c_p := fun (o : Nat) => (Hp_9.out.1).cell o
      have l_p := (Hp_9.out.1).lt
      try clear c_o l_o
      have c_o := fun (o : Nat) => (Ho_9.out.1).cell o
      have l_o := (Ho_9.out.1).lt
      try clear c_a l_a
      have c_a := fun (o : Nat) => (Ha_9.out).cell o
      have l_a := (Ha_9.out).lt
      try clear c_b l_b
      have c_b := fun (o : Nat) => (Hb_9.out).cell o
      have l_b := (Hb_9.out).lt
      go_wp2
      go_ret
      exact ⟨rfl, HB9.out⟩
    · have HVP : Hid (∀ w, PvR w.heap.size w p s → Calls Try.prog 37 #[.agg #[.int .i64 s.l, .int .i64 s.w, .int .i64 s.h, .slice s.ka s.kn s.kc]] w fun e w' => e = .returned (.bool false) ∧ Below w.heap.size w w') := fun w hp => by
        have := ValidPiece_c p s w hp
        rwa [vpB_not.2 hok] at this
      clear hok
      have ZK := hid ((Below.refl _ _).drew : Below X3.heap.size X3 X3.drew)
      go_region_held3 (fun w' => ∀ b o, b < X3.heap.size → w'.cell? ⟨b, o, none⟩ = X3.cell? ⟨b, o, none⟩) (exact fun b o h => ZK.out.cell (p := ⟨b, o, none⟩) h)
        (first | (go_at_call 30; ((with_reducible refine (HCP.out _ ((Hp_3.out.go ZK.out).pvr HS.out)).mono ?_); rintro e wa ⟨⟨s3, rfl, hs3, ho3⟩, hb⟩; have HP3 := hid (Own.pvr hs3 ho3); (clear hs3 ho3); replace ZK := hid (ZK.out.trans (hb.mono ZK.out.size)); clear hb)) | (go_at_call 43; ((with_reducible refine (equalPiece_c r s2 s3 _ ((Ho_3.out.go ZK.out).pvr HS2.out) HP3.out).mono ?_); rintro e wq ⟨rfl, hb⟩; replace ZK := hid (ZK.out.trans (hb.mono ZK.out.size)); clear hb)) | (go_at_call 37; ((with_reducible refine (HVP.out _ ((Hp_3.out.go ZK.out).pvr HS.out)).mono ?_); rintro e wv ⟨rfl, hb⟩; replace ZK := hid (ZK.out.trans (hb.mono ZK.out.size)); clear hb)))
      have hb := ZK.out
      have Hp_4 := hid (Hp_3.out.go hb)
      have Ho_4 := hid (Ho_3.out.go hb)
      have HB4 := hid (HB3.out.trans (hb.mono HB3.out.size))
      clear hb ZK
      try clear c_p l_p
      have c_p := fun (o : Nat) => (Hp_4.out.1).cell o
      have l_p := (Hp_4.out.1).lt
      try clear c_o l_o
      have c_o := fun (o : Nat) => (Ho_4.out.1).cell o
      have l_o := (Ho_4.out.1).lt
      go_upto_region 6 with (fail)
      clear HP3
      have ZK := hid ((Below.refl _ _).drew : Below wv.heap.size wv wv.drew)
      go_region_held3 (fun w' => ∀ b o, b < wv.heap.size → w'.cell? ⟨b, o, none⟩ = wv.cell? ⟨b, o, none⟩) (exact fun b o h => ZK.out.cell (p := ⟨b, o, none⟩) h)
        (first | (go_at_call 30; ((with_reducible refine (HCP.out _ ((Hp_4.out.go ZK.out).pvr HS.out)).mono ?_); rintro e wa ⟨⟨s3, rfl, hs3, ho3⟩, hb⟩; have HP3 := hid (Own.pvr hs3 ho3); (clear hs3 ho3); replace ZK := hid (ZK.out.trans (hb.mono ZK.out.size)); clear hb)) | (go_at_call 43; ((with_reducible refine (equalPiece_c r s2 s3 _ ((Ho_4.out.go ZK.out).pvr HS2.out) HP3.out).mono ?_); rintro e wE ⟨rfl, hb⟩; replace ZK := hid (ZK.out.trans (hb.mono ZK.out.size)); clear hb)))
      have hb := ZK.out
      have Hp_5 := hid (Hp_4.out.go hb)
      have Ho_5 := hid (Ho_4.out.go hb)
      have HB5 := hid (HB4.out.trans (hb.mono HB4.out.size))
      clear hb ZK
      try clear c_p l_p
      have c_p := fun (o : Nat) => (Hp_5.out.1).cell o
      have l_p := (Hp_5.out.1).lt
      try clear c_o l_o
      have c_o := fun (o : Nat) => (Ho_5.out.1).cell o
      have l_o := (Ho_5.out.1).lt
      go_wp2
      go_ret
      exact ⟨rfl, HB5.out⟩

end Go.Proofs.Ytpicbkakghojnaa
