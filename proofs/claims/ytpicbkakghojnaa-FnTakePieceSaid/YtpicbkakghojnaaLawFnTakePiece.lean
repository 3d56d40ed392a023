/-
  The law FnTakePiece, walked (written by a program of mine).
-/
import Derived.Test.YtpicbkakghojnaaTakeP
import Derived.Test.YtpicbkakghojnaaDrStkA
namespace Go.Proofs.Ytpicbkakghojnaa
set_option linter.unusedSimpArgs false
set_option linter.unusedVariables false
open Go.RowKit

set_option maxHeartbeats 12800000 in
set_option maxRecDepth 100000 in
theorem FnTakePiece_c (v : Value) (L : List Int) (w : World) (h : Row byteE w v L ∧ ∀ x ∈ L, 0 ≤ x ∧ x ≤ 255) : Calls Try.prog 13 #[v] w fun e w' => e = .returned (.bool true) ∧ Below w.heap.size w w' := by
  obtain ⟨h, hb⟩ := h
  obtain ⟨A, c, rfl, hc1, hm1⟩ := h.form
  unfold maxLen at hm1
  by_cases hle : 1048576 < L.length
  · have hd : decide ((1048576 : Int) < (L.length : Int)) = true := by simp; omega
    go_enter Try.func13, Try.ntmps13
    go_wp2
    go_ret
    exact ⟨rfl, Below.refl _ _⟩
  · have hd : decide ((1048576 : Int) < (L.length : Int)) = false := by simp; omega
    have HH := hid h
    have HB := hid hb
    clear h hb hle
    go_enter Try.func13, Try.ntmps13
    go_wp2_with fail
    refine (DrawTakePiece_c _ L _ HH.out HB.out).mono ?_
    rintro e w1 ⟨u, M, x, rfl, hst, hI, hb⟩
    have H_v_1 := hid hst
    have HI := hid hI
    have HB1 := hid hb
    clear hst hI hb
    by_cases hok : VS M ∧ 0 ≤ placeP (labs M) x
    · obtain ⟨hvs, hpl⟩ := hok
      obtain ⟨j, hj, hpj, hlx⟩ := place_lab hpl
      have HBK := hid (hvs.back hj)
      have HGN := hid (hvs.gone hj)
      have HVE := hid (hvs.erase j)
      have HVP := hid (hvs.2.1 _ (List.getElem_mem hj))
      have HLX := hid hlx
      have HLN : Hid ((M.eraseIdx j).length < 20) := by
        have h1 := hvs.1
        have h2 := List.length_eraseIdx_of_lt hj
        rw [Hid]; omega
      have HT1 := hid (fun v w h => TakePiece_t v M x j w h hvs hj hpj)
      have HT2 := hid (fun v w h => sTakePiece_t v M x j w h HI.out hvs hj hpj)
      clear hvs hpl hpj hlx
      go_wp2_with fail
      refine (HT1.out _ _ H_v_1.out).mono ?_
      rintro e w2 ⟨⟨s1, u1, rfl, hs1, hu1⟩, hb⟩
      have H_v_2 := hid (H_v_1.out.go hb)
      have HB2 := hid (HB1.out.trans (hb.mono HB1.out.size))
      clear hb
      have H_s1_2 := hid hs1
      clear hs1
      have H_u1_2 := hid hu1
      clear hu1
      have H_v_3 := hid (H_v_2.out.go ((Below.refl _ _).alloc (Nat.le_refl _) (.cells #[.int .i64 s1.l, .int .i64 s1.w, .int .i64 s1.h, .slice s1.ka s1.kn s1.kc] 31)))
      have H_s1_3 := hid (H_s1_2.out.go ((Below.refl _ _).alloc (Nat.le_refl _) (.cells #[.int .i64 s1.l, .int .i64 s1.w, .int .i64 s1.h, .slice s1.ka s1.kn s1.kc] 31)))
      have H_u1_3 := hid (H_u1_2.out.go ((Below.refl _ _).alloc (Nat.le_refl _) (.cells #[.int .i64 s1.l, .int .i64 s1.w, .int .i64 s1.h, .slice s1.ka s1.kn s1.kc] 31)))
      have HB3 := hid (HB2.out.trans (((Below.refl _ _).alloc (Nat.le_refl _) (.cells #[.int .i64 s1.l, .int .i64 s1.w, .int .i64 s1.h, .slice s1.ka s1.kn s1.kc] 31)).mono HB2.out.size))
      have Hp1_3 := hid (Blk.new w2 #[.int .i64 s1.l, .int .i64 s1.w, .int .i64 s1.h, .slice s1.ka s1.kn s1.kc] 31)
      go_wp2_with fail
      refine (HT2.out _ _ H_v_3.out).mono ?_
      rintro e w4 ⟨⟨s2, u2, rfl, hs2, hu2⟩, hb⟩
      have H_v_4 := hid (H_v_3.out.go hb)
      have H_s1_4 := hid (H_s1_3.out.go hb)
      have H_u1_4 := hid (H_u1_3.out.go hb)
      have Hp1_4 := hid (Hp1_3.out.go hb)
      have HB4 := hid (HB3.out.trans (hb.mono HB3.out.size))
      clear hb
      try clear c_p1 l_p1
      have c_p1 := fun (o : Nat) => (Hp1_4.out).cell o
      have l_p1 := (Hp1_4.out).lt
      have H_s2_4 := hid hs2
      clear hs2
      have H_u2_4 := hid hu2
      clear hu2
      have H_v_5 := hid (H_v_4.out.go ((Below.refl _ _).alloc (Nat.le_refl _) (.cells #[.int .i64 s2.l, .int .i64 s2.w, .int .i64 s2.h, .slice s2.ka s2.kn s2.kc] 31)))
      have H_s1_5 := hid (H_s1_4.out.go ((Below.refl _ _).alloc (Nat.le_refl _) (.cells #[.int .i64 s2.l, .int .i64 s2.w, .int .i64 s2.h, .slice s2.ka s2.kn s2.kc] 31)))
      have H_u1_5 := hid (H_u1_4.out.go ((Below.refl _ _).alloc (Nat.le_refl _) (.cells #[.int .i64 s2.l, .int .i64 s2.w, .int .i64 s2.h, .slice s2.ka s2.kn s2.kc] 31)))
      have Hp1_5 := hid (Hp1_4.out.go ((Below.refl _ _).alloc (Nat.le_refl _) (.cells #[.int .i64 s2.l, .int .i64 s2.w, .int .i64 s2.h, .slice s2.ka s2.kn s2.kc] 31)))
      have H_s2_5 := hid (H_s2_4.out.go ((Below.refl _ _).alloc (Nat.le_refl _) (.cells #[.int .i64 s2.l, .int .i64 s2.w, .int .i64 s2.h, .slice s2.ka s2.kn s2.kc] 31)))
      have H_u2_5 := hid (H_u2_4.out.go ((Below.refl _ _).alloc (Nat.le_refl _) (.cells #[.int .i64 s2.l, .int .i64 s2.w, .int .i64 s2.h, .slice s2.ka s2.kn s2.kc] 31)))
      have HB5 := hid (HB4.out.trans (((Below.refl _ _).alloc (Nat.le_refl _) (.cells #[.int .i64 s2.l, .int .i64 s2.w, .int .i64 s2.h, .slice s2.ka s2.kn s2.kc] 31)).mono HB4.out.size))
      have Hp2_5 := hid (Blk.new w4 #[.int .i64 s2.l, .int .i64 s2.w, .int .i64 s2.h, .slice s2.ka s2.kn s2.kc] 31)
      go_wp2_with fail
      refine (equalPiece_c M[j] s1 s2 _ H_s1_5.out H_s2_5.out).mono ?_
      rintro e w6 ⟨rfl, hb⟩
      have H_v_6 := hid (H_v_5.out.go hb)
      have H_s1_6 := hid (H_s1_5.out.go hb)
      have H_u1_6 := hid (H_u1_5.out.go hb)
      have Hp1_6 := hid (Hp1_5.out.go hb)
      have H_s2_6 := hid (H_s2_5.out.go hb)
      have H_u2_6 := hid (H_u2_5.out.go hb)
      have Hp2_6 := hid (Hp2_5.out.go hb)
      have HB6 := hid (HB5.out.trans (hb.mono HB5.out.size))
      clear hb
      try clear c_p1 l_p1
      have c_p1 := fun (o : Nat) => (Hp1_6.out).cell o
      have l_p1 := (Hp1_6.out).lt
      try clear c_p2 l_p2
      have c_p2 := fun (o : Nat) => (Hp2_6.out).cell o
      have l_p2 := (Hp2_6.out).lt
      go_wp2_with fail
      refine (equalStock_c u1 u2 (M.eraseIdx j) _ H_u1_6.out H_u2_6.out).mono ?_
      rintro e w7 ⟨rfl, hb⟩
      have H_v_7 := hid (H_v_6.out.go hb)
      have H_s1_7 := hid (H_s1_6.out.go hb)
      have H_u1_7 := hid (H_u1_6.out.go hb)
      have Hp1_7 := hid (Hp1_6.out.go hb)
      have H_s2_7 := hid (H_s2_6.out.go hb)
      have H_u2_7 := hid (H_u2_6.out.go hb)
      have Hp2_7 := hid (Hp2_6.out.go hb)
      have HB7 := hid (HB6.out.trans (hb.mono HB6.out.size))
      clear hb
      try clear c_p1 l_p1
      have c_p1 := fun (o : Nat) => (Hp1_7.out).cell o
      have l_p1 := (Hp1_7.out).lt
      try clear c_p2 l_p2
      have c_p2 := fun (o : Nat) => (Hp2_7.out).cell o
      have l_p2 := (Hp2_7.out).lt
      have HLS := hid (H_s1_7.out.1.1)
      go_wp2_with fail
      refine (AddPiece_c u1 (M.eraseIdx j) M[j] s1 _ H_u1_7.out H_s1_7.out HVE.out HVP.out HLN.out HGN.out).mono ?_
      rintro e w8 ⟨⟨u3, rfl, hu3⟩, hb⟩
      rw [HBK.out] at hu3
      have hu3r := hu3.read
      clear hu3
      have H_v_8 := hid (H_v_7.out.go hb)
      have H_s1_8 := hid (H_s1_7.out.go hb)
      have H_u1_8 := hid (H_u1_7.out.go hb)
      have Hp1_8 := hid (Hp1_7.out.go hb)
      have H_s2_8 := hid (H_s2_7.out.go hb)
      have H_u2_8 := hid (H_u2_7.out.go hb)
      have Hp2_8 := hid (Hp2_7.out.go hb)
      have HB8 := hid (HB7.out.trans (hb.mono HB7.out.size))
      clear hb
      try clear c_p1 l_p1
      have c_p1 := fun (o : Nat) => (Hp1_8.out).cell o
      have l_p1 := (Hp1_8.out).lt
      try clear c_p2 l_p2
      have c_p2 := fun (o : Nat) => (Hp2_8.out).cell o
      have l_p2 := (Hp2_8.out).lt
      have H_u3_8 := hid hu3r
      clear hu3r
      have hlab : (s1.l == x) = true := by rw [HLS.out, HLX.out]; simp
      go_wp2_with fail
      refine (equalStock_c u3 u M _ H_u3_8.out H_v_8.out).mono ?_
      rintro e w9 ⟨rfl, hb⟩
      have H_v_9 := hid (H_v_8.out.go hb)
      have H_s1_9 := hid (H_s1_8.out.go hb)
      have H_u1_9 := hid (H_u1_8.out.go hb)
      have Hp1_9 := hid (Hp1_8.out.go hb)
      have H_s2_9 := hid (H_s2_8.out.go hb)
      have H_u2_9 := hid (H_u2_8.out.go hb)
      have Hp2_9 := hid (Hp2_8.out.go hb)
      have H_u3_9 := hid (H_u3_8.out.go hb)
      have HB9 := hid (HB8.out.trans (hb.mono HB8.out.size))
      clear hb
      try clear c_p1 l_p1
      have c_p1 := fun (o : Nat) => (Hp1_9.out).cell o
      have l_p1 := (Hp1_9.out).lt
      try clear c_p2 l_p2
      have c_p2 := fun (o : Nat) => (Hp2_9.out).cell o
      have l_p2 := (Hp2_9.out).lt
      go_wp2
      go_ret
      exact ⟨rfl, HB9.out⟩
    · have HT1 := hid (fun v w h => TakePiece_f v M x w h hok)
      have HT2 := hid (fun v w h => sTakePiece_f v M x w h HI.out hok)
      have HPZ : Hid (∀ w : World, PvR w.heap.size w zeroPc ⟨0, 0, 0, none, 0, 0⟩) := fun w => ⟨⟨rfl, rfl, rfl⟩, RowB.nil_ _ _⟩
      have HSZ : Hid (∀ w : World, StR w.heap.size w (.slice none 0 0) []) := fun w => StR.empty _ _ _ _ (by simp [maxLen])
      clear hok
      go_wp2_with fail
      refine (HT1.out _ _ H_v_1.out).mono ?_
      rintro e w2 ⟨rfl, hb⟩
      have H_v_2 := hid (H_v_1.out.go hb)
      have HB2 := hid (HB1.out.trans (hb.mono HB1.out.size))
      clear hb
      have H_v_3 := hid (H_v_2.out.go ((Below.refl _ _).alloc (Nat.le_refl _) (.cells #[.int .i64 0, .int .i64 0, .int .i64 0, .slice none 0 0] 31)))
      have HB3 := hid (HB2.out.trans (((Below.refl _ _).alloc (Nat.le_refl _) (.cells #[.int .i64 0, .int .i64 0, .int .i64 0, .slice none 0 0] 31)).mono HB2.out.size))
      have Hp1_3 := hid (Blk.new w2 #[.int .i64 0, .int .i64 0, .int .i64 0, .slice none 0 0] 31)
      go_wp2_with fail
      refine (HT2.out _ _ H_v_3.out).mono ?_
      rintro e w4 ⟨rfl, hb⟩
      have H_v_4 := hid (H_v_3.out.go hb)
      have Hp1_4 := hid (Hp1_3.out.go hb)
      have HB4 := hid (HB3.out.trans (hb.mono HB3.out.size))
      clear hb
      try clear c_p1 l_p1
      have c_p1 := fun (o : Nat) => (Hp1_4.out).cell o
      have l_p1 := (Hp1_4.out).lt
      have H_v_5 := hid (H_v_4.out.go ((Below.refl _ _).alloc (Nat.le_refl _) (.cells #[.int .i64 0, .int .i64 0, .int .i64 0, .slice none 0 0] 31)))
      have Hp1_5 := hid (Hp1_4.out.go ((Below.refl _ _).alloc (Nat.le_refl _) (.cells #[.int .i64 0, .int .i64 0, .int .i64 0, .slice none 0 0] 31)))
      have HB5 := hid (HB4.out.trans (((Below.refl _ _).alloc (Nat.le_refl _) (.cells #[.int .i64 0, .int .i64 0, .int .i64 0, .slice none 0 0] 31)).mono HB4.out.size))
      have Hp2_5 := hid (Blk.new w4 #[.int .i64 0, .int .i64 0, .int .i64 0, .slice none 0 0] 31)
      go_wp2_with fail
      refine (equalPiece_c zeroPc ⟨0, 0, 0, none, 0, 0⟩ ⟨0, 0, 0, none, 0, 0⟩ _ (HPZ.out _) (HPZ.out _)).mono ?_
      rintro e w6 ⟨rfl, hb⟩
      have H_v_6 := hid (H_v_5.out.go hb)
      have Hp1_6 := hid (Hp1_5.out.go hb)
      have Hp2_6 := hid (Hp2_5.out.go hb)
      have HB6 := hid (HB5.out.trans (hb.mono HB5.out.size))
      clear hb
      try clear c_p1 l_p1
      have c_p1 := fun (o : Nat) => (Hp1_6.out).cell o
      have l_p1 := (Hp1_6.out).lt
      try clear c_p2 l_p2
      have c_p2 := fun (o : Nat) => (Hp2_6.out).cell o
      have l_p2 := (Hp2_6.out).lt
      go_wp2_with fail
      refine (equalStock_c (.slice none 0 0) (.slice none 0 0) [] _ (HSZ.out _) (HSZ.out _)).mono ?_
      rintro e w7 ⟨rfl, hb⟩
      have H_v_7 := hid (H_v_6.out.go hb)
      have Hp1_7 := hid (Hp1_6.out.go hb)
      have Hp2_7 := hid (Hp2_6.out.go hb)
      have HB7 := hid (HB6.out.trans (hb.mono HB6.out.size))
      clear hb
      try clear c_p1 l_p1
      have c_p1 := fun (o : Nat) => (Hp1_7.out).cell o
      have l_p1 := (Hp1_7.out).lt
      try clear c_p2 l_p2
      have c_p2 := fun (o : Nat) => (Hp2_7.out).cell o
      have l_p2 := (Hp2_7.out).lt
      go_wp2_with fail
      refine (equalPiece_c zeroPc ⟨0, 0, 0, none, 0, 0⟩ ⟨0, 0, 0, none, 0, 0⟩ _ (HPZ.out _) (HPZ.out _)).mono ?_
      rintro e w8 ⟨rfl, hb⟩
      have H_v_8 := hid (H_v_7.out.go hb)
      have Hp1_8 := hid (Hp1_7.out.go hb)
      have Hp2_8 := hid (Hp2_7.out.go hb)
      have HB8 := hid (HB7.out.trans (hb.mono HB7.out.size))
      clear hb
      try clear c_p1 l_p1
      have c_p1 := fun (o : Nat) => (Hp1_8.out).cell o
      have l_p1 := (Hp1_8.out).lt
      try clear c_p2 l_p2
      have c_p2 := fun (o : Nat) => (Hp2_8.out).cell o
      have l_p2 := (Hp2_8.out).lt
      go_wp2_with fail
      refine (equalStock_c (.slice none 0 0) (.slice none 0 0) [] _ (HSZ.out _) (HSZ.out _)).mono ?_
      rintro e w9 ⟨rfl, hb⟩
      have H_v_9 := hid (H_v_8.out.go hb)
      have Hp1_9 := hid (Hp1_8.out.go hb)
      have Hp2_9 := hid (Hp2_8.out.go hb)
      have HB9 := hid (HB8.out.trans (hb.mono HB8.out.size))
      clear hb
      try clear c_p1 l_p1
      have c_p1 := fun (o : Nat) => (Hp1_9.out).cell o
      have l_p1 := (Hp1_9.out).lt
      try clear c_p2 l_p2
      have c_p2 := fun (o : Nat) => (Hp2_9.out).cell o
      have l_p2 := (Hp2_9.out).lt
      go_wp2
      go_ret
      exact ⟨rfl, HB9.out⟩

end Go.Proofs.Ytpicbkakghojnaa
