/-
  The law FnClearAt, walked (written by a program of mine).
-/
import Derived.Test.YtpicbkakghojnaaDrDrB
import Derived.Test.YtpicbkakghojnaaPcAt
namespace Go.Proofs.Ytpicbkakghojnaa
set_option linter.unusedSimpArgs false
set_option linter.unusedVariables false
open Go.RowKit

theorem coF_nil (F : List Bx) (b : Bx) : (((coF F b).length : Int) == 0) = clB F b := by
  rw [Bool.eq_iff_iff, beq_iff_eq]
  induction F with
  | nil => simp [coF, clB]
  | cons g F ih =>
    have e : coF (g :: F) b = opt (mtB g b = true) (shB (meetRaw g b) b) ++ coF F b := by simp [coF]
    have e2 : clB (g :: F) b = ((!mtB g b) && clB F b) := by simp [clB]
    rw [e, e2, List.length_append]
    cases hm : mtB g b with
    | true => simp [opt]; omega
    | false => simpa [opt] using ih

theorem piece_field3 (s : Ps) (w : World) : (Instr.field 31 (.agg #[.int .i64 s.l, .int .i64 s.w, .int .i64 s.h, .slice s.ka s.kn s.kc]) 3).run Try.prog w = .ok (.slice s.ka s.kn s.kc) w := by kernel_rfl

set_option maxHeartbeats 12800000 in
set_option maxRecDepth 100000 in
theorem FnClearAt_c (v : Value) (L : List Int) (w : World) (h : Row byteE w v L ∧ ∀ x ∈ L, 0 ≤ x ∧ x ≤ 255) : Calls Try.prog 9 #[v] w fun e w' => e = .returned (.bool true) ∧ Below w.heap.size w w' := by
  obtain ⟨h, hb⟩ := h
  obtain ⟨A, c, rfl, hc1, hm1⟩ := h.form
  unfold maxLen at hm1
  by_cases hle : 1048576 < L.length
  · have hd : decide ((1048576 : Int) < (L.length : Int)) = true := by simp; omega
    go_enter Try.func9, Try.ntmps9
    go_wp2
    go_ret
    exact ⟨rfl, Below.refl _ _⟩
  · have hd : decide ((1048576 : Int) < (L.length : Int)) = false := by simp; omega
    have HH := hid h
    have HB := hid hb
    clear h hb hle
    go_enter Try.func9, Try.ntmps9
    go_wp2_with fail
    refine (DrawClearAt_c _ L _ HH.out HB.out).mono ?_
    rintro e w1 ⟨p, s, b, rfl, -, hs, ht, ho, hb⟩
    have HS := hid hs
    have HI := hid (tP_I64 ht)
    have HB1 := hid ((hb.alloc hb.size (.cells #[.int .i64 s.l, .int .i64 s.w, .int .i64 s.h, .slice s.ka s.kn s.kc] 31)).alloc (Nat.le_trans hb.size (by simp)) (.cells #[.int .i64 b.x, .int .i64 b.y, .int .i64 b.w, .int .i64 b.h] 33))
    have hsz := hb.size
    have Hp := hid (PcAt.mk_ ho hsz)
    have Hp_1 := hid (Hp.out.go ((Below.refl _ _).alloc (Nat.le_refl _) (.cells #[.int .i64 b.x, .int .i64 b.y, .int .i64 b.w, .int .i64 b.h] 33)))
    have Hb_1 := hid (show Blk ((w1.alloc (.cells #[.int .i64 s.l, .int .i64 s.w, .int .i64 s.h, .slice s.ka s.kn s.kc] 31)).alloc (.cells #[.int .i64 b.x, .int .i64 b.y, .int .i64 b.w, .int .i64 b.h] 33)) (w1.heap.size + 1) #[.int .i64 b.x, .int .i64 b.y, .int .i64 b.w, .int .i64 b.h] 33 by
      have := Blk.new (w1.alloc (.cells #[.int .i64 s.l, .int .i64 s.w, .int .i64 s.h, .slice s.ka s.kn s.kc] 31)) #[.int .i64 b.x, .int .i64 b.y, .int .i64 b.w, .int .i64 b.h] 33
      rw [World.size_alloc] at this
      exact this)
    have HK := hid (fun w p s b => ClearAt_c p s b w)
    clear hs ht ho hb Hp
    obtain ⟨c, hc⟩ : ∃ c, c = caB p b := ⟨_, rfl⟩
    have HC := hid hc
    have hne : (c != c) = false := by simp
    have heq : (c == c) = true := by simp
    clear hc
    go_wp2_with fail
    refine (ClearAt_c p s b _ (Hp_1.out.pvr HS.out)).mono ?_
    rintro e w2 ⟨rfl, hb⟩
    have Hp_2 := hid (Hp_1.out.go hb)
    have Hb_2 := hid (Hb_1.out.go hb)
    have HB2 := hid (HB1.out.trans (hb.mono HB1.out.size))
    clear hb
    try clear c_p l_p
    have c_p := fun (o : Nat) => (Hp_2.out.1).cell o
    have l_p := (Hp_2.out.1).lt
    try clear c_b l_b
    have c_b := fun (o : Nat) => (Hb_2.out).cell o
    have l_b := (Hb_2.out).lt
    rw [← HC.out]
    go_wp2_with fail
    refine (sClearAt_c p s b _ (Hp_2.out.pvr HS.out) HI.out.1 HI.out.2).mono ?_
    rintro e w3 ⟨rfl, hb⟩
    have Hp_3 := hid (Hp_2.out.go hb)
    have Hb_3 := hid (Hb_2.out.go hb)
    have HB3 := hid (HB2.out.trans (hb.mono HB2.out.size))
    clear hb
    try clear c_p l_p
    have c_p := fun (o : Nat) => (Hp_3.out.1).cell o
    have l_p := (Hp_3.out.1).lt
    try clear c_b l_b
    have c_b := fun (o : Nat) => (Hb_3.out).cell o
    have l_b := (Hb_3.out).lt
    rw [← HC.out]
    cases hv : vpB p with
    | false =>
      have HV := hid hv
      clear hv
      go_wp2_with fail
      refine (ValidPiece_c p s _ (Hp_3.out.pvr HS.out)).mono ?_
      rintro e w4 ⟨rfl, hb⟩
      have Hp_4 := hid (Hp_3.out.go hb)
      have Hb_4 := hid (Hb_3.out.go hb)
      have HB4 := hid (HB3.out.trans (hb.mono HB3.out.size))
      clear hb
      try clear c_p l_p
      have c_p := fun (o : Nat) => (Hp_4.out.1).cell o
      have l_p := (Hp_4.out.1).lt
      try clear c_b l_b
      have c_b := fun (o : Nat) => (Hb_4.out).cell o
      have l_b := (Hb_4.out).lt
      rw [HV.out]
      go_wp2_with fail
      refine (sClearAt_c p s b _ (Hp_4.out.pvr HS.out) HI.out.1 HI.out.2).mono ?_
      rintro e w5 ⟨rfl, hb⟩
      have Hp_5 := hid (Hp_4.out.go hb)
      have Hb_5 := hid (Hb_4.out.go hb)
      have HB5 := hid (HB4.out.trans (hb.mono HB4.out.size))
      clear hb
      try clear c_p l_p
      have c_p := fun (o : Nat) => (Hp_5.out.1).cell o
      have l_p := (Hp_5.out.1).lt
      try clear c_b l_b
      have c_b := fun (o : Nat) => (Hb_5.out).cell o
      have l_b := (Hb_5.out).lt
      rw [← HC.out]
      go_wp2
      go_ret
      exact ⟨rfl, HB5.out⟩
    | true =>
      have HV := hid hv
      have hvp := vpB_iff.1 hv
      clear hv
      go_wp2_with fail
      refine (ValidPiece_c p s _ (Hp_3.out.pvr HS.out)).mono ?_
      rintro e w4 ⟨rfl, hb⟩
      have Hp_4 := hid (Hp_3.out.go hb)
      have Hb_4 := hid (Hb_3.out.go hb)
      have HB4 := hid (HB3.out.trans (hb.mono HB3.out.size))
      clear hb
      try clear c_p l_p
      have c_p := fun (o : Nat) => (Hp_4.out.1).cell o
      have l_p := (Hp_4.out.1).lt
      try clear c_b l_b
      have c_b := fun (o : Nat) => (Hb_4.out).cell o
      have l_b := (Hb_4.out).lt
      rw [HV.out]
      by_cases hB : VB b
      · go_wp2_with fail
        refine (ValidBox_t b hB _).mono ?_
        rintro e w5 ⟨rfl, hb⟩
        have Hp_5 := hid (Hp_4.out.go hb)
        have Hb_5 := hid (Hb_4.out.go hb)
        have HB5 := hid (HB4.out.trans (hb.mono HB4.out.size))
        clear hb
        try clear c_p l_p
        have c_p := fun (o : Nat) => (Hp_5.out.1).cell o
        have l_p := (Hp_5.out.1).lt
        try clear c_b l_b
        have c_b := fun (o : Nat) => (Hb_5.out).cell o
        have l_b := (Hb_5.out).lt
        have hin : insB b ⟨0, 0, s.w, s.h⟩ = decide (okF p.w p.h b) := by rw [HS.out.2.1, HS.out.2.2]; exact insB_ok hvp.2.1 hvp.2.2.1
        have HIN := hid (InsideOf_c b ⟨0, 0, s.w, s.h⟩)
        simp only [hin] at HIN
        clear hin
        by_cases ho : okF p.w p.h b
        · have hd2 : decide (okF p.w p.h b) = true := by simpa using ho
          rw [hd2] at HIN
          have HR := hid (coR_t (p := p) (b := b) (l := 7) ⟨hvp, ho, by decide⟩)
          have hcc : c = clB p.f b := by rw [HC.out, caB, HV.out]; simp [ho]
          have HCC := hid hcc
          clear hd2 hvp hB ho hcc
          go_wp2_with fail
          refine (HIN.out _).mono ?_
          rintro e w6 ⟨rfl, hb⟩
          have Hp_6 := hid (Hp_5.out.go hb)
          have Hb_6 := hid (Hb_5.out.go hb)
          have HB6 := hid (HB5.out.trans (hb.mono HB5.out.size))
          clear hb
          try clear c_p l_p
          have c_p := fun (o : Nat) => (Hp_6.out.1).cell o
          have l_p := (Hp_6.out.1).lt
          try clear c_b l_b
          have c_b := fun (o : Nat) => (Hb_6.out).cell o
          have l_b := (Hb_6.out).lt
          go_wp2_with fail
          refine (CutOut_c p s b 7 _ (Hp_6.out.pvr HS.out)).mono ?_
          rintro e w7 ⟨⟨s2, rfl, hs2, ho2⟩, hb⟩
          have hlen : s2.kn = (coR p b 7).f.length := by
            obtain ⟨A2, c2, e2, -⟩ := ho2.shape
            simp only [Ps.kv, Value.slice.injEq] at e2
            exact e2.2.1
          have hfin : (c == ((s2.kn : Int) == 0)) = true := by
            rw [hlen, HR.out, HCC.out]
            simp only [coF_nil, beq_self_eq_true]
          clear hlen ho2 hs2
          have hfd := piece_field3 s2
          have Hp_7 := hid (Hp_6.out.go hb)
          have Hb_7 := hid (Hb_6.out.go hb)
          have HB7 := hid (HB6.out.trans (hb.mono HB6.out.size))
          clear hb
          try clear c_p l_p
          have c_p := fun (o : Nat) => (Hp_7.out.1).cell o
          have l_p := (Hp_7.out.1).lt
          try clear c_b l_b
          have c_b := fun (o : Nat) => (Hb_7.out).cell o
          have l_b := (Hb_7.out).lt
          go_wp2
          go_ret
          exact ⟨rfl, HB7.out⟩
        · have hd2 : decide (okF p.w p.h b) = false := by simpa using ho
          rw [hd2] at HIN
          clear hd2 hvp hB ho
          go_wp2_with fail
          refine (HIN.out _).mono ?_
          rintro e w6 ⟨rfl, hb⟩
          have Hp_6 := hid (Hp_5.out.go hb)
          have Hb_6 := hid (Hb_5.out.go hb)
          have HB6 := hid (HB5.out.trans (hb.mono HB5.out.size))
          clear hb
          try clear c_p l_p
          have c_p := fun (o : Nat) => (Hp_6.out.1).cell o
          have l_p := (Hp_6.out.1).lt
          try clear c_b l_b
          have c_b := fun (o : Nat) => (Hb_6.out).cell o
          have l_b := (Hb_6.out).lt
          go_wp2_with fail
          refine (sClearAt_c p s b _ (Hp_6.out.pvr HS.out) HI.out.1 HI.out.2).mono ?_
          rintro e w7 ⟨rfl, hb⟩
          have Hp_7 := hid (Hp_6.out.go hb)
          have Hb_7 := hid (Hb_6.out.go hb)
          have HB7 := hid (HB6.out.trans (hb.mono HB6.out.size))
          clear hb
          try clear c_p l_p
          have c_p := fun (o : Nat) => (Hp_7.out.1).cell o
          have l_p := (Hp_7.out.1).lt
          try clear c_b l_b
          have c_b := fun (o : Nat) => (Hb_7.out).cell o
          have l_b := (Hb_7.out).lt
          rw [← HC.out]
          go_wp2
          go_ret
          exact ⟨rfl, HB7.out⟩
      · clear hvp
        go_wp2_with fail
        refine (ValidBox_f b hB _).mono ?_
        rintro e w5 ⟨rfl, hb⟩
        have Hp_5 := hid (Hp_4.out.go hb)
        have Hb_5 := hid (Hb_4.out.go hb)
        have HB5 := hid (HB4.out.trans (hb.mono HB4.out.size))
        clear hb
        try clear c_p l_p
        have c_p := fun (o : Nat) => (Hp_5.out.1).cell o
        have l_p := (Hp_5.out.1).lt
        try clear c_b l_b
        have c_b := fun (o : Nat) => (Hb_5.out).cell o
        have l_b := (Hb_5.out).lt
        go_wp2_with fail
        refine (sClearAt_c p s b _ (Hp_5.out.pvr HS.out) HI.out.1 HI.out.2).mono ?_
        rintro e w6 ⟨rfl, hb⟩
        have Hp_6 := hid (Hp_5.out.go hb)
        have Hb_6 := hid (Hb_5.out.go hb)
        have HB6 := hid (HB5.out.trans (hb.mono HB5.out.size))
        clear hb
        try clear c_p l_p
        have c_p := fun (o : Nat) => (Hp_6.out.1).cell o
        have l_p := (Hp_6.out.1).lt
        try clear c_b l_b
        have c_b := fun (o : Nat) => (Hb_6.out).cell o
        have l_b := (Hb_6.out).lt
        rw [← HC.out]
        go_wp2
        go_ret
        exact ⟨rfl, HB6.out⟩

end Go.Proofs.Ytpicbkakghojnaa
