/-
  The law FnLeftOver, walked (written by a program of mine).
-/
import Derived.Test.YtcfhncckeedipaaDrBoxes
import Derived.Test.YtcfhncckeedipaaBoxQ
import Derived.Test.YtcfhncckeedipaaLeftI
import Derived.Test.YtcfhncckeedipaaGrow
import Derived.Deep.RegionHeld3
namespace Go.Proofs.Ytcfhncckeedipaa
set_option linter.unusedSimpArgs false
set_option linter.unusedVariables false
open Go.RowKit
theorem below_abs {N : Nat} {a w : World} (h : Below N a w) : ∃ wn, wn = w ∧ Below N a wn := ⟨w, rfl, h⟩

set_option maxHeartbeats 12800000 in
set_option maxRecDepth 100000 in
theorem FnLeftOver_c (v : Value) (L : List Int) (w : World) (h : Row byteE w v L ∧ ∀ x ∈ L, 0 ≤ x ∧ x ≤ 255) : Calls Try.prog 10 #[v] w fun e w' => e = .returned (.bool true) ∧ Below w.heap.size w w' := by
  obtain ⟨h, hb⟩ := h
  obtain ⟨A, c, rfl, hc1, hm1⟩ := h.form
  unfold maxLen at hm1
  by_cases hle : 1048576 < L.length
  · have hd : decide ((1048576 : Int) < (L.length : Int)) = true := by simp; omega
    go_enter Try.func10, Try.ntmps10
    go_wp2
    go_ret
    exact ⟨rfl, Below.refl _ _⟩
  · have hd : decide ((1048576 : Int) < (L.length : Int)) = false := by simp; omega
    have HH := hid h
    have HB := hid hb
    clear h hb hle
    go_enter Try.func10, Try.ntmps10
    go_wp2_with fail
    refine (DrawLeftOver_c _ L _ HH.out HB.out).mono ?_
    rintro e w1 ⟨a, b, rfl, ha, hab, hb⟩
    have HB1 := hid ((hb.alloc hb.size (.cells #[.int .i64 a.x, .int .i64 a.y, .int .i64 a.w, .int .i64 a.h] 44)).alloc (Nat.le_trans hb.size (by simp)) (.cells #[.int .i64 b.x, .int .i64 b.y, .int .i64 b.w, .int .i64 b.h] 44))
    have Qa_1 := hid ((Blk.new w1 #[.int .i64 a.x, .int .i64 a.y, .int .i64 a.w, .int .i64 a.h] 44).alloc (.cells #[.int .i64 b.x, .int .i64 b.y, .int .i64 b.w, .int .i64 b.h] 44))
    have Qb_1 := hid (show Blk ((w1.alloc (.cells #[.int .i64 a.x, .int .i64 a.y, .int .i64 a.w, .int .i64 a.h] 44)).alloc (.cells #[.int .i64 b.x, .int .i64 b.y, .int .i64 b.w, .int .i64 b.h] 44)) (w1.heap.size + 1) #[.int .i64 b.x, .int .i64 b.y, .int .i64 b.w, .int .i64 b.h] 44 by
      have := Blk.new (w1.alloc (.cells #[.int .i64 a.x, .int .i64 a.y, .int .i64 a.w, .int .i64 a.h] 44)) #[.int .i64 b.x, .int .i64 b.y, .int .i64 b.w, .int .i64 b.h] 44
      rw [World.size_alloc] at this
      exact this)
    clear ha hab hb
    go_wp2_with fail
    refine (LeftOver_c a b _).mono ?_
    rintro e w2 ⟨r1, rfl, hr, hb⟩
    have Qa_2 := hid (Qa_1.out.go hb)
    have Qb_2 := hid (Qb_1.out.go hb)
    have HB_2 := hid (HB1.out.trans (hb.mono HB1.out.size))
    have HE_2 := hid (hr.rowB)
    try clear c_a f_a l_a
    have c_a := fun (o : Nat) => Qa_2.out.cell o
    have f_a := fun (o : Nat) => Qa_2.out.frz o
    have l_a := Qa_2.out.lt
    try clear c_b f_b l_b
    have c_b := fun (o : Nat) => Qb_2.out.cell o
    have f_b := fun (o : Nat) => Qb_2.out.frz o
    have l_b := Qb_2.out.lt
    obtain ⟨A1, k1, rfl, hk1, hm2⟩ := HE_2.out.form
    unfold maxLen at hm2
    clear hb hr
    go_wp2_with fail
    refine (sLeftOver_c a b _).mono ?_
    rintro e w3 ⟨r2, rfl, hr, hb⟩
    have HE_3 := hid (HE_2.out.go hb)
    have Qa_3 := hid (Qa_2.out.go hb)
    have Qb_3 := hid (Qb_2.out.go hb)
    have HB_3 := hid (HB_2.out.trans (hb.mono HB_2.out.size))
    have HS_3 := hid (hr.rowB)
    try clear c_a f_a l_a
    have c_a := fun (o : Nat) => Qa_3.out.cell o
    have f_a := fun (o : Nat) => Qa_3.out.frz o
    have l_a := Qa_3.out.lt
    try clear c_b f_b l_b
    have c_b := fun (o : Nat) => Qb_3.out.cell o
    have f_b := fun (o : Nat) => Qb_3.out.frz o
    have l_b := Qb_3.out.lt
    clear hb hr
    go_wp2_with fail
    refine (equalBoxes_same _ _ _ _ HE_3.out HS_3.out).mono ?_
    rintro e w4 ⟨rfl, hd⟩
    have HE_4 := hid (HE_3.out.drR hd)
    have HS_4 := hid (HS_3.out.drR hd)
    have Qa_4 := hid (Qa_3.out.go (hd.below _))
    have Qb_4 := hid (Qb_3.out.go (hd.below _))
    have HB_4 := hid (HB_3.out.trans (hd.below _))
    try clear c_a f_a l_a
    have c_a := fun (o : Nat) => Qa_4.out.cell o
    have f_a := fun (o : Nat) => Qa_4.out.frz o
    have l_a := Qa_4.out.lt
    try clear c_b f_b l_b
    have c_b := fun (o : Nat) => Qb_4.out.cell o
    have f_b := fun (o : Nat) => Qb_4.out.frz o
    have l_b := Qb_4.out.lt
    clear hd
    cases hva : vbB a with
    | false =>
      have HVA := hid hva
      clear hva
      go_wp2_with fail
      refine (ValidBox_c a _).mono ?_
      rintro e w5 ⟨rfl, hb⟩
      have HE_5 := hid (HE_4.out.go hb)
      have HS_5 := hid (HS_4.out.go hb)
      have Qa_5 := hid (Qa_4.out.go hb)
      have Qb_5 := hid (Qb_4.out.go hb)
      have HB_5 := hid (HB_4.out.trans (hb.mono HB_4.out.size))
      try clear c_a f_a l_a
      have c_a := fun (o : Nat) => Qa_5.out.cell o
      have f_a := fun (o : Nat) => Qa_5.out.frz o
      have l_a := Qa_5.out.lt
      try clear c_b f_b l_b
      have c_b := fun (o : Nat) => Qb_5.out.cell o
      have f_b := fun (o : Nat) => Qb_5.out.frz o
      have l_b := Qb_5.out.lt
      rw [HVA.out]
      clear hb
      go_wp2_with fail
      refine (sLeftOver_c a b _).mono ?_
      rintro e w6 ⟨r3, rfl, hr, hb⟩
      have HE_6 := hid (HE_5.out.go hb)
      have HS_6 := hid (HS_5.out.go hb)
      have Qa_6 := hid (Qa_5.out.go hb)
      have Qb_6 := hid (Qb_5.out.go hb)
      have HB_6 := hid (HB_5.out.trans (hb.mono HB_5.out.size))
      have HS2_6 := hid (hr.rowB)
      try clear c_a f_a l_a
      have c_a := fun (o : Nat) => Qa_6.out.cell o
      have f_a := fun (o : Nat) => Qa_6.out.frz o
      have l_a := Qa_6.out.lt
      try clear c_b f_b l_b
      have c_b := fun (o : Nat) => Qb_6.out.cell o
      have f_b := fun (o : Nat) => Qb_6.out.frz o
      have l_b := Qb_6.out.lt
      clear hb hr
      go_wp2_with fail
      refine (equalBoxes_same _ _ _ _ HE_6.out HS2_6.out).mono ?_
      rintro e w7 ⟨rfl, hd⟩
      have HE_7 := hid (HE_6.out.drR hd)
      have HS_7 := hid (HS_6.out.drR hd)
      have HS2_7 := hid (HS2_6.out.drR hd)
      have Qa_7 := hid (Qa_6.out.go (hd.below _))
      have Qb_7 := hid (Qb_6.out.go (hd.below _))
      have HB_7 := hid (HB_6.out.trans (hd.below _))
      try clear c_a f_a l_a
      have c_a := fun (o : Nat) => Qa_7.out.cell o
      have f_a := fun (o : Nat) => Qa_7.out.frz o
      have l_a := Qa_7.out.lt
      try clear c_b f_b l_b
      have c_b := fun (o : Nat) => Qb_7.out.cell o
      have f_b := fun (o : Nat) => Qb_7.out.frz o
      have l_b := Qb_7.out.lt
      clear hd
      go_wp2
      go_ret
      exact ⟨rfl, HB_7.out⟩
    | true =>
      have HVA := hid hva
      clear hva
      go_wp2_with fail
      refine (ValidBox_c a _).mono ?_
      rintro e w5 ⟨rfl, hb⟩
      have HE_5 := hid (HE_4.out.go hb)
      have HS_5 := hid (HS_4.out.go hb)
      have Qa_5 := hid (Qa_4.out.go hb)
      have Qb_5 := hid (Qb_4.out.go hb)
      have HB_5 := hid (HB_4.out.trans (hb.mono HB_4.out.size))
      try clear c_a f_a l_a
      have c_a := fun (o : Nat) => Qa_5.out.cell o
      have f_a := fun (o : Nat) => Qa_5.out.frz o
      have l_a := Qa_5.out.lt
      try clear c_b f_b l_b
      have c_b := fun (o : Nat) => Qb_5.out.cell o
      have f_b := fun (o : Nat) => Qb_5.out.frz o
      have l_b := Qb_5.out.lt
      rw [HVA.out]
      clear hb
      cases hvb : vbB b with
      | false =>
        have HVB := hid hvb
        clear hvb
        go_wp2_with fail
        refine (ValidBox_c b _).mono ?_
        rintro e w6 ⟨rfl, hb⟩
        have HE_6 := hid (HE_5.out.go hb)
        have HS_6 := hid (HS_5.out.go hb)
        have Qa_6 := hid (Qa_5.out.go hb)
        have Qb_6 := hid (Qb_5.out.go hb)
        have HB_6 := hid (HB_5.out.trans (hb.mono HB_5.out.size))
        try clear c_a f_a l_a
        have c_a := fun (o : Nat) => Qa_6.out.cell o
        have f_a := fun (o : Nat) => Qa_6.out.frz o
        have l_a := Qa_6.out.lt
        try clear c_b f_b l_b
        have c_b := fun (o : Nat) => Qb_6.out.cell o
        have f_b := fun (o : Nat) => Qb_6.out.frz o
        have l_b := Qb_6.out.lt
        rw [HVB.out]
        clear hb
        go_wp2_with fail
        refine (sLeftOver_c a b _).mono ?_
        rintro e w7 ⟨r3, rfl, hr, hb⟩
        have HE_7 := hid (HE_6.out.go hb)
        have HS_7 := hid (HS_6.out.go hb)
        have Qa_7 := hid (Qa_6.out.go hb)
        have Qb_7 := hid (Qb_6.out.go hb)
        have HB_7 := hid (HB_6.out.trans (hb.mono HB_6.out.size))
        have HS2_7 := hid (hr.rowB)
        try clear c_a f_a l_a
        have c_a := fun (o : Nat) => Qa_7.out.cell o
        have f_a := fun (o : Nat) => Qa_7.out.frz o
        have l_a := Qa_7.out.lt
        try clear c_b f_b l_b
        have c_b := fun (o : Nat) => Qb_7.out.cell o
        have f_b := fun (o : Nat) => Qb_7.out.frz o
        have l_b := Qb_7.out.lt
        clear hb hr
        go_wp2_with fail
        refine (equalBoxes_same _ _ _ _ HE_7.out HS2_7.out).mono ?_
        rintro e w8 ⟨rfl, hd⟩
        have HE_8 := hid (HE_7.out.drR hd)
        have HS_8 := hid (HS_7.out.drR hd)
        have HS2_8 := hid (HS2_7.out.drR hd)
        have Qa_8 := hid (Qa_7.out.go (hd.below _))
        have Qb_8 := hid (Qb_7.out.go (hd.below _))
        have HB_8 := hid (HB_7.out.trans (hd.below _))
        try clear c_a f_a l_a
        have c_a := fun (o : Nat) => Qa_8.out.cell o
        have f_a := fun (o : Nat) => Qa_8.out.frz o
        have l_a := Qa_8.out.lt
        try clear c_b f_b l_b
        have c_b := fun (o : Nat) => Qb_8.out.cell o
        have f_b := fun (o : Nat) => Qb_8.out.frz o
        have l_b := Qb_8.out.lt
        clear hd
        go_wp2
        go_ret
        exact ⟨rfl, HB_8.out⟩
      | true =>
        have HVB := hid hvb
        clear hvb
        go_wp2_with fail
        refine (ValidBox_c b _).mono ?_
        rintro e w6 ⟨rfl, hb⟩
        have HE_6 := hid (HE_5.out.go hb)
        have HS_6 := hid (HS_5.out.go hb)
        have Qa_6 := hid (Qa_5.out.go hb)
        have Qb_6 := hid (Qb_5.out.go hb)
        have HB_6 := hid (HB_5.out.trans (hb.mono HB_5.out.size))
        try clear c_a f_a l_a
        have c_a := fun (o : Nat) => Qa_6.out.cell o
        have f_a := fun (o : Nat) => Qa_6.out.frz o
        have l_a := Qa_6.out.lt
        try clear c_b f_b l_b
        have c_b := fun (o : Nat) => Qb_6.out.cell o
        have f_b := fun (o : Nat) => Qb_6.out.frz o
        have l_b := Qb_6.out.lt
        rw [HVB.out]
        clear hb
        go_wp2_with fail
        refine (MeetOf_c a b _).mono ?_
        rintro e w7 ⟨rfl, hb⟩
        have HE_7 := hid (HE_6.out.go hb)
        have HS_7 := hid (HS_6.out.go hb)
        have Qa_7 := hid (Qa_6.out.go hb)
        have Qb_7 := hid (Qb_6.out.go hb)
        have HB_7 := hid (HB_6.out.trans (hb.mono HB_6.out.size))
        try clear c_a f_a l_a
        have c_a := fun (o : Nat) => Qa_7.out.cell o
        have f_a := fun (o : Nat) => Qa_7.out.frz o
        have l_a := Qa_7.out.lt
        try clear c_b f_b l_b
        have c_b := fun (o : Nat) => Qb_7.out.cell o
        have f_b := fun (o : Nat) => Qb_7.out.frz o
        have l_b := Qb_7.out.lt
        clear hb
        have hva := vbB_iff.1 HVA.out
        have hvb := vbB_iff.1 HVB.out
        have HPL := hid (left_apart hva hvb)
        have HPV := hid (left_VBs hva hvb)
        have HPA := hid (left_away hva hvb)
        have HPM := hid (left_meet hva hvb)
        have hlen4 := leftL_len a b
        have har := (hva.area)
        have hab2 := meet_area (b := b) hva
        have haL := areaL_bd (left_VBs hva hvb).2
        have HEo := hid (leftOut_y hva hvb)
        obtain ⟨E, hE⟩ : ∃ E, E = leftL a b := ⟨_, rfl⟩
        have HEE := hid hE
        rw [HEo.out] at HE_7 hk1 ⊢
        rw [← hE] at HE_7 hk1 HPL HPV HPA HPM hlen4 haL ⊢
        clear hE
        obtain ⟨m, hm⟩ : ∃ m, m = meetBx a b := ⟨_, rfl⟩
        rw [← hm] at HPM hab2 ⊢
        have HVa := hid hva
        have HVb := hid hvb
        obtain ⟨ok, hok⟩ : ∃ c, c = meetOk a b := ⟨_, rfl⟩
        rw [← hok]
        clear hm hok hva hvb
        have HBm := hid (HB_7.out.alloc HB_7.out.size (.cells #[.int .i64 m.x, .int .i64 m.y, .int .i64 m.w, .int .i64 m.h] 44))
        have HEm := hid (HE_7.out.go ((Below.refl _ _).alloc (Nat.le_refl _) (.cells #[.int .i64 m.x, .int .i64 m.y, .int .i64 m.w, .int .i64 m.h] 44)))
        have Qam := hid (Qa_7.out.alloc (.cells #[.int .i64 m.x, .int .i64 m.y, .int .i64 m.w, .int .i64 m.h] 44))
        have Qbm := hid (Qb_7.out.alloc (.cells #[.int .i64 m.x, .int .i64 m.y, .int .i64 m.w, .int .i64 m.h] 44))
        have Qmm := hid (Blk.new w7 #[.int .i64 m.x, .int .i64 m.y, .int .i64 m.w, .int .i64 m.h] 44)
        obtain ⟨wo, hwo⟩ : ∃ wo, wo = w7.alloc (.cells #[.int .i64 m.x, .int .i64 m.y, .int .i64 m.w, .int .i64 m.h] 44) := ⟨_, rfl⟩
        have HWO := hid hwo
        try clear c_a f_a l_a
        try clear c_b f_b l_b
        go_wp2
        rw [← hwo]
        rw [← hwo] at HBm HEm Qam Qbm Qmm
        clear hwo
        go_loopw [8] (fun i wr => ∃ k : Nat, i = .int .i64 k ∧ k ≤ E.length ∧ Below wo.heap.size wo wr) (fun i _ => E.length - (intOf i).toNat)
        case atStart => exact ⟨0, rfl, by omega, Below.refl _ _⟩
        case round =>
          obtain ⟨k, rfl, hk, hb⟩ := hrel
          have HBr := hid hb
          have HEr := hid (HEm.out.go hb)
          have Qar := hid (Qam.out.go hb)
          have Qbr := hid (Qbm.out.go hb)
          have Qmr := hid (Qmm.out.go hb)
          have hszr := hb.size
          clear hb
          have c_a := fun (o : Nat) => Qar.out.cell o
          have l_a := Qar.out.lt
          have c_b := fun (o : Nat) => Qbr.out.cell o
          have l_b := Qbr.out.lt
          have c_m := fun (o : Nat) => Qmr.out.cell o
          have l_m := Qmr.out.lt
          by_cases hlt : k < E.length
          · obtain ⟨b1, o1, rfl, hb1, hx⟩ := row_boxs HEr.out (by omega)
            obtain ⟨x0, x1, x2, x3⟩ := hx k hlt
            have hpa := HPA.out E[k] (List.getElem_mem hlt)
            have HM := hid hpa.1
            have HVk := hid (HPV.out.2 E[k] (List.getElem_mem hlt))
            have HIN : Hid (insB E[k] a = true) := insB_iff.2 ⟨HVk.out, HVa.out, hpa.2⟩
            have y1 : b1 < wr.heap.size + 1 := by omega
            have y2 : w1.heap.size < wr.heap.size + 1 := by omega
            have y3 : w1.heap.size + 1 < wr.heap.size + 1 := by omega
            clear hx hpa c_m l_m
            go_wp2
            have ZK := hid ((Below.refl _ _).drew : Below wr.heap.size wr wr.drew)
            go_region_held3 (fun w' => ∀ b o, b < wr.heap.size → w'.cell? ⟨b, o, none⟩ = wr.cell? ⟨b, o, none⟩) (first | with_reducible exact fun b o h => ZK.out.cell (p := ⟨b, o, none⟩) h | with_reducible exact fun b o h => (ZK.out.alloc ZK.out.size _).cell (p := ⟨b, o, none⟩) h | with_reducible exact fun b o h => (((Below.refl _ _).alloc (Nat.le_refl _) _).drew).cell (p := ⟨b, o, none⟩) h | with_reducible exact fun b o h => ((((ZK.out.setCell (Nat.le_refl _) _).setCell (Nat.le_refl _) _).setCell (Nat.le_refl _) _).setCell (Nat.le_refl _) _).cell (p := ⟨b, o, none⟩) h)
              (first | (go_at_call 43; ((with_reducible refine (MeetOf_f E[k] b _ HVk.out HVb.out HM.out).mono ?_); rintro e wq ⟨rfl, hb⟩; obtain ⟨hc2, hf2, hs2⟩ := bcell hb; (try have hz2 : wr.heap.size < wq.heap.size := (by simp at hs2; omega)); (first | with_reducible replace ZK := hid (ZK.out.trans (hb.mono ZK.out.size)) | with_reducible replace ZK := hid ((((Below.refl wr.heap.size wr).alloc (Nat.le_refl _) _).drew).trans (hb.mono (((Below.refl wr.heap.size wr).alloc (Nat.le_refl _) _).drew).size))); clear hb hs2)))
            all_goals
              go_wp2
              first
                | (obtain ⟨wn, hwn, hbn⟩ := below_abs (ZK.out.alloc ZK.out.size (.cells #[.int .i64 0, .int .i64 0, .int .i64 0, .int .i64 0] 44)); rw [← hwn])
                | (obtain ⟨wn, hwn, hbn⟩ := below_abs ((((ZK.out.setCell (p := ⟨wr.heap.size, 0, none⟩) (Nat.le_refl _) (.int .i64 0)).setCell (p := ⟨wr.heap.size, 1, none⟩) (Nat.le_refl _) (.int .i64 0)).setCell (p := ⟨wr.heap.size, 2, none⟩) (Nat.le_refl _) (.int .i64 0)).setCell (p := ⟨wr.heap.size, 3, none⟩) (Nat.le_refl _) (.int .i64 0)); rw [← hwn])
              have HBn := hid hbn
              have HEn := hid (HEr.out.go hbn)
              have Qan := hid (Qar.out.go hbn)
              obtain ⟨-, hx⟩ : True ∧ ∀ k, (hk : k < E.length) → wn.cell? ⟨b1, o1 + k * 4, none⟩ = some (.int .i64 E[k].x) ∧ wn.cell? ⟨b1, o1 + k * 4 + 1, none⟩ = some (.int .i64 E[k].y) ∧ wn.cell? ⟨b1, o1 + k * 4 + 2, none⟩ = some (.int .i64 E[k].w) ∧ wn.cell? ⟨b1, o1 + k * 4 + 3, none⟩ = some (.int .i64 E[k].h) := by
                refine ⟨trivial, ?_⟩
                obtain ⟨b2, o2, e2, -, h2⟩ := row_boxs HEn.out (by omega)
                simp only [Option.some.injEq, Addr.mk.injEq, and_true] at e2
                obtain ⟨rfl, rfl⟩ := e2
                exact h2
              obtain ⟨x0, x1, x2, x3⟩ := hx k hlt
              have hb1n : b1 < wn.heap.size := by have := hbn.size; omega
              have han : w1.heap.size < wn.heap.size := by have := hbn.size; omega
              have HC : Hid (∀ w, Calls Try.prog 44 #[.agg #[.int .i64 E[k].x, .int .i64 E[k].y, .int .i64 E[k].w, .int .i64 E[k].h], .agg #[.int .i64 a.x, .int .i64 a.y, .int .i64 a.w, .int .i64 a.h]] w fun e w' => e = .returned (.bool true) ∧ Below w.heap.size w w') := fun w => by
                have := InsideOf_c E[k] a w
                rwa [HIN.out] at this
              clear hx hbn hwn c_a c_b l_a l_b y1 y2 y3
              have c_a := fun (o : Nat) => Qan.out.cell o
              have hq := fun (q : GW wn.heap.size wn) => q.cell
              refine wp_region_grow wn.heap.size wn (by kernel_rfl) (by kernel_rfl) ?_
              repeat (go_big_quiet_step (first | (go_at_call 44; exact GW.call (Nat.le_refl _) (HC.out _))))
              refine wpQuiet_nil ?_
              rintro _ ⟨q, rfl⟩
              have HQ := hid q.h
              go_wp2
              exact ⟨⟨k + 1, by go_num, by omega, HBr.out.trans ((HBn.out.mono hszr).trans (HQ.out.mono (by have := HBn.out.size; omega)))⟩, by simp [intOf]; omega⟩
          · have HEl : Hid (Row boxE wr (.slice A1 E.length k1) E) := HEr.out
            have HCA : Hid (∀ w, Row boxE w (.slice A1 E.length k1) E → Calls Try.prog 45 #[.slice A1 E.length k1] w fun e w' => e = .returned (.bool true) ∧ Below w.heap.size w w') := fun w h => by
              have := ApartBoxes_c _ E w h
              rwa [apB_t HPV.out HPL.out] at this
            have HCB : Hid (∀ w, Row boxE w (.slice A1 E.length k1) E → Calls Try.prog 46 #[.slice A1 E.length k1] w fun e w' => e = .returned (.int .i64 (areaL E)) ∧ Below w.heap.size w w') := fun w h =>
              (area_c _ E w h HPV.out.2 (by omega)).mono fun e w' ⟨h1, h2⟩ => ⟨h1, h2.below _⟩
            have hpm := HPM.out
            have hs1 : IntKind.i64.wrap (m.w * m.h) = m.w * m.h := IntWalk.i64_in _ (by omega)
            have hs2 : IntKind.i64.wrap (areaL E + m.w * m.h) = areaL E + m.w * m.h := IntWalk.i64_in _ (by omega)
            have hs3 : IntKind.i64.wrap (a.w * a.h) = a.w * a.h := IntWalk.i64_in _ (by omega)
            have ht1 : (areaL E + m.w * m.h == a.w * a.h) = true := by rw [hpm]; simp
            have ht2 : decide ((E.length : Int) ≤ 4) = true := decide_eq_true (by omega)
            have HB9 := hid (HBm.out.trans (HBr.out.mono HBm.out.size))
            clear hpm
            go_wp2
            have hq := fun (q : GW wr.heap.size wr) => q.cell
            refine wp_region_grow wr.heap.size wr (by kernel_rfl) (by kernel_rfl) ?_
            repeat (go_big_quiet_step (first | (go_at_call 45; exact GW.call (Nat.le_refl _) (HCA.out _ (HEl.out.go (GW.h _)))) | (go_at_call 46; exact GW.call (Nat.le_refl _) (HCB.out _ (HEl.out.go (GW.h _))))))
            refine wpQuiet_nil ?_
            rintro _ ⟨q, rfl⟩
            have HQ := hid q.h
            clear hs1 hs2 hs3
            go_wp2
            go_ret
            exact ⟨rfl, HB9.out.trans (HQ.out.mono HB9.out.size)⟩

end Go.Proofs.Ytcfhncckeedipaa
