/-
  The law FnBestValueMore, walked.
-/
import Derived.Test.YtkckaooimffdpaaDrValC
import Derived.Test.YtkckaooimffdpaaValL
import Derived.Test.YtkckaooimffdpaaBarL
namespace Go.Proofs.Ytkckaooimffdpaa
set_option linter.unusedSimpArgs false
set_option linter.unusedVariables false
open Go.RowKit

/-- The three works that the law lays, and the doubled values. -/
def VmSt (w3 : World) (bk : Nat) (W H : Int) (A : Option Addr) (n c : Nat) (dv : Value) (D : List Int) (wr : World) : Prop :=
  Blk wr bk #[.int .i64 W, .int .i64 H, .slice A n c] 35 ∧ Blk wr w3.heap.size #[.int .i64 (W + 1), .int .i64 H, .slice A n c] 35 ∧ Blk wr (w3.heap.size + 1) #[.int .i64 (2 * W), .int .i64 H, .slice A n c] 35 ∧ Own intE 3 (w3.heap.size + 2) wr dv D ∧ Below w3.heap.size w3 wr ∧ bk < w3.heap.size
section
variable {w3 wr wz : World} {bk : Nat} {W H : Int} {A : Option Addr} {n c : Nat} {dv : Value} {D : List Int}
theorem VmSt.start (h : Blk w3 bk #[.int .i64 W, .int .i64 H, .slice A n c] 35) : VmSt w3 bk W H A n c (.slice (some ⟨w3.heap.size + 1 + 1, 0, none⟩) 0 0) [] (((w3.alloc (.cells #[.int .i64 (W + 1), .int .i64 H, .slice A n c] 35)).alloc (.cells #[.int .i64 (2 * W), .int .i64 H, .slice A n c] 35)).alloc (.cells #[] 3)) := by
  refine ⟨((h.alloc _).alloc _).alloc _, ((Blk.new w3 _ _).alloc _).alloc _, ?_, ?_, (((Below.refl _ _).alloc (Nat.le_refl _) _).alloc (by simp) _).alloc (by simp; omega) _, h.lt⟩
  · have := (Blk.new (w3.alloc (.cells #[.int .i64 (W + 1), .int .i64 H, .slice A n c] 35)) #[.int .i64 (2 * W), .int .i64 H, .slice A n c] 35).alloc (.cells #[] 3)
    rw [World.size_alloc] at this
    exact this
  · have := Own.lit0 intE ((w3.alloc (.cells #[.int .i64 (W + 1), .int .i64 H, .slice A n c] 35)).alloc (.cells #[.int .i64 (2 * W), .int .i64 H, .slice A n c] 35)) (w3.heap.size + 2) 3 (by simp)
    rw [World.size_alloc, World.size_alloc] at this
    exact this
theorem VmSt.go (h : VmSt w3 bk W H A n c dv D wr) (hb : Below wr.heap.size wr wz) : VmSt w3 bk W H A n c dv D wz :=
  ⟨h.1.go hb, h.2.1.go hb, h.2.2.1.go hb, h.2.2.2.1.below hb, h.2.2.2.2.1.trans (hb.mono h.2.2.2.2.1.size), h.2.2.2.2.2⟩
theorem VmSt.push {v5 : Value} {D' : List Int} (h : VmSt w3 bk W H A n c dv D wr) (ho : Own intE 3 (w3.heap.size + 2) wz v5 D') (hg : wr.grownBy wz dv.ownBlock) : VmSt w3 bk W H A n c v5 D' wz := by
  obtain ⟨h1, h2, h3, h4, h5, h6⟩ := h
  have hne : ∀ k, dv.ownBlock = some k → w3.heap.size + 2 ≤ k := fun k hk => (h4.lt k hk).1
  exact ⟨h1.grown hg (fun e => by have := hne _ e.symm; omega), h2.grown hg (fun e => by have := hne _ e.symm; omega), h3.grown hg (fun e => by have := hne _ e.symm; omega), ho, h5.grown hg h5.size (fun k hk => by have := hne k hk; omega), h6⟩
end

set_option maxHeartbeats 12800000 in
set_option maxRecDepth 100000 in
theorem FnBestValueMore_c (v : Value) (C : List Int) (w : World) (h : Row byteE w v C ∧ ∀ x ∈ C, 0 ≤ x ∧ x ≤ 255) : Calls Try.prog 5 #[v] w fun e w' => e = .returned (.bool true) ∧ Below w.heap.size w w' := by
  obtain ⟨h, hb⟩ := h
  obtain ⟨A, c, rfl, hc1, hm1⟩ := h.form
  unfold maxLen at hm1
  by_cases hle : 1048576 < C.length
  · have hd : decide ((1048576 : Int) < (C.length : Int)) = true := by simp; omega
    go_enter Try.func5, Try.ntmps5
    go_wp2
    go_ret
    exact ⟨rfl, Below.refl _ _⟩
  · have hd : decide ((1048576 : Int) < (C.length : Int)) = false := by simp; omega
    obtain ⟨i0, hi0, hz0, hz1, hz2⟩ := info_parts int_info
    have HH := hid h
    have HB := hid hb
    clear h hb hle
    go_enter Try.func5, Try.ntmps5
    go_wp2_with fail
    refine (DrawBestValue_c _ C _ HH.out HB.out).mono ?_
    rintro e w1 ⟨W, H, A1, c1, L, v1, V, rfl, hf, hv, hL7, hV7, hW, hH, hT, hX, hb⟩
    obtain ⟨Av, cv, rfl, hcv, hmv⟩ := hv.form
    unfold maxLen at hmv
    have HBK := hid ((Below.refl w1.heap.size w1).alloc (Nat.le_refl _) (.cells #[.int .i64 W, .int .i64 H, .slice A1 L.length c1] 35))
    have HB1 := hid (hb.alloc hb.size (.cells #[.int .i64 W, .int .i64 H, .slice A1 L.length c1] 35))
    have HF1 := hid (hf.go HBK.out)
    have HV1 := hid (hv.go HBK.out)
    have HK1 := hid (Blk.new w1 #[.int .i64 W, .int .i64 H, .slice A1 L.length c1] 35)
    have HX := hid hX
    obtain ⟨bk, hbk⟩ : ∃ bk, bk = w1.heap.size := ⟨_, rfl⟩
    have HBKE := hid hbk
    rw [← hbk] at HK1
    clear hf hv hb hT hX hbk HBK
    obtain ⟨z, hz⟩ : ∃ z, z = bvOut W H L V := ⟨_, rfl⟩
    have HZ := hid hz
    clear hz
    have hzz : (z == z) = true := by simp
    have hzn : (z != z) = false := by simp
    go_wp2_with fail
    refine (BestValue_c W H L A1 c1 _ V _ HF1.out HV1.out).mono ?_
    rintro e w2 ⟨rfl, hb⟩
    rw [← HZ.out, ← HBKE.out]
    have HB2 := hid (HB1.out.trans (hb.mono HB1.out.size))
    have HF2 := hid (HF1.out.go hb)
    have HV2 := hid (HV1.out.go hb)
    have HK2 := hid (HK1.out.go hb)
    clear hb
    have c_2 := fun (o : Nat) => HK2.out.cell o
    go_wp2_with fail
    refine (sBestValue_c W H L A1 c1 _ V _ HF2.out HV2.out (by omega)).mono ?_
    rintro e w3 ⟨rfl, hb⟩
    rw [← HZ.out]
    have HB3 := hid (HB2.out.trans (hb.mono HB2.out.size))
    have HF3 := hid (HF2.out.go hb)
    have HV3 := hid (HV2.out.go hb)
    have HK3 := hid (HK2.out.go hb)
    clear hb c_2
    have c_3 := fun (o : Nat) => HK3.out.cell o
    have l_3 := HK3.out.lt
    by_cases hz0' : z < 0
    · have d1 : decide (z < 0) = true := decide_eq_true hz0'
      clear hz0'
      go_wp2_with fail
      refine (sBestValue_c W H L A1 c1 _ V _ HF3.out HV3.out (by omega)).mono ?_
      rintro e w4 ⟨rfl, hb⟩
      rw [← HZ.out]
      have HB4 := hid (HB3.out.trans (hb.mono HB3.out.size))
      clear hb
      go_wp2
      go_ret
      exact ⟨rfl, HB4.out⟩
    · have d1 : decide (z < 0) = false := decide_eq_false hz0'
      have HOB := hid (ob_out (x := W) (y := H) (f := L) (V := V) (by rw [← HZ.out]; exact hz0'))
      have hzb := bvOut_bd HOB.out
      rw [← HZ.out] at hzb
      have hW1 : 1 ≤ W ∧ W ≤ 16 := by have h1 := HOB.out.1.1; have h2 := HOB.out.2.1; omega
      clear hz0'
      have HST := hid (VmSt.start HK3.out)
      have hw1 : IntKind.i64.wrap (W + 1) = W + 1 := IntWalk.i64_in _ (by omega)
      have hw2 : IntKind.i64.wrap (2 * W) = 2 * W := IntWalk.i64_in _ (by omega)
      have hw3 : IntKind.i64.wrap (2 * z) = 2 * z := IntWalk.i64_in _ (by omega)
      go_wp2
      go_loopw [8, 9] (fun dv i wr => ∃ k : Nat, i = .int .i64 (k : Nat) ∧ k ≤ V.length ∧ VmSt w3 bk W H A1 L.length c1 dv (dbl (V.take k)) wr) (fun _ i _ => V.length - (intOf i).toNat)
      case atStart => exact ⟨0, rfl, by omega, HST.out⟩
      case round =>
        clear HST
        obtain ⟨k, rfl, hk, hst⟩ := hrel
        have HST := hid hst
        have HVr := hid (HV3.out.go hst.2.2.2.2.1)
        have hsz := hst.2.2.2.2.1.size
        clear hst
        by_cases hlt : k < V.length
        · obtain ⟨b2, o2, rfl, hb2, hx⟩ := row_cells1 HVr.out (by omega)
          have x0 := hx k hlt
          have hxb := HX.out _ (List.getElem_mem hlt)
          have hw4 : IntKind.i64.wrap (2 * V[k]) = 2 * V[k] := IntWalk.i64_in _ (by omega)
          have HLN : Hid ((dbl (V.take k)).length ≤ 4194304) := by rw [Hid, dbl_len, List.length_take]; omega
          have HSN := hid (dbl_snoc hlt)
          have hbs : w3.heap.size + 2 ≤ wr.heap.size := by have := HST.out.2.2.1.lt; omega
          clear hx
          go_wp2_with (at_builtin; refine wpList_pushN intE _ rfl (.tmp 58) (.tmp 64) _ rfl (w3.heap.size + 2) 3 i0 _ 8 Try.underlying23 hi0 hz0 hz1 hz2 rfl (by omega) _ _ rfl HST.out.2.2.2.1 _ (2 * V[k]) _ rfl rfl (by simp) HLN.out hbs (dbl (V.take (k + 1))) HSN.out ?_)
          intro v4 w4 ho4 hg4 hat4
          have HS4 := hid (HST.out.push ho4 hg4)
          clear ho4 hg4 hat4 hw4
          go_wp2
          exact ⟨⟨k + 1, by go_num, by omega, HS4.out⟩, by simp [intOf]; omega⟩
        · have hke : k = V.length := by omega
          subst hke
          obtain ⟨D, hD⟩ : ∃ D, D = dbl V := ⟨_, rfl⟩
          rw [List.take_length, ← hD] at HST
          have HD := hid hD
          clear hD hlt hk
          have HFr := hid (HF3.out.go HST.out.2.2.2.2.1)
          have c_K := fun (o : Nat) => HST.out.1.cell o
          have l_K := HST.out.1.lt
          have c_W := fun (o : Nat) => HST.out.2.1.cell o
          have l_W := HST.out.2.1.lt
          have c_T := fun (o : Nat) => HST.out.2.2.1.cell o
          have l_T := HST.out.2.2.1.lt
          have HVr2 := hid (HV3.out.go HST.out.2.2.2.2.1)
          by_cases hA : W < 16
          · have dA : decide (W < 16) = true := decide_eq_true hA
            have HW1 := hid (bvOut_wide HOB.out hA)
            rw [← HZ.out] at HW1
            clear hA
            go_wp2_with fail
            refine (BestValue_c (W + 1) H L A1 c1 _ V _ HFr.out HVr2.out).mono ?_
            rintro e w5 ⟨rfl, hb⟩
            have HS5 := hid (HST.out.go hb)
            obtain ⟨y1, hy1⟩ : ∃ y, y = bvOut (W + 1) H L V := ⟨_, rfl⟩
            rw [← hy1] at HW1 ⊢
            have d5 : decide (y1 < z) = false := decide_eq_false (by have := HW1.out; omega)
            clear hb hy1 c_K l_K c_W l_W c_T l_T
            have c_K := fun (o : Nat) => HS5.out.1.cell o
            have l_K := HS5.out.1.lt
            have c_T := fun (o : Nat) => HS5.out.2.2.1.cell o
            have l_T := HS5.out.2.2.1.lt
            have c_W := 0
            have l_W := 0
            by_cases hB : 2 * W ≤ 16
            · have dB : decide (2 * W ≤ 16) = true := decide_eq_true hB
              have HW2 := hid (bvOut_twice HOB.out hB)
              rw [← HZ.out] at HW2
              have HF5 := hid (HF3.out.go HS5.out.2.2.2.2.1)
              have HV5 := hid (HV3.out.go HS5.out.2.2.2.2.1)
              clear hB c_W l_W
              have c_W := 0
              have l_W := 0
              go_wp2_with fail
              refine (BestValue_c (2 * W) H L A1 c1 _ V _ HF5.out HV5.out).mono ?_
              rintro e w6 ⟨rfl, hb⟩
              have HS6 := hid (HS5.out.go hb)
              obtain ⟨y2, hy2⟩ : ∃ y, y = bvOut (2 * W) H L V := ⟨_, rfl⟩
              rw [← hy2] at HW2 ⊢
              have d6 : decide (y2 < 2 * z) = false := decide_eq_false (by have := HW2.out; omega)
              clear hb hy2
              have HFs := hid (HF3.out.go HS6.out.2.2.2.2.1)
              have HDs := hid HS6.out.2.2.2.1.rowB
              have HBs := hid (HB3.out.trans (HS6.out.2.2.2.2.1.mono HB3.out.size))
              clear c_K l_K c_W l_W c_T l_T
              have c_K := fun (o : Nat) => HS6.out.1.cell o
              have l_K := HS6.out.1.lt
              obtain ⟨Ad, cd, rfl, hcd, hmd, -⟩ := HST.out.2.2.2.1.shape
              go_wp2_with fail
              refine (highest_c _ D _ HDs.out).mono ?_
              rintro e w8 ⟨rfl, hw⟩
              obtain rfl := hw
              by_cases hh : 1000 < hik D D.length
              · have dh : decide (1000 < hik D D.length) = true := decide_eq_true hh
                obtain ⟨hk, hhk⟩ : ∃ hk, hk = hik D D.length := ⟨_, rfl⟩
                rw [← hhk] at dh hh ⊢
                clear hhk hh
                go_wp2
                go_ret
                exact ⟨rfl, HBs.out⟩
              · have dh : decide (1000 < hik D D.length) = false := decide_eq_false hh
                have HDB : Hid (bvOut W H L D = 2 * z) := by rw [Hid, HD.out, bvOut_dbl HOB.out (by rw [← HD.out]; exact hh), HZ.out]
                obtain ⟨hk, hhk⟩ : ∃ hk, hk = hik D D.length := ⟨_, rfl⟩
                rw [← hhk] at dh hh ⊢
                clear hhk hh
                go_wp2_with fail
                refine (BestValue_c W H L A1 c1 _ D _ HFs.out HDs.out).mono ?_
                rintro e w9 ⟨rfl, hb⟩
                rw [HDB.out]
                have HB9 := hid (HBs.out.trans (hb.mono HBs.out.size))
                clear hb
                go_wp2
                go_ret
                exact ⟨rfl, HB9.out⟩
            · have dB : decide (2 * W ≤ 16) = false := decide_eq_false hB
              clear hB
              have HFs := hid (HF3.out.go HS5.out.2.2.2.2.1)
              have HDs := hid HS5.out.2.2.2.1.rowB
              have HBs := hid (HB3.out.trans (HS5.out.2.2.2.2.1.mono HB3.out.size))
              clear c_K l_K c_W l_W c_T l_T
              have c_K := fun (o : Nat) => HS5.out.1.cell o
              have l_K := HS5.out.1.lt
              obtain ⟨Ad, cd, rfl, hcd, hmd, -⟩ := HST.out.2.2.2.1.shape
              go_wp2_with fail
              refine (highest_c _ D _ HDs.out).mono ?_
              rintro e w8 ⟨rfl, hw⟩
              obtain rfl := hw
              by_cases hh : 1000 < hik D D.length
              · have dh : decide (1000 < hik D D.length) = true := decide_eq_true hh
                obtain ⟨hk, hhk⟩ : ∃ hk, hk = hik D D.length := ⟨_, rfl⟩
                rw [← hhk] at dh hh ⊢
                clear hhk hh
                go_wp2
                go_ret
                exact ⟨rfl, HBs.out⟩
              · have dh : decide (1000 < hik D D.length) = false := decide_eq_false hh
                have HDB : Hid (bvOut W H L D = 2 * z) := by rw [Hid, HD.out, bvOut_dbl HOB.out (by rw [← HD.out]; exact hh), HZ.out]
                obtain ⟨hk, hhk⟩ : ∃ hk, hk = hik D D.length := ⟨_, rfl⟩
                rw [← hhk] at dh hh ⊢
                clear hhk hh
                go_wp2_with fail
                refine (BestValue_c W H L A1 c1 _ D _ HFs.out HDs.out).mono ?_
                rintro e w9 ⟨rfl, hb⟩
                rw [HDB.out]
                have HB9 := hid (HBs.out.trans (hb.mono HBs.out.size))
                clear hb
                go_wp2
                go_ret
                exact ⟨rfl, HB9.out⟩
          · have dA : decide (W < 16) = false := decide_eq_false hA
            have dB : decide (2 * W ≤ 16) = false := decide_eq_false (by omega)
            clear hA
            have HFs := hid (HF3.out.go HST.out.2.2.2.2.1)
            have HDs := hid HST.out.2.2.2.1.rowB
            have HBs := hid (HB3.out.trans (HST.out.2.2.2.2.1.mono HB3.out.size))
            clear c_K l_K c_W l_W c_T l_T
            have c_K := fun (o : Nat) => HST.out.1.cell o
            have l_K := HST.out.1.lt
            obtain ⟨Ad, cd, rfl, hcd, hmd, -⟩ := HST.out.2.2.2.1.shape
            go_wp2_with fail
            refine (highest_c _ D _ HDs.out).mono ?_
            rintro e w8 ⟨rfl, hw⟩
            obtain rfl := hw
            by_cases hh : 1000 < hik D D.length
            · have dh : decide (1000 < hik D D.length) = true := decide_eq_true hh
              obtain ⟨hk, hhk⟩ : ∃ hk, hk = hik D D.length := ⟨_, rfl⟩
              rw [← hhk] at dh hh ⊢
              clear hhk hh
              go_wp2
              go_ret
              exact ⟨rfl, HBs.out⟩
            · have dh : decide (1000 < hik D D.length) = false := decide_eq_false hh
              have HDB : Hid (bvOut W H L D = 2 * z) := by rw [Hid, HD.out, bvOut_dbl HOB.out (by rw [← HD.out]; exact hh), HZ.out]
              obtain ⟨hk, hhk⟩ : ∃ hk, hk = hik D D.length := ⟨_, rfl⟩
              rw [← hhk] at dh hh ⊢
              clear hhk hh
              go_wp2_with fail
              refine (BestValue_c W H L A1 c1 _ D _ HFs.out HDs.out).mono ?_
              rintro e w9 ⟨rfl, hb⟩
              rw [HDB.out]
              have HB9 := hid (HBs.out.trans (hb.mono HBs.out.size))
              clear hb
              go_wp2
              go_ret
              exact ⟨rfl, HB9.out⟩

end Go.Proofs.Ytkckaooimffdpaa
