/-
  The law FnBestValueTurned, walked.
-/
import Derived.Test.YtkckaooimffdpaaDrValC
import Derived.Test.YtkckaooimffdpaaTurnPn
import Derived.Deep.RegionLaw
namespace Go.Proofs.Ytkckaooimffdpaa
set_option linter.unusedSimpArgs false
set_option linter.unusedVariables false
open Go.RowKit

/-- The work that the law turns, pane by pane. -/
def VtSt2 (w3 : World) (bk : Nat) (W H : Int) (A : Option Addr) (n c : Nat) (sv : Value) (D : List Pn) (wr : World) : Prop :=
  Blk wr bk #[.int .i64 W, .int .i64 H, .slice A n c] 35 ∧ Blk wr w3.heap.size #[.int .i64 H, .int .i64 W, sv] 35 ∧ Own paneE 40 (w3.heap.size + 1) wr sv D ∧ Below w3.heap.size w3 wr ∧ bk < w3.heap.size
section
variable {w3 wr wz : World} {bk : Nat} {W H : Int} {A : Option Addr} {n c : Nat} {sv : Value} {D : List Pn}
theorem VtSt2.start (h : Blk w3 bk #[.int .i64 W, .int .i64 H, .slice A n c] 35) : VtSt2 w3 bk W H A n c (.slice none 0 0) [] (w3.alloc (.cells #[.int .i64 H, .int .i64 W, .slice none 0 0] 35)) :=
  ⟨h.alloc _, Blk.new w3 _ _, Own.nil_ _ _ _, (Below.refl _ _).alloc (Nat.le_refl _) _, h.lt⟩
theorem VtSt2.go (h : VtSt2 w3 bk W H A n c sv D wr) (hb : Below wr.heap.size wr wz) : VtSt2 w3 bk W H A n c sv D wz :=
  ⟨h.1.go hb, h.2.1.go hb, h.2.2.1.below hb, h.2.2.2.1.trans (hb.mono h.2.2.2.1.size), h.2.2.2.2⟩
theorem VtSt2.alloc (h : VtSt2 w3 bk W H A n c sv D wr) (o : Obj) : VtSt2 w3 bk W H A n c sv D (wr.alloc o) := h.go ((Below.refl _ _).alloc (Nat.le_refl _) o)
theorem VtSt2.draw (h : VtSt2 w3 bk W H A n c sv D wr) : VtSt2 w3 bk W H A n c sv D wr.drew := h.go (Below.refl _ _).drew
theorem VtSt2.ow (h : VtSt2 w3 bk W H A n c sv D wr) : Own paneE 40 (w3.heap.size + 1) wr sv D := h.2.2.1
theorem VtSt2.bs (h : VtSt2 w3 bk W H A n c sv D wr) : w3.heap.size + 1 ≤ wr.heap.size := h.2.1.lt
theorem VtSt2.ltq (h : VtSt2 w3 bk W H A n c sv D wr) : w3.heap.size < wr.heap.size := h.2.1.lt
theorem VtSt2.bl (h : VtSt2 w3 bk W H A n c sv D wr) : Below w3.heap.size w3 wr := h.2.2.2.1
theorem VtSt2.k2 (h : VtSt2 w3 bk W H A n c sv D wr) : wr.cell? ⟨bk, 2, none⟩ = some (.slice A n c) := h.1.cell 2
theorem VtSt2.q2 (h : VtSt2 w3 bk W H A n c sv D wr) : wr.cell? ⟨w3.heap.size, 2, none⟩ = some sv := h.2.1.cell 2
theorem VtSt2.blk5 {w5 : World} (h : VtSt2 w3 bk W H A n c sv D wr) (hg : wr.grownBy w5 sv.ownBlock) : Blk w5 w3.heap.size #[.int .i64 H, .int .i64 W, sv] 35 :=
  h.2.1.grown hg (fun e => by have := (h.2.2.1.lt _ e.symm).1; omega)
theorem VtSt2.push {w5 : World} {v5 : Value} {D' : List Pn} (h : VtSt2 w3 bk W H A n c sv D wr) (ho : Own paneE 40 (w3.heap.size + 1) w5 v5 D') (hg : wr.grownBy w5 sv.ownBlock) : VtSt2 w3 bk W H A n c v5 D' (w5.setCell ⟨w3.heap.size, 2, none⟩ v5) := by
  obtain ⟨h1, h2, h3, h4, h5⟩ := h
  have hne : ∀ k, sv.ownBlock = some k → w3.heap.size + 1 ≤ k := fun k hk => (h3.lt k hk).1
  have k5 := h1.grown hg (fun e => by have := hne _ e.symm; omega)
  have q5 := h2.grown hg (fun e => by have := hne _ e.symm; omega)
  exact ⟨k5.setO (by show bk ≠ w3.heap.size; omega) v5, q5.set 2 v5, ownsRow_setCell_below ho (show w3.heap.size < w3.heap.size + 1 by omega) v5, (h4.grown hg h4.size (fun k hk => by have := hne k hk; omega)).setCell (p := ⟨w3.heap.size, 2, none⟩) (Nat.le_refl _) v5, h5⟩
end

set_option maxHeartbeats 12800000 in
set_option maxRecDepth 100000 in
theorem FnBestValueTurned_c (v : Value) (C : List Int) (w : World) (h : Row byteE w v C ∧ ∀ x ∈ C, 0 ≤ x ∧ x ≤ 255) : Calls Try.prog 6 #[v] w fun e w' => e = .returned (.bool true) ∧ Below w.heap.size w w' := by
  obtain ⟨h, hb⟩ := h
  obtain ⟨A, c, rfl, hc1, hm1⟩ := h.form
  unfold maxLen at hm1
  by_cases hle : 1048576 < C.length
  · have hd : decide ((1048576 : Int) < (C.length : Int)) = true := by simp; omega
    go_enter Try.func6, Try.ntmps6
    go_wp2
    go_ret
    exact ⟨rfl, Below.refl _ _⟩
  · have hd : decide ((1048576 : Int) < (C.length : Int)) = false := by simp; omega
    obtain ⟨i0, hi0, hz0i, hz1, hz2⟩ := info_parts pane_info
    have HH := hid h
    have HB := hid hb
    clear h hb hle
    go_enter Try.func6, Try.ntmps6
    go_wp2_with fail
    refine (DrawBestValue_c _ C _ HH.out HB.out).mono ?_
    rintro e w1 ⟨W, H, A1, c1, L, v1, V, rfl, hf, hv, hL7, hV7, hW, hH, hT, hX, hb⟩
    obtain ⟨Av, cv, rfl, hcv, hmv⟩ := hv.form
    unfold maxLen at hmv
    have HBK := hid ((Below.refl w1.heap.size w1).alloc (Nat.le_refl _) (.cells #[.int .i64 W, .int .i64 H, .slice A1 L.length c1] 35))
    have HB1 := hid (hb.alloc hb.size (.cells #[.int .i64 W, .int .i64 H, .slice A1 L.length c1] 35))
    have HF1 := hid (hf.go HBK.out)
    have HV1 := hid (hv.go HBK.out)
    have HK1 := hid (Blk.new w1 #[.int .i64 W, .int .i64 H, .slice A1 L.length c1] 35)
    have HX := hid hX
    obtain ⟨bk, hbk⟩ : ∃ bk, bk = w1.heap.size := ⟨_, rfl⟩
    have HBKE := hid hbk
    rw [← hbk] at HK1
    clear hf hv hb hT hX hbk HBK
    obtain ⟨z, hz⟩ : ∃ z, z = bvOut W H L V := ⟨_, rfl⟩
    have HZ := hid hz
    clear hz
    have hzz : (z == z) = true := by simp
    have hzn : (z != z) = false := by simp
    go_wp2_with fail
    refine (BestValue_c W H L A1 c1 _ V _ HF1.out HV1.out).mono ?_
    rintro e w2 ⟨rfl, hb⟩
    rw [← HZ.out, ← HBKE.out]
    have HB2 := hid (HB1.out.trans (hb.mono HB1.out.size))
    have HF2 := hid (HF1.out.go hb)
    have HV2 := hid (HV1.out.go hb)
    have HK2 := hid (HK1.out.go hb)
    clear hb
    have c_2 := fun (o : Nat) => HK2.out.cell o
    go_wp2_with fail
    refine (sBestValue_c W H L A1 c1 _ V _ HF2.out HV2.out (by omega)).mono ?_
    rintro e w3 ⟨rfl, hb⟩
    rw [← HZ.out]
    have HB3 := hid (HB2.out.trans (hb.mono HB2.out.size))
    have HF3 := hid (HF2.out.go hb)
    have HV3 := hid (HV2.out.go hb)
    have HK3 := hid (HK2.out.go hb)
    clear hb c_2
    have c_3 := fun (o : Nat) => HK3.out.cell o
    have l_3 := HK3.out.lt
    by_cases hz0' : z < 0
    · have d1 : decide (z < 0) = true := decide_eq_true hz0'
      clear hz0'
      go_wp2_with fail
      refine (sBestValue_c W H L A1 c1 _ V _ HF3.out HV3.out (by omega)).mono ?_
      rintro e w4 ⟨rfl, hb⟩
      rw [← HZ.out]
      have HB4 := hid (HB3.out.trans (hb.mono HB3.out.size))
      clear hb
      go_wp2
      go_ret
      exact ⟨rfl, HB4.out⟩
    · have d1 : decide (z < 0) = false := decide_eq_false hz0'
      have HOB := hid (ob_out (x := W) (y := H) (f := L) (V := V) (by rw [← HZ.out]; exact hz0'))
      have hzb := bvOut_bd HOB.out
      rw [← HZ.out] at hzb
      have hW1 : 1 ≤ W ∧ W ≤ 16 := by have h1 := HOB.out.1.1; have h2 := HOB.out.2.1; omega
      clear hz0'
      have HST := hid (VtSt2.start HK3.out)
      have HFT := hid (bvOut_turn HOB.out)
      rw [← HZ.out] at HFT
      go_wp2
      go_loopw [7] (fun i wr => ∃ (k : Nat) (sv : Value), i = .int .i64 (k : Nat) ∧ k ≤ L.length ∧ VtSt2 w3 bk W H A1 L.length c1 sv ((L.take k).map tpn) wr) (fun i _ => L.length - (intOf i).toNat)
      case atStart => exact ⟨0, _, rfl, by omega, HST.out⟩
      case round =>
        clear HST
        obtain ⟨k, sv, rfl, hk, hst⟩ := hrel
        have HST := hid hst
        have c_K := fun (o : Nat) => hst.1.cell o
        have l_K := hst.1.lt
        have c_Q := fun (o : Nat) => hst.2.1.cell o
        have l_Q := hst.2.1.lt
        clear hst
        by_cases hlt : k < L.length
        · obtain ⟨As, cs, rfl, hcs, hms, -⟩ := HST.out.2.2.1.shape
          unfold maxLen at hms
          have hls : ((L.take k).map tpn).length = k := by rw [List.length_map, List.length_take]; omega
          obtain ⟨b1, o1, rfl, hb1, hx⟩ := row_panes HF3.out (by omega)
          obtain ⟨x0, x1, x2, x3⟩ := hx k hlt
          have HP := hid (HOB.out.1.2.2.2 _ (List.getElem_mem hlt))
          have ZC := hid HST.out.draw
          rw [hls] at ZC
          have HLn : Hid (((L.take k).map tpn).length + 1 ≤ 4194304) := by rw [Hid, hls]; omega
          have HTS : Hid ((L.take (k + 1)).map tpn = (L.take k).map tpn ++ [tpn L[k]]) := by rw [Hid, List.take_succ_eq_append_getElem hlt, List.map_append]; rfl
          have hz0 := (HST.out.bl.cell (p := ⟨b1, _, none⟩) hb1).trans x0
          have hz1' := (HST.out.bl.cell (p := ⟨b1, _, none⟩) hb1).trans x1
          have hz2' := (HST.out.bl.cell (p := ⟨b1, _, none⟩) hb1).trans x2
          have hz3' := (HST.out.bl.cell (p := ⟨b1, _, none⟩) hb1).trans x3
          have hkw : bk < w3.heap.size := HST.out.2.2.2.2
          rw [hls] at c_Q
          have l_b : b1 < wr.heap.size := by have := HST.out.bl.size; omega
          clear hx hls x0 x1 x2 x3 HST
          go_wp2
          go_region_law
            (first | (go_simp; go_at_call 19; (with_reducible refine (TurnPane_c L[k] _ HP.out).mono ?_); rintro e wq ⟨rfl, hb⟩; replace ZC := hid (ZC.out.go hb); have y2 := ZC.out.q2; have l2 := ZC.out.ltq; clear hb) | (refine step_cat paneE _ rfl (.tmp 46) (.tmp 53) _ rfl (w3.heap.size + 1) 40 i0 _ 32 Try.underlying33 hi0 hz0i hz1 hz2 rfl (by omega) _ _ rfl (ZC.out.alloc _).ow _ _ _ rfl (pane_lit _ _ _ _ _) HLn.out (ZC.out.alloc _).bs _ rfl ?_; intro v5 w5 ho5 hg5 hat5; obtain ⟨A5, c5, rfl, -, -, -⟩ := ho5.shape; have ZP := hid ((ZC.out.alloc _).push ho5 hg5); have ZQ := hid ((ZC.out.alloc _).blk5 hg5); clear y2 l2; have c_q := fun (o : Nat) => ZQ.out.cell o; have f_q := fun (o : Nat) => ZQ.out.frz o; have l_q := ZQ.out.lt; clear ho5 hg5 hat5) | fail)
          all_goals
            go_wp2
            have HP2 := ZP.out
            rw [show ((L.take k).map tpn ++ [(⟨L[k].h, L[k].w, L[k].t, L[k].k⟩ : Pn)]).length = k + 1 by rw [List.length_append, List.length_map, List.length_take, Nat.min_eq_left hk]; rfl] at HP2
            have HT2 := HTS.out
            refine ⟨⟨k + 1, .slice A5 (k + 1 : Nat) c5, by go_num, by omega, ?_⟩, by simp [intOf]; omega⟩
            rw [HT2]
            exact HP2
        · have hke : k = L.length := by omega
          subst hke
          clear c_K l_K c_Q l_Q
          rw [List.take_length] at HST
          obtain ⟨D, hD⟩ : ∃ D, D = L.map tpn := ⟨_, rfl⟩
          rw [← hD] at HST HFT
          clear hD
          obtain ⟨As, cs, rfl, hcs, hms, -⟩ := HST.out.2.2.1.shape
          have c_K := fun (o : Nat) => HST.out.1.cell o
          have l_K := HST.out.1.lt
          have c_Q := fun (o : Nat) => HST.out.2.1.cell o
          have l_Q := HST.out.2.1.lt
          have HFs := hid HST.out.ow.rowB
          have HVs := hid (HV3.out.go HST.out.bl)
          have HBs := hid (HB3.out.trans (HST.out.bl.mono HB3.out.size))
          clear hlt hk
          go_wp2_with fail
          refine (BestValue_c H W D As cs _ V _ HFs.out HVs.out).mono ?_
          rintro e w9 ⟨rfl, hb⟩
          rw [HFT.out]
          have HB9 := hid (HBs.out.trans (hb.mono HBs.out.size))
          clear hb
          go_wp2
          go_ret
          exact ⟨rfl, HB9.out⟩

end Go.Proofs.Ytkckaooimffdpaa
