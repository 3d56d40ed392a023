/-
  Contracts: LongestRise (the program's and the reference's).
-/
import Derived.Test.YtcfhncckeedipaaRise
namespace Go.Proofs.Ytcfhncckeedipaa
set_option linter.unusedSimpArgs false
set_option linter.unusedVariables false
open Go.RowKit

set_option maxHeartbeats 400000 in
set_option maxRecDepth 100000 in
theorem slicesMax_c (v : Value) (L : List Int) (w : World) (h : Row intE w v L) (hL : 0 < L.length) (h0 : ∀ x ∈ L, 0 ≤ x) : Calls Try.prog 70 #[v] w fun e w' => e = .returned (.int .i64 (top L)) ∧ w' = w := by
  obtain ⟨A1, c1, rfl, hc1, hm1⟩ := h.form
  unfold maxLen at hm1
  obtain ⟨b1, o1, rfl, hlt1, hx⟩ := row_cells1 h hL
  have hx0 := hx 0 hL
  have hHX := hid hx
  have e0 := topTo_succ L 0 hL
  rw [topTo_zero, Nat.zero_add, Int.max_eq_right (h0 _ (List.getElem_mem hL))] at e0
  have HE := hid e0.symm
  clear e0 hx h h0
  simp only [Nat.add_zero] at hx0
  go_enter Try.func70, Try.ntmps70
  go_wp2
  go_loop [3, 4] (fun m i => ∃ k : Nat, i = .int .i64 k ∧ 1 ≤ k ∧ k ≤ L.length ∧ m = .int .i64 (topTo L k)) (fun _ i => L.length - (intOf i).toNat)
  case atStart => exact ⟨1, rfl, by omega, by omega, by rw [HE.out]⟩
  case round =>
    obtain ⟨k, rfl, hk1, hk, rfl⟩ := hrel
    by_cases hlt : k < L.length
    · have hx' := hHX.out k hlt
      have HS := hid (topTo_succ L k hlt)
      clear hx0
      go_wp2
      go_round
      case rel => exact ⟨k + 1, by go_num, by omega, by omega, by rw [HS.out, max_if]⟩
      case measure => simp [intOf]; omega
    · go_wp2
      go_ret
      exact ⟨ret_int (topTo_all L k (by omega)), rfl⟩

theorem rep_set (C : List Int) (n : Nat) (x : Int) : (List.replicate (n + 1) 0 ++ C).set n x = List.replicate n 0 ++ x :: C := by
  rw [List.replicate_succ', List.append_assoc, List.set_append_right _ _ (by simp)]
  simp

set_option maxHeartbeats 1000000 in
set_option maxRecDepth 100000 in
theorem LongestRise_c (v : Value) (L : List Int) (w : World) (h : Row intE w v L) :
    Calls Try.prog 28 #[v] w fun e w' => ∃ v', e = .returned v' ∧ Own intE 3 w.heap.size w' v' (riseOut L) ∧ Below w.heap.size w w' := by
  have hf := h.form
  obtain ⟨A1, c1, hvA, hc1, hm1⟩ := hf
  unfold maxLen at hm1
  obtain ⟨i0, hi0, hz0, hz1, hz2⟩ := info_parts int_info
  by_cases hv : vtB L = true
  · have HV := hid (vtB_iff.1 hv)
    have hn := HV.out.1
    by_cases hL : 0 < L.length
    · have hlb := cast_beq0 hL
      have HVB := hid hv
      subst hvA
      go_enter Try.func28, Try.ntmps28
      go_wp2_with fail
      refine (ValidTurn_c _ L _ h).mono ?_
      rintro e w1 ⟨rfl, hb1⟩
      rw [hv]
      have HB1 := hid hb1
      clear hv hb1
      go_wp2_with fail
      refine (risesOf_c _ L _ (h.go HB1.out) hn).mono ?_
      rintro e w2 ⟨v2, rfl, ho2, hb2⟩
      go_wp2_with fail
      refine (slicesMax_c _ (risesL L) _ ho2.rowB (by rw [risesL_len]; exact hL) (fun x hx => by have := (risesL_mem L x hx).1; omega)).mono ?_
      rintro e w3 ⟨rfl, rfl⟩
      obtain ⟨T, hT⟩ : ∃ T : Nat, top (risesL L) = T := ⟨(top (risesL L)).toNat, by have := top_nonneg (risesL L); omega⟩
      have hTn : T ≤ L.length := by have := top_le L; omega
      rw [hT]
      have HT := hid hT
      clear hT
      have HB2 := hid (HB1.out.trans (hb2.mono HB1.out.size))
      have HO2 := hid ho2
      have HB2' := hid hb2
      clear ho2 hb2
      go_wp2_with (at_make; refine wpList_mk intE _ rfl _ _ 24 rfl w3.heap.size 3 i0 _ 0 8 Try.underlying24 hi0 hz0 hz1 hz2 rfl _ _ _ _ T rfl rfl rfl rfl (by omega) (by omega) (Nat.le_refl _) ?_)
      intro w4 hown hgr hlt4
      have HB4 := hid (HB2.out.grown hgr HB2.out.size (by simp))
      have HG4 := hid hgr
      have HO4 := hid hown
      have hrow2 := HO2.out.rowB
      have hl2 := risesL_len L
      obtain ⟨A2, c2, hv2, hc2, hm2⟩ := hrow2.form
      subst hv2
      unfold maxLen at hm2
      have HR2 := hid hrow2
      have HH := hid h
      have hps : 0 < L.length → ∃ i, pick L (risesL L) T L.length = some i := fun h => by rw [← HT.out]; exact pick_top L HV.out h
      have HPS := hid hps
      have hid0 : (chain L (risesL L) T L.length).reverse = riseIdx L := by unfold riseIdx; rw [HT.out]; rfl
      have HID := hid hid0
      clear hown hgr hrow2 h hps hid0
      go_wp2
      go_loopw [4, 6] (fun n lim wr => ∃ (k : Nat) (l : Int) (D : List Nat), n = .int .i64 k ∧ k ≤ T ∧ lim = .int .i64 l ∧ chain L (risesL L) T L.length = D.reverse ++ chain L (risesL L) k l ∧ (0 < k → ∃ i, pick L (risesL L) k l = some i) ∧
        Below w3.heap.size w3 wr ∧ Own intE 3 w3.heap.size wr (.slice (some ⟨w3.heap.size, 0, none⟩) T T) (List.replicate k 0 ++ D.map Int.ofNat)) (fun n _ _ => (intOf n).toNat)
      case atStart => exact ⟨T, L.length, [], rfl, Nat.le_refl _, rfl, rfl, fun _ => HPS.out hL, (Below.refl _ _).grown HG4.out (Nat.le_refl _) (by simp), by simpa using HO4.out⟩
      case round =>
        obtain ⟨k, l, D, rfl, hkT, rfl, hch, hpk, hb, ho⟩ := hrel
        obtain ⟨wo, rfl⟩ : ∃ wo : World, wo = wr := ⟨_, rfl⟩
        by_cases hk0 : 0 < k
        · obtain ⟨m, rfl⟩ : ∃ m, k = m + 1 := ⟨k - 1, by omega⟩
          obtain ⟨i, hi⟩ := hpk hk0
          obtain ⟨hil, hfi, hfn⟩ := pick_some.1 hi
          obtain ⟨b1, o1, hA1, hlt1, hx⟩ := row_cells1 ((HH.out.go HB2.out).below hb) hL
          obtain ⟨b2, o2, hA2, hlt2, hy⟩ := row_cells1 (HR2.out.below hb) (by rw [hl2]; exact hL)
          subst hA1; subst hA2
          have HX := hid hx
          have HY := hid hy
          have HCH := hid hch
          have HPK := hid hi
          have HB := hid hb
          have HO := hid ho
          have HF := hid hfi
          have HN := hid hfn
          clear hx hy hch hpk hi hb ho hfi hfn
          go_wp2
          go_loop [6, 31] (fun lm j => ∃ q : Nat, j = .int .i64 q ∧ q ≤ i ∧ lm = .int .i64 l) (fun _ j => L.length - (intOf j).toNat)
          case atStart => exact ⟨0, rfl, by omega, rfl⟩
          case round =>
            obtain ⟨q, rfl, hq, rfl⟩ := hrel
            have hql : q < L.length := by omega
            have hx' := HX.out q hql
            have hy' := HY.out q (by omega)
            have hgd : (risesL L).getD q 0 = (risesL L)[q]'(by omega) := by simp [List.getD_eq_getElem?_getD, List.getElem?_eq_getElem (show q < (risesL L).length by omega)]
            have hgd2 : L.getD q 0 = L[q] := by simp [List.getD_eq_getElem?_getD, List.getElem?_eq_getElem hql]
            by_cases hqi : q = i
            · subst hqi
              have hfq := HF.out
              unfold fitsAt at hfq
              rw [hgd, hgd2] at hfq
              have hr1 : ((risesL L)[q] == (m : Int) + 1) = true := by rw [hfq.1]; simp
              have hr2 : L[q] < l := hfq.2
              have hch := HCH.out
              rw [chain_some HPK.out, hgd2] at hch
              have hlD : (m + 1) + D.length = T := by
                have h1 := congrArg List.length hch
                rw [chain_ok L T L.length (fun _ => HPS.out hL), List.length_append, List.length_reverse, List.length_cons, chain_ok L m L[q] (fun h0 => by
                  have := pick_next L HPK.out h0
                  rw [hgd2] at this
                  exact this.imp fun _ h => h.1)] at h1
                omega
              have ho := HO.out
              have hll : (List.replicate (m + 1) 0 ++ D.map Int.ofNat : List Int).length = T := by simp; omega
              have hfr := ho.frozen hll.symm m
              obtain ⟨u, hcl⟩ : ∃ u, wo.cell? ⟨w3.heap.size, m, none⟩ = some u := ⟨_, ho.own_int hll.symm m (by omega)⟩
              have hsz := HB.out.size
              obtain ⟨ho2, -⟩ := ho.store1 rfl m (q : Int) (.int .i64 q) rfl hll.symm
              rw [rep_set] at ho2
              have HO2 := hid ho2
              have HCH2 : Hid (chain L (risesL L) T L.length = (q :: D).reverse ++ chain L (risesL L) m L[q]) := by
                rw [Hid, hch]; simp
              have HP2 : Hid (0 < m → ∃ i, pick L (risesL L) m L[q] = some i) := fun h0 => by
                have := pick_next L HPK.out h0
                rw [hgd2] at this
                exact this.imp fun _ h => h.1
              clear hgd hgd2 hfq hch hlD ho hll ho2
              go_wp2
              exact ⟨⟨m, L[q], q :: D, rfl, by omega, rfl, HCH2.out, HP2.out, HB.out.setCell (p := ⟨w3.heap.size, m, none⟩) (Nat.le_refl _) _, HO2.out⟩, by simp [intOf]⟩
            · have hnf := HN.out q (by omega)
              unfold fitsAt at hnf
              rw [hgd, hgd2] at hnf
              by_cases hr : (risesL L)[q] = (m : Int) + 1
              · have hr1 : ((risesL L)[q] == (m : Int) + 1) = true := by rw [hr]; simp
                have hr2 : ¬ L[q] < l := fun h => hnf ⟨hr, h⟩
                clear hgd hgd2 hnf hr
                go_wp2
                exact ⟨⟨q + 1, by go_num, by omega, rfl⟩, by simp [intOf]; omega⟩
              · have hr1 : ((risesL L)[q] == (m : Int) + 1) = false := by simpa using hr
                clear hgd hgd2 hnf hr
                go_wp2
                exact ⟨⟨q + 1, by go_num, by omega, rfl⟩, by simp [intOf]; omega⟩
        · have e : k = 0 := by omega
          subst e
          have hD : riseIdx L = D := by
            rw [← HID.out, hch]; simp [chain]
          have HD := hid hD
          clear hD hch hpk
          go_wp2
          go_ret
          refine ⟨_, rfl, ?_, HB2.out.trans (hb.mono HB2.out.size)⟩
          rw [riseOut_t HVB.out, HD.out]
          simpa using ho.base_le HB2.out.size
    · have hL0 : L.length = 0 := by omega
      have hL' : L = [] := List.eq_nil_of_length_eq_zero hL0
      subst hL'
      subst hvA
      clear HV hv hL hn hL0 hm1
      go_enter Try.func28, Try.ntmps28
      go_wp2_with fail
      refine (ValidTurn_c _ [] _ h).mono ?_
      rintro e w1 ⟨rfl, hb1⟩
      rw [show vtB [] = true from rfl]
      go_wp2
      go_ret
      refine ⟨_, rfl, ?_, hb1⟩
      rw [riseOut_t rfl, riseIdx_nil]
      exact Own.nil_ _ _ _
  · have hv' : vtB L = false := by simpa using hv
    clear hv hm1
    subst hvA
    go_enter Try.func28, Try.ntmps28
    go_wp2_with fail
    refine (ValidTurn_c _ L _ h).mono ?_
    rintro e w1 ⟨rfl, hb1⟩
    rw [hv']
    have HV := hid hv'
    clear hv'
    go_wp2
    go_ret
    refine ⟨_, rfl, ?_, hb1⟩
    rw [riseOut_f HV.out]
    exact Own.nil_ _ _ _

end Go.Proofs.Ytcfhncckeedipaa
