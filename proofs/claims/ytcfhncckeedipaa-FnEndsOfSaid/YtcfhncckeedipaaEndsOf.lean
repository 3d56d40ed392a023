/-
  Contracts: EndsOf and SpanOf (the program's and the reference's).
-/
import Derived.Test.YtcfhncckeedipaaEnds
namespace Go.Proofs.Ytcfhncckeedipaa
set_option linter.unusedSimpArgs false
set_option linter.unusedVariables false
open Go.RowKit

set_option maxHeartbeats 800000 in
theorem sEndsOf_c (v u : Value) (L : List Jb) (O : List Int) (w : World) (h : Row jobE w v L) (h' : Row intE w u O) : Calls Try.prog 17 #[v, u] w fun e w' =>
    ∃ r, e = .returned r ∧ Own intE 3 w.heap.size w' r (endsOut L O) ∧ Below w.heap.size w w' := by
  by_cases hv : vrB L O = true
  · have HV := hid hv
    clear hv
    go_enter Try.func17, Try.ntmps17
    go_wp2_with fail
    refine (svalidRow_c _ _ L O _ h h').mono ?_
    rintro e w1 ⟨rfl, hd1⟩
    rw [HV.out]
    have HD := hid hd1
    clear hd1
    go_wp2_with fail
    refine (sends_c _ _ L O _ (h.drR HD.out) (h'.drR HD.out) (vrB_iff.1 HV.out)).mono ?_
    rintro e w2 ⟨r, rfl, ho, hb⟩
    have HO := hid ho
    have HB := hid ((HD.out.below w.heap.size).trans (hb.mono (Nat.le_of_eq HD.out.size.symm)))
    clear ho hb
    go_wp2
    go_ret
    refine ⟨_, rfl, ?_, HB.out⟩
    rw [endsOut_t HV.out]
    exact HO.out.base_le (Nat.le_of_eq HD.out.size.symm)
  · have hv' : vrB L O = false := by simpa using hv
    have HV := hid hv'
    clear hv hv'
    go_enter Try.func17, Try.ntmps17
    go_wp2_with fail
    refine (svalidRow_c _ _ L O _ h h').mono ?_
    rintro e w1 ⟨rfl, hd1⟩
    rw [HV.out]
    have HD := hid hd1
    clear hd1
    go_wp2
    go_ret
    refine ⟨_, rfl, ?_, HD.out.below _⟩
    rw [endsOut_f HV.out]
    exact Own.nil_ _ _ _

set_option maxHeartbeats 1600000 in
theorem EndsOf_c (v u : Value) (L : List Jb) (O : List Int) (w : World) (h : Row jobE w v L) (h' : Row intE w u O) : Calls Try.prog 15 #[v, u] w fun e w' =>
    ∃ r, e = .returned r ∧ Own intE 3 w.heap.size w' r (endsOut L O) ∧ Below w.heap.size w w' := by
  obtain ⟨A1, c1, rfl, hc1, hm1⟩ := h.form
  obtain ⟨A2, c2, rfl, hc2, hm2⟩ := h'.form
  unfold maxLen at hm1 hm2
  obtain ⟨i0, hi0, hz0, hz1, hz2⟩ := info_parts int_info
  by_cases hv : VJ L
  · have HVJ := hid (vjB_iff.2 hv)
    have hL16 := hv.1
    by_cases hr : ordB O L.length = true
    · have HR := hid hr
      have HVR : Hid (VR L O) := ⟨hv, ordB_iff.1 hr⟩
      have hOL : O.length ≤ 16 := by have := HVR.out.2.1; omega
      clear hr hv
      go_enter Try.func15, Try.ntmps15
      go_wp2_with fail
      refine (ValidJobs_c _ L _ h).mono ?_
      rintro e w1 ⟨rfl, hb1⟩
      rw [HVJ.out]
      have HB1 := hid hb1
      clear hb1
      go_wp2_with fail
      refine (isOrder_c _ O L.length _ (h'.go HB1.out) (by omega)).mono ?_
      rintro e w2 ⟨rfl, hb2⟩
      rw [HR.out]
      have HB2 := hid (HB1.out.trans (hb2.mono HB1.out.size))
      have H1 := hid (h.go HB2.out)
      have H2 := hid (h'.go HB2.out)
      clear hb2 h h'
      go_wp2
      go_loopw [5, 6, 7, 22] (fun o c t i wr => ∃ k : Nat, i = .int .i64 k ∧ k ≤ O.length ∧ c = .int .i64 (cutTo L O k) ∧ t = .int .i64 (heatTo L O k) ∧ Below w2.heap.size w2 wr ∧ Own intE 3 w2.heap.size wr o (endsTo L O k)) (fun _ _ _ i _ => O.length - (intOf i).toNat)
      case atStart => exact ⟨0, rfl, by omega, rfl, rfl, Below.refl _ _, Own.nil_ _ _ _⟩
      case round =>
        obtain ⟨k, rfl, hk, rfl, rfl, hb, ho⟩ := hrel
        by_cases hlt : k < O.length
        · obtain ⟨b2, o2, rfl, -, hy⟩ := row_cells1 (H2.out.below hb) (by omega)
          have hy' := hy k hlt
          obtain ⟨m, hm, hOm, hjm⟩ := jobAt_eq HVR.out.2 k hlt
          obtain ⟨b1, o1, rfl, -, hx⟩ := row_jobs (H1.out.below hb) (by omega)
          obtain ⟨hx0, hx1⟩ := hx m hm
          rw [hOm] at hy'
          have cb := cutTo_bd (O := O) HVR.out.1 k
          have tb := heatTo_bd (O := O) HVR.out.1 k
          have jb := HVR.out.1.2 _ (List.getElem_mem hm)
          unfold okJ at jb
          obtain ⟨cb1, cb2⟩ := cb
          obtain ⟨tb1, tb2⟩ := tb
          obtain ⟨j1, j2, j3, j4⟩ := jb
          have HC : Hid (cutTo L O (k + 1) = cutTo L O k + L[m].c) := by rw [Hid, cutTo, hjm]
          have HT : Hid (heatTo L O (k + 1) = max (heatTo L O k) (cutTo L O k + L[m].c) + L[m].h) := by rw [Hid, heatTo, hjm]
          obtain ⟨mx, r1, e1⟩ : ∃ mx, (if cutTo L O k + L[m].c < heatTo L O k then heatTo L O k else cutTo L O k + L[m].c) = mx ∧ mx = max (heatTo L O k) (cutTo L O k + L[m].c) := ⟨_, rfl, by split <;> omega⟩
          have m1 : 0 ≤ mx := by omega
          have m2 : mx ≤ 100000 := by omega
          have HT2 : Hid (heatTo L O (k + 1) = mx + L[m].h) := by rw [Hid, HT.out, e1]
          have HB := hid hb
          have HO := hid ho
          have hsz := hb.size
          have HLN : Hid ((endsTo L O k).length ≤ 4194304) := by rw [Hid, endsTo_len]; omega
          clear hx hy hb ho hOm hjm e1
          obtain ⟨L2, hL2⟩ : ∃ M : List Int, M = endsTo L O k ++ [mx + L[m].h] := ⟨_, rfl⟩
          have HL2 := hid hL2
          clear hL2
          go_wp2_with (at_builtin; refine wpList_pushN intE _ rfl (.tmp 42) (.tmp 44) _ rfl w2.heap.size 3 i0 _ 8 Try.underlying24 hi0 hz0 hz1 hz2 rfl (by omega) _ _ rfl HO.out _ (mx + L[m].h) _ rfl rfl rfl HLN.out hsz L2 HL2.out ?_)
          intro v' w' ho' hg' hat'
          have HO' := hid ho'
          have HB' := hid (HB.out.grown hg' hsz (fun q hq => (HO.out.lt q hq).1))
          clear ho' hg' hat'
          go_wp2
          exact ⟨⟨k + 1, by go_num, by omega, by rw [HC.out], by rw [HT2.out], HB'.out, by rw [endsTo_succ, HT2.out, ← HL2.out]; exact HO'.out⟩, by simp [intOf]; omega⟩
        · have e : k = O.length := by omega
          have HO := hid (e ▸ ho)
          have HB := hid hb
          clear e ho hb
          go_wp2
          go_ret
          refine ⟨_, rfl, ?_, HB2.out.trans (HB.out.mono HB2.out.size)⟩
          rw [endsOut_t (vrB_iff.2 HVR.out)]
          exact HO.out.base_le HB2.out.size
    · have hr' : ordB O L.length = false := by simpa using hr
      have HR := hid hr'
      have HV : Hid (vrB L O = false) := by rw [Hid, vrB_not]; exact fun h => hr (ordB_iff.2 h.2)
      clear hr hr' hv
      go_enter Try.func15, Try.ntmps15
      go_wp2_with fail
      refine (ValidJobs_c _ L _ h).mono ?_
      rintro e w1 ⟨rfl, hb1⟩
      rw [HVJ.out]
      have HB1 := hid hb1
      clear hb1
      go_wp2_with fail
      refine (isOrder_c _ O L.length _ (h'.go HB1.out) (by omega)).mono ?_
      rintro e w2 ⟨rfl, hb2⟩
      rw [HR.out]
      have HB2 := hid (HB1.out.trans (hb2.mono HB1.out.size))
      clear hb2
      go_wp2
      go_ret
      refine ⟨_, rfl, ?_, HB2.out⟩
      rw [endsOut_f HV.out]
      exact Own.nil_ _ _ _
  · have HVJ := hid (vjB_not.2 hv)
    have HV : Hid (vrB L O = false) := by rw [Hid, vrB_not]; exact fun h => hv h.1
    clear hv
    go_enter Try.func15, Try.ntmps15
    go_wp2_with fail
    refine (ValidJobs_c _ L _ h).mono ?_
    rintro e w1 ⟨rfl, hb1⟩
    rw [HVJ.out]
    have HB1 := hid hb1
    clear hb1
    go_wp2
    go_ret
    refine ⟨_, rfl, ?_, HB1.out⟩
    rw [endsOut_f HV.out]
    exact Own.nil_ _ _ _

theorem endsOut_len (L : List Jb) (O : List Int) : (endsOut L O).length ≤ O.length := by
  unfold endsOut
  split
  · rw [endsTo_len]; exact Nat.le_refl _
  · simp

set_option maxHeartbeats 1600000 in
theorem SpanOf_c (v u : Value) (L : List Jb) (O : List Int) (w : World) (h : Row jobE w v L) (h' : Row intE w u O) : Calls Try.prog 18 #[v, u] w fun e w' =>
    e = .returned (.int .i64 (spanOut L O)) ∧ Below w.heap.size w w' := by
  obtain ⟨A1, c1, rfl, hc1, hm1⟩ := h.form
  unfold maxLen at hm1
  by_cases hv : VJ L
  · have HVJ := hid (vjB_iff.2 hv)
    have hL16 := hv.1
    by_cases hr : ordB O L.length = true
    · have HR := hid hr
      have HVR : Hid (VR L O) := ⟨hv, ordB_iff.1 hr⟩
      have hOL : O.length ≤ 16 := by have := HVR.out.2.1; omega
      have HEL : Hid (endsOut L O = endsTo L O O.length) := endsOut_t (vrB_iff.2 HVR.out)
      have HSP : Hid (spanOut L O = heatTo L O O.length) := spanOut_t (vrB_iff.2 HVR.out)
      clear hr hv
      go_enter Try.func18, Try.ntmps18
      go_wp2_with fail
      refine (ValidJobs_c _ L _ h).mono ?_
      rintro e w1 ⟨rfl, hb1⟩
      rw [HVJ.out]
      have HB1 := hid hb1
      clear hb1
      go_wp2_with fail
      refine (isOrder_c _ O L.length _ (h'.go HB1.out) (by omega)).mono ?_
      rintro e w2 ⟨rfl, hb2⟩
      rw [HR.out]
      have HB2 := hid (HB1.out.trans (hb2.mono HB1.out.size))
      clear hb2
      go_wp2_with fail
      refine (EndsOf_c _ _ L O _ (h.go HB2.out) (h'.go HB2.out)).mono ?_
      rintro e w3 ⟨r, rfl, ho, hb3⟩
      rw [HEL.out] at ho
      have hl := endsTo_len L O O.length
      have hrow := ho.rowB
      obtain ⟨A3, c3, rfl, hc3, hm3⟩ := hrow.form
      unfold maxLen at hm3
      have HB3 := hid (HB2.out.trans (hb3.mono HB2.out.size))
      have HL := hid hl
      rw [hl] at hc3 ⊢
      clear hb3 ho hl
      by_cases h0 : O.length = 0
      · have hlb := cast_beq0_t h0
        have HE : Hid (heatTo L O O.length = 0) := by rw [Hid, h0]; rfl
        clear h0 hrow
        go_wp2
        go_ret
        exact ⟨ret_int (by rw [HSP.out, HE.out]), HB3.out⟩
      · have hpos : 0 < O.length := by omega
        have hlb := cast_beq0 hpos
        obtain ⟨b3, o3, hA3, -, hz⟩ := row_cells1 hrow (by rw [HL.out]; exact hpos)
        subst hA3
        have hz' := hz (O.length - 1) (by rw [HL.out]; omega)
        rw [endsTo_at, show O.length - 1 + 1 = O.length from by omega] at hz'
        clear hz hrow h0
        go_wp2
        go_ret
        exact ⟨ret_int HSP.out.symm, HB3.out⟩
    · have hr' : ordB O L.length = false := by simpa using hr
      have HR := hid hr'
      have HV : Hid (vrB L O = false) := by rw [Hid, vrB_not]; exact fun h => hr (ordB_iff.2 h.2)
      clear hr hr' hv
      go_enter Try.func18, Try.ntmps18
      go_wp2_with fail
      refine (ValidJobs_c _ L _ h).mono ?_
      rintro e w1 ⟨rfl, hb1⟩
      rw [HVJ.out]
      have HB1 := hid hb1
      clear hb1
      go_wp2_with fail
      refine (isOrder_c _ O L.length _ (h'.go HB1.out) (by omega)).mono ?_
      rintro e w2 ⟨rfl, hb2⟩
      rw [HR.out]
      have HB2 := hid (HB1.out.trans (hb2.mono HB1.out.size))
      clear hb2
      go_wp2
      go_ret
      exact ⟨ret_int (spanOut_f HV.out).symm, HB2.out⟩
  · have HVJ := hid (vjB_not.2 hv)
    have HV : Hid (vrB L O = false) := by rw [Hid, vrB_not]; exact fun h => hv h.1
    clear hv
    go_enter Try.func18, Try.ntmps18
    go_wp2_with fail
    refine (ValidJobs_c _ L _ h).mono ?_
    rintro e w1 ⟨rfl, hb1⟩
    rw [HVJ.out]
    have HB1 := hid hb1
    clear hb1
    go_wp2
    go_ret
    exact ⟨ret_int (spanOut_f HV.out).symm, HB1.out⟩

end Go.Proofs.Ytcfhncckeedipaa
