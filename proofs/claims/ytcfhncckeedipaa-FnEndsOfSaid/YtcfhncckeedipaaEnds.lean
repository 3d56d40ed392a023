/-
  Contracts: valid jobs and orders, when jobs end (the program's and the reference's).
-/
import Derived.Test.YtcfhncckeedipaaTurn
import Derived.Test.YtcfhncckeedipaaEndsP
namespace Go.Proofs.Ytcfhncckeedipaa
set_option linter.unusedSimpArgs false
set_option linter.unusedVariables false
open Go.RowKit

set_option maxHeartbeats 1600000 in
theorem svalidJobs_c (v : Value) (L : List Jb) (w : World) (h : Row jobE w v L) : Calls Try.prog 87 #[v] w fun e w' => e = .returned (.bool (vjB L)) ∧ Dr w w' := by
  obtain ⟨A1, c1, rfl, hc1, hm1⟩ := h.form
  unfold maxLen at hm1
  go_enter Try.func87, Try.ntmps87
  go_wp2
  go_loop [3] (fun i => ∃ k : Nat, i = .int .i64 k ∧ k ≤ L.length ∧ ∀ j ∈ L.take k, okJ j) (fun i => L.length - (intOf i).toNat)
  case atStart => exact ⟨0, rfl, by omega, by simp⟩
  case round =>
    obtain ⟨k, rfl, hk, hok⟩ := hrel
    by_cases hlt : k < L.length
    · obtain ⟨b1, o1, rfl, -, hx⟩ := row_jobs h (by omega)
      obtain ⟨hx0, hx1⟩ := hx k hlt
      have HOK := hid hok
      clear hx h hok
      by_cases h1 : 0 ≤ L[k].c ∧ L[k].c ≤ 500
      · obtain ⟨h1a, h1b⟩ := h1
        by_cases h2 : 0 ≤ L[k].h ∧ L[k].h ≤ 500
        · obtain ⟨h2a, h2b⟩ := h2
          have HK : Hid (∀ j ∈ L.take (k + 1), okJ j) := by
            rw [Hid, List.take_succ_eq_append_getElem hlt]
            intro j hj
            rcases List.mem_append.1 hj with hj | hj
            · exact HOK.out j hj
            · simp at hj; subst hj; exact ⟨h1a, h1b, h2a, h2b⟩
          go_wp2_with fail
          refine (inRange_t _ _ _ _ h1a h1b).mono ?_; rintro e w1 ⟨rfl, rfl⟩
          go_wp2_with fail
          refine (inRange_t _ _ _ _ h2a h2b).mono ?_; rintro e w1 ⟨rfl, rfl⟩
          go_wp2
          go_round
          case rel => exact ⟨k + 1, by go_num, by omega, HK.out⟩
          case measure => simp [intOf]; omega
        · have hn : L[k].h < 0 ∨ 500 < L[k].h := by omega
          have HN := hid hn
          have HF : Hid (vjB L = false) := by
            rw [Hid, vjB_not]; intro hv; have := hv.2 _ (List.getElem_mem hlt); unfold okJ at this; omega
          clear hn h2
          go_wp2_with fail
          refine (inRange_t _ _ _ _ h1a h1b).mono ?_; rintro e w1 ⟨rfl, rfl⟩
          go_wp2_with fail
          refine (inRange_f _ _ _ _ HN.out).mono ?_; rintro e w1 ⟨rfl, rfl⟩
          go_wp2
          go_ret
          exact ⟨ret_bool HF.out.symm, Dr.refl _⟩
      · have hn : L[k].c < 0 ∨ 500 < L[k].c := by omega
        have HN := hid hn
        have HF : Hid (vjB L = false) := by
          rw [Hid, vjB_not]; intro hv; have := hv.2 _ (List.getElem_mem hlt); unfold okJ at this; omega
        clear hn h1
        go_wp2_with fail
        refine (inRange_f _ _ _ _ HN.out).mono ?_; rintro e w1 ⟨rfl, rfl⟩
        go_wp2
        go_ret
        exact ⟨ret_bool HF.out.symm, Dr.refl _⟩
    · rw [List.take_of_length_le (by omega)] at hok
      have HV : Hid (∀ c : Bool, (c = true ↔ L.length ≤ 16) → c = vjB L) := fun c h => by
        rw [Bool.eq_iff_iff, vjB_iff, h]; exact ⟨fun h => ⟨h, hok⟩, fun h => h.1⟩
      clear hok
      by_cases h16 : L.length ≤ 16
      · go_wp2
        go_ret
        exact ⟨ret_bool (HV.out _ (by simp; omega)), Dr.refl _⟩
      · go_wp2
        go_ret
        exact ⟨ret_bool (HV.out _ (by simp; omega)), Dr.refl _⟩

set_option maxHeartbeats 800000 in
theorem validTimes_c (v : Value) (L : List Int) (w : World) (h : Row intE w v L) : Calls Try.prog 86 #[v] w fun e w' => e = .returned (.bool (vtmB L)) ∧ w = w' := by
  obtain ⟨A1, c1, rfl, hc1, hm1⟩ := h.form
  unfold maxLen at hm1
  by_cases h16 : L.length ≤ 16
  · go_enter Try.func86, Try.ntmps86
    go_wp2
    go_loop [10] (fun i => ∃ k : Nat, i = .int .i64 k ∧ k ≤ L.length ∧ ∀ j ∈ L.take k, okT j) (fun i => L.length - (intOf i).toNat)
    case atStart => exact ⟨0, rfl, by omega, by simp⟩
    case round =>
      obtain ⟨k, rfl, hk, hok⟩ := hrel
      by_cases hlt : k < L.length
      · obtain ⟨b1, o1, rfl, -, hx⟩ := row_cells1 h (by omega)
        have hx' := hx k hlt
        have HOK := hid hok
        clear hx h hok
        by_cases h1 : 0 ≤ L[k] ∧ L[k] ≤ 500
        · obtain ⟨h1a, h1b⟩ := h1
          have HK : Hid (∀ j ∈ L.take (k + 1), okT j) := by
            rw [Hid, List.take_succ_eq_append_getElem hlt]
            intro j hj
            rcases List.mem_append.1 hj with hj | hj
            · exact HOK.out j hj
            · simp at hj; subst hj; exact ⟨h1a, h1b⟩
          go_wp2
          go_round
          case rel => exact ⟨k + 1, by go_num, by omega, HK.out⟩
          case measure => simp [intOf]; omega
        · have HF : Hid (vtmB L = false) := by
            rw [Hid, vtmB_not]; intro hv; have := hv.2 _ (List.getElem_mem hlt); unfold okT at this; omega
          by_cases h2 : 0 ≤ L[k]
          · have h3 : 500 < L[k] := by omega
            clear h1
            go_wp2
            go_ret
            exact ⟨ret_bool HF.out.symm, rfl⟩
          · have h3 : L[k] < 0 := by omega
            clear h1 h2
            go_wp2
            go_ret
            exact ⟨ret_bool HF.out.symm, rfl⟩
      · rw [List.take_of_length_le (by omega)] at hok
        have HV := hid (vtmB_iff.2 ⟨h16, hok⟩)
        clear hok
        go_wp2
        go_ret
        exact ⟨ret_bool HV.out.symm, rfl⟩
  · have HF : Hid (vtmB L = false) := by rw [Hid, vtmB_not]; exact fun hv => h16 hv.1
    go_enter Try.func86, Try.ntmps86
    go_wp2
    go_ret
    exact ⟨ret_bool HF.out.symm, rfl⟩

set_option maxHeartbeats 1600000 in
theorem ValidJobs_c (v : Value) (L : List Jb) (w : World) (h : Row jobE w v L) : Calls Try.prog 57 #[v] w fun e w' => e = .returned (.bool (vjB L)) ∧ Below w.heap.size w w' := by
  obtain ⟨A1, c1, rfl, hc1, hm1⟩ := h.form
  unfold maxLen at hm1
  by_cases h16 : L.length ≤ 16
  · go_enter Try.func57, Try.ntmps57
    go_wp2
    go_loopw [10] (fun i wr => ∃ k : Nat, i = .int .i64 k ∧ k ≤ L.length ∧ (∀ j ∈ L.take k, okJ j) ∧ Below w.heap.size w wr) (fun i _ => L.length - (intOf i).toNat)
    case atStart => exact ⟨0, rfl, by omega, by simp, Below.refl _ _⟩
    case round =>
      obtain ⟨k, rfl, hk, hok, hb⟩ := hrel
      by_cases hlt : k < L.length
      · obtain ⟨b1, o1, rfl, -, hx⟩ := row_jobs (h.below hb) (by omega)
        obtain ⟨hx0, hx1⟩ := hx k hlt
        have HOK := hid hok
        have hsz := hb.size
        have HB := hid hb
        have hrow : Row intE ((wr.alloc (.cells #[.int .i64 L[k].c, .int .i64 L[k].h] 30)).alloc (.cells #[.int .i64 L[k].c, .int .i64 L[k].h] 3)) (.slice (some ⟨wr.heap.size + 1, 0, none⟩) 2 2) [L[k].c, L[k].h] := by
          have := (Own.lit intE (wr.alloc (.cells #[.int .i64 L[k].c, .int .i64 L[k].h] 30)) 0 3 #[.int .i64 L[k].c, .int .i64 L[k].h] [L[k].c, L[k].h] 2 rfl rfl (by omega) (by simp [maxLen])).rowB
          simpa [Row] using this
        have HR := hid hrow
        clear hx h hok hb hrow
        go_wp2_with fail
        refine (validTimes_c _ _ _ HR.out).mono ?_
        rintro e w2 ⟨rfl, hw⟩
        subst hw
        by_cases hj : okJ L[k]
        · have HK : Hid (∀ j ∈ L.take (k + 1), okJ j) := by
            rw [Hid, List.take_succ_eq_append_getElem hlt]
            intro j hj'
            rcases List.mem_append.1 hj' with hj' | hj'
            · exact HOK.out j hj'
            · simp at hj'; subst hj'; exact hj
          rw [vtmB_iff.2 ((vtm_job _).2 hj)]
          clear hj
          go_wp2
          exact ⟨⟨k + 1, by go_num, by omega, HK.out, (HB.out.alloc hsz _).alloc (by simp; omega) _⟩, by simp [intOf]; omega⟩
        · have HF : Hid (vjB L = false) := by
            rw [Hid, vjB_not]; exact fun hv => hj (hv.2 _ (List.getElem_mem hlt))
          rw [vtmB_not.2 (fun h => hj ((vtm_job _).1 h))]
          clear hj
          go_wp2
          go_ret
          exact ⟨ret_bool HF.out.symm, (HB.out.alloc hsz _).alloc (by simp; omega) _⟩
      · rw [List.take_of_length_le (by omega)] at hok
        have HV := hid (vjB_iff.2 ⟨h16, hok⟩)
        clear hok
        go_wp2
        go_ret
        exact ⟨ret_bool HV.out.symm, hb⟩
  · have HF : Hid (vjB L = false) := by rw [Hid, vjB_not]; exact fun hv => h16 hv.1
    go_enter Try.func57, Try.ntmps57
    go_wp2
    go_ret
    exact ⟨ret_bool HF.out.symm, Below.refl _ _⟩

set_option maxHeartbeats 1600000 in
theorem svalidRow_c (v u : Value) (L : List Jb) (O : List Int) (w : World) (h : Row jobE w v L) (h' : Row intE w u O) : Calls Try.prog 59 #[v, u] w fun e w' => e = .returned (.bool (vrB L O)) ∧ Dr w w' := by
  obtain ⟨A1, c1, rfl, hc1, hm1⟩ := h.form
  obtain ⟨A2, c2, rfl, hc2, hm2⟩ := h'.form
  unfold maxLen at hm1 hm2
  by_cases hv : VJ L
  · have HV := hid (vjB_iff.2 hv)
    by_cases hl : O.length = L.length
    · have hlb : ((O.length : Int) == (L.length : Int)) = true := by simp [hl]
      have HE : Hid (vtB O = vrB L O) := by
        rw [Hid, Bool.eq_iff_iff, vtB_iff, vrB_iff]
        constructor
        · intro h; exact ⟨hv, hl ▸ h.2⟩
        · intro h; exact h.2.vt (by have := hv.1; omega)
      clear hl hv
      go_enter Try.func59, Try.ntmps59
      go_wp2_with fail
      refine (svalidJobs_c _ L _ h).mono ?_
      rintro e w1 ⟨rfl, hd1⟩
      rw [HV.out]
      have HD := hid hd1
      clear hd1
      go_wp2_with fail
      refine (validTurn_c _ O _ (h'.drR HD.out)).mono ?_
      rintro e w2 ⟨rfl, hd2⟩
      have HD2 := hid (HD.out.trans hd2)
      clear hd2
      go_wp2
      go_ret
      exact ⟨ret_bool HE.out, HD2.out⟩
    · have hlb : ((O.length : Int) == (L.length : Int)) = false := by rw [beq_eq_false_iff_ne]; omega
      have HF : Hid (vrB L O = false) := by rw [Hid, vrB_not]; exact fun hv => hl hv.2.1
      clear hl hv
      go_enter Try.func59, Try.ntmps59
      go_wp2_with fail
      refine (svalidJobs_c _ L _ h).mono ?_
      rintro e w1 ⟨rfl, hd1⟩
      rw [HV.out]
      have HD := hid hd1
      clear hd1
      go_wp2
      go_ret
      exact ⟨ret_bool HF.out.symm, HD.out⟩
  · have HV := hid (vjB_not.2 hv)
    have HF : Hid (vrB L O = false) := by rw [Hid, vrB_not]; exact fun h => hv h.1
    clear hv
    go_enter Try.func59, Try.ntmps59
    go_wp2_with fail
    refine (svalidJobs_c _ L _ h).mono ?_
    rintro e w1 ⟨rfl, hd1⟩
    rw [HV.out]
    have HD := hid hd1
    clear hd1
    go_wp2
    go_ret
    exact ⟨ret_bool HF.out.symm, HD.out⟩

set_option maxHeartbeats 1600000 in
theorem sends_c (v u : Value) (L : List Jb) (O : List Int) (w : World) (h : Row jobE w v L) (h' : Row intE w u O) (hv : VR L O) : Calls Try.prog 60 #[v, u] w fun e w' =>
    ∃ r, e = .returned r ∧ Own intE 3 w.heap.size w' r (endsTo L O O.length) ∧ Below w.heap.size w w' := by
  obtain ⟨A1, c1, rfl, hc1, hm1⟩ := h.form
  obtain ⟨A2, c2, rfl, hc2, hm2⟩ := h'.form
  unfold maxLen at hm1 hm2
  obtain ⟨i0, hi0, hz0, hz1, hz2⟩ := info_parts int_info
  have hOL : O.length ≤ 16 := by have := hv.1.1; have := hv.2.1; omega
  have HVR := hid hv
  clear hv
  go_enter Try.func60, Try.ntmps60
  go_wp2
  have HO0 := hid (Own.lit0 intE w w.heap.size 3 (Nat.le_refl _))
  have HB0 : Hid (Below w.heap.size w (w.alloc (.cells #[] 3))) := (Below.refl _ _).alloc (Nat.le_refl _) _
  go_loopw [5, 6, 7, 8] (fun o c t i wr => ∃ k : Nat, i = .int .i64 k ∧ k ≤ O.length ∧ c = .int .i64 (cutTo L O k) ∧ t = .int .i64 (heatTo L O k) ∧ Below w.heap.size w wr ∧ Own intE 3 w.heap.size wr o (endsTo L O k)) (fun _ _ _ i _ => O.length - (intOf i).toNat)
  case atStart => exact ⟨0, rfl, by omega, rfl, rfl, HB0.out, HO0.out⟩
  case round =>
    obtain ⟨k, rfl, hk, rfl, rfl, hb, ho⟩ := hrel
    clear HO0 HB0
    by_cases hlt : k < O.length
    · obtain ⟨b2, o2, rfl, -, hy⟩ := row_cells1 (h'.below hb) (by omega)
      have hy' := hy k hlt
      obtain ⟨m, hm, hOm, hjm⟩ := jobAt_eq HVR.out.2 k hlt
      obtain ⟨b1, o1, rfl, -, hx⟩ := row_jobs (h.below hb) (by omega)
      obtain ⟨hx0, hx1⟩ := hx m hm
      rw [hOm] at hy'
      have cb := cutTo_bd (O := O) HVR.out.1 k
      have tb := heatTo_bd (O := O) HVR.out.1 k
      have jb := HVR.out.1.2 _ (List.getElem_mem hm)
      unfold okJ at jb
      obtain ⟨cb1, cb2⟩ := cb
      obtain ⟨tb1, tb2⟩ := tb
      obtain ⟨j1, j2, j3, j4⟩ := jb
      have HC : Hid (cutTo L O (k + 1) = cutTo L O k + L[m].c) := by rw [Hid, cutTo, hjm]
      have HT : Hid (heatTo L O (k + 1) = max (heatTo L O k) (cutTo L O k + L[m].c) + L[m].h) := by rw [Hid, heatTo, hjm]
      obtain ⟨mx, r1, e1⟩ : ∃ mx, (if heatTo L O k < cutTo L O k + L[m].c then cutTo L O k + L[m].c else heatTo L O k) = mx ∧ mx = max (heatTo L O k) (cutTo L O k + L[m].c) := ⟨_, rfl, by split <;> omega⟩
      have m1 : 0 ≤ mx := by omega
      have m2 : mx ≤ 100000 := by omega
      have HT2 : Hid (heatTo L O (k + 1) = mx + L[m].h) := by rw [Hid, HT.out, e1]
      have HB := hid hb
      have HO := hid ho
      have hsz := hb.size
      have HLN : Hid ((endsTo L O k).length ≤ 4194304) := by rw [Hid, endsTo_len]; omega
      clear hx hy h h' hb ho hOm hjm e1
      obtain ⟨L2, hL2⟩ : ∃ M : List Int, M = endsTo L O k ++ [mx + L[m].h] := ⟨_, rfl⟩
      have HL2 := hid hL2
      clear hL2
      go_wp2_with (at_builtin; refine wpList_pushN intE _ rfl (.tmp 34) (.tmp 36) _ rfl w.heap.size 3 i0 _ 8 Try.underlying24 hi0 hz0 hz1 hz2 rfl (by omega) _ _ rfl (HO.out.alloc _) _ (mx + L[m].h) _ rfl rfl (by simp) HLN.out (by simp; omega) L2 HL2.out ?_)
      intro v' w' ho' hg' hat'
      have HO' := hid ho'
      have HB' := hid ((HB.out.alloc hsz _).grown hg' (by simp; omega) (fun q hq => (HO.out.lt q hq).1))
      clear ho' hg' hat'
      go_wp2
      exact ⟨⟨k + 1, by go_num, by omega, by rw [HC.out], by rw [HT2.out], HB'.out, by rw [endsTo_succ, HT2.out, ← HL2.out]; exact HO'.out⟩, by simp [intOf]; omega⟩
    · have e : k = O.length := by omega
      have HO := hid (e ▸ ho)
      have HB := hid hb
      clear e ho hb
      go_wp2
      go_ret
      exact ⟨_, rfl, HO.out, HB.out⟩

end Go.Proofs.Ytcfhncckeedipaa
