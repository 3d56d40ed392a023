/-
  Contracts: valid stacks, lifts and swaps, by the program and by the reference.
-/
import Derived.Test.YtcfhncckeedipaaStackP
import Derived.Test.YtcfhncckeedipaaTurn
namespace Go.Proofs.Ytcfhncckeedipaa
set_option linter.unusedSimpArgs false
set_option linter.unusedVariables false
open Go.RowKit

theorem VS.take_ok {L S : List Int} (h : VS L S) (k : Nat) : ∀ x ∈ S.take k, 0 ≤ x ∧ x ≤ 23 := fun x hx => h.2.2 x (List.mem_of_mem_take hx)
theorem take_ok_succ {S : List Int} {k : Nat} (hk : k < S.length) (h : ∀ x ∈ S.take k, 0 ≤ x ∧ x ≤ 23) (h2 : 0 ≤ S[k] ∧ S[k] ≤ 23) : ∀ x ∈ S.take (k + 1), 0 ≤ x ∧ x ≤ 23 := by
  intro x hx
  rw [List.take_succ_eq_append_getElem hk] at hx
  rcases List.mem_append.1 hx with hx | hx
  · exact h x hx
  · simp at hx; subst hx; exact h2

set_option maxHeartbeats 1600000 in
set_option maxRecDepth 100000 in
theorem svalidStacks_c (v u : Value) (L S : List Int) (w : World) (h : Row intE w v L) (h' : Row intE w u S) : Calls Try.prog 65 #[v, u] w fun e w' => e = .returned (.bool (vsB L S)) ∧ Dr w w' := by
  obtain ⟨A1, c1, rfl, hc1, hm1⟩ := h.form
  obtain ⟨A2, c2, rfl, hc2, hm2⟩ := h'.form
  unfold maxLen at hm1 hm2
  have HH := hid h
  clear h
  go_enter Try.func65, Try.ntmps65
  go_wp2
  go_loop [5] (fun i => ∃ k : Nat, i = .int .i64 k ∧ k ≤ S.length ∧ ∀ x ∈ S.take k, 0 ≤ x ∧ x ≤ 23) (fun i => S.length - (intOf i).toNat)
  case atStart => exact ⟨0, rfl, by omega, by simp⟩
  case round =>
    obtain ⟨k, rfl, hk, hok⟩ := hrel
    have HOK := hid hok
    clear hok
    by_cases hlt : k < S.length
    · obtain ⟨b1, o1, rfl, -, hx⟩ := row_cells1 h' (by omega)
      have hx' := hx k hlt
      clear hx h'
      by_cases hr : 0 ≤ S[k] ∧ S[k] ≤ 23
      · have HK := hid (take_ok_succ hlt HOK.out hr)
        obtain ⟨hr1, hr2⟩ := hr
        go_wp2_with fail
        refine (inRange_t _ _ _ _ hr1 hr2).mono ?_
        rintro e w1 ⟨rfl, hw⟩
        obtain rfl := hw
        go_wp2
        go_round
        case rel => exact ⟨k + 1, by go_num, by omega, HK.out⟩
        case measure => simp [intOf]; omega
      · have HF : Hid (false = vsB L S) := by
          refine Eq.symm ?_
          rw [vsB_not]
          exact fun hv => hr (hv.2.2 _ (List.getElem_mem hlt))
        have hr' : S[k] < 0 ∨ 23 < S[k] := by omega
        clear hr
        have HR := hid hr'
        clear hr'
        go_wp2_with fail
        refine (inRange_f _ _ _ _ HR.out).mono ?_
        rintro e w1 ⟨rfl, hw⟩
        obtain rfl := hw
        go_wp2
        go_ret
        exact ⟨ret_bool HF.out, Dr.refl _⟩
    · have HA : Hid (∀ x ∈ S, 0 ≤ x ∧ x ≤ 23) := by have := HOK.out; rw [List.take_of_length_le (by omega)] at this; exact this
      go_wp2_with fail
      refine (validTurn_c _ L _ HH.out).mono ?_
      rintro e w1 ⟨rfl, hd⟩
      have HD := hid hd
      clear hd
      cases hv : vtB L with
      | false =>
        have HF : Hid (false = vsB L S) := by
          refine Eq.symm ?_
          rw [vsB_not]
          exact fun h => by have := vtB_iff.2 h.1; rw [hv] at this; cases this
        clear hv
        go_wp2
        go_ret
        exact ⟨ret_bool HF.out, HD.out⟩
      | true =>
        have HV := hid hv
        clear hv
        by_cases hl : S.length = L.length
        · have HT : Hid (true = vsB L S) := (vsB_iff.2 ⟨vtB_iff.1 HV.out, hl, HA.out⟩).symm
          have e1 : ((S.length : Int) == (L.length : Int)) = true := by simp [hl]
          clear hl
          go_wp2
          go_ret
          exact ⟨ret_bool HT.out, HD.out⟩
        · have HT : Hid (false = vsB L S) := by
            refine Eq.symm ?_
            rw [vsB_not]
            exact fun h => hl h.2.1
          have e1 : ((S.length : Int) == (L.length : Int)) = false := by rw [beq_eq_false_iff_ne]; omega
          clear hl
          go_wp2
          go_ret
          exact ⟨ret_bool HT.out, HD.out⟩

set_option maxHeartbeats 1600000 in
set_option maxRecDepth 100000 in
theorem validStacks_c (v u : Value) (L S : List Int) (w : World) (h : Row intE w v L) (h' : Row intE w u S) : Calls Try.prog 64 #[v, u] w fun e w' => e = .returned (.bool (vsB L S)) ∧ Below w.heap.size w w' := by
  obtain ⟨A1, c1, rfl, hc1, hm1⟩ := h.form
  obtain ⟨A2, c2, rfl, hc2, hm2⟩ := h'.form
  unfold maxLen at hm1 hm2
  have HH := hid h
  have HS := hid h'
  clear h h'
  go_enter Try.func64, Try.ntmps64
  go_wp2_with fail
  refine (ValidTurn_c _ L _ HH.out).mono ?_
  rintro e w1 ⟨rfl, hb⟩
  have HB := hid hb
  have HS1 := hid (HS.out.go hb)
  clear hb
  cases hv : vtB L with
  | false =>
    have HF : Hid (false = vsB L S) := by
      refine Eq.symm ?_
      rw [vsB_not]
      exact fun h => by have := vtB_iff.2 h.1; rw [hv] at this; cases this
    clear hv
    go_wp2
    go_ret
    exact ⟨ret_bool HF.out, HB.out⟩
  | true =>
    have HV := hid hv
    clear hv
    by_cases hl : S.length = L.length
    · have e1 : ((S.length : Int) != (L.length : Int)) = false := by simp [hl]
      have HL := hid hl
      clear hl
      go_wp2
      go_loop [19] (fun i => ∃ k : Nat, i = .int .i64 k ∧ k ≤ S.length ∧ ∀ x ∈ S.take k, 0 ≤ x ∧ x ≤ 23) (fun i => S.length - (intOf i).toNat)
      case atStart => exact ⟨0, rfl, by omega, by simp⟩
      case round =>
        obtain ⟨k, rfl, hk, hok⟩ := hrel
        have HOK := hid hok
        clear hok
        by_cases hlt : k < S.length
        · obtain ⟨b1, o1, rfl, -, hx⟩ := row_cells1 HS1.out (by omega)
          have hx' := hx k hlt
          clear hx
          by_cases hr : 0 ≤ S[k] ∧ S[k] ≤ 23
          · have HK := hid (take_ok_succ hlt HOK.out hr)
            obtain ⟨hr1, hr2⟩ := hr
            have d1 : decide (S[k] < 0) = false := decide_eq_false (by omega)
            have d2 : decide (24 ≤ S[k]) = false := decide_eq_false (by omega)
            go_wp2
            go_round
            case rel => exact ⟨k + 1, by go_num, by omega, HK.out⟩
            case measure => simp [intOf]; omega
          · have HF : Hid (false = vsB L S) := by
              refine Eq.symm ?_
              rw [vsB_not]
              exact fun hv => hr (hv.2.2 _ (List.getElem_mem hlt))
            by_cases h0 : S[k] < 0
            · have d1 : decide (S[k] < 0) = true := decide_eq_true h0
              clear hr
              go_wp2
              go_ret
              exact ⟨ret_bool HF.out, HB.out⟩
            · have d1 : decide (S[k] < 0) = false := decide_eq_false h0
              have d2 : decide (24 ≤ S[k]) = true := decide_eq_true (by omega)
              clear hr h0
              go_wp2
              go_ret
              exact ⟨ret_bool HF.out, HB.out⟩
        · have HT : Hid (true = vsB L S) := by
            have hA := HOK.out
            rw [List.take_of_length_le (by omega)] at hA
            exact (vsB_iff.2 ⟨vtB_iff.1 HV.out, HL.out, hA⟩).symm
          go_wp2
          go_ret
          exact ⟨ret_bool HT.out, HB.out⟩
    · have HF : Hid (false = vsB L S) := by
        refine Eq.symm ?_
        rw [vsB_not]
        exact fun h => hl h.2.1
      have e1 : ((S.length : Int) != (L.length : Int)) = true := by simp; omega
      clear hl
      go_wp2
      go_ret
      exact ⟨ret_bool HF.out, HB.out⟩

set_option maxHeartbeats 3200000 in
set_option maxRecDepth 100000 in
theorem sliftsOf_c (v u : Value) (L S : List Int) (w : World) (h : Row intE w v L) (h' : Row intE w u S) (hv : VS L S) : Calls Try.prog 66 #[v, u] w fun e w' => e = .returned (.int .i64 (liftsN L S : Nat)) ∧ Dr w w' := by
  obtain ⟨A1, c1, rfl, hc1, hm1⟩ := h.form
  obtain ⟨A2, c2, rfl, hc2, hm2⟩ := h'.form
  unfold maxLen at hm1 hm2
  have HLS := hid hv.2.1
  have hL24 := hv.1.1
  have HH := hid h
  have HS := hid h'
  clear h h' hv
  go_enter Try.func66, Try.ntmps66
  go_wp2
  go_loopw [5, 6] (fun n i wr => ∃ k a : Nat, i = .int .i64 k ∧ n = .int .i64 a ∧ a = upTo L S k ∧ k ≤ L.length ∧ Dr w wr) (fun _ i _ => L.length - (intOf i).toNat)
  case atStart => exact ⟨0, 0, rfl, rfl, rfl, by omega, Dr.refl _⟩
  case round =>
    obtain ⟨k, a, rfl, rfl, ha, hk, hd⟩ := hrel
    have HA := hid ha
    have HD := hid hd
    clear ha hd
    by_cases hlt : k < L.length
    · obtain ⟨b1, o1, rfl, -, hx⟩ := row_cells1 HH.out (by omega)
      obtain ⟨b2, o2, rfl, -, hy⟩ := row_cells1 HS.out (by have := HLS.out; omega)
      have HX := hid hx
      have HY := hid hy
      clear hx hy
      go_wp2
      go_loopw [5, 7] (fun n i wi => ∃ q a : Nat, i = .int .i64 q ∧ n = .int .i64 a ∧ a = upTo L S k + upI L S k q ∧ k < q ∧ q ≤ L.length ∧ Dr w wi) (fun _ i _ => L.length - (intOf i).toNat)
      case atStart => exact ⟨k + 1, a, by go_num, rfl, by rw [upI_start, HA.out]; rfl, by omega, by omega, HD.out⟩
      case round =>
        obtain ⟨q, a2, rfl, rfl, ha, hkq, hq, hd⟩ := hrel
        have HA2 := hid ha
        have HD2 := hid hd
        have hbd : a2 ≤ 100000 := by
          have h1 := upTo_bd L S k
          have h2 := cntTo_le (fun j => decide (k < j) && liftB L S k j) q
          have h3 : k * L.length ≤ 24 * 24 := Nat.mul_le_mul (by omega) hL24
          unfold upI at ha
          omega
        clear ha hd
        by_cases hql : q < L.length
        · have hx1 := (HD2.out.cell _).trans (HX.out k hlt)
          have hx2 := (HD2.out.cell _).trans (HX.out q hql)
          have hy1 := (HD2.out.cell _).trans (HY.out k (by have := HLS.out; omega))
          have hy2 := (HD2.out.cell _).trans (HY.out q (by have := HLS.out; omega))
          have hkS : k < S.length := by have := HLS.out; omega
          have hqS : q < S.length := by have := HLS.out; omega
          have HI := hid (liftB_iff (S := S) hlt hql HLS.out)
          by_cases hs : S[k] = S[q]
          · have t1 : (S[k] == S[q]) = true := by simpa using hs
            by_cases hl : L[k] < L[q]
            · have t2 : decide (L[k] < L[q]) = true := decide_eq_true hl
              have HU : Hid (upTo L S k + upI L S k (q + 1) = a2 + 1) := by
                rw [Hid, HA2.out]; unfold upI
                rw [cntTo_yes (p := fun j => decide (k < j) && liftB L S k j) (by rw [HI.out.2 ⟨hs, hl⟩]; simp [hkq])]; omega
              have HSS := hid hs
              clear hs hl HI
              go_wp2
              go_quiet (fail)
              go_wp2
              exact ⟨⟨q + 1, a2 + 1, by go_num, by go_num, HU.out.symm, by omega, by omega, HD2.out.step _⟩, by simp [intOf]; omega⟩
            · have t2 : decide (L[k] < L[q]) = false := decide_eq_false hl
              have HU : Hid (upTo L S k + upI L S k (q + 1) = a2) := by
                rw [Hid, HA2.out]; unfold upI
                rw [cntTo_no (p := fun j => decide (k < j) && liftB L S k j) (by rw [liftB_no hlt hql HLS.out (fun h => hl h.2)]; simp)]
              have HSS := hid hs
              clear hs hl HI
              go_wp2
              go_quiet (fail)
              go_wp2
              exact ⟨⟨q + 1, a2, by go_num, rfl, HU.out.symm, by omega, by omega, HD2.out.step _⟩, by simp [intOf]; omega⟩
          · have t1 : (S[k] == S[q]) = false := by simpa using hs
            have HU : Hid (upTo L S k + upI L S k (q + 1) = a2) := by
              rw [Hid, HA2.out]; unfold upI
              rw [cntTo_no (p := fun j => decide (k < j) && liftB L S k j) (by rw [liftB_no hlt hql HLS.out (fun h => hs h.1)]; simp)]
            clear hs HI
            go_wp2
            go_quiet (fail)
            go_wp2
            exact ⟨⟨q + 1, a2, by go_num, rfl, HU.out.symm, by omega, by omega, HD2.out.step _⟩, by simp [intOf]; omega⟩
        · have e : q = L.length := by omega
          have HU : Hid (a2 = upTo L S (k + 1)) := by rw [Hid, HA2.out, e]; rfl
          clear e
          go_wp2
          exact ⟨⟨k + 1, a2, by go_num, rfl, HU.out, by omega, HD2.out⟩, by simp [intOf]; omega⟩
    · have e : k = L.length := by omega
      have HE : Hid (a = liftsN L S) := by rw [Hid, HA.out, e, up_lifts]
      clear e
      go_wp2
      go_ret
      exact ⟨ret_int (by rw [HE.out]), HD.out⟩

def liftsV (L S : List Int) : Int := if vsB L S = true then (liftsN L S : Nat) else -1
theorem liftsV_t {L S : List Int} (h : vsB L S = true) : liftsV L S = (liftsN L S : Nat) := by simp [liftsV, h]
theorem liftsV_f {L S : List Int} (h : vsB L S = false) : liftsV L S = -1 := by simp [liftsV, h]

set_option maxHeartbeats 1600000 in
set_option maxRecDepth 100000 in
theorem sLiftsOf_c (v u : Value) (L S : List Int) (w : World) (h : Row intE w v L) (h' : Row intE w u S) : Calls Try.prog 21 #[v, u] w fun e w' => e = .returned (.int .i64 (liftsV L S)) ∧ Dr w w' := by
  have HH := hid h
  have HS := hid h'
  clear h h'
  go_enter Try.func21, Try.ntmps21
  go_wp2_with fail
  refine (svalidStacks_c _ _ L S _ HH.out HS.out).mono ?_
  rintro e w1 ⟨rfl, hd⟩
  have HD := hid hd
  have HH1 := hid (HH.out.drR hd)
  have HS1 := hid (HS.out.drR hd)
  clear hd
  cases hv : vsB L S with
  | false =>
    have HE := hid (liftsV_f hv)
    clear hv
    go_wp2
    go_ret
    exact ⟨ret_int HE.out.symm, HD.out⟩
  | true =>
    have HE := hid (liftsV_t hv)
    have HV := hid (vsB_iff.1 hv)
    clear hv
    go_wp2_with fail
    refine (sliftsOf_c _ _ L S _ HH1.out HS1.out HV.out).mono ?_
    rintro e w2 ⟨rfl, hd⟩
    have HD2 := hid (HD.out.trans hd)
    clear hd
    go_wp2
    go_ret
    exact ⟨ret_int HE.out.symm, HD2.out⟩

set_option maxHeartbeats 3200000 in
set_option maxRecDepth 100000 in
theorem LiftsOf_c (v u : Value) (L S : List Int) (w : World) (h : Row intE w v L) (h' : Row intE w u S) : Calls Try.prog 20 #[v, u] w fun e w' => e = .returned (.int .i64 (liftsV L S)) ∧ Below w.heap.size w w' := by
  have HH0 := hid h
  have HS0 := hid h'
  obtain ⟨A1, c1, rfl, hc1, hm1⟩ := h.form
  obtain ⟨A2, c2, rfl, hc2, hm2⟩ := h'.form
  unfold maxLen at hm1 hm2
  clear h h'
  go_enter Try.func20, Try.ntmps20
  go_wp2_with fail
  refine (validStacks_c _ _ L S _ HH0.out HS0.out).mono ?_
  rintro e w1 ⟨rfl, hb⟩
  have HB := hid hb
  have HH := hid (HH0.out.go hb)
  have HS := hid (HS0.out.go hb)
  clear hb HH0 HS0
  cases hv : vsB L S with
  | false =>
    have HE := hid (liftsV_f hv)
    clear hv
    go_wp2
    go_ret
    exact ⟨ret_int HE.out.symm, HB.out⟩
  | true =>
    have HEV := hid (liftsV_t hv)
    have HLS := hid (vsB_iff.1 hv).2.1
    have hL24 := (vsB_iff.1 hv).1.1
    clear hv
    go_wp2
    go_loopw [5, 14] (fun n i wr => ∃ k a : Nat, i = .int .i64 k ∧ n = .int .i64 a ∧ a = liftsTo L S k ∧ k ≤ L.length ∧ Dr w1 wr) (fun _ i _ => L.length - (intOf i).toNat)
    case atStart => exact ⟨0, 0, rfl, rfl, rfl, by omega, Dr.refl _⟩
    case round =>
      obtain ⟨k, a, rfl, rfl, ha, hk, hd⟩ := hrel
      have HA := hid ha
      have HD := hid hd
      clear ha hd
      by_cases hlt : k < L.length
      · obtain ⟨b1, o1, rfl, -, hx⟩ := row_cells1 HH.out (by omega)
        obtain ⟨b2, o2, rfl, -, hy⟩ := row_cells1 HS.out (by have := HLS.out; omega)
        have HX := hid hx
        have HY := hid hy
        clear hx hy
        go_wp2
        go_loopw [5, 18] (fun n i wi => ∃ q a : Nat, i = .int .i64 q ∧ n = .int .i64 a ∧ a = liftsTo L S k + liftI L S k q ∧ q ≤ k ∧ Dr w1 wi) (fun _ i _ => k - (intOf i).toNat)
        case atStart => exact ⟨0, a, rfl, rfl, by rw [HA.out]; rfl, by omega, HD.out⟩
        case round =>
          obtain ⟨q, a2, rfl, rfl, ha, hq, hd⟩ := hrel
          have HA2 := hid ha
          have HD2 := hid hd
          have hbd : a2 ≤ 100000 := by
            have h1 := liftsTo_bd L S k
            have h2 := cntTo_le (fun j => liftB L S j k) q
            have h3 : k * k ≤ 24 * 24 := Nat.mul_le_mul (by omega) (by omega)
            unfold liftI at ha
            omega
          clear ha hd
          by_cases hqk : q < k
          · have hql : q < L.length := by omega
            have hx1 := (HD2.out.cell _).trans (HX.out k hlt)
            have hx2 := (HD2.out.cell _).trans (HX.out q hql)
            have hkS : k < S.length := by have := HLS.out; omega
            have hqS : q < S.length := by have := HLS.out; omega
            have hy1 := (HD2.out.cell _).trans (HY.out k hkS)
            have hy2 := (HD2.out.cell _).trans (HY.out q hqS)
            by_cases hs : S[q] = S[k]
            · have t1 : (S[q] == S[k]) = true := by simpa using hs
              by_cases hl : L[q] < L[k]
              · have t2 : decide (L[q] < L[k]) = true := decide_eq_true hl
                have HU : Hid (liftsTo L S k + liftI L S k (q + 1) = a2 + 1) := by
                  rw [Hid, HA2.out]; unfold liftI
                  rw [cntTo_yes (p := fun j => liftB L S j k) (liftB_yes hql hlt HLS.out hs hl)]; omega
                have HSS := hid hs
                clear hs hl
                go_wp2
                go_quiet (fail)
                go_wp2
                exact ⟨⟨q + 1, a2 + 1, by go_num, by go_num, HU.out.symm, by omega, HD2.out.step _⟩, by simp [intOf]; omega⟩
              · have t2 : decide (L[q] < L[k]) = false := decide_eq_false hl
                have HU : Hid (liftsTo L S k + liftI L S k (q + 1) = a2) := by
                  rw [Hid, HA2.out]; unfold liftI
                  rw [cntTo_no (p := fun j => liftB L S j k) (liftB_no hql hlt HLS.out (fun h => hl h.2))]
                have HSS := hid hs
                clear hs hl
                go_wp2
                go_quiet (fail)
                go_wp2
                exact ⟨⟨q + 1, a2, by go_num, rfl, HU.out.symm, by omega, HD2.out.step _⟩, by simp [intOf]; omega⟩
            · have t1 : (S[q] == S[k]) = false := by simpa using hs
              have HU : Hid (liftsTo L S k + liftI L S k (q + 1) = a2) := by
                rw [Hid, HA2.out]; unfold liftI
                rw [cntTo_no (p := fun j => liftB L S j k) (liftB_no hql hlt HLS.out (fun h => hs h.1))]
              clear hs
              go_wp2
              go_quiet (fail)
              go_wp2
              exact ⟨⟨q + 1, a2, by go_num, rfl, HU.out.symm, by omega, HD2.out.step _⟩, by simp [intOf]; omega⟩
          · have e : q = k := by omega
            have HU : Hid (a2 = liftsTo L S (k + 1)) := by rw [Hid, HA2.out, e]; rfl
            clear e
            go_wp2
            exact ⟨⟨k + 1, a2, by go_num, rfl, HU.out, by omega, HD2.out⟩, by simp [intOf]; omega⟩
      · have e : k = L.length := by omega
        have HE : Hid (a = liftsN L S) := by rw [Hid, HA.out, e]; rfl
        clear e
        go_wp2
        go_ret
        exact ⟨ret_int (by rw [HEV.out, HE.out]), HB.out.trans (HD.out.below _)⟩

def swapsV (L : List Int) : Int := if vtB L = true then (swapsN L : Nat) else -1
theorem swapsV_t {L : List Int} (h : vtB L = true) : swapsV L = (swapsN L : Nat) := by simp [swapsV, h]
theorem swapsV_f {L : List Int} (h : vtB L = false) : swapsV L = -1 := by simp [swapsV, h]

set_option maxHeartbeats 3200000 in
set_option maxRecDepth 100000 in
theorem SwapsFor_c (v : Value) (L : List Int) (w : World) (h : Row intE w v L) : Calls Try.prog 22 #[v] w fun e w' => e = .returned (.int .i64 (swapsV L)) ∧ Below w.heap.size w w' := by
  have HH0 := hid h
  obtain ⟨A1, c1, rfl, hc1, hm1⟩ := h.form
  unfold maxLen at hm1
  clear h
  go_enter Try.func22, Try.ntmps22
  go_wp2_with fail
  refine (ValidTurn_c _ L _ HH0.out).mono ?_
  rintro e w1 ⟨rfl, hb⟩
  have HB := hid hb
  have HH := hid (HH0.out.go hb)
  clear hb HH0
  cases hv : vtB L with
  | false =>
    have HE := hid (swapsV_f hv)
    clear hv
    go_wp2
    go_ret
    exact ⟨ret_int HE.out.symm, HB.out⟩
  | true =>
    have HEV := hid (swapsV_t hv)
    have hL24 := (vtB_iff.1 hv).1
    clear hv
    go_wp2
    go_loopw [3, 11] (fun n i wr => ∃ k a : Nat, i = .int .i64 k ∧ n = .int .i64 a ∧ a = swapsTo L k ∧ k ≤ L.length ∧ Dr w1 wr) (fun _ i _ => L.length - (intOf i).toNat)
    case atStart => exact ⟨0, 0, rfl, rfl, rfl, by omega, Dr.refl _⟩
    case round =>
      obtain ⟨k, a, rfl, rfl, ha, hk, hd⟩ := hrel
      have HA := hid ha
      have HD := hid hd
      clear ha hd
      by_cases hlt : k < L.length
      · obtain ⟨b1, o1, rfl, -, hx⟩ := row_cells1 HH.out (by omega)
        have HX := hid hx
        clear hx
        go_wp2
        go_loopw [3, 15] (fun n i wi => ∃ q a : Nat, i = .int .i64 q ∧ n = .int .i64 a ∧ a = swapsTo L k + swapI L k q ∧ q ≤ k ∧ Dr w1 wi) (fun _ i _ => k - (intOf i).toNat)
        case atStart => exact ⟨0, a, rfl, rfl, by rw [HA.out]; rfl, by omega, HD.out⟩
        case round =>
          obtain ⟨q, a2, rfl, rfl, ha, hq, hd⟩ := hrel
          have HA2 := hid ha
          have HD2 := hid hd
          have hbd : a2 ≤ 100000 := by
            have h1 := swapsTo_bd L k
            have h2 := cntTo_le (fun j => swapB L j k) q
            have h3 : k * k ≤ 24 * 24 := Nat.mul_le_mul (by omega) (by omega)
            unfold swapI at ha
            omega
          clear ha hd
          by_cases hqk : q < k
          · have hql : q < L.length := by omega
            have hx1 := (HD2.out.cell _).trans (HX.out k hlt)
            have hx2 := (HD2.out.cell _).trans (HX.out q hql)
            by_cases hl : L[k] < L[q]
            · have t2 : decide (L[k] < L[q]) = true := decide_eq_true hl
              have HU : Hid (swapsTo L k + swapI L k (q + 1) = a2 + 1) := by
                rw [Hid, HA2.out]; unfold swapI
                rw [cntTo_yes (p := fun j => swapB L j k) (by simp [swapB, List.getD_eq_getElem?_getD, hql, hlt, hl])]; omega
              clear hl
              go_wp2
              go_quiet (fail)
              go_wp2
              exact ⟨⟨q + 1, a2 + 1, by go_num, by go_num, HU.out.symm, by omega, HD2.out.step _⟩, by simp [intOf]; omega⟩
            · have t2 : decide (L[k] < L[q]) = false := decide_eq_false hl
              have HU : Hid (swapsTo L k + swapI L k (q + 1) = a2) := by
                rw [Hid, HA2.out]; unfold swapI
                rw [cntTo_no (p := fun j => swapB L j k) (by simp [swapB, List.getD_eq_getElem?_getD, hql, hlt]; omega)]
              clear hl
              go_wp2
              go_quiet (fail)
              go_wp2
              exact ⟨⟨q + 1, a2, by go_num, rfl, HU.out.symm, by omega, HD2.out.step _⟩, by simp [intOf]; omega⟩
          · have e : q = k := by omega
            have HU : Hid (a2 = swapsTo L (k + 1)) := by rw [Hid, HA2.out, e]; rfl
            clear e
            go_wp2
            exact ⟨⟨k + 1, a2, by go_num, rfl, HU.out, by omega, HD2.out⟩, by simp [intOf]; omega⟩
      · have e : k = L.length := by omega
        have HE : Hid (a = swapsN L) := by rw [Hid, HA.out, e]; rfl
        clear e
        go_wp2
        go_ret
        exact ⟨ret_int (by rw [HEV.out, HE.out]), HB.out.trans (HD.out.below _)⟩

end Go.Proofs.Ytcfhncckeedipaa
