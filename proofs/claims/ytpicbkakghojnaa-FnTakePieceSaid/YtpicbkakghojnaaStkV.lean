/-
  Contracts: valid stocks and their areas, by both.
-/
import Derived.Test.YtpicbkakghojnaaStk
namespace Go.Proofs.Ytpicbkakghojnaa
set_option linter.unusedSimpArgs false
set_option linter.unusedVariables false
open Go.RowKit

/-- The labels ascend among the first k. -/
def ascK (L : List Pc) (k : Nat) : Prop := ∀ i (h : i + 1 < L.length), i + 1 < k → (L[i]).l < L[i + 1].l
def VS (L : List Pc) : Prop := L.length ≤ 20 ∧ (∀ p ∈ L, VP p) ∧ ascK L L.length
noncomputable instance (L : List Pc) : Decidable (VS L) := Classical.propDecidable _
noncomputable def vsB (L : List Pc) : Bool := decide (VS L)
theorem vsB_iff {L : List Pc} : vsB L = true ↔ VS L := by simp [vsB]
theorem vsB_not {L : List Pc} : vsB L = false ↔ ¬ VS L := by simp [vsB]
/-- The first k pieces are as they are to be. -/
def VSk (L : List Pc) (k : Nat) : Prop := (∀ p ∈ L.take k, VP p) ∧ ascK L k
theorem VSk.zero (L : List Pc) : VSk L 0 := ⟨by simp, fun i _ h => by omega⟩
theorem VSk.succ {L : List Pc} {k : Nat} (h : VSk L k) (hk : k < L.length) (hv : VP L[k]) (ha : ∀ j (e : k = j + 1), (L[j]).l < L[k].l) : VSk L (k + 1) := by
  refine ⟨?_, fun i h1 h2 => ?_⟩
  · rw [List.take_succ_eq_append_getElem hk]
    intro p hp
    rcases List.mem_append.1 hp with hp | hp
    · exact h.1 p hp
    · simp at hp; rw [hp]; exact hv
  · by_cases e : k = i + 1
    · subst e; exact ha i rfl
    · exact h.2 i h1 (by omega)
theorem VSk.all {L : List Pc} {k : Nat} (h : VSk L k) (hk : ¬ k < L.length) (h20 : L.length ≤ 20) : VS L := by
  refine ⟨h20, ?_, fun i h1 h2 => h.2 i h1 (by omega)⟩
  have := h.1
  rwa [List.take_of_length_le (by omega)] at this
theorem VS.pos {L : List Pc} (h : VS L) (k : Nat) (hk : k < L.length) : 1 ≤ L[k].l := (h.2.1 _ (List.getElem_mem hk)).1.1

/-- The label before piece k. -/
def labB (L : List Pc) (k : Nat) : Int := if h : 0 < k ∧ k - 1 < L.length then (L[k - 1]'h.2).l else 0
theorem labB_zero (L : List Pc) : labB L 0 = 0 := rfl
theorem labB_succ {L : List Pc} {k : Nat} (h : k < L.length) : labB L (k + 1) = L[k].l := dif_pos ⟨by omega, by simpa using h⟩

set_option maxHeartbeats 3200000 in
set_option maxRecDepth 100000 in
theorem ValidStock_c (v : Value) (L : List Pc) (w : World) (h : StR w.heap.size w v L) : Calls Try.prog 26 #[v] w fun e w' => e = .returned (.bool (vsB L)) ∧ Below w.heap.size w w' := by
  obtain ⟨A, c, rfl, hc1, hm1⟩ := h.form
  unfold maxLen at hm1
  by_cases h20 : L.length ≤ 20
  · have hd : decide (20 < (L.length : Int)) = false := by simp; omega
    go_enter Try.func26, Try.ntmps26
    go_wp2
    go_loopw [3, 11] (fun n i wr => ∃ k : Nat, i = .int .i64 k ∧ k ≤ L.length ∧ n = .int .i64 (labB L k) ∧ VSk L k ∧ Below w.heap.size w wr) (fun _ i _ => L.length - (intOf i).toNat)
    case atStart => exact ⟨0, rfl, by omega, by rw [labB_zero], VSk.zero L, Below.refl _ _⟩
    case round =>
      obtain ⟨k, rfl, hk, rfl, hv, hb⟩ := hrel
      by_cases hlt : k < L.length
      · obtain ⟨b1, o1, s, rfl, hb1, hp, x0, x1, x2, x3⟩ := (h.go hb).at_ k hlt
        have HB := hid hb
        have HP := hid hp
        have HV := hid hv
        have HB0 := hid (HB.out.alloc HB.out.size (.cells #[.int .i64 s.l, .int .i64 s.w, .int .i64 s.h, .slice s.ka s.kn s.kc] 31))
        have HG := hid hp.1.1
        clear h hb hp hv
        cases hvp : vpB L[k] with
        | false =>
          have HF : Hid (vsB L = false) := by rw [Hid, vsB_not]; intro hs; exact (vpB_not.1 hvp) (hs.2.1 _ (List.getElem_mem hlt))
          have HVP := hid hvp
          clear hvp
          go_wp2_with fail
          refine (ValidPiece_c L[k] s _ (HP.out.go (below_ps _))).mono ?_
          rintro e w1 ⟨rfl, hb⟩
          rw [HVP.out]
          have HB1 := hid (HB0.out.trans (hb.mono HB0.out.size))
          clear hb
          go_wp2
          go_ret
          exact ⟨ret_bool HF.out.symm, HB1.out⟩
        | true =>
          have HVP := hid hvp
          clear hvp
          obtain ⟨lb, hlb⟩ : ∃ lb, lb = labB L k := ⟨_, rfl⟩
          have HLB := hid hlb
          simp only [← hlb]
          clear hlb
          by_cases hle : s.l ≤ lb
          · have hdl : decide (s.l ≤ lb) = true := by simpa using hle
            have HF : Hid (vsB L = false) := by
              rw [Hid, vsB_not]; intro hs
              have h1 := HLB.out
              have h2 := HG.out
              have h3 := hs.pos k hlt
              cases k with
              | zero => rw [labB_zero] at h1; omega
              | succ j => rw [labB_succ (by omega)] at h1; have := hs.2.2 j hlt (by omega); omega
            clear hle
            go_wp2_with fail
            refine (ValidPiece_c L[k] s _ (HP.out.go (below_ps _))).mono ?_
            rintro e w1 ⟨rfl, hb⟩
            rw [HVP.out]
            have HB1 := hid (HB0.out.trans (hb.mono HB0.out.size))
            obtain ⟨cc1, f1, z1⟩ := bcell hb
            have y1 : wr.heap.size < w1.heap.size := by simp at z1; omega
            clear hb f1 z1
            go_wp2
            go_ret
            exact ⟨ret_bool HF.out.symm, HB1.out⟩
          · have hdl : decide (s.l ≤ lb) = false := by simpa using hle
            have HV2 : Hid (VSk L (k + 1)) := HV.out.succ hlt (vpB_iff.1 HVP.out) (fun j e => by
              have h1 := HLB.out
              have h2 := HG.out
              subst e
              rw [labB_succ (by omega)] at h1
              omega)
            have HL2 : Hid (labB L (k + 1) = s.l) := by rw [Hid, labB_succ hlt]; exact HG.out.symm
            clear hle
            go_wp2_with fail
            refine (ValidPiece_c L[k] s _ (HP.out.go (below_ps _))).mono ?_
            rintro e w1 ⟨rfl, hb⟩
            rw [HVP.out]
            have HB1 := hid (HB0.out.trans (hb.mono HB0.out.size))
            obtain ⟨cc1, f1, z1⟩ := bcell hb
            have y1 : wr.heap.size < w1.heap.size := by simp at z1; omega
            clear hb f1 z1
            go_wp2
            exact ⟨⟨k + 1, by go_num, by omega, by rw [HL2.out], HV2.out, HB1.out⟩, by simp [intOf]; omega⟩
      · have HT := hid (vsB_iff.2 (hv.all hlt h20))
        have HB := hid hb
        clear hv hb
        go_wp2
        go_ret
        exact ⟨ret_bool HT.out.symm, HB.out⟩
  · have HF : Hid (vsB L = false) := by rw [Hid, vsB_not]; exact fun hs => h20 hs.1
    have hd : decide (20 < (L.length : Int)) = true := by simp; omega
    clear h20
    go_enter Try.func26, Try.ntmps26
    go_wp2
    go_ret
    exact ⟨ret_bool HF.out.symm, Below.refl _ _⟩

/-- The sides are numbers of 64 bits. -/
def S64 (L : List Pc) : Prop := ∀ p ∈ L, I64 p.w ∧ I64 p.h

set_option maxHeartbeats 3200000 in
set_option maxRecDepth 100000 in
theorem svalidStock_c (v : Value) (L : List Pc) (w : World) (h : StR w.heap.size w v L) (hI : S64 L) : Calls Try.prog 62 #[v] w fun e w' => e = .returned (.bool (vsB L)) ∧ Below w.heap.size w w' := by
  obtain ⟨A, c, rfl, hc1, hm1⟩ := h.form
  unfold maxLen at hm1
  have HI := hid hI
  clear hI
  go_enter Try.func62, Try.ntmps62
  go_wp2
  go_loopw [3] (fun i wr => ∃ k : Nat, i = .int .i64 k ∧ k ≤ L.length ∧ VSk L k ∧ Below w.heap.size w wr) (fun i _ => L.length - (intOf i).toNat)
  case atStart => exact ⟨0, rfl, by omega, VSk.zero L, Below.refl _ _⟩
  case round =>
    obtain ⟨k, rfl, hk, hv, hb⟩ := hrel
    by_cases hlt : k < L.length
    · obtain ⟨b1, o1, s, hA, hb1, hp, x0, x1, x2, x3⟩ := (h.go hb).at_ k hlt
      have HB := hid hb
      have HP := hid hp
      have HV := hid hv
      have HG := hid hp.1.1
      have HQP : Hid (∀ q : GW wr.heap.size wr, PvR q.w.heap.size q.w L[k] s) := fun q => HP.out.go q.h
      have HSV : Hid (∀ w1, PvR w1.heap.size w1 L[k] s → Calls Try.prog 52 #[.agg #[.int .i64 s.l, .int .i64 s.w, .int .i64 s.h, .slice s.ka s.kn s.kc]] w1 fun e w' => e = .returned (.bool (vpB L[k])) ∧ Below w1.heap.size w1 w') := fun w1 hp => svalidPiece_c L[k] s w1 hp (HI.out _ (List.getElem_mem hlt)).1 (HI.out _ (List.getElem_mem hlt)).2
      have hq := fun q : GW wr.heap.size wr => q.cell
      by_cases hk0 : 0 < k
      · obtain ⟨b2, o2, s2, hA2, -, hp2, y0, y1, y2, y3⟩ := (h.go hb).at_ (k - 1) (by omega)
        have HG2 := hid hp2.1.1
        rw [hA] at hA2
        injection hA2 with hA2
        injection hA2 with e1 e2 e3
        subst e1 e2 hA
        have hwk : IntKind.i64.wrap ((k : Int) - 1) = ((k - 1 : Nat) : Int) := by rw [IntWalk.i64_in _ (by omega)]; omega
        have hk1 : (0 : Int) ≤ ((k - 1 : Nat) : Int) := by omega
        have hk2 : ((k - 1 : Nat) : Int) < (L.length : Int) := by omega
        have hd0 : decide ((0 : Int) < (k : Int)) = true := by simp; omega
        clear h hb hp hp2 hv e3
        cases hvp : vpB L[k] with
        | false =>
          have HF : Hid (vsB L = false) := by rw [Hid, vsB_not]; intro hs; exact (vpB_not.1 hvp) (hs.2.1 _ (List.getElem_mem hlt))
          rw [hvp] at HSV
          clear hvp
          go_wp2
          refine wp_region_grow wr.heap.size wr (by kernel_rfl) (by kernel_rfl) ?_
          repeat (go_big_quiet_step (first | (go_at_call 52; exact GW.call (Nat.le_refl _) (HSV.out _ (HQP.out _)))))
          refine wpQuiet_nil ?_
          rintro _ ⟨q, rfl⟩
          have HQ := hid q.h
          go_wp2
          go_ret
          exact ⟨ret_bool HF.out.symm, HB.out.trans (HQ.out.mono HB.out.size)⟩
        | true =>
          rw [hvp] at HSV
          have HVP := hid hvp
          clear hvp
          by_cases hle : s.l ≤ s2.l
          · have hdl : decide (s.l ≤ s2.l) = true := by simpa using hle
            have HF : Hid (vsB L = false) := by
              rw [Hid, vsB_not]; intro hs
              have h1 := HG2.out
              have h2 := HG.out
              obtain ⟨j, rfl⟩ : ∃ j, k = j + 1 := ⟨k - 1, by omega⟩
              have := hs.2.2 j hlt (by omega)
              simp only [Nat.add_sub_cancel] at h1
              omega
            clear hle
            go_wp2
            refine wp_region_grow wr.heap.size wr (by kernel_rfl) (by kernel_rfl) ?_
            repeat (go_big_quiet_step (first | (go_at_call 52; exact GW.call (Nat.le_refl _) (HSV.out _ (HQP.out _)))))
            refine wpQuiet_nil ?_
            rintro _ ⟨q, rfl⟩
            have HQ := hid q.h
            go_wp2
            go_ret
            exact ⟨ret_bool HF.out.symm, HB.out.trans (HQ.out.mono HB.out.size)⟩
          · have hdl : decide (s.l ≤ s2.l) = false := by simpa using hle
            have HV2 : Hid (VSk L (k + 1)) := HV.out.succ hlt (vpB_iff.1 HVP.out) (fun j e => by
              have h1 := HG2.out
              have h2 := HG.out
              subst e
              simp only [Nat.add_sub_cancel] at h1
              omega)
            clear hle
            go_wp2
            refine wp_region_grow wr.heap.size wr (by kernel_rfl) (by kernel_rfl) ?_
            repeat (go_big_quiet_step (first | (go_at_call 52; exact GW.call (Nat.le_refl _) (HSV.out _ (HQP.out _)))))
            refine wpQuiet_nil ?_
            rintro _ ⟨q, rfl⟩
            have HQ := hid q.h
            go_wp2
            exact ⟨⟨k + 1, by go_num, by omega, HV2.out, HB.out.trans (HQ.out.mono HB.out.size)⟩, by simp [intOf]; omega⟩
      · have e0 : k = 0 := by omega
        subst e0
        subst hA
        simp only [Nat.zero_mul, Nat.add_zero] at x0 x1 x2 x3
        have hd0 : decide ((0 : Int) < ((0 : Nat) : Int)) = false := by simp
        clear h hb hp hv
        cases hvp : vpB L[0] with
        | false =>
          have HF : Hid (vsB L = false) := by rw [Hid, vsB_not]; intro hs; exact (vpB_not.1 hvp) (hs.2.1 _ (List.getElem_mem hlt))
          rw [hvp] at HSV
          clear hvp
          go_wp2
          refine wp_region_grow wr.heap.size wr (by kernel_rfl) (by kernel_rfl) ?_
          repeat (go_big_quiet_step (first | (go_at_call 52; exact GW.call (Nat.le_refl _) (HSV.out _ (HQP.out _)))))
          refine wpQuiet_nil ?_
          rintro _ ⟨q, rfl⟩
          have HQ := hid q.h
          go_wp2
          go_ret
          exact ⟨ret_bool HF.out.symm, HB.out.trans (HQ.out.mono HB.out.size)⟩
        | true =>
          rw [hvp] at HSV
          have HV2 : Hid (VSk L (0 + 1)) := HV.out.succ hlt (vpB_iff.1 hvp) (fun j e => by omega)
          clear hvp
          go_wp2
          refine wp_region_grow wr.heap.size wr (by kernel_rfl) (by kernel_rfl) ?_
          repeat (go_big_quiet_step (first | (go_at_call 52; exact GW.call (Nat.le_refl _) (HSV.out _ (HQP.out _)))))
          refine wpQuiet_nil ?_
          rintro _ ⟨q, rfl⟩
          have HQ := hid q.h
          go_wp2
          exact ⟨⟨0 + 1, by go_num, by omega, HV2.out, HB.out.trans (HQ.out.mono HB.out.size)⟩, by simp [intOf]; omega⟩
    · have HV : Hid (∀ c : Bool, (c = true ↔ L.length ≤ 20) → c = vsB L) := fun c hc => by
        rw [Bool.eq_iff_iff, vsB_iff, hc]; exact ⟨fun h => hv.all hlt h, fun h => h.1⟩
      have HB := hid hb
      clear hv hb
      have hcase : decide ((L.length : Int) ≤ 20) = true ∨ decide ((L.length : Int) ≤ 20) = false := by cases decide ((L.length : Int) ≤ 20) <;> simp
      rcases hcase with g | g
      all_goals
        go_wp2
        go_ret
        exact ⟨ret_bool (HV.out _ (by simp at g ⊢; omega)), HB.out⟩

theorem sValidStock_c (v : Value) (L : List Pc) (w : World) (h : StR w.heap.size w v L) (hI : S64 L) : Calls Try.prog 24 #[v] w fun e w' => e = .returned (.bool (vsB L)) ∧ Below w.heap.size w w' := by
  go_enter Try.func24, Try.ntmps24
  go_wp2_with fail
  refine (svalidStock_c v L _ h hI).mono ?_
  rintro e w1 ⟨rfl, hb⟩
  have HB := hid hb
  clear hb
  go_wp2
  go_ret
  exact ⟨rfl, HB.out⟩

end Go.Proofs.Ytpicbkakghojnaa
