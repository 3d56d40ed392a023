/-
  Contracts: where a label lies in a stock; equal stocks.
-/
import Derived.Test.YtpicbkakghojnaaStkV
import Derived.Test.YtpicbkakghojnaaEqPc
namespace Go.Proofs.Ytpicbkakghojnaa
set_option linter.unusedSimpArgs false
set_option linter.unusedVariables false
open Go.RowKit

/-- The first index of x in a list of numbers, else -1. -/
def placeP (L : List Int) (x : Int) : Int := match L.findIdx? (· == x) with | some i => i | none => -1
theorem placeP_at {L : List Int} {x : Int} {k : Nat} (hk : k < L.length) (h : L[k] = x) (hno : ∀ y ∈ L.take k, y ≠ x) : placeP L x = k := by
  unfold placeP
  have : L.findIdx? (· == x) = some k := by
    rw [List.findIdx?_eq_some_iff_getElem]
    refine ⟨hk, by simpa using h, fun j hj => ?_⟩
    have := hno L[j] (List.mem_take_iff_getElem.2 ⟨j, by omega, rfl⟩)
    simpa using this
  rw [this]
theorem placeP_none {L : List Int} {x : Int} (hno : ∀ y ∈ L, y ≠ x) : placeP L x = -1 := by
  unfold placeP
  have : L.findIdx? (· == x) = none := by
    rw [List.findIdx?_eq_none_iff]
    intro y hy
    have := hno y hy
    simpa using this
  rw [this]
theorem placeP_bd (L : List Int) (x : Int) : -1 ≤ placeP L x ∧ placeP L x < L.length := by
  unfold placeP
  cases h : L.findIdx? (· == x) with
  | none => simp only; omega
  | some i =>
    rw [List.findIdx?_eq_some_iff_getElem] at h
    obtain ⟨h, _⟩ := h
    simp only; omega
theorem placeP_get {L : List Int} {x : Int} (h : 0 ≤ placeP L x) : ∃ (k : Nat) (hk : k < L.length), placeP L x = k ∧ L[k] = x := by
  unfold placeP at h ⊢
  cases hf : L.findIdx? (· == x) with
  | none => rw [hf] at h; simp at h
  | some i =>
    rw [List.findIdx?_eq_some_iff_getElem] at hf
    obtain ⟨h1, h2, _⟩ := hf
    exact ⟨i, h1, rfl, by simpa using h2⟩
theorem placeP_mem {L : List Int} {x : Int} : 0 ≤ placeP L x ↔ x ∈ L := by
  constructor
  · intro h
    obtain ⟨k, hk, _, e⟩ := placeP_get h
    rw [← e]; exact List.getElem_mem hk
  · intro h
    by_cases hp : 0 ≤ placeP L x
    · exact hp
    · exfalso
      have : L.findIdx? (· == x) = none := by
        unfold placeP at hp
        cases hf : L.findIdx? (· == x) with
        | none => rfl
        | some i => rw [hf] at hp; simp only at hp; omega
      rw [List.findIdx?_eq_none_iff] at this
      have := this x h
      simp at this
/-- One step of a search. -/
theorem take_neP {L : List Int} {x : Int} {k : Nat} (hk : k < L.length) (h : L[k] ≠ x) (hno : ∀ y ∈ L.take k, y ≠ x) : ∀ y ∈ L.take (k + 1), y ≠ x := by
  intro y hy
  rw [List.take_succ_eq_append_getElem hk] at hy
  rcases List.mem_append.1 hy with hy | hy
  · exact hno y hy
  · simp at hy; rw [hy]; exact h


/-- The labels. -/
def labs (L : List Pc) : List Int := L.map (·.l)
theorem labs_len (L : List Pc) : (labs L).length = L.length := by simp [labs]
theorem labs_at {L : List Pc} {k : Nat} (hk : k < L.length) (h : k < (labs L).length) : (labs L)[k] = L[k].l := by simp [labs]

set_option maxHeartbeats 1600000 in
theorem testLabel_t (s : Ps) (x : Int) (p : Addr) (w : World) (hp : w.cell? p = some (.int .i64 x)) (hb : p.block < w.heap.size) (h : s.l = x) : Calls Try.prog 90 #[.agg #[.int .i64 s.l, .int .i64 s.w, .int .i64 s.h, .slice s.ka s.kn s.kc], .pointer (some p)] w fun e w' => e = .returned (.bool true) ∧ Below w.heap.size w w' := by
  obtain ⟨b, o, sp⟩ := p
  obtain rfl : sp = none := by simpa using World.cell?_spot hp
  have h' : (s.l == x) = true := by simpa using h
  simp only at hb
  clear h
  go_enter Try.func90, Try.ntmps90
  go_wp2
  go_ret
  exact ⟨rfl, (Below.refl _ _).alloc (Nat.le_refl _) _⟩

set_option maxHeartbeats 1600000 in
theorem testLabel_f (s : Ps) (x : Int) (p : Addr) (w : World) (hp : w.cell? p = some (.int .i64 x)) (hb : p.block < w.heap.size) (h : s.l ≠ x) : Calls Try.prog 90 #[.agg #[.int .i64 s.l, .int .i64 s.w, .int .i64 s.h, .slice s.ka s.kn s.kc], .pointer (some p)] w fun e w' => e = .returned (.bool false) ∧ Below w.heap.size w w' := by
  obtain ⟨b, o, sp⟩ := p
  obtain rfl : sp = none := by simpa using World.cell?_spot hp
  have h' : (s.l == x) = false := by simpa using h
  simp only at hb
  clear h
  go_enter Try.func90, Try.ntmps90
  go_wp2
  go_ret
  exact ⟨rfl, (Below.refl _ _).alloc (Nat.le_refl _) _⟩

set_option maxHeartbeats 1600000 in
theorem indexLabel_c (v : Value) (L : List Pc) (x : Int) (p : Addr) (w : World) (h : StR w.heap.size w v L) (hp : w.cell? p = some (.int .i64 x)) (hpb : p.block < w.heap.size) : Calls Try.prog 89 #[v, .func (.func 90) #[] #[.pointer (some p)]] w fun e w' => e = .returned (.int .i64 (placeP (labs L) x)) ∧ Below w.heap.size w w' := by
  obtain ⟨A1, c1, rfl, hc1, hm1⟩ := h.form
  unfold maxLen at hm1
  have HP := hid hp
  clear hp
  go_enter Try.func89, Try.ntmps89
  go_wp2
  go_loopw [8] (fun i wr => ∃ k : Nat, i = .int .i64 k ∧ k ≤ L.length ∧ (∀ y ∈ (labs L).take k, y ≠ x) ∧ Below w.heap.size w wr) (fun i _ => L.length - (intOf i).toNat)
  case atStart => exact ⟨0, rfl, by omega, by simp, Below.refl _ _⟩
  case round =>
    obtain ⟨k, rfl, hk, hno, hb⟩ := hrel
    have HNO := hid hno
    have HB := hid hb
    by_cases hlt : k < L.length
    · obtain ⟨b1, o1, s, rfl, -, hps, hx0, hx1, hx2, hx3⟩ := (h.go hb).at_ k hlt
      have hpc := (hb.cell hpb).trans HP.out
      have HPC := hid hpc
      have hpl : p.block < wr.heap.size := by have := hb.size; omega
      have HG := hid hps.1.1
      have hl2 : k < (labs L).length := by rw [labs_len]; exact hlt
      clear h hno hb hpc hps
      by_cases he : s.l = x
      · have HV : Hid (placeP (labs L) x = k) := placeP_at hl2 (by rw [labs_at hlt, ← HG.out]; exact he) HNO.out
        have HE := hid he
        clear he
        go_wp2_with fail
        refine (testLabel_t s x p _ HPC.out hpl HE.out).mono ?_
        rintro e w2 ⟨rfl, hb⟩
        have HB2 := hid (HB.out.trans (hb.mono HB.out.size))
        clear hb
        go_wp2
        go_ret
        exact ⟨ret_int HV.out.symm, HB2.out⟩
      · have HE := hid he
        have HN2 := hid (take_neP hl2 (by rw [labs_at hlt, ← HG.out]; exact he) HNO.out)
        clear he
        go_wp2_with fail
        refine (testLabel_f s x p _ HPC.out hpl HE.out).mono ?_
        rintro e w2 ⟨rfl, hb⟩
        have HB2 := hid (HB.out.trans (hb.mono HB.out.size))
        clear hb
        go_wp2
        exact ⟨⟨k + 1, by go_num, by omega, HN2.out, HB2.out⟩, by simp [intOf]; omega⟩
    · have HV : Hid (placeP (labs L) x = -1) := placeP_none (by rw [List.take_of_length_le (by rw [labs_len]; omega)] at hno; exact hno)
      clear hno hb
      go_wp2
      go_ret
      exact ⟨ret_int HV.out.symm, HB.out⟩

set_option maxHeartbeats 1600000 in
theorem findLabel_c (v : Value) (L : List Pc) (x : Int) (w : World) (h : StR w.heap.size w v L) : Calls Try.prog 79 #[v, .int .i64 x] w fun e w' => e = .returned (.int .i64 (placeP (labs L) x)) ∧ Below w.heap.size w w' := by
  have HH := hid (h.go ((Below.refl _ _).alloc (Nat.le_refl _) (.cells #[.int .i64 x] 3)))
  clear h
  go_enter Try.func79, Try.ntmps79
  go_wp2_with fail
  refine (indexLabel_c _ L x ⟨w.heap.size, 0, none⟩ _ HH.out (by rw [World.cell?_alloc_at _ _ _ _ rfl]; rfl) (by simp)).mono ?_
  rintro e w2 ⟨rfl, hb⟩
  have HB2 := hid (((Below.refl _ _).alloc (Nat.le_refl _) _).trans (hb.mono (by simp)) : Below w.heap.size w w2)
  clear hb
  go_wp2
  go_ret
  exact ⟨rfl, HB2.out⟩

set_option maxHeartbeats 1600000 in
theorem sfindLabel_c (v : Value) (L : List Pc) (x : Int) (w : World) (h : StR w.heap.size w v L) : Calls Try.prog 81 #[v, .int .i64 x] w fun e w' => e = .returned (.int .i64 (placeP (labs L) x)) ∧ Below w.heap.size w w' := by
  obtain ⟨A1, c1, rfl, hc1, hm1⟩ := h.form
  unfold maxLen at hm1
  go_enter Try.func81, Try.ntmps81
  go_wp2
  go_loopw [5] (fun i wr => ∃ k : Nat, i = .int .i64 k ∧ k ≤ L.length ∧ (∀ y ∈ (labs L).take k, y ≠ x) ∧ Below w.heap.size w wr) (fun i _ => L.length - (intOf i).toNat)
  case atStart => exact ⟨0, rfl, by omega, by simp, Below.refl _ _⟩
  case round =>
    obtain ⟨k, rfl, hk, hno, hb⟩ := hrel
    have HNO := hid hno
    have HB := hid hb
    by_cases hlt : k < L.length
    · obtain ⟨b1, o1, s, rfl, -, hps, hx0, hx1, hx2, hx3⟩ := (h.go hb).at_ k hlt
      have HG := hid hps.1.1
      have hl2 : k < (labs L).length := by rw [labs_len]; exact hlt
      clear h hno hb hps
      by_cases he : s.l = x
      · have HV : Hid (placeP (labs L) x = k) := placeP_at hl2 (by rw [labs_at hlt, ← HG.out]; exact he) HNO.out
        have hd : (s.l == x) = true := by simpa using he
        clear he
        go_wp2
        go_ret
        exact ⟨ret_int HV.out.symm, HB.out⟩
      · have hd : (s.l == x) = false := by simpa using he
        have HN2 := hid (take_neP hl2 (by rw [labs_at hlt, ← HG.out]; exact he) HNO.out)
        clear he
        go_wp2
        exact ⟨⟨k + 1, by go_num, by omega, HN2.out, HB.out⟩, by simp [intOf]; omega⟩
    · have HV : Hid (placeP (labs L) x = -1) := placeP_none (by rw [List.take_of_length_le (by rw [labs_len]; omega)] at hno; exact hno)
      clear hno hb
      go_wp2
      go_ret
      exact ⟨ret_int HV.out.symm, HB.out⟩

set_option maxHeartbeats 1600000 in
set_option maxRecDepth 100000 in
theorem equalStock_c (v1 v2 : Value) (L : List Pc) (w : World) (h1 : StR w.heap.size w v1 L) (h2 : StR w.heap.size w v2 L) : Calls Try.prog 49 #[v1, v2] w fun e w' => e = .returned (.bool true) ∧ Below w.heap.size w w' := by
  obtain ⟨A1, c1, rfl, hc1, hm1⟩ := h1.form
  obtain ⟨A2, c2, rfl, hc2, hm2⟩ := h2.form
  unfold maxLen at hm1 hm2
  have hlb : ((L.length : Int) != (L.length : Int)) = false := by simp
  go_enter Try.func49, Try.ntmps49
  go_wp2
  go_loopw [5] (fun i wr => ∃ k : Nat, i = .int .i64 k ∧ k ≤ L.length ∧ Below w.heap.size w wr) (fun i _ => L.length - (intOf i).toNat)
  case atStart => exact ⟨0, rfl, by omega, Below.refl _ _⟩
  case round =>
    obtain ⟨k, rfl, hk, hb⟩ := hrel
    by_cases hlt : k < L.length
    · obtain ⟨b1, o1, s1, rfl, -, hp1, hx0, hx1, hx2, hx3⟩ := (h1.go hb).at_ k hlt
      obtain ⟨b2, o2, s2, rfl, -, hp2, hy0, hy1, hy2, hy3⟩ := (h2.go hb).at_ k hlt
      have HB := hid hb
      have HP1 := hid hp1
      have HP2 := hid hp2
      clear h1 h2 hb hp1 hp2
      go_wp2
      go_still_tail 8, (by kernel_rfl)
      go_wp2_with fail
      refine (equalPiece_c L[k] s1 s2 _ (HP1.out.go (below_draws _ _ 1)) (HP2.out.go (below_draws _ _ 1))).mono ?_
      rintro e w2 ⟨rfl, hb2⟩
      have HB2 := hid (HB.out.drew.trans (hb2.mono HB.out.size))
      clear hb2
      go_wp2
      exact ⟨⟨k + 1, by go_num, by omega, HB2.out⟩, by simp [intOf]; omega⟩
    · have HB := hid hb
      clear hb
      go_wp2
      go_ret
      exact ⟨rfl, HB.out⟩

end Go.Proofs.Ytpicbkakghojnaa
