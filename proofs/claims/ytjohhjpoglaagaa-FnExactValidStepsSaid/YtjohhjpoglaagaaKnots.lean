/-
  Contracts: the cuts of a plan, by the program.
-/
import Derived.Test.YtjohhjpoglaagaaPlanKn
namespace Go.Proofs.Ytjohhjpoglaagaa
set_option linter.unusedSimpArgs false
set_option linter.unusedVariables false
open Go.RowKit

def knE : Enc Kn := ⟨2, fun x => [.int .i64 x.n, .int .i64 x.a], fun _ => rfl, by decide, by simp [Value.oneCell']⟩
theorem kn_info : (Try.prog.info? 65).map (fun i => (i.zero, i.size, i.bytes)) = some (some (.agg #[.int .i64 0, .int .i64 0]), 2, 16) := by kernel_rfl
theorem row_kns {B : Nat} {w : World} {A : Option Addr} {n c : Nat} {L : List Kn} (h : RowB knE B w (.slice A n c) L) (hn : 0 < n) : ∃ b off, A = some ⟨b, off, none⟩ ∧ b < B ∧
    ∀ k, (hk : k < L.length) → w.cell? ⟨b, off + k * 2, none⟩ = some (.int .i64 L[k].n) ∧ w.cell? ⟨b, off + k * 2 + 1, none⟩ = some (.int .i64 L[k].a) := by
  obtain ⟨h1, h2, h3, h4⟩ := h.at_
  obtain ⟨b, off, rfl, hb, hc⟩ := h4 hn
  exact ⟨b, off, rfl, hb, fun k hk => ⟨hc k 0 _ hk (by decide) rfl, hc k 1 _ hk (by decide) rfl⟩⟩

/-- The first index of x in a list of numbers, else -1. -/
def place (L : List Int) (x : Int) : Int := match L.findIdx? (· == x) with | some i => i | none => -1
theorem place_at {L : List Int} {x : Int} {k : Nat} (hk : k < L.length) (h : L[k] = x) (hno : ∀ y ∈ L.take k, y ≠ x) : place L x = k := by
  unfold place
  have : L.findIdx? (· == x) = some k := by
    rw [List.findIdx?_eq_some_iff_getElem]
    refine ⟨hk, by simpa using h, fun j hj => ?_⟩
    have := hno L[j] (List.mem_take_iff_getElem.2 ⟨j, by omega, rfl⟩)
    simpa using this
  rw [this]
theorem place_none {L : List Int} {x : Int} (hno : ∀ y ∈ L, y ≠ x) : place L x = -1 := by
  unfold place
  have : L.findIdx? (· == x) = none := by
    rw [List.findIdx?_eq_none_iff]
    intro y hy
    have := hno y hy
    simpa using this
  rw [this]
theorem place_bd (L : List Int) (x : Int) : -1 ≤ place L x ∧ place L x < L.length := by
  unfold place
  cases h : L.findIdx? (· == x) with
  | none => simp only; omega
  | some i =>
    rw [List.findIdx?_eq_some_iff_getElem] at h
    obtain ⟨h, _⟩ := h
    simp only; omega
theorem place_get {L : List Int} {x : Int} (h : 0 ≤ place L x) : ∃ (k : Nat) (hk : k < L.length), place L x = k ∧ L[k] = x := by
  unfold place at h ⊢
  cases hf : L.findIdx? (· == x) with
  | none => rw [hf] at h; simp at h
  | some i =>
    rw [List.findIdx?_eq_some_iff_getElem] at hf
    obtain ⟨h1, h2, _⟩ := hf
    exact ⟨i, h1, rfl, by simpa using h2⟩
theorem place_mem {L : List Int} {x : Int} : 0 ≤ place L x ↔ x ∈ L := by
  constructor
  · intro h
    obtain ⟨k, hk, _, e⟩ := place_get h
    rw [← e]; exact List.getElem_mem hk
  · intro h
    by_cases hp : 0 ≤ place L x
    · exact hp
    · exfalso
      have : L.findIdx? (· == x) = none := by
        unfold place at hp
        cases hf : L.findIdx? (· == x) with
        | none => rfl
        | some i => rw [hf] at hp; simp only at hp; omega
      rw [List.findIdx?_eq_none_iff] at this
      have := this x h
      simp at this
/-- One step of a search. -/
theorem take_ne {L : List Int} {x : Int} {k : Nat} (hk : k < L.length) (h : L[k] ≠ x) (hno : ∀ y ∈ L.take k, y ≠ x) : ∀ y ∈ L.take (k + 1), y ≠ x := by
  intro y hy
  rw [List.take_succ_eq_append_getElem hk] at hy
  rcases List.mem_append.1 hy with hy | hy
  · exact hno y hy
  · simp at hy; rw [hy]; exact h

theorem testKnot_t (y : Kn) (x : Int) (p : Addr) (w : World) (hp : w.cell? p = some (.int .i64 x)) (hb : p.block < w.heap.size) (h : y.n = x) : Calls Try.prog 83 #[.agg #[.int .i64 y.n, .int .i64 y.a], .pointer (some p)] w fun e w' => e = .returned (.bool true) ∧ Below w.heap.size w w' := by
  obtain ⟨b, o, sp⟩ := p
  obtain rfl : sp = none := by simpa using World.cell?_spot hp
  have h' : (y.n == x) = true := by simpa using h
  simp only at hb
  clear h
  go_enter Try.func83, Try.ntmps83
  go_wp2
  go_ret
  exact ⟨rfl, (Below.refl _ _).alloc (Nat.le_refl _) _⟩
theorem testKnot_f (y : Kn) (x : Int) (p : Addr) (w : World) (hp : w.cell? p = some (.int .i64 x)) (hb : p.block < w.heap.size) (h : y.n ≠ x) : Calls Try.prog 83 #[.agg #[.int .i64 y.n, .int .i64 y.a], .pointer (some p)] w fun e w' => e = .returned (.bool false) ∧ Below w.heap.size w w' := by
  obtain ⟨b, o, sp⟩ := p
  obtain rfl : sp = none := by simpa using World.cell?_spot hp
  have h' : (y.n == x) = false := by simpa using h
  simp only at hb
  clear h
  go_enter Try.func83, Try.ntmps83
  go_wp2
  go_ret
  exact ⟨rfl, (Below.refl _ _).alloc (Nat.le_refl _) _⟩

set_option maxHeartbeats 1600000 in
theorem indexKnot_c (v : Value) (L : List Kn) (x : Int) (p : Addr) (w : World) (h : Row knE w v L) (hp : w.cell? p = some (.int .i64 x)) (hpb : p.block < w.heap.size) : Calls Try.prog 82 #[v, .func (.func 83) #[] #[.pointer (some p)]] w fun e w' => e = .returned (.int .i64 (place (L.map (·.n)) x)) ∧ Below w.heap.size w w' := by
  obtain ⟨A1, c1, rfl, hc1, hm1⟩ := h.form
  unfold maxLen at hm1
  have HP := hid hp
  clear hp
  go_enter Try.func82, Try.ntmps82
  go_wp2
  go_loopw [8] (fun i wr => ∃ k : Nat, i = .int .i64 k ∧ k ≤ L.length ∧ (∀ y ∈ (L.map (·.n)).take k, y ≠ x) ∧ Below w.heap.size w wr) (fun i _ => L.length - (intOf i).toNat)
  case atStart => exact ⟨0, rfl, by omega, by simp, Below.refl _ _⟩
  case round =>
    obtain ⟨k, rfl, hk, hno, hb⟩ := hrel
    have HNO := hid hno
    have HB := hid hb
    by_cases hlt : k < L.length
    · obtain ⟨b1, o1, rfl, -, hx⟩ := row_kns (h.below hb) (by omega)
      obtain ⟨hx0, hx1⟩ := hx k hlt
      have hpc := (hb.cell hpb).trans HP.out
      have HPC := hid hpc
      have hpl : p.block < wr.heap.size := by have := hb.size; omega
      clear hx hno hb hpc
      by_cases he : L[k].n = x
      · have HV : Hid (place (L.map (·.n)) x = k) := place_at (by simpa using hlt) (by simpa using he) HNO.out
        have HE := hid he
        clear he
        go_wp2_with fail
        refine (testKnot_t L[k] x p _ HPC.out hpl HE.out).mono ?_
        rintro e w2 ⟨rfl, hb⟩
        have HB2 := hid (HB.out.trans (hb.mono HB.out.size))
        clear hb
        go_wp2
        go_ret
        exact ⟨ret_int HV.out.symm, HB2.out⟩
      · have HE := hid he
        have HN2 := hid (take_ne (L := L.map (·.n)) (k := k) (by simpa using hlt) (by simpa using he) HNO.out)
        clear he
        go_wp2_with fail
        refine (testKnot_f L[k] x p _ HPC.out hpl HE.out).mono ?_
        rintro e w2 ⟨rfl, hb⟩
        have HB2 := hid (HB.out.trans (hb.mono HB.out.size))
        clear hb
        go_wp2
        exact ⟨⟨k + 1, by go_num, by omega, HN2.out, HB2.out⟩, by simp [intOf]; omega⟩
    · have HV : Hid (place (L.map (·.n)) x = -1) := place_none (by rw [List.take_of_length_le (by simp; omega)] at hno; exact hno)
      clear hno hb
      go_wp2
      go_ret
      exact ⟨ret_int HV.out.symm, HB.out⟩

set_option maxHeartbeats 1600000 in
theorem findKnot_c (v : Value) (L : List Kn) (x : Int) (w : World) (h : Row knE w v L) : Calls Try.prog 65 #[v, .int .i64 x] w fun e w' => e = .returned (.int .i64 (place (L.map (·.n)) x)) ∧ Below w.heap.size w w' := by
  have HH := hid (h.go ((Below.refl _ _).alloc (Nat.le_refl _) (.cells #[.int .i64 x] 3)))
  clear h
  go_enter Try.func65, Try.ntmps65
  go_wp2_with fail
  refine (indexKnot_c _ L x ⟨w.heap.size, 0, none⟩ _ HH.out (by rw [World.cell?_alloc_at _ _ _ _ rfl]; rfl) (by simp)).mono ?_
  rintro e w2 ⟨rfl, hb⟩
  have HB2 := hid (((Below.refl _ _).alloc (Nat.le_refl _) _).trans (hb.mono (by simp)) : Below w.heap.size w w2)
  clear hb
  go_wp2
  go_ret
  exact ⟨rfl, HB2.out⟩

end Go.Proofs.Ytjohhjpoglaagaa
