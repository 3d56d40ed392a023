/-
  Jobs in an order: when they end, plain.
-/
import Derived.Test.YtcfhncckeedipaaTurnP
import Derived.Test.YtcfhncckeedipaaJob
namespace Go.Proofs.Ytcfhncckeedipaa
set_option linter.unusedSimpArgs false
set_option linter.unusedVariables false

/-- Valid jobs. -/
def okJ (j : Jb) : Prop := 0 ≤ j.c ∧ j.c ≤ 500 ∧ 0 ≤ j.h ∧ j.h ≤ 500
instance (j : Jb) : Decidable (okJ j) := by unfold okJ; infer_instance
def VJ (L : List Jb) : Prop := L.length ≤ 16 ∧ ∀ j ∈ L, okJ j
instance (L : List Jb) : Decidable (VJ L) := by unfold VJ; infer_instance
def vjB (L : List Jb) : Bool := decide (VJ L)
theorem vjB_iff {L : List Jb} : vjB L = true ↔ VJ L := by simp [vjB]
theorem vjB_not {L : List Jb} : vjB L = false ↔ ¬ VJ L := by simp [vjB]
/-- Valid jobs in a valid order. -/
def VR (L : List Jb) (O : List Int) : Prop := VJ L ∧ Ord O L.length
instance (L : List Jb) (O : List Int) : Decidable (VR L O) := by unfold VR; infer_instance
def vrB (L : List Jb) (O : List Int) : Bool := decide (VR L O)
theorem vrB_iff {L : List Jb} {O : List Int} : vrB L O = true ↔ VR L O := by simp [vrB]
theorem vrB_not {L : List Jb} {O : List Int} : vrB L O = false ↔ ¬ VR L O := by simp [vrB]

def okT (x : Int) : Prop := 0 ≤ x ∧ x ≤ 500
instance (x : Int) : Decidable (okT x) := by unfold okT; infer_instance
def VTm (L : List Int) : Prop := L.length ≤ 16 ∧ ∀ x ∈ L, okT x
instance (L : List Int) : Decidable (VTm L) := by unfold VTm; infer_instance
def vtmB (L : List Int) : Bool := decide (VTm L)
theorem vtmB_iff {L : List Int} : vtmB L = true ↔ VTm L := by simp [vtmB]
theorem vtmB_not {L : List Int} : vtmB L = false ↔ ¬ VTm L := by simp [vtmB]
theorem vtm_job (j : Jb) : VTm [j.c, j.h] ↔ okJ j := by simp [VTm, okJ, okT]; omega

def jobAt (L : List Jb) (O : List Int) (k : Nat) : Jb := L.getD (O.getD k 0).toNat ⟨0, 0⟩
def cutTo (L : List Jb) (O : List Int) : Nat → Int
  | 0 => 0
  | k + 1 => cutTo L O k + (jobAt L O k).c
def heatTo (L : List Jb) (O : List Int) : Nat → Int
  | 0 => 0
  | k + 1 => max (heatTo L O k) (cutTo L O k + (jobAt L O k).c) + (jobAt L O k).h
def endsTo (L : List Jb) (O : List Int) (k : Nat) : List Int := (List.range k).map fun i => heatTo L O (i + 1)
def endsOut (L : List Jb) (O : List Int) : List Int := if vrB L O = true then endsTo L O O.length else []
def spanOut (L : List Jb) (O : List Int) : Int := if vrB L O = true then heatTo L O O.length else -1
theorem endsOut_t {L : List Jb} {O : List Int} (h : vrB L O = true) : endsOut L O = endsTo L O O.length := by simp [endsOut, h]
theorem endsOut_f {L : List Jb} {O : List Int} (h : vrB L O = false) : endsOut L O = [] := by simp [endsOut, h]
theorem spanOut_t {L : List Jb} {O : List Int} (h : vrB L O = true) : spanOut L O = heatTo L O O.length := by simp [spanOut, h]
theorem spanOut_f {L : List Jb} {O : List Int} (h : vrB L O = false) : spanOut L O = -1 := by simp [spanOut, h]
theorem endsTo_succ (L : List Jb) (O : List Int) (k : Nat) : endsTo L O (k + 1) = endsTo L O k ++ [heatTo L O (k + 1)] := by simp [endsTo, List.range_succ]
theorem endsTo_len (L : List Jb) (O : List Int) (k : Nat) : (endsTo L O k).length = k := by simp [endsTo]
theorem endsTo_at (L : List Jb) (O : List Int) (k i : Nat) (h : i < (endsTo L O k).length) : (endsTo L O k)[i] = heatTo L O (i + 1) := by simp [endsTo]

theorem jobAt_ok {L : List Jb} {O : List Int} (h : VJ L) (k : Nat) : okJ (jobAt L O k) := by
  unfold jobAt
  rw [List.getD_eq_getElem?_getD]
  cases hx : L[(O.getD k 0).toNat]? with
  | none => simp [okJ]
  | some j => exact h.2 j (List.mem_of_getElem? hx)
theorem cutTo_bd {L : List Jb} {O : List Int} (h : VJ L) (k : Nat) : 0 ≤ cutTo L O k ∧ cutTo L O k ≤ 500 * k := by
  induction k with
  | zero => simp [cutTo]
  | succ k ih => have := jobAt_ok (O := O) h k; unfold okJ at this; simp only [cutTo]; omega
theorem heatTo_bd {L : List Jb} {O : List Int} (h : VJ L) (k : Nat) : 0 ≤ heatTo L O k ∧ heatTo L O k ≤ 1000 * k := by
  induction k with
  | zero => simp [heatTo]
  | succ k ih => have h1 := jobAt_ok (O := O) h k; have := cutTo_bd (O := O) h k; unfold okJ at h1; simp only [heatTo]; omega
theorem jobAt_eq {L : List Jb} {O : List Int} (h : Ord O L.length) (k : Nat) (hk : k < O.length) : ∃ (m : Nat) (hm : m < L.length), O[k] = (m : Int) ∧ jobAt L O k = L[m] := by
  have hr := h.range k hk
  refine ⟨O[k].toNat, by omega, by omega, ?_⟩
  unfold jobAt
  rw [List.getD_eq_getElem?_getD, List.getD_eq_getElem?_getD, List.getElem?_eq_getElem hk]
  simp only [Option.getD_some]
  rw [List.getElem?_eq_getElem (by omega)]
  rfl
theorem Ord.vt {O : List Int} {n : Nat} (h : Ord O n) (hn : n ≤ 24) : VT O := by
  obtain ⟨h1, h2, h3⟩ := h
  subst h1
  exact ⟨hn, rfl, h2, h3⟩
theorem VT.ord {O : List Int} (h : VT O) : Ord O O.length := h.2

end Go.Proofs.Ytcfhncckeedipaa
