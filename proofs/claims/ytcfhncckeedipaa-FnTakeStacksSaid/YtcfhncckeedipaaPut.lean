/-
  Contracts: PutStacks, by the program and by the reference.
-/
import Derived.Test.YtcfhncckeedipaaStack
namespace Go.Proofs.Ytcfhncckeedipaa
set_option linter.unusedSimpArgs false
set_option linter.unusedVariables false
open Go.RowKit

def PutRes (base : Nat) (L : List Int) (w : World) (e : Ending) (w' : World) : Prop := ∃ v, e = .returned v ∧ Own intE 3 base w' v L ∧ Below w.heap.size w w'

theorem take_put {L : List Int} {k r : Nat} (hk : k < L.length) (hr : (putL L).getD k 0 = (r : Int)) : (putL L).take (k + 1) = (putL L).take k ++ [(r : Int)] := by
  have hl : k < (putL L).length := by rw [putL_len]; exact hk
  rw [List.take_succ_eq_append_getElem hl, ← hr, List.getD_eq_getElem?_getD, List.getElem?_eq_getElem hl]
  rfl

theorem big_t {x y : Int} (p : Addr) (w : World) (hp : w.cell? p = some (.int .i64 y)) (h : y < x) : Calls Try.prog 68 #[.int .i64 x, .pointer (some p)] w fun e w' => e = .returned (.bool true) ∧ w = w' := by
  obtain ⟨b, o, sp⟩ := p
  obtain rfl : sp = none := by simpa using World.cell?_spot hp
  have h' : decide (y < x) = true := decide_eq_true h
  clear h
  go_enter Try.func68, Try.ntmps68
  go_wp2
  go_ret
  exact ⟨rfl, rfl⟩
theorem big_f {x y : Int} (p : Addr) (w : World) (hp : w.cell? p = some (.int .i64 y)) (h : x ≤ y) : Calls Try.prog 68 #[.int .i64 x, .pointer (some p)] w fun e w' => e = .returned (.bool false) ∧ w = w' := by
  obtain ⟨b, o, sp⟩ := p
  obtain rfl : sp = none := by simpa using World.cell?_spot hp
  have h' : decide (y < x) = false := decide_eq_false (by omega)
  clear h
  go_enter Try.func68, Try.ntmps68
  go_wp2
  go_ret
  exact ⟨rfl, rfl⟩

/-- The first index whose number is greater, else -1; told by its place r (the list's length if there is none). -/
def Fst (T : List Int) (y : Int) (r : Nat) : Prop := r ≤ T.length ∧ (∀ s (hs : s < T.length), s < r → T[s] ≤ y) ∧ ∀ (hr : r < T.length), y < T[r]

def fstV (T : List Int) (r : Nat) : Int := if r < T.length then (r : Int) else -1

set_option maxHeartbeats 1600000 in
set_option maxRecDepth 100000 in
theorem indexBig_c (v : Value) (T : List Int) (y : Int) (r : Nat) (p : Addr) (w : World) (h : Row intE w v T) (hp : w.cell? p = some (.int .i64 y)) (hr : Fst T y r) : Calls Try.prog 67 #[v, .func (.func 68) #[] #[.pointer (some p)]] w fun e w' => e = .returned (.int .i64 (fstV T r)) ∧ w = w' := by
  obtain ⟨A1, c1, rfl, hc1, hm1⟩ := h.form
  unfold maxLen at hm1
  have HP := hid hp
  have HR := hid hr
  have HH := hid h
  clear hp hr h
  go_enter Try.func67, Try.ntmps67
  go_wp2
  go_loop [8] (fun i => ∃ k : Nat, i = .int .i64 k ∧ k ≤ r) (fun i => T.length - (intOf i).toNat)
  case atStart => exact ⟨0, rfl, by omega⟩
  case round =>
    obtain ⟨k, rfl, hk⟩ := hrel
    have hrT := HR.out.1
    by_cases hlt : k < T.length
    · obtain ⟨b1, o1, rfl, -, hx⟩ := row_cells1 HH.out (by omega)
      have hx' := hx k hlt
      clear hx
      by_cases hkr : k = r
      · have HB := hid (HR.out.2.2 (by omega))
        subst hkr
        have HE : Hid (fstV T k = k) := by rw [Hid, fstV, if_pos hlt]
        clear hk
        go_wp2_with fail
        refine (big_t p _ HP.out HB.out).mono ?_
        rintro e w1 ⟨rfl, rfl⟩
        go_wp2
        go_ret
        exact ⟨ret_int HE.out.symm, rfl⟩
      · have HB := hid (HR.out.2.1 k hlt (by omega))
        have hk2 : k + 1 ≤ r := by omega
        clear hkr hk
        go_wp2_with fail
        refine (big_f p _ HP.out HB.out).mono ?_
        rintro e w1 ⟨rfl, rfl⟩
        go_wp2
        go_round
        case rel => exact ⟨k + 1, by go_num, hk2⟩
        case measure => simp [intOf]; omega
    · have HE : Hid (fstV T r = -1) := by rw [Hid, fstV, if_neg (by omega)]
      go_wp2
      go_ret
      exact ⟨ret_int HE.out.symm, rfl⟩

end Go.Proofs.Ytcfhncckeedipaa
