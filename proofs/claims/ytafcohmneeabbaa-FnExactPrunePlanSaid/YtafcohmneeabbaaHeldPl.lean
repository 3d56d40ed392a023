/-
  Contracts: marks of plans read back ('heldPlan').
-/
import Derived.Test.YtafcohmneeabbaaPlanMark
namespace Go.Proofs.Ytafcohmneeabbaa
set_option linter.unusedSimpArgs false
set_option linter.unusedVariables false
open Go.RowKit

theorem Mk.cons_inv {k k2 : Int} {p : Pl} {L : List Pl} (h : Mk k (p :: L) k2) : ∃ ks k1, p = .mk k (k + 1) (k + 1 + 1) ((k + 1 + 1 + 1) % 3 == 0) ks ∧ Mk (k + 4) ks k1 ∧ Mk k1 L k2 := by
  cases h with
  | cons h1 h2 => exact ⟨_, _, rfl, h1, h2⟩
theorem Mk.le {k k2 : Int} {L : List Pl} (h : Mk k L k2) : k ≤ k2 := by have := h.tot; omega
theorem Mk.nil_inv {k k2 : Int} (h : Mk k [] k2) : k2 = k := by cases h; rfl

abbrev HdS (n : Nat) : Prop := ∀ (v : Value) (L : List Pl) (k k2 : Int) (w : World), FR w.heap.size w n v L → Mk k L k2 → 0 ≤ k → k2 ≤ 1099511627776 →
  Calls Try.prog 56 #[v, .int .i64 k] w fun e w' => e = .returned (.int .i64 k2) ∧ w = w'

set_option maxHeartbeats 6400000 in
set_option maxRecDepth 100000 in
theorem heldPlanS_any : ∀ n, HdS n
  | 0 => fun _ _ _ _ _ h => h.elim
  | n + 1 => by
    have HI := hid (heldPlanS_any n)
    intro v L k k2 w h hm hk0 hk1
    obtain ⟨S, hr, hl, hS⟩ := h
    obtain ⟨A, c, rfl, hc, hcm⟩ := hr.form
    unfold maxLen at hcm
    have HR := hid hr
    have HS := hid hS
    have HL := hid hl
    have HM := hid hm
    clear hr hS hl hm
    go_enter Try.func56, Try.ntmps56
    go_wp2
    go_loop [1, 5] (fun kk i => ∃ (j : Nat) (K : Int), i = .int .i64 j ∧ kk = .int .i64 K ∧ j ≤ S.length ∧ Mk K (L.drop j) k2 ∧ 0 ≤ K ∧ K ≤ k2) (fun _ i => S.length - (intOf i).toNat)
    case atStart => exact ⟨0, k, rfl, rfl, by omega, HM.out, hk0, HM.out.le⟩
    case round =>
      obtain ⟨j, K, rfl, rfl, hj, hmk, hK0, hK1⟩ := hrel
      by_cases hlt : j < S.length
      · have hlL : j < L.length := by have := HL.out; omega
        rw [List.drop_eq_getElem_cons hlL] at hmk
        obtain ⟨ks, k1, he, hmk1, hmk2⟩ := hmk.cons_inv
        obtain ⟨hsm, hfr⟩ := HS.out j hlt hlL
        obtain ⟨b1, o1, rfl, hb1, hx⟩ := row_shs HR.out (by omega)
        obtain ⟨x0, x1, x2, x3, x4⟩ := hx j hlt
        rw [he] at hsm hfr
        obtain ⟨e0, e1, e2, e3⟩ := hsm
        simp only [Pl.o, Pl.a, Pl.p, Pl.t, Pl.ks] at e0 e1 e2 e3 hfr
        rw [e0] at x0
        rw [e1] at x1
        rw [e2] at x2
        rw [e3] at x3
        have hk1a := hmk1.le
        have hk1b := hmk2.le
        have HM1 := hid hmk1
        have HM2 := hid hmk2
        have HF := hid hfr
        clear hx e0 e1 e2 e3 he hmk hmk1 hmk2 hfr
        have h4 : K + 4 = K + 1 + 1 + 1 + 1 := by omega
        have HM3 := hid (show Mk (K + 1 + 1 + 1 + 1) ks k1 by rw [← h4]; exact HM1.out)
        clear h4
        go_wp2_with fail
        refine (HI.out _ ks (K + 1 + 1 + 1 + 1) k1 _ HF.out HM3.out (by omega) (by omega)).mono ?_
        rintro e w2 ⟨rfl, rfl⟩
        go_wp2
        go_round
        case rel => exact ⟨j + 1, k1, by go_num, rfl, by omega, HM2.out, by omega, by omega⟩
        case measure => simp [intOf]; omega
      · have e : L.drop j = [] := List.drop_eq_nil_of_le (by have := HL.out; omega)
        rw [e] at hmk
        have hE := hmk.nil_inv
        have HE := hid hE
        clear hE hmk e
        go_wp2
        go_ret
        exact ⟨ret_int HE.out.symm, rfl⟩

set_option maxHeartbeats 1600000 in
theorem heldPlan_c {n : Nat} {s : Sh} {L : List Pl} {k k2 : Int} {w : World} (h : FR w.heap.size w n s.kv L) (hm : Mk k L k2) (hk0 : 0 ≤ k) (hk1 : k2 ≤ 1099511627776) : Calls Try.prog 30 #[.agg #[.int .i64 s.o, .int .i64 s.a, .int .i64 s.p, .bool s.t, .slice s.ka s.kn s.kc], .int .i64 k] w fun e w' => e = .returned (.int .i64 k2) ∧ Below w.heap.size w w' := by
  have hb := below_plm (o := s.o) (a := s.a) (p := s.p) (t := s.t) (ka := s.ka) (kn := s.kn) (kc := s.kc) (ty := 30) w
  have HF := hid (h.go hb)
  have HB := hid hb
  have HM := hid hm
  have hle := hm.le
  clear h hb hm
  go_enter Try.func30, Try.ntmps30
  go_wp2_with fail
  refine (heldPlanS_any n _ L k k2 _ HF.out HM.out hk0 hk1).mono ?_
  rintro e w2 ⟨rfl, rfl⟩
  have d1 : decide (k2 < 0) = false := decide_eq_false (by omega)
  go_wp2
  go_ret
  exact ⟨rfl, HB.out⟩

end Go.Proofs.Ytafcohmneeabbaa
