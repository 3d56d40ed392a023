/-
  Contracts: cuts counted, and their orders (written by a program of mine).
-/
import Derived.Test.YtafcohmneeabbaaPlanLst
import Derived.Test.YtafcohmneeabbaaPlanBin
namespace Go.Proofs.Ytafcohmneeabbaa
set_option linter.unusedSimpArgs false
set_option linter.unusedVariables false
open Go.RowKit

def cutI (t : Tr) : Int := cuts t

abbrev CutS (t : Tr) : Prop := ∀ (s : Sh) (w : World), TR w.heap.size w t s → Calls Try.prog 59 #[.agg #[.int .i64 s.o, .int .i64 s.a, .int .i64 s.p, .bool s.t, .slice s.ka s.kn s.kc]] w fun e w' => e = .returned (.int .i64 (cutI t)) ∧ Below w.heap.size w w'

set_option maxHeartbeats 1600000 in
theorem scutsOf_leaf (o p : Int) (t : Bool) : CutS (.leaf o p t) := by
  intro s w h
  have HB0 := hid (below_pl (o := s.o) (a := s.a) (p := s.p) (t := s.t) (ka := s.ka) (kn := s.kn) (kc := s.kc) (ty := 30) w)
  have HC := hid h.cutF
  clear h
  go_enter Try.func59, Try.ntmps59
  go_wp2_with fail
  refine (sisCut_f s HC.out _).mono ?_
  rintro e w1 ⟨rfl, hb⟩
  have HB1 := hid (HB0.out.trans (hb.mono HB0.out.size))
  clear hb
  go_wp2
  go_ret
  exact ⟨rfl, HB1.out⟩

set_option maxHeartbeats 3200000 in
theorem scutsOf_cut (o a : Int) (l r : Tr) (ihl : CutS l) (ihr : CutS r) (hn : nodes (.cut o a l r) ≤ 255) : CutS (.cut o a l r) := by
  intro s w h
  have HC := hid h.cutT
  obtain ⟨h1, h2, h3, h4, -, sl, sr, hr, hl, hrr⟩ := h
  obtain ⟨so, sa, sp, st, ka, kn, kc⟩ := s
  simp only at h1 h2 h3 h4
  subst h1; subst h2; subst h3; subst h4
  obtain ⟨rfl, hkc, b1, o1, rfl, hb1, x0, x1, x2, x3, x4, y0, y1, y2, y3, y4⟩ := row_two hr
  have HB0 := hid (below_pl (o := so) (a := sa) (p := 0) (t := false) (ka := some ⟨b1, o1, none⟩) (kn := 2) (kc := kc) (ty := 30) w)
  have HL := hid (fun w1 (hb : Below w.heap.size w w1) => hl.go hb)
  have HR := hid (fun w1 (hb : Below w.heap.size w w1) => hrr.go hb)
  have HIL := hid ihl
  have HIR := hid ihr
  have hcs := cuts_small hn
  simp only [cuts] at hcs
  have hl1 : 0 ≤ cutI l := by unfold cutI; omega
  have hl2 : cutI l ≤ 127 := by unfold cutI; omega
  have hr1 : 0 ≤ cutI r := by unfold cutI; omega
  have hr2 : cutI r ≤ 127 := by unfold cutI; omega
  have HV : Hid (cutI (.cut so sa l r) = 1 + cutI l + cutI r) := by unfold Hid cutI; rw [cuts]; omega
  have hw1 : IntKind.i64.wrap (1 + cutI l) = 1 + cutI l := IntWalk.i64_in _ (by omega)
  have hw2 : IntKind.i64.wrap (1 + cutI l + cutI r) = 1 + cutI l + cutI r := IntWalk.i64_in _ (by omega)
  clear hl hrr hr ihl ihr hcs
  go_enter Try.func59, Try.ntmps59
  go_wp2_with fail
  refine (sisCut_t ⟨so, sa, 0, false, some ⟨b1, o1, none⟩, 2, kc⟩ HC.out _).mono ?_
  rintro e w1 ⟨rfl, hb⟩
  have HB1 := hid (HB0.out.trans (hb.mono HB0.out.size))
  obtain ⟨hcc, hf, hsz⟩ := bcell hb
  have hz : w.heap.size < w1.heap.size := by simp at hsz; omega
  have hz1 : b1 < w1.heap.size := by omega
  have hz2 : b1 < w.heap.size + 1 := by omega
  clear hb hf
  go_wp2
  have ZK := hid ((Below.refl _ _).drew : Below w1.heap.size w1 w1.drew)
  go_region_held3 (fun w' => ∀ b o, b < w1.heap.size → w'.cell? ⟨b, o, none⟩ = w1.cell? ⟨b, o, none⟩) (exact fun b o h => ZK.out.cell (p := ⟨b, o, none⟩) h)
    (first | (go_at_call 59; ((with_reducible refine (HIL.out sl _ (HL.out _ (HB1.out.trans (ZK.out.mono HB1.out.size)))).mono ?_); rintro e wq ⟨rfl, hb⟩; replace ZK := hid (ZK.out.trans (hb.mono ZK.out.size)); clear hb)) | (go_at_call 59; ((with_reducible refine (HIR.out sr _ (HR.out _ (HB1.out.trans (ZK.out.mono HB1.out.size)))).mono ?_); rintro e wq ⟨rfl, hb⟩; replace ZK := hid (ZK.out.trans (hb.mono ZK.out.size)); clear hb)))
  all_goals
    go_wp2
    go_ret
    exact ⟨ret_int (by rw [HV.out]), HB1.out.trans (ZK.out.mono HB1.out.size)⟩

theorem scutsOf_c : ∀ (t : Tr), nodes t ≤ 255 → CutS t
  | .leaf o p t, _ => scutsOf_leaf o p t
  | .cut o a l r, h => scutsOf_cut o a l r (scutsOf_c l (by simp only [nodes] at h; omega)) (scutsOf_c r (by simp only [nodes] at h; omega)) h

set_option maxHeartbeats 800000 in
theorem CutsOf_c {n : Nat} {p : Pl} {s : Sh} {w : World} (h : PR w.heap.size w n p s) : Calls Try.prog 17 #[.agg #[.int .i64 s.o, .int .i64 s.a, .int .i64 s.p, .bool s.t, .slice s.ka s.kn s.kc]] w fun e w' => e = .returned (.int .i64 (treeOut cutI p)) ∧ Below w.heap.size w w' := by
  have HB0 := hid (below_pl (o := s.o) (a := s.a) (p := s.p) (t := s.t) (ka := s.ka) (kn := s.kn) (kc := s.kc) (ty := 30) w)
  have HP := hid h
  clear h
  by_cases hneg : psz p < 0
  · have HV := hid (treeOut_neg (f := cutI) hneg)
    go_enter Try.func17, Try.ntmps17
    go_wp2_with fail
    refine (PlanSize_c (n := n) (p := p) (s := s) (HP.out.go HB0.out)).mono ?_
    rintro e w1 ⟨rfl, hb⟩
    have HB1 := hid (HB0.out.trans (hb.mono HB0.out.size))
    clear hb
    go_wp2
    go_ret
    exact ⟨ret_int HV.out.symm, HB1.out⟩
  · obtain ⟨t, hw, hps, hn⟩ := cp_tree (p := p) (room := 255) (by unfold psz at hneg; omega)
    have h1 : psz p = 2 * (cuts t : Int) + 1 := by unfold psz; rw [hps, nodes_cuts]; omega
    have h2 : psz p ≤ 255 := by unfold psz; rw [hps]; omega
    have HV : Hid (treeOut cutI p = psz p / 2) := by rw [Hid, treeOut_some hw hn, h1]; unfold cutI; omega
    clear hw hn h1 hps
    go_enter Try.func17, Try.ntmps17
    go_wp2_with fail
    refine (PlanSize_c (n := n) (p := p) (s := s) (HP.out.go HB0.out)).mono ?_
    rintro e w1 ⟨rfl, hb⟩
    have HB1 := hid (HB0.out.trans (hb.mono HB0.out.size))
    clear hb
    go_wp2
    go_ret
    exact ⟨ret_int HV.out.symm, HB1.out⟩

theorem ret_two {a b a' b' : Int} (h : a = a') (h' : b = b') : Ending.returned (.tuple #[.int .i64 a, .int .i64 b]) = .returned (.tuple #[.int .i64 a', .int .i64 b']) := by rw [h, h']
theorem wrap64_in {x : Int} (h1 : -9223372036854775808 ≤ x) (h2 : x ≤ 9223372036854775807) : wrap64 x = x := by unfold wrap64; omega
theorem bin_bd {b j : Nat} (h : b + j ≤ 10) : bin b j ≤ 3628800 := by
  have h1 := bin_fac b j
  have h2 := Nat.le_mul_of_pos_right (bin b j) (Nat.mul_pos (fac_pos b) (fac_pos j))
  rw [h1] at h2
  exact Nat.le_trans h2 (Nat.le_trans (fac_mono h) (by decide))
/-- One round of a loop that counts mixings, as the walk spells it. -/
theorem round_wrap (N a i : Nat) (h1 : N * bin a i ≤ 3628800) (h2 : a + i ≤ 20) : wrap64 ((wrap64 ((N * bin a i : Nat) * ((a : Int) + ((i : Int) + 1)))).tdiv ((i : Int) + 1)) = (N * bin a (i + 1) : Nat) := by
  have hm : 0 ≤ ((N * bin a i : Nat) : Int) * ((a : Int) + ((i : Int) + 1)) ∧ ((N * bin a i : Nat) : Int) * ((a : Int) + ((i : Int) + 1)) ≤ 3628800 * 21 :=
    ⟨Int.mul_nonneg (by omega) (by omega), Int.mul_le_mul (by omega) (by omega) (by omega) (by omega)⟩
  have hR := round_div N a i
  have e1 : (N : Int) * (bin a i : Nat) * (a + (i + 1)) = ((N * bin a i : Nat) : Int) * ((a : Int) + ((i : Int) + 1)) := by rw [Int.natCast_mul]
  rw [e1] at hR
  obtain ⟨X, hX⟩ : ∃ X, X = ((N * bin a i : Nat) : Int) * ((a : Int) + ((i : Int) + 1)) := ⟨_, rfl⟩
  rw [← hX] at hm hR ⊢
  have i1 : wrap64 X = X := wrap64_in (by omega) (by omega)
  rw [i1, Int.tdiv_eq_ediv_of_nonneg hm.1, hR, Int.natCast_mul, wrap64_in]
  · rw [← hR]; have : 0 ≤ X / (↑i + 1) := Int.ediv_nonneg hm.1 (by omega); omega
  · rw [← hR]; have : X / (↑i + 1) ≤ X := Int.ediv_le_self _ hm.1; omega
theorem choose_round (b k j : Nat) (h : b + j ≤ 10) : wrap64 ((wrap64 ((bin b j : Nat) * ((k : Int) + b - k + ((j : Int) + 1)))).tdiv ((j : Int) + 1)) = (bin b (j + 1) : Nat) := by
  have := round_wrap 1 b j (by rw [Nat.one_mul]; exact bin_bd h) (by omega)
  rw [Nat.one_mul, Nat.one_mul] at this
  have e : (k : Int) + b - k = b := by omega
  rw [e, this]
/-- What the program reckons at a cut. -/
theorem orders_cut (o a : Int) (l r : Tr) (h : cuts (.cut o a l r) ≤ 10) : cutI (.cut o a l r) = (cuts l : Int) + cuts r + 1 ∧ cst (.cut o a l r) = (bin (cuts r) (cuts l) : Nat) * cst l * cst r ∧
    (0 ≤ ((bin (cuts r) (cuts l) : Nat) : Int) * cst l ∧ ((bin (cuts r) (cuts l) : Nat) : Int) * cst l ≤ 3628800) ∧ 0 ≤ ((bin (cuts r) (cuts l) : Nat) : Int) * cst l * cst r ∧ ((bin (cuts r) (cuts l) : Nat) : Int) * cst l * cst r ≤ 3628800 := by
  have h1 := cstN_bd h
  have e : cstN (.cut o a l r) = bin (cuts r) (cuts l) * cstN l * cstN r := by
    rw [cstN, bin_comm (cuts l) (cuts r), Nat.mul_comm, ← Nat.mul_assoc]
  have h2 := Nat.le_mul_of_pos_right (bin (cuts r) (cuts l) * cstN l) (cstN_pos r)
  rw [e] at h1
  have e3 : ((bin (cuts r) (cuts l) : Nat) : Int) * cst l = (bin (cuts r) (cuts l) * cstN l : Nat) := by rw [cst, Int.natCast_mul]
  have e4 : ((bin (cuts r) (cuts l) : Nat) : Int) * cst l * cst r = (bin (cuts r) (cuts l) * cstN l * cstN r : Nat) := by rw [e3, cst, ← Int.natCast_mul]
  refine ⟨by unfold cutI; rw [cuts]; omega, ?_, ?_, ?_⟩
  · rw [e4, cst, e]
  · rw [e3]; omega
  · rw [e4]; omega

set_option maxHeartbeats 800000 in
/-- 'choose': k of k + b things. -/
theorem choose_c (b k : Nat) (hbk : b + k ≤ 10) (w : World) : Calls Try.prog 72 #[.int .i64 ((k : Int) + b), .int .i64 k] w fun e w' => e = .returned (.int .i64 (bin b k : Nat)) ∧ w = w' := by
  go_enter Try.func72, Try.ntmps72
  go_wp2
  go_loop [5, 6] (fun x i => ∃ j : Nat, i = .int .i64 ((j : Int) + 1) ∧ j ≤ k ∧ x = .int .i64 (bin b j : Nat)) (fun _ i => (k + 1 - intOf i).toNat)
  case atStart => exact ⟨0, rfl, by omega, by rw [bin_zero]; rfl⟩
  case round =>
    obtain ⟨j, rfl, hj, rfl⟩ := hrel
    by_cases hlt : j < k
    · have HQ := hid (choose_round b k j (by omega))
      go_wp2
      exact ⟨⟨j + 1, by go_num, by omega, by rw [HQ.out]⟩, by simp [intOf]; omega⟩
    · have e : j = k := by omega
      subst e
      go_wp2
      go_ret
      exact ⟨rfl, rfl⟩

abbrev OrdI (t : Tr) : Prop := ∀ (s : Sh) (w : World), TR w.heap.size w t s → Calls Try.prog 58 #[.agg #[.int .i64 s.o, .int .i64 s.a, .int .i64 s.p, .bool s.t, .slice s.ka s.kn s.kc]] w fun e w' => e = .returned (.tuple #[.int .i64 (cutI t), .int .i64 (cst t)]) ∧ Below w.heap.size w w'

set_option maxHeartbeats 1600000 in
theorem ordersOf_leaf (o p : Int) (t : Bool) : OrdI (.leaf o p t) := by
  intro s w h
  have HB0 := hid (below_pl (o := s.o) (a := s.a) (p := s.p) (t := s.t) (ka := s.ka) (kn := s.kn) (kc := s.kc) (ty := 30) w)
  have HC := hid h.cutF
  clear h
  go_enter Try.func58, Try.ntmps58
  go_wp2_with fail
  refine (isCut_f s HC.out _).mono ?_
  rintro e w1 ⟨rfl, hb⟩
  have HB1 := hid (HB0.out.trans (hb.mono HB0.out.size))
  clear hb
  go_wp2
  go_ret2
  exact ⟨rfl, HB1.out⟩

set_option maxHeartbeats 3200000 in
theorem ordersOf_cut (o a : Int) (l r : Tr) (ihl : OrdI l) (ihr : OrdI r) (hn : cuts (.cut o a l r) ≤ 10) : OrdI (.cut o a l r) := by
  intro s w h
  have HC := hid h.cutT
  obtain ⟨h1, h2, h3, h4, -, sl, sr, hr, hl, hrr⟩ := h
  obtain ⟨so, sa, sp, st, ka, kn, kc⟩ := s
  simp only at h1 h2 h3 h4
  subst h1; subst h2; subst h3; subst h4
  obtain ⟨rfl, hkc, b1, o1, rfl, hb1, x0, x1, x2, x3, x4, y0, y1, y2, y3, y4⟩ := row_two hr
  have HB0 := hid (below_pl (o := so) (a := sa) (p := 0) (t := false) (ka := some ⟨b1, o1, none⟩) (kn := 2) (kc := kc) (ty := 30) w)
  have HL := hid (fun w1 (hb : Below w.heap.size w w1) => hl.go hb)
  have HR := hid (fun w1 (hb : Below w.heap.size w w1) => hrr.go hb)
  have HIL := hid ihl
  have HIR := hid ihr
  have hcs := hn
  simp only [cuts] at hcs
  have hE := orders_cut so sa l r hn
  obtain ⟨E1, E2, E3, E4, E5⟩ := hE
  have HE1 := hid E1
  have HE2 := hid E2
  have HCH := hid (choose_c (cuts r) (cuts l) (by omega))
  obtain ⟨cl, hcl⟩ : ∃ x, x = cst l := ⟨_, rfl⟩
  obtain ⟨cr, hcr⟩ : ∃ x, x = cst r := ⟨_, rfl⟩
  rw [← hcl] at E3 E4 E5 HE2
  rw [← hcr] at E4 E5 HE2
  have HCL := hid hcl
  have HCR := hid hcr
  clear hl hrr hr ihl ihr E1 E2 hcl hcr
  unfold cutI at HIL
  go_enter Try.func58, Try.ntmps58
  go_wp2_with fail
  refine (isCut_t ⟨so, sa, 0, false, some ⟨b1, o1, none⟩, 2, kc⟩ HC.out _).mono ?_
  rintro e w1 ⟨rfl, hb⟩
  have HB1 := hid (HB0.out.trans (hb.mono HB0.out.size))
  obtain ⟨hcc, hf, hsz⟩ := bcell hb
  have hz : w.heap.size < w1.heap.size := by simp at hsz; omega
  have hz1 : b1 < w1.heap.size := by omega
  have hz2 : b1 < w.heap.size + 1 := by omega
  clear hb hf
  go_wp2_with fail
  refine (HIL.out sl _ (HL.out _ HB1.out)).mono ?_
  rintro e w2 ⟨rfl, hb⟩
  rw [← HCL.out]
  have HB2 := hid (HB1.out.trans (hb.mono HB1.out.size))
  obtain ⟨hc2, hf2, hs2⟩ := bcell hb
  clear hb hf2
  go_wp2_with fail
  refine (HIR.out sr _ (HR.out _ HB2.out)).mono ?_
  rintro e w3 ⟨rfl, hb⟩
  rw [← HCR.out]
  have HB3 := hid (HB2.out.trans (hb.mono HB2.out.size))
  clear hb hc2 hcc
  unfold cutI
  go_wp2_with fail
  refine (HCH.out _).mono ?_
  rintro e w4 ⟨rfl, rfl⟩
  go_wp2
  go_ret2
  exact ⟨ret_two HE1.out.symm HE2.out.symm, HB3.out⟩

theorem ordersOf_c : ∀ (t : Tr), cuts t ≤ 10 → OrdI t
  | .leaf o p t, _ => ordersOf_leaf o p t
  | .cut o a l r, h => ordersOf_cut o a l r (ordersOf_c l (by simp only [cuts] at h; omega)) (ordersOf_c r (by simp only [cuts] at h; omega)) h

abbrev CstS (t : Tr) : Prop := ∀ (s : Sh) (w : World), TR w.heap.size w t s → Calls Try.prog 60 #[.agg #[.int .i64 s.o, .int .i64 s.a, .int .i64 s.p, .bool s.t, .slice s.ka s.kn s.kc]] w fun e w' => e = .returned (.int .i64 (cst t)) ∧ Below w.heap.size w w'

set_option maxHeartbeats 1600000 in
theorem scountSteps_leaf (o p : Int) (t : Bool) : CstS (.leaf o p t) := by
  intro s w h
  have HB0 := hid (below_pl (o := s.o) (a := s.a) (p := s.p) (t := s.t) (ka := s.ka) (kn := s.kn) (kc := s.kc) (ty := 30) w)
  have HC := hid h.cutF
  clear h
  go_enter Try.func60, Try.ntmps60
  go_wp2_with fail
  refine (sisCut_f s HC.out _).mono ?_
  rintro e w1 ⟨rfl, hb⟩
  have HB1 := hid (HB0.out.trans (hb.mono HB0.out.size))
  clear hb
  go_wp2
  go_ret
  exact ⟨rfl, HB1.out⟩

theorem counts_cut (o a : Int) (l r : Tr) (h : cuts (.cut o a l r) ≤ 10) : cst (.cut o a l r) = (cstN l * cstN r * bin (cuts l) (cuts r) : Nat) ∧ (∀ j, j ≤ cuts r → cstN l * cstN r * bin (cuts l) j ≤ 3628800) ∧
    0 ≤ cst l * cst r ∧ cst l * cst r ≤ 3628800 ∧ cst l * cst r = (cstN l * cstN r * bin (cuts l) 0 : Nat) := by
  have h1 := cstN_bd h
  have e : cstN (.cut o a l r) = cstN l * cstN r * bin (cuts l) (cuts r) := by rw [cstN]
  rw [e] at h1
  have hb : ∀ j, j ≤ cuts r → cstN l * cstN r * bin (cuts l) j ≤ 3628800 := fun j hj => Nat.le_trans (Nat.mul_le_mul_left _ (bin_le _ hj)) h1
  have h0 := hb 0 (by omega)
  have e0 : cst l * cst r = (cstN l * cstN r * bin (cuts l) 0 : Nat) := by rw [bin_zero, Nat.mul_one, cst, cst, Int.natCast_mul]
  exact ⟨by rw [cst, e], hb, by rw [e0]; omega, by rw [e0]; omega, e0⟩

set_option maxHeartbeats 3200000 in
theorem scountSteps_cut (o a : Int) (l r : Tr) (ihl : CstS l) (ihr : CstS r) (hn : cuts (.cut o a l r) ≤ 10) : CstS (.cut o a l r) := by
  intro s w h
  have HC := hid h.cutT
  obtain ⟨h1, h2, h3, h4, -, sl, sr, hr, hl, hrr⟩ := h
  obtain ⟨so, sa, sp, st, ka, kn, kc⟩ := s
  simp only at h1 h2 h3 h4
  subst h1; subst h2; subst h3; subst h4
  obtain ⟨rfl, hkc, b1, o1, rfl, hb1, x0, x1, x2, x3, x4, y0, y1, y2, y3, y4⟩ := row_two hr
  have HB0 := hid (below_pl (o := so) (a := sa) (p := 0) (t := false) (ka := some ⟨b1, o1, none⟩) (kn := 2) (kc := kc) (ty := 30) w)
  have HL := hid (fun w1 (hb : Below w.heap.size w w1) => hl.go hb)
  have HR := hid (fun w1 (hb : Below w.heap.size w w1) => hrr.go hb)
  have HIL := hid ihl
  have HIR := hid ihr
  have hcs := hn
  simp only [cuts] at hcs
  obtain ⟨E1, E2, E3, E4, E5⟩ := counts_cut so sa l r hn
  have hCL : ∀ (s : Sh) (w : World), TR w.heap.size w l s → Calls Try.prog 59 #[.agg #[.int .i64 s.o, .int .i64 s.a, .int .i64 s.p, .bool s.t, .slice s.ka s.kn s.kc]] w fun e w' => e = .returned (.int .i64 ((cuts l : Nat) : Int)) ∧ Below w.heap.size w w' := scutsOf_c l (by rw [nodes_cuts]; omega)
  have hCR : ∀ (s : Sh) (w : World), TR w.heap.size w r s → Calls Try.prog 59 #[.agg #[.int .i64 s.o, .int .i64 s.a, .int .i64 s.p, .bool s.t, .slice s.ka s.kn s.kc]] w fun e w' => e = .returned (.int .i64 ((cuts r : Nat) : Int)) ∧ Below w.heap.size w w' := scutsOf_c r (by rw [nodes_cuts]; omega)
  obtain ⟨F, hF⟩ : ∃ F : Nat → Nat, F = fun j => cstN l * cstN r * bin (cuts l) j := ⟨_, rfl⟩
  have HRW : Hid (∀ j, j < cuts r → wrap64 ((wrap64 ((F j : Nat) * ((cuts l : Int) + ((j : Int) + 1)))).tdiv ((j : Int) + 1)) = (F (j + 1) : Nat)) := by
    intro j hj
    rw [hF]
    exact round_wrap (cstN l * cstN r) (cuts l) j (E2 j (by omega)) (by omega)
  have HE1 : Hid (cst (.cut so sa l r) = (F (cuts r) : Nat)) := by rw [hF]; exact E1
  have HE5 : Hid (cst l * cst r = (F 0 : Nat)) := by rw [hF]; exact E5
  have HCL := hid hCL
  have HCR := hid hCR
  have hw1 : IntKind.i64.wrap (cst l * cst r) = cst l * cst r := IntWalk.i64_in _ (by omega)
  have hq1 : cuts l ≤ 10 := by omega
  have hq2 : cuts r ≤ 10 := by omega
  clear hl hrr hr ihl ihr E1 E2 E5 hCL hCR hF
  go_enter Try.func60, Try.ntmps60
  go_wp2_with fail
  refine (sisCut_t ⟨so, sa, 0, false, some ⟨b1, o1, none⟩, 2, kc⟩ HC.out _).mono ?_
  rintro e w1 ⟨rfl, hb⟩
  have HB1 := hid (HB0.out.trans (hb.mono HB0.out.size))
  obtain ⟨hcc, hf, hsz⟩ := bcell hb
  have hz : w.heap.size < w1.heap.size := by simp at hsz; omega
  have hz1 : b1 < w1.heap.size := by omega
  have hz2 : b1 < w.heap.size + 1 := by omega
  clear hb hf
  go_wp2_with fail
  refine (HCL.out sl _ (HL.out _ HB1.out)).mono ?_
  rintro e w2 ⟨rfl, hb⟩
  have HB2 := hid (HB1.out.trans (hb.mono HB1.out.size))
  obtain ⟨hc2, hf2, hs2⟩ := bcell hb
  clear hb hf2
  go_wp2_with fail
  refine (HCR.out sr _ (HR.out _ HB2.out)).mono ?_
  rintro e w3 ⟨rfl, hb⟩
  have HB3 := hid (HB2.out.trans (hb.mono HB2.out.size))
  obtain ⟨hc3, hf3, hs3⟩ := bcell hb
  have q2 : w.heap.size < w2.heap.size := by omega
  have q3 : w.heap.size < w3.heap.size := by omega
  have p2 : b1 < w2.heap.size := by omega
  have p3 : b1 < w3.heap.size := by omega
  clear hb hf3
  go_wp2
  have ZK := hid ((Below.refl _ _).drew : Below w3.heap.size w3 w3.drew)
  go_region_held3 (fun w' => ∀ b o, b < w3.heap.size → w'.cell? ⟨b, o, none⟩ = w3.cell? ⟨b, o, none⟩) (exact fun b o h => ZK.out.cell (p := ⟨b, o, none⟩) h)
    (first | (go_at_call 60; ((with_reducible refine (HIL.out sl _ (HL.out _ (HB3.out.trans (ZK.out.mono HB3.out.size)))).mono ?_); rintro e wq ⟨rfl, hb⟩; replace ZK := hid (ZK.out.trans (hb.mono ZK.out.size)); clear hb)) | (go_at_call 60; ((with_reducible refine (HIR.out sr _ (HR.out _ (HB3.out.trans (ZK.out.mono HB3.out.size)))).mono ?_); rintro e wq ⟨rfl, hb⟩; replace ZK := hid (ZK.out.trans (hb.mono ZK.out.size)); clear hb)))
  all_goals
    rename_i wq _
    have HBK := hid (HB3.out.trans (ZK.out.mono HB3.out.size))
    clear ZK hcc hc2 hc3
    go_wp2
    go_loop [5, 6] (fun x i => ∃ j : Nat, i = .int .i64 ((j : Int) + 1) ∧ j ≤ cuts r ∧ x = .int .i64 (F j : Nat)) (fun _ i => (cuts r + 1 - intOf i).toNat)
    case atStart => exact ⟨0, rfl, by omega, by rw [HE5.out]⟩
    case round =>
      obtain ⟨j, rfl, hj, rfl⟩ := hrel
      by_cases hlt : j < cuts r
      · have HQ := hid (HRW.out j hlt)
        go_wp2
        exact ⟨⟨j + 1, by go_num, by omega, by rw [HQ.out]⟩, by simp [intOf]; omega⟩
      · have e : j = cuts r := by omega
        subst e
        go_wp2
        go_ret
        exact ⟨ret_int HE1.out.symm, HBK.out⟩

theorem scountSteps_c : ∀ (t : Tr), cuts t ≤ 10 → CstS t
  | .leaf o p t, _ => scountSteps_leaf o p t
  | .cut o a l r, h => scountSteps_cut o a l r (scountSteps_c l (by simp only [cuts] at h; omega)) (scountSteps_c r (by simp only [cuts] at h; omega)) h

def cntT (t : Tr) : Int := if cuts t ≤ 10 then cst t else -1

set_option maxHeartbeats 800000 in
theorem sCountSteps_c {n : Nat} {p : Pl} {s : Sh} {w : World} (h : PR w.heap.size w n p s) : Calls Try.prog 33 #[.agg #[.int .i64 s.o, .int .i64 s.a, .int .i64 s.p, .bool s.t, .slice s.ka s.kn s.kc]] w fun e w' => e = .returned (.int .i64 (treeOut cntT p)) ∧ Below w.heap.size w w' := by
  have HB0 := hid (below_pl (o := s.o) (a := s.a) (p := s.p) (t := s.t) (ka := s.ka) (kn := s.kn) (kc := s.kc) (ty := 30) w)
  have HP := hid h
  clear h
  by_cases hneg : psz p < 0
  · have HV := hid (treeOut_neg (f := cntT) hneg)
    go_enter Try.func33, Try.ntmps33
    go_wp2_with fail
    refine (splanSize_c (n := n) (p := p) (s := s) (HP.out.go HB0.out)).mono ?_
    rintro e w1 ⟨rfl, hb⟩
    have HB1 := hid (HB0.out.trans (hb.mono HB0.out.size))
    clear hb
    go_wp2
    go_ret
    exact ⟨ret_int HV.out.symm, HB1.out⟩
  · obtain ⟨t, hw, hps, hn⟩ := cp_tree (p := p) (room := 255) (by unfold psz at hneg; omega)
    have hv : treeOut cntT p = cntT t := treeOut_some hw hn
    have hq0 : treeOut cutI p = (cuts t : Int) := treeOut_some hw hn
    have HQ := hid hq0
    have HR := hid (HP.out.tr hw)
    have hn' : nodes t ≤ 255 := by omega
    clear hw hn hps hq0
    by_cases h10 : cuts t ≤ 10
    · have HV : Hid (treeOut cntT p = cst t) := by rw [Hid, hv, cntT, if_pos h10]
      have HT := hid (scountSteps_c t h10)
      clear hv
      go_enter Try.func33, Try.ntmps33
      go_wp2_with fail
      refine (splanSize_c (n := n) (p := p) (s := s) (HP.out.go HB0.out)).mono ?_
      rintro e w1 ⟨rfl, hb⟩
      have HB1 := hid (HB0.out.trans (hb.mono HB0.out.size))
      obtain ⟨hcc, hf, hsz⟩ := bcell hb
      clear hb hf
      go_wp2_with fail
      refine (scutsOf_c t hn' s _ (HR.out.go HB1.out)).mono ?_
      rintro e w2 ⟨rfl, hb⟩
      have HB2 := hid (HB1.out.trans (hb.mono HB1.out.size))
      obtain ⟨hc2, hf2, hs2⟩ := bcell hb
      have q2 : w.heap.size < w1.heap.size := by simp at hsz; omega
      have hcu : cutI t ≤ 10 := by unfold cutI; omega
      clear hb hf2
      go_wp2_with fail
      refine (HT.out s _ (HR.out.go HB2.out)).mono ?_
      rintro e w3 ⟨rfl, hb⟩
      have HB3 := hid (HB2.out.trans (hb.mono HB2.out.size))
      clear hb hcc hc2
      go_wp2
      go_ret
      exact ⟨ret_int HV.out.symm, HB3.out⟩
    · have HV : Hid (treeOut cntT p = -1) := by rw [Hid, hv, cntT, if_neg h10]
      clear hv
      go_enter Try.func33, Try.ntmps33
      go_wp2_with fail
      refine (splanSize_c (n := n) (p := p) (s := s) (HP.out.go HB0.out)).mono ?_
      rintro e w1 ⟨rfl, hb⟩
      have HB1 := hid (HB0.out.trans (hb.mono HB0.out.size))
      obtain ⟨hcc, hf, hsz⟩ := bcell hb
      clear hb hf
      go_wp2_with fail
      refine (scutsOf_c t hn' s _ (HR.out.go HB1.out)).mono ?_
      rintro e w2 ⟨rfl, hb⟩
      have HB2 := hid (HB1.out.trans (hb.mono HB1.out.size))
      have hcu : 10 < cutI t := by unfold cutI; omega
      clear hb hcc
      go_wp2
      go_ret
      exact ⟨ret_int HV.out.symm, HB2.out⟩

set_option maxHeartbeats 800000 in
theorem CountSteps_c {n : Nat} {p : Pl} {s : Sh} {w : World} (h : PR w.heap.size w n p s) : Calls Try.prog 32 #[.agg #[.int .i64 s.o, .int .i64 s.a, .int .i64 s.p, .bool s.t, .slice s.ka s.kn s.kc]] w fun e w' => e = .returned (.int .i64 (treeOut cntT p)) ∧ Below w.heap.size w w' := by
  have HB0 := hid (below_pl (o := s.o) (a := s.a) (p := s.p) (t := s.t) (ka := s.ka) (kn := s.kn) (kc := s.kc) (ty := 30) w)
  have HP := hid h
  clear h
  by_cases hneg : psz p < 0
  · have HV := hid (treeOut_neg (f := cntT) hneg)
    go_enter Try.func32, Try.ntmps32
    go_wp2_with fail
    refine (CutsOf_c (n := n) (p := p) (s := s) (HP.out.go HB0.out)).mono ?_
    rintro e w1 ⟨rfl, hb⟩
    have HB1 := hid (HB0.out.trans (hb.mono HB0.out.size))
    have hq : treeOut cutI p = -1 := treeOut_neg hneg
    rw [hq]
    clear hq
    clear hb
    go_wp2
    go_ret
    exact ⟨ret_int HV.out.symm, HB1.out⟩
  · obtain ⟨t, hw, hps, hn⟩ := cp_tree (p := p) (room := 255) (by unfold psz at hneg; omega)
    have hv : treeOut cntT p = cntT t := treeOut_some hw hn
    have hq0 : treeOut cutI p = (cuts t : Int) := treeOut_some hw hn
    have HQ := hid hq0
    have HR := hid (HP.out.tr hw)
    have hn' : nodes t ≤ 255 := by omega
    clear hw hn hps hq0
    by_cases h10 : cuts t ≤ 10
    · have HV : Hid (treeOut cntT p = cst t) := by rw [Hid, hv, cntT, if_pos h10]
      have HT := hid (ordersOf_c t h10)
      clear hv
      go_enter Try.func32, Try.ntmps32
      go_wp2_with fail
      refine (CutsOf_c (n := n) (p := p) (s := s) (HP.out.go HB0.out)).mono ?_
      rintro e w1 ⟨rfl, hb⟩
      have HB1 := hid (HB0.out.trans (hb.mono HB0.out.size))
      obtain ⟨hcc, hf, hsz⟩ := bcell hb
      rw [HQ.out]
      clear hb hf
      go_wp2_with fail
      refine (HT.out s _ (HR.out.go HB1.out)).mono ?_
      rintro e w2 ⟨rfl, hb⟩
      have HB2 := hid (HB1.out.trans (hb.mono HB1.out.size))
      clear hb hcc
      go_wp2
      go_ret
      exact ⟨ret_int HV.out.symm, HB2.out⟩
    · have HV : Hid (treeOut cntT p = -1) := by rw [Hid, hv, cntT, if_neg h10]
      clear hv
      go_enter Try.func32, Try.ntmps32
      go_wp2_with fail
      refine (CutsOf_c (n := n) (p := p) (s := s) (HP.out.go HB0.out)).mono ?_
      rintro e w1 ⟨rfl, hb⟩
      have HB1 := hid (HB0.out.trans (hb.mono HB0.out.size))
      rw [HQ.out]
      clear hb
      go_wp2
      go_ret
      exact ⟨ret_int HV.out.symm, HB1.out⟩

end Go.Proofs.Ytafcohmneeabbaa
