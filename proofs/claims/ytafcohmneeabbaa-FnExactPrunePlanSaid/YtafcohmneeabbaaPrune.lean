/-
  Contracts: plans without cuts in waste, by the reference (written by a program of mine).
-/
import Derived.Test.YtafcohmneeabbaaGrowP
import Derived.Test.YtafcohmneeabbaaPlanStg
import Derived.Deep.RegionHeld3
import Derived.Deep.DeepCutAuto
namespace Go.Proofs.Ytafcohmneeabbaa
set_option linter.unusedSimpArgs false
set_option linter.unusedVariables false
open Go.RowKit

/-- Has a tree a pane? -/
def hasP : Tr → Bool
  | .leaf o _ _ => o == 1
  | .cut _ _ l r => hasP l || hasP r
/-- The plan of a tree without cuts in waste. -/
def prT : Tr → Pl
  | .leaf o p t => .mk o 0 p t []
  | .cut o a l r => if (hasP l || hasP r) = true then .mk o a 0 false [prT l, prT r] else .mk 0 0 0 false []
theorem prT_t {o a : Int} {l r : Tr} (h : hasP (.cut o a l r) = true) : prT (.cut o a l r) = .mk o a 0 false [prT l, prT r] := by rw [prT]; exact if_pos h
theorem prT_f {o a : Int} {l r : Tr} (h : hasP (.cut o a l r) = false) : prT (.cut o a l r) = .mk 0 0 0 false [] := by
  rw [prT]; exact if_neg (by show ¬ hasP (.cut o a l r) = true; rw [h]; simp)
theorem FQ.empty (ok : Nat → Prop) (w : World) (n : Nat) (A : Option Addr) (c : Nat) (hc : c ≤ maxLen) : FQ ok w (n + 1) (.slice A 0 c) [] := ⟨[], ⟨A, c, rfl, by simp, hc, fun h => by simp at h⟩, rfl, fun k h => by simp at h⟩
theorem FQ.ups1 {ok : Nat → Prop} {w : World} : ∀ {n : Nat} {v : Value} {L : List Pl}, FQ ok w n v L → FQ ok w (n + 1) v L
  | 0, _, _, h => h.elim
  | n + 1, _, _, h => by
    obtain ⟨S, h1, h2, h3⟩ := h
    exact ⟨S, h1, h2, fun k h4 h5 => ⟨(h3 k h4 h5).1, (h3 k h4 h5).2.ups1⟩⟩

abbrev HpS (t : Tr) : Prop := ∀ (s : Sh) (w : World), TR w.heap.size w t s → Calls Try.prog 71 #[.agg #[.int .i64 s.o, .int .i64 s.a, .int .i64 s.p, .bool s.t, .slice s.ka s.kn s.kc]] w fun e w' => e = .returned (.bool (hasP t)) ∧ Below w.heap.size w w'

set_option maxHeartbeats 1600000 in
theorem shasPane_leaf (o p : Int) (t : Bool) : HpS (.leaf o p t) := by
  intro s w h
  have HB0 := hid (below_pl (o := s.o) (a := s.a) (p := s.p) (t := s.t) (ka := s.ka) (kn := s.kn) (kc := s.kc) (ty := 30) w)
  have HC := hid h.cutF
  have HV : Hid ((s.o == 1) = hasP (.leaf o p t)) := by rw [Hid, hasP, h.1]
  clear h
  go_enter Try.func71, Try.ntmps71
  go_wp2_with fail
  refine (sisCut_f s HC.out _).mono ?_
  rintro e w1 ⟨rfl, hb⟩
  have HB1 := hid (HB0.out.trans (hb.mono HB0.out.size))
  obtain ⟨hcc, hf, hsz⟩ := bcell hb
  clear hb hf
  go_wp2
  go_ret
  exact ⟨ret_bool HV.out, HB1.out⟩

set_option maxHeartbeats 3200000 in
theorem shasPane_cut (o a : Int) (l r : Tr) (ihl : HpS l) (ihr : HpS r) : HpS (.cut o a l r) := by
  intro s w h
  have HC := hid h.cutT
  obtain ⟨h1, h2, h3, h4, -, sl, sr, hr, hl, hrr⟩ := h
  obtain ⟨so, sa, sp, st, ka, kn, kc⟩ := s
  simp only at h1 h2 h3 h4
  subst h1; subst h2; subst h3; subst h4
  obtain ⟨rfl, hkc, b1, o1, rfl, hb1, x0, x1, x2, x3, x4, y0, y1, y2, y3, y4⟩ := row_two hr
  have HB0 := hid (below_pl (o := so) (a := sa) (p := 0) (t := false) (ka := some ⟨b1, o1, none⟩) (kn := 2) (kc := kc) (ty := 30) w)
  have HL := hid (fun w1 (hb : Below w.heap.size w w1) => hl.go hb)
  have HR := hid (fun w1 (hb : Below w.heap.size w w1) => hrr.go hb)
  have HIL := hid ihl
  have HIR := hid ihr
  have HV : Hid (hasP (.cut so sa l r) = (hasP l || hasP r)) := rfl
  clear hl hrr hr ihl ihr
  go_enter Try.func71, Try.ntmps71
  go_wp2_with fail
  refine (sisCut_t ⟨so, sa, 0, false, some ⟨b1, o1, none⟩, 2, kc⟩ HC.out _).mono ?_
  rintro e w1 ⟨rfl, hb⟩
  have HB1 := hid (HB0.out.trans (hb.mono HB0.out.size))
  obtain ⟨hcc, hf, hsz⟩ := bcell hb
  have hz : w.heap.size < w1.heap.size := by simp at hsz; omega
  have hz1 : b1 < w1.heap.size := by omega
  have hz2 : b1 < w.heap.size + 1 := by omega
  clear hb hf
  go_wp2_with fail
  refine (HIL.out sl _ (HL.out _ HB1.out)).mono ?_
  rintro e w2 ⟨rfl, hb⟩
  have HB2 := hid (HB1.out.trans (hb.mono HB1.out.size))
  obtain ⟨hc2, hf2, hs2⟩ := bcell hb
  clear hb hf2
  cases hpl : hasP l with
  | true =>
    have HVT : Hid (true = hasP (.cut so sa l r)) := by rw [Hid, HV.out, hpl]; rfl
    clear hpl
    go_wp2
    go_ret
    exact ⟨ret_bool HVT.out, HB2.out⟩
  | false =>
    have HVF : Hid (hasP r = hasP (.cut so sa l r)) := by rw [Hid, HV.out, hpl]; rfl
    clear hpl
    go_wp2_with fail
    refine (HIR.out sr _ (HR.out _ HB2.out)).mono ?_
    rintro e w3 ⟨rfl, hb⟩
    have HB3 := hid (HB2.out.trans (hb.mono HB2.out.size))
    clear hb hc2 hcc
    go_wp2
    go_ret
    exact ⟨ret_bool HVF.out, HB3.out⟩

theorem shasPane_c : ∀ (t : Tr), HpS t
  | .leaf o p t => shasPane_leaf o p t
  | .cut o a l r => shasPane_cut o a l r (shasPane_c l) (shasPane_c r)

def PrOut (n : Nat) (t : Tr) (w : World) (e : Ending) (w' : World) : Prop := ∃ s' : Sh, e = .returned (.agg #[.int .i64 s'.o, .int .i64 s'.a, .int .i64 s'.p, .bool s'.t, .slice s'.ka s'.kn s'.kc]) ∧ s'.same (prT t) ∧ FQ (fun q => w.heap.size ≤ q ∧ q < w'.heap.size) w' n s'.kv (prT t).ks ∧ Below w.heap.size w w'
abbrev PrS (n : Nat) (t : Tr) : Prop := ∀ (s : Sh) (w : World), TR w.heap.size w t s → Calls Try.prog 51 #[.agg #[.int .i64 s.o, .int .i64 s.a, .int .i64 s.p, .bool s.t, .slice s.ka s.kn s.kc]] w (PrOut n t w)

theorem prune_two {n N : Nat} {w w2 wx w3 wf : World} {s1 s2 : Sh} {p1 p2 : Pl} {t : TypeId} (a1 : s1.same p1) (a2 : FQ (fun q => N ≤ q ∧ q < w2.heap.size) w2 n s1.kv p1.ks) (hN : w.heap.size + 1 < N) (hb : Below w2.heap.size w2 wx) (b1 : s2.same p2) (b2 : FQ (fun q => wx.heap.size ≤ q ∧ q < w3.heap.size) w3 n s2.kv p2.ks) (hb3 : Below wx.heap.size wx w3)
    (hf : Kp (fun q => q = w.heap.size + 1) w3 wf) (hw : w.heap.size + 1 < w2.heap.size) (hg : Blk wf w3.heap.size #[.int .i64 s1.o, .int .i64 s1.a, .int .i64 s1.p, .bool s1.t, .slice s1.ka s1.kn s1.kc, .int .i64 s2.o, .int .i64 s2.a, .int .i64 s2.p, .bool s2.t, .slice s2.ka s2.kn s2.kc] t) : FQ (fun q => w.heap.size ≤ q ∧ q < wf.heap.size) wf (n + 1) (.slice (some ⟨w3.heap.size, 0, none⟩) 2 2) [p1, p2] := by
  have z1 := hb.size
  have z2 := hb3.size
  have z3 := hf.size
  have z4 := hg.lt
  exact FQ.two hg ⟨by omega, z4⟩ a1 b1 (a2.heap (fun q hq => by rw [hf.block q (by omega) (by omega), hb3.block q (by omega), hb.block q (by omega)]) (fun q hq => ⟨by omega, by omega⟩)) (b2.heap (fun q hq => hf.block q (by omega) (by omega)) (fun q hq => ⟨by omega, by omega⟩))

theorem prune_low {n : Nat} {t : Tr} {w w1 wf : World} {s' : Sh} (hs : s'.same (prT t)) (hk : FQ (fun q => w.heap.size ≤ q ∧ q < w1.heap.size) w1 n s'.kv (prT t).ks) (he : (prT t).ks = []) (hb : Below w.heap.size w w1) (hf : Kp (fun q => q = w.heap.size + 1) w1 wf) : PrOut n t w (.returned (.agg #[.int .i64 s'.o, .int .i64 s'.a, .int .i64 s'.p, .bool s'.t, .slice s'.ka s'.kn s'.kc])) wf := by
  refine ⟨s', rfl, hs, ?_, hb.trans (hf.toBelow hb.size (fun q e => by omega))⟩
  rw [he] at hk ⊢
  cases n with
  | zero => exact hk.elim
  | succ n =>
    obtain ⟨S, ⟨A, c, h1, h2, h3, h4⟩, h5, h6⟩ := hk
    have e : S = [] := List.eq_nil_of_length_eq_zero h5
    subst e
    exact ⟨[], ⟨A, c, h1, h2, h3, fun h => by simp at h⟩, rfl, fun k h => by simp at h⟩

set_option maxHeartbeats 3200000 in
set_option maxRecDepth 100000 in
theorem sprune_leaf (n : Nat) (o p : Int) (t : Bool) : PrS (n + 1) (.leaf o p t) := by
  intro s w h
  have hT := h
  obtain ⟨h1, h2, h3, h4, h5, h6, h7, h8⟩ := h
  obtain ⟨so, sa, sp, st, ka, kn, kc⟩ := s
  simp only at h1 h2 h3 h4 h5 h8
  subst h1; subst h2; subst h3; subst h4; subst h5
  have hB : Below w.heap.size w ((w.alloc (.cells #[.int .i64 so, .int .i64 0, .int .i64 sp, .bool st, .slice ka 0 kc] 30)).alloc (.cells #[.int .i64 0, .int .i64 0, .int .i64 0, .bool false, .slice none 0 0] 30)) := ((Below.refl _ _).alloc (Nat.le_refl _) _).alloc (by simp) _
  have HB0 := hid hB
  have HT0 := hid (hT.go hB)
  have HT00 := hid hT
  have HC := hid h6
  have HP0 := hid (show Blk ((w.alloc (.cells #[.int .i64 so, .int .i64 0, .int .i64 sp, .bool st, .slice ka 0 kc] 30)).alloc (.cells #[.int .i64 0, .int .i64 0, .int .i64 0, .bool false, .slice none 0 0] 30)) w.heap.size #[.int .i64 so, .int .i64 0, .int .i64 sp, .bool st, .slice ka 0 kc] 30 from (Blk.new w _ _).alloc _)
  have HQ0 := hid (show Blk ((w.alloc (.cells #[.int .i64 so, .int .i64 0, .int .i64 sp, .bool st, .slice ka 0 kc] 30)).alloc (.cells #[.int .i64 0, .int .i64 0, .int .i64 0, .bool false, .slice none 0 0] 30)) (w.heap.size + 1) #[.int .i64 0, .int .i64 0, .int .i64 0, .bool false, .slice none 0 0] 30 by have := Blk.new (w.alloc (.cells #[.int .i64 so, .int .i64 0, .int .i64 sp, .bool st, .slice ka 0 kc] 30)) #[.int .i64 0, .int .i64 0, .int .i64 0, .bool false, .slice none 0 0] 30; simpa using this)
  have H7 := hid h7
  have H8 := hid h8
  clear hB hT h6 h7 h8
  have HV : Hid (hasP (.leaf so sp st) = (so == 1)) := rfl
  go_enter Try.func51, Try.ntmps51
  go_wp2_with fail
  refine (shasPane_c (.leaf so sp st) ⟨so, 0, sp, st, ka, 0, kc⟩ _ HT0.out).mono ?_
  rintro e w1 ⟨rfl, hb⟩
  have HB1 := hid (HB0.out.trans (hb.mono HB0.out.size))
  have HP1 := hid (HP0.out.go hb)
  have HQ1 := hid (HQ0.out.go hb)
  clear hb
  rw [HV.out]
  by_cases ho : so = 1
  · subst ho
    have e1 : ((1 : Int) == 1) = true := rfl
    have c_P := fun (o : Nat) => HP1.out.cell o
    have l_P := HP1.out.lt
    go_wp2_with fail
    refine (sisCut_f ⟨1, 0, sp, st, ka, 0, kc⟩ HC.out _).mono ?_
    rintro e w2 ⟨rfl, hb⟩
    have HB2 := hid (HB1.out.trans (hb.mono HB1.out.size))
    have HP2 := hid (HP1.out.go hb)
    have HQ2 := hid (HQ1.out.go hb)
    clear hb c_P l_P
    have c_P := fun (o : Nat) => HP2.out.cell o
    have l_P := HP2.out.lt
    have c_Q := fun (o : Nat) => HQ2.out.cell o
    have f_Q := fun (o : Nat) => HQ2.out.frz o
    have l_Q := HQ2.out.lt
    have c_F := fun (o : Nat) => (show Blk (((((w2.setCell ⟨w.heap.size + 1, 0, none⟩ (.int .i64 1)).setCell ⟨w.heap.size + 1, 1, none⟩ (.int .i64 0)).setCell ⟨w.heap.size + 1, 2, none⟩ (.int .i64 sp)).setCell ⟨w.heap.size + 1, 3, none⟩ (.bool st)).setCell ⟨w.heap.size + 1, 4, none⟩ (.slice ka 0 kc)) (w.heap.size + 1) #[.int .i64 1, .int .i64 0, .int .i64 sp, .bool st, .slice ka 0 kc] 30 by have := (((((HQ2.out).set 0 (.int .i64 1)).set 1 (.int .i64 0)).set 2 (.int .i64 sp)).set 3 (.bool st)).set 4 (.slice ka 0 kc); simpa using this).cell o
    go_wp2
    clear c_Q f_Q
    exact bodyPost_ret (v := .agg #[.int .i64 1, .int .i64 0, .int .i64 sp, .bool st, .slice ka 0 kc]) (by simp [results, Try.results51, go_sem, c_F]) rfl (prune_low (s' := ⟨1, 0, sp, st, ka, 0, kc⟩) ⟨rfl, rfl, rfl, rfl⟩ (FQ.empty _ _ _ _ _ H8.out) rfl HB2.out ((((((Kp.refl (fun q => q = w.heap.size + 1) w2).set (q := w.heap.size + 1) (.inl rfl) 0 (.int .i64 1)).set (q := w.heap.size + 1) (.inl rfl) 1 (.int .i64 0)).set (q := w.heap.size + 1) (.inl rfl) 2 (.int .i64 sp)).set (q := w.heap.size + 1) (.inl rfl) 3 (.bool st)).set (q := w.heap.size + 1) (.inl rfl) 4 (.slice ka 0 kc)))
  · have e0 : so = 0 ∧ sp = 0 ∧ st = false := by rcases H7.out with h | h; exact absurd h ho; exact h
    obtain ⟨rfl, rfl, rfl⟩ := e0
    have e1 : ((0 : Int) == 1) = false := rfl
    clear ho
    have c_Q := fun (o : Nat) => HQ1.out.cell o
    have f_Q := fun (o : Nat) => HQ1.out.frz o
    have l_Q := HQ1.out.lt
    have c_F := fun (o : Nat) => (show Blk (((((w1.setCell ⟨w.heap.size + 1, 0, none⟩ (.int .i64 0)).setCell ⟨w.heap.size + 1, 1, none⟩ (.int .i64 0)).setCell ⟨w.heap.size + 1, 2, none⟩ (.int .i64 0)).setCell ⟨w.heap.size + 1, 3, none⟩ (.bool false)).setCell ⟨w.heap.size + 1, 4, none⟩ (.slice none 0 0)) (w.heap.size + 1) #[.int .i64 0, .int .i64 0, .int .i64 0, .bool false, .slice none 0 0] 30 by have := (((((HQ1.out).set 0 (.int .i64 0)).set 1 (.int .i64 0)).set 2 (.int .i64 0)).set 3 (.bool false)).set 4 (.slice none 0 0); simpa using this).cell o
    go_wp2
    clear c_Q f_Q
    exact bodyPost_ret (v := .agg #[.int .i64 0, .int .i64 0, .int .i64 0, .bool false, .slice none 0 0]) (by simp [results, Try.results51, go_sem, c_F]) rfl (prune_low (s' := ⟨0, 0, 0, false, none, 0, 0⟩) ⟨rfl, rfl, rfl, rfl⟩ (FQ.empty _ _ _ _ _ (by simp [maxLen])) rfl HB1.out ((((((Kp.refl (fun q => q = w.heap.size + 1) w1).set (q := w.heap.size + 1) (.inl rfl) 0 (.int .i64 0)).set (q := w.heap.size + 1) (.inl rfl) 1 (.int .i64 0)).set (q := w.heap.size + 1) (.inl rfl) 2 (.int .i64 0)).set (q := w.heap.size + 1) (.inl rfl) 3 (.bool false)).set (q := w.heap.size + 1) (.inl rfl) 4 (.slice none 0 0)))

set_option maxHeartbeats 6400000 in
set_option maxRecDepth 100000 in
theorem sprune_cut (n : Nat) (o a : Int) (l r : Tr) (ihl : PrS n l) (ihr : PrS n r) : PrS (n + 1) (.cut o a l r) := by
  intro s w h
  have hT := h
  have HC := hid h.cutT
  obtain ⟨h1, h2, h3, h4, -, sl, sr, hr, hl, hrr⟩ := h
  obtain ⟨so, sa, sp, st, ka, kn, kc⟩ := s
  simp only at h1 h2 h3 h4
  subst h1; subst h2; subst h3; subst h4
  obtain ⟨rfl, hkc, b1, o1, rfl, hb1, x0, x1, x2, x3, x4, y0, y1, y2, y3, y4⟩ := row_two hr
  have HL := hid (fun w1 (hb : Below w.heap.size w w1) => hl.go hb)
  have HR := hid (fun w1 (hb : Below w.heap.size w w1) => hrr.go hb)
  have hB : Below w.heap.size w ((w.alloc (.cells #[.int .i64 so, .int .i64 sa, .int .i64 0, .bool false, .slice (some ⟨b1, o1, none⟩) 2 kc] 30)).alloc (.cells #[.int .i64 0, .int .i64 0, .int .i64 0, .bool false, .slice none 0 0] 30)) := ((Below.refl _ _).alloc (Nat.le_refl _) _).alloc (by simp) _
  have HB0 := hid hB
  have HT0 := hid (hT.go hB)
  have HP0 := hid (show Blk ((w.alloc (.cells #[.int .i64 so, .int .i64 sa, .int .i64 0, .bool false, .slice (some ⟨b1, o1, none⟩) 2 kc] 30)).alloc (.cells #[.int .i64 0, .int .i64 0, .int .i64 0, .bool false, .slice none 0 0] 30)) w.heap.size #[.int .i64 so, .int .i64 sa, .int .i64 0, .bool false, .slice (some ⟨b1, o1, none⟩) 2 kc] 30 from (Blk.new w _ _).alloc _)
  have HQ0 := hid (show Blk ((w.alloc (.cells #[.int .i64 so, .int .i64 sa, .int .i64 0, .bool false, .slice (some ⟨b1, o1, none⟩) 2 kc] 30)).alloc (.cells #[.int .i64 0, .int .i64 0, .int .i64 0, .bool false, .slice none 0 0] 30)) (w.heap.size + 1) #[.int .i64 0, .int .i64 0, .int .i64 0, .bool false, .slice none 0 0] 30 by have := Blk.new (w.alloc (.cells #[.int .i64 so, .int .i64 sa, .int .i64 0, .bool false, .slice (some ⟨b1, o1, none⟩) 2 kc] 30)) #[.int .i64 0, .int .i64 0, .int .i64 0, .bool false, .slice none 0 0] 30; simpa using this)
  have HIL := hid ihl
  have HIR := hid ihr
  clear hB hT hl hrr hr ihl ihr
  go_enter Try.func51, Try.ntmps51
  go_wp2_with fail
  refine (shasPane_c (.cut so sa l r) ⟨so, sa, 0, false, some ⟨b1, o1, none⟩, 2, kc⟩ _ HT0.out).mono ?_
  rintro e w1 ⟨rfl, hb⟩
  have HB1 := hid (HB0.out.trans (hb.mono HB0.out.size))
  have HP1 := hid (HP0.out.go hb)
  have HQ1 := hid (HQ0.out.go hb)
  clear hb
  cases hh : hasP (.cut so sa l r) with
  | false =>
    have HE := hid (prT_f hh)
    clear hh
    have c_Q := fun (o : Nat) => HQ1.out.cell o
    have f_Q := fun (o : Nat) => HQ1.out.frz o
    have l_Q := HQ1.out.lt
    have c_F := fun (o : Nat) => (show Blk (((((w1.setCell ⟨w.heap.size + 1, 0, none⟩ (.int .i64 0)).setCell ⟨w.heap.size + 1, 1, none⟩ (.int .i64 0)).setCell ⟨w.heap.size + 1, 2, none⟩ (.int .i64 0)).setCell ⟨w.heap.size + 1, 3, none⟩ (.bool false)).setCell ⟨w.heap.size + 1, 4, none⟩ (.slice none 0 0)) (w.heap.size + 1) #[.int .i64 0, .int .i64 0, .int .i64 0, .bool false, .slice none 0 0] 30 by have := (((((HQ1.out).set 0 (.int .i64 0)).set 1 (.int .i64 0)).set 2 (.int .i64 0)).set 3 (.bool false)).set 4 (.slice none 0 0); simpa using this).cell o
    go_wp2
    clear c_Q f_Q
    exact bodyPost_ret (v := .agg #[.int .i64 0, .int .i64 0, .int .i64 0, .bool false, .slice none 0 0]) (by simp [results, Try.results51, go_sem, c_F]) rfl (prune_low (s' := ⟨0, 0, 0, false, none, 0, 0⟩) (by rw [HE.out]; exact ⟨rfl, rfl, rfl, rfl⟩) (by rw [HE.out]; exact FQ.empty _ _ _ _ _ (by simp [maxLen])) (by rw [HE.out]; rfl) HB1.out ((((((Kp.refl (fun q => q = w.heap.size + 1) w1).set (q := w.heap.size + 1) (.inl rfl) 0 (.int .i64 0)).set (q := w.heap.size + 1) (.inl rfl) 1 (.int .i64 0)).set (q := w.heap.size + 1) (.inl rfl) 2 (.int .i64 0)).set (q := w.heap.size + 1) (.inl rfl) 3 (.bool false)).set (q := w.heap.size + 1) (.inl rfl) 4 (.slice none 0 0)))
  | true =>
    have HE := hid (prT_t hh)
    clear hh
    have c_P := fun (o : Nat) => HP1.out.cell o
    have l_P := HP1.out.lt
    go_wp2_with fail
    refine (sisCut_t ⟨so, sa, 0, false, some ⟨b1, o1, none⟩, 2, kc⟩ HC.out _).mono ?_
    rintro e W ⟨rfl, hb⟩
    have HW0 := hid (HB1.out.trans (hb.mono HB1.out.size))
    have HP2 := hid (HP1.out.go hb)
    have HQ2 := hid (HQ1.out.go hb)
    clear hb c_P l_P
    have hcc := (bcell HW0.out).1
    have z0 := (hcc b1 o1 hb1).trans x0
    have z1 := (hcc b1 (o1 + 1) hb1).trans x1
    have z2 := (hcc b1 (o1 + 2) hb1).trans x2
    have z3 := (hcc b1 (o1 + 3) hb1).trans x3
    have z4 := (hcc b1 (o1 + 4) hb1).trans x4
    have v0 := (hcc b1 (o1 + 5) hb1).trans y0
    have v1 := (hcc b1 (o1 + 5 + 1) hb1).trans y1
    have v2 := (hcc b1 (o1 + 5 + 2) hb1).trans y2
    have v3 := (hcc b1 (o1 + 5 + 3) hb1).trans y3
    have v4 := (hcc b1 (o1 + 5 + 4) hb1).trans y4
    have c_P := fun (o : Nat) => HP2.out.cell o
    have l_P := HP2.out.lt
    have l_Q := HQ2.out.lt
    have hN1 : b1 < w.heap.size + 1 := by omega
    have hNW : w.heap.size + 1 ≤ W.heap.size := by omega
    clear hcc x0 x1 x2 x3 x4 y0 y1 y2 y3 y4
    go_upto_region 5 with (fail)
    have ZK := hid ((Below.refl _ _).drew : Below (w.heap.size + 1) W W.drew)
    have ZB := hid (HW0.out.drew)
    have ZS := hid (show w.heap.size + 1 < W.drew.heap.size from l_Q)
    have ZQ := hid (HQ2.out.draw1)
    go_region_held3 (fun w' => ∀ b o, b < w.heap.size + 1 → w'.cell? ⟨b, o, none⟩ = W.cell? ⟨b, o, none⟩) (first | with_reducible exact fun b o h => ZK.out.cell (p := ⟨b, o, none⟩) h | with_reducible exact fun b o h => (ZK.out.alloc (Nat.le_of_lt ZS.out) _).cell (p := ⟨b, o, none⟩) h | with_reducible exact fun b o h => ((((((ZK.out.setCell (Nat.le_refl _) _).setCell (Nat.le_refl _) _).setCell (Nat.le_refl _) _).setCell (Nat.le_refl _) _).setCell (Nat.le_refl _) _).alloc (by simp; exact Nat.le_of_lt ZS.out) _).cell (p := ⟨b, o, none⟩) h)
      (first | (go_at_call 51; ((with_reducible refine (HIL.out sl _ (HL.out _ ZB.out)).mono ?_); rintro e wq ⟨s1, rfl, k1, k2, hb⟩; have HF1 := hid (And.intro k1 k2); have ZS1 := hid (Nat.lt_of_lt_of_le ZS.out hb.size); have ZS0 := hid ZS.out; replace ZK := hid (ZK.out.trans (hb.mono (Nat.le_of_lt ZS.out))); replace ZB := hid (ZB.out.trans (hb.mono ZB.out.size)); replace ZQ := hid (ZQ.out.go hb); replace ZS := hid (Nat.lt_of_lt_of_le ZS.out hb.size); clear hb k1 k2)) | (go_at_call 51; ((with_reducible refine (HIR.out sr _ (HR.out _ ZB.out)).mono ?_); rintro e wr ⟨s2, rfl, k1, k2, hb⟩; have HF2 := hid (And.intro k1 k2); have HBR := hid hb; replace ZK := hid (ZK.out.trans (hb.mono (Nat.le_of_lt ZS.out))); replace ZB := hid (ZB.out.trans (hb.mono ZB.out.size)); replace ZQ := hid (ZQ.out.go hb); replace ZS := hid (Nat.lt_of_lt_of_le ZS.out hb.size); have c_Q := (fun (o : Nat) => ZQ.out.cell o); have f_Q := (fun (o : Nat) => ZQ.out.frz o); have l_Q2 := ZQ.out.lt; clear hb k1 k2)) | fail)
    all_goals
      have c_F := fun (o : Nat) => (show Blk ((((((wr.setCell ⟨w.heap.size + 1, 0, none⟩ (.int .i64 so)).setCell ⟨w.heap.size + 1, 1, none⟩ (.int .i64 sa)).setCell ⟨w.heap.size + 1, 2, none⟩ (.int .i64 0)).setCell ⟨w.heap.size + 1, 3, none⟩ (.bool false)).setCell ⟨w.heap.size + 1, 4, none⟩ (.slice (some ⟨wr.heap.size, 0, none⟩) 2 2)).alloc (.cells #[.int .i64 s1.o, .int .i64 s1.a, .int .i64 s1.p, .bool s1.t, .slice s1.ka s1.kn s1.kc, .int .i64 s2.o, .int .i64 s2.a, .int .i64 s2.p, .bool s2.t, .slice s2.ka s2.kn s2.kc] 30)) (w.heap.size + 1) #[.int .i64 so, .int .i64 sa, .int .i64 0, .bool false, .slice (some ⟨wr.heap.size, 0, none⟩) 2 2] 30 by have := ((((((ZQ.out).set 0 (.int .i64 so)).set 1 (.int .i64 sa)).set 2 (.int .i64 0)).set 3 (.bool false)).set 4 (.slice (some ⟨wr.heap.size, 0, none⟩) 2 2)).alloc (.cells #[.int .i64 s1.o, .int .i64 s1.a, .int .i64 s1.p, .bool s1.t, .slice s1.ka s1.kn s1.kc, .int .i64 s2.o, .int .i64 s2.a, .int .i64 s2.p, .bool s2.t, .slice s2.ka s2.kn s2.kc] 30); simpa using this).cell o
      have HN := hid (show Blk ((((((wr.setCell ⟨w.heap.size + 1, 0, none⟩ (.int .i64 so)).setCell ⟨w.heap.size + 1, 1, none⟩ (.int .i64 sa)).setCell ⟨w.heap.size + 1, 2, none⟩ (.int .i64 0)).setCell ⟨w.heap.size + 1, 3, none⟩ (.bool false)).setCell ⟨w.heap.size + 1, 4, none⟩ (.slice (some ⟨wr.heap.size, 0, none⟩) 2 2)).alloc (.cells #[.int .i64 s1.o, .int .i64 s1.a, .int .i64 s1.p, .bool s1.t, .slice s1.ka s1.kn s1.kc, .int .i64 s2.o, .int .i64 s2.a, .int .i64 s2.p, .bool s2.t, .slice s2.ka s2.kn s2.kc] 30)) wr.heap.size #[.int .i64 s1.o, .int .i64 s1.a, .int .i64 s1.p, .bool s1.t, .slice s1.ka s1.kn s1.kc, .int .i64 s2.o, .int .i64 s2.a, .int .i64 s2.p, .bool s2.t, .slice s2.ka s2.kn s2.kc] 30 by have := Blk.new (((((wr.setCell ⟨w.heap.size + 1, 0, none⟩ (.int .i64 so)).setCell ⟨w.heap.size + 1, 1, none⟩ (.int .i64 sa)).setCell ⟨w.heap.size + 1, 2, none⟩ (.int .i64 0)).setCell ⟨w.heap.size + 1, 3, none⟩ (.bool false)).setCell ⟨w.heap.size + 1, 4, none⟩ (.slice (some ⟨wr.heap.size, 0, none⟩) 2 2)) #[.int .i64 s1.o, .int .i64 s1.a, .int .i64 s1.p, .bool s1.t, .slice s1.ka s1.kn s1.kc, .int .i64 s2.o, .int .i64 s2.a, .int .i64 s2.p, .bool s2.t, .slice s2.ka s2.kn s2.kc] 30; simpa using this)
      go_wp2
      clear c_Q f_Q
      exact bodyPost_ret (v := .agg #[.int .i64 so, .int .i64 sa, .int .i64 0, .bool false, .slice (some ⟨wr.heap.size, 0, none⟩) 2 2]) (by simp [results, Try.results51, go_sem, c_F]) rfl ⟨⟨so, sa, 0, false, some ⟨wr.heap.size, 0, none⟩, 2, 2⟩, rfl, by rw [HE.out]; exact ⟨rfl, rfl, rfl, rfl⟩, by rw [HE.out]; exact prune_two HF1.out.1 HF1.out.2 ZS0.out (Below.refl _ _) HF2.out.1 HF2.out.2 HBR.out (((((((Kp.refl (fun q => q = w.heap.size + 1) wr).set (q := w.heap.size + 1) (.inl rfl) 0 (.int .i64 so)).set (q := w.heap.size + 1) (.inl rfl) 1 (.int .i64 sa)).set (q := w.heap.size + 1) (.inl rfl) 2 (.int .i64 0)).set (q := w.heap.size + 1) (.inl rfl) 3 (.bool false)).set (q := w.heap.size + 1) (.inl rfl) 4 (.slice (some ⟨wr.heap.size, 0, none⟩) 2 2)).alloc (.cells #[.int .i64 s1.o, .int .i64 s1.a, .int .i64 s1.p, .bool s1.t, .slice s1.ka s1.kn s1.kc, .int .i64 s2.o, .int .i64 s2.a, .int .i64 s2.p, .bool s2.t, .slice s2.ka s2.kn s2.kc] 30)) ZS1.out HN.out, ZB.out.trans ((((((((Kp.refl (fun q => q = w.heap.size + 1) wr).set (q := w.heap.size + 1) (.inl rfl) 0 (.int .i64 so)).set (q := w.heap.size + 1) (.inl rfl) 1 (.int .i64 sa)).set (q := w.heap.size + 1) (.inl rfl) 2 (.int .i64 0)).set (q := w.heap.size + 1) (.inl rfl) 3 (.bool false)).set (q := w.heap.size + 1) (.inl rfl) 4 (.slice (some ⟨wr.heap.size, 0, none⟩) 2 2)).alloc (.cells #[.int .i64 s1.o, .int .i64 s1.a, .int .i64 s1.p, .bool s1.t, .slice s1.ka s1.kn s1.kc, .int .i64 s2.o, .int .i64 s2.a, .int .i64 s2.p, .bool s2.t, .slice s2.ka s2.kn s2.kc] 30)).toBelow ZB.out.size (fun q e => by omega))⟩

theorem sprune_c : ∀ (t : Tr) (n : Nat), nodes t ≤ n → PrS n t
  | .leaf o p t, n, h => by
    simp only [nodes] at h
    obtain ⟨m, rfl⟩ : ∃ m, n = m + 1 := ⟨n - 1, by omega⟩
    exact sprune_leaf m o p t
  | .cut o a l r, n, h => by
    simp only [nodes] at h
    obtain ⟨m, rfl⟩ : ∃ m, n = m + 1 := ⟨n - 1, by omega⟩
    exact sprune_cut m o a l r (sprune_c l m (by omega)) (sprune_c r m (by omega))

/-- The plan without cuts in waste; the zero value of what is not well formed. -/
def prOut (p : Pl) : Pl := match wf p with | some t => if (nodes t : Int) ≤ 255 then prT t else .mk 0 0 0 false [] | none => .mk 0 0 0 false []
theorem prOut_some {p : Pl} {t : Tr} (h : wf p = some t) (hn : (nodes t : Int) ≤ 255) : prOut p = prT t := by simp [prOut, h, hn]
theorem prOut_neg {p : Pl} (h : psz p < 0) : prOut p = .mk 0 0 0 false [] := by
  unfold prOut
  unfold psz cp at h
  cases hw : wf p with
  | none => rfl
  | some t =>
    rw [hw] at h
    simp only at h ⊢
    by_cases hn : (nodes t : Int) ≤ 255
    · rw [if_pos hn] at h; omega
    · rw [if_neg hn]
theorem prT_tot : ∀ t : Tr, tot [prT t] ≤ nodes t
  | .leaf o p t => by simp [prT, tot, nodes]
  | .cut o a l r => by
    have h1 := prT_tot l
    have h2 := prT_tot r
    simp only [nodes]
    rw [tot_cons] at h1 h2
    simp only [tot] at h1 h2
    rw [prT]
    split
    · rw [tot_cons]
      simp only [Pl.ks, tot]
      rw [tot_cons, tot_cons]
      simp only [tot]
      omega
    · rw [tot_cons]
      simp only [Pl.ks, tot]
      omega
theorem prOut_tot (p : Pl) : tot (prOut p).ks ≤ 255 := by
  unfold prOut
  cases hw : wf p with
  | none => simp [Pl.ks, tot]
  | some t =>
    simp only
    split
    · have := prT_tot t
      rw [tot_cons] at this
      omega
    · simp [Pl.ks, tot]

def PrO (p : Pl) (w : World) (e : Ending) (w' : World) : Prop := ∃ s' : Sh, e = .returned (.agg #[.int .i64 s'.o, .int .i64 s'.a, .int .i64 s'.p, .bool s'.t, .slice s'.ka s'.kn s'.kc]) ∧ PR w'.heap.size w' 256 (prOut p) s' ∧ Below w.heap.size w w'

end Go.Proofs.Ytafcohmneeabbaa
