/-
  Contracts: PrunePlan by the reference; pruned and PrunePlan by the program (written by a program of mine).
-/
import Derived.Test.YtafcohmneeabbaaPrune
namespace Go.Proofs.Ytafcohmneeabbaa
set_option linter.unusedSimpArgs false
set_option linter.unusedVariables false
open Go.RowKit

theorem pr_zero (B : Nat) (w : World) (n : Nat) : PR B w (n + 1) (.mk 0 0 0 false []) ⟨0, 0, 0, false, none, 0, 0⟩ := ⟨⟨rfl, rfl, rfl, rfl⟩, [], RowB.nil_ _ _, rfl, fun k h => by simp at h⟩
theorem prO_fin {p : Pl} {t : Tr} {w w1 w2 wf : World} {s' : Sh} (hp : prOut p = prT t) (hs : s'.same (prT t)) (hk : FQ (fun q => w1.heap.size ≤ q ∧ q < w2.heap.size) w2 256 s'.kv (prT t).ks) (hN : w.heap.size + 1 < w1.heap.size) (hb : Below w.heap.size w w2) (hf : Kp (fun q => q = w.heap.size + 1) w2 wf) : PrO p w (.returned (.agg #[.int .i64 s'.o, .int .i64 s'.a, .int .i64 s'.p, .bool s'.t, .slice s'.ka s'.kn s'.kc])) wf := by
  have h1 := hf.size
  refine ⟨s', rfl, ?_, hb.trans (hf.toBelow hb.size (fun q e => by omega))⟩
  rw [hp]
  exact ⟨hs, FQ.fr (ok := fun q => w1.heap.size ≤ q ∧ q < w2.heap.size) (fun q hq => by omega) (hk.heap (fun q hq => hf.block q hq.2 (by omega)) (fun q hq => hq))⟩

set_option maxHeartbeats 6400000 in
set_option maxRecDepth 100000 in
theorem sPrunePlan_c {n : Nat} {p : Pl} {s : Sh} {w : World} (h : PR w.heap.size w n p s) : Calls Try.prog 25 #[.agg #[.int .i64 s.o, .int .i64 s.a, .int .i64 s.p, .bool s.t, .slice s.ka s.kn s.kc]] w (PrO p w) := by
  have hB : Below w.heap.size w ((w.alloc (.cells #[.int .i64 s.o, .int .i64 s.a, .int .i64 s.p, .bool s.t, .slice s.ka s.kn s.kc] 30)).alloc (.cells #[.int .i64 0, .int .i64 0, .int .i64 0, .bool false, .slice none 0 0] 30)) := ((Below.refl _ _).alloc (Nat.le_refl _) _).alloc (by simp) _
  have HB0 := hid hB
  have HP0 := hid (show Blk ((w.alloc (.cells #[.int .i64 s.o, .int .i64 s.a, .int .i64 s.p, .bool s.t, .slice s.ka s.kn s.kc] 30)).alloc (.cells #[.int .i64 0, .int .i64 0, .int .i64 0, .bool false, .slice none 0 0] 30)) w.heap.size #[.int .i64 s.o, .int .i64 s.a, .int .i64 s.p, .bool s.t, .slice s.ka s.kn s.kc] 30 from (Blk.new w _ _).alloc _)
  have HQ0 := hid (show Blk ((w.alloc (.cells #[.int .i64 s.o, .int .i64 s.a, .int .i64 s.p, .bool s.t, .slice s.ka s.kn s.kc] 30)).alloc (.cells #[.int .i64 0, .int .i64 0, .int .i64 0, .bool false, .slice none 0 0] 30)) (w.heap.size + 1) #[.int .i64 0, .int .i64 0, .int .i64 0, .bool false, .slice none 0 0] 30 by have := Blk.new (w.alloc (.cells #[.int .i64 s.o, .int .i64 s.a, .int .i64 s.p, .bool s.t, .slice s.ka s.kn s.kc] 30)) #[.int .i64 0, .int .i64 0, .int .i64 0, .bool false, .slice none 0 0] 30; simpa using this)
  have HP := hid h
  clear h hB
  go_enter Try.func25, Try.ntmps25
  go_wp2_with fail
  refine (splanSize_c (n := n) (p := p) (s := s) (HP.out.go HB0.out)).mono ?_
  rintro e w1 ⟨rfl, hb⟩
  have HB1 := hid (HB0.out.trans (hb.mono HB0.out.size))
  have HP1 := hid (HP0.out.go hb)
  have HQ1 := hid (HQ0.out.go hb)
  clear hb
  try clear c_P f_P l_P c_Q f_Q l_Q
  have c_P := fun (o : Nat) => HP1.out.cell o
  have f_P := fun (o : Nat) => HP1.out.frz o
  have l_P := HP1.out.lt
  have c_Q := fun (o : Nat) => HQ1.out.cell o
  have f_Q := fun (o : Nat) => HQ1.out.frz o
  have l_Q := HQ1.out.lt
  by_cases hneg : psz p < 0
  · have HV := hid (prOut_neg hneg)
    have d1 : decide (psz p < 0) = true := decide_eq_true hneg
    clear hneg
    have c_F := fun (o : Nat) => (show Blk (((((w1.setCell ⟨w.heap.size + 1, 0, none⟩ (.int .i64 0)).setCell ⟨w.heap.size + 1, 1, none⟩ (.int .i64 0)).setCell ⟨w.heap.size + 1, 2, none⟩ (.int .i64 0)).setCell ⟨w.heap.size + 1, 3, none⟩ (.bool false)).setCell ⟨w.heap.size + 1, 4, none⟩ (.slice none 0 0)) (w.heap.size + 1) #[.int .i64 0, .int .i64 0, .int .i64 0, .bool false, .slice none 0 0] 30 by have := (((((HQ1.out).set 0 (.int .i64 0)).set 1 (.int .i64 0)).set 2 (.int .i64 0)).set 3 (.bool false)).set 4 (.slice none 0 0); simpa using this).cell o
    go_wp2
    clear c_Q f_Q
    exact bodyPost_ret (v := .agg #[.int .i64 0, .int .i64 0, .int .i64 0, .bool false, .slice none 0 0]) (by simp [results, Try.results25, go_sem, c_F]) rfl ⟨⟨0, 0, 0, false, none, 0, 0⟩, rfl, by rw [HV.out]; exact pr_zero _ _ _, HB1.out.trans (((((((Kp.refl (fun q => q = w.heap.size + 1) w1).set (q := w.heap.size + 1) (.inl rfl) 0 (.int .i64 0)).set (q := w.heap.size + 1) (.inl rfl) 1 (.int .i64 0)).set (q := w.heap.size + 1) (.inl rfl) 2 (.int .i64 0)).set (q := w.heap.size + 1) (.inl rfl) 3 (.bool false)).set (q := w.heap.size + 1) (.inl rfl) 4 (.slice none 0 0)).toBelow HB1.out.size (fun q e => by omega))⟩
  · obtain ⟨t, hw, hps, hn⟩ := cp_tree (p := p) (room := 255) (by unfold psz at hneg; omega)
    have HV := hid (prOut_some hw hn)
    have HT := hid (HP.out.tr hw)
    have HPC := hid (sprune_c t 256 (by omega))
    have d1 : decide (psz p < 0) = false := decide_eq_false hneg
    clear hneg hw hn hps
    go_wp2_with fail
    refine (HPC.out s _ (HT.out.go HB1.out)).mono ?_
    rintro e w2 ⟨s', rfl, k1, k2, hb⟩
    have HX := hid (And.intro k1 k2)
    have HB2 := hid (HB1.out.trans (hb.mono HB1.out.size))
    have HP2 := hid (HP1.out.go hb)
    have HQ2 := hid (HQ1.out.go hb)
    have hl1 : w.heap.size + 1 < w1.heap.size := l_Q
    clear hb k1 k2
    try clear c_P f_P l_P c_Q f_Q l_Q
    have c_P := fun (o : Nat) => HP2.out.cell o
    have f_P := fun (o : Nat) => HP2.out.frz o
    have l_P := HP2.out.lt
    have c_Q := fun (o : Nat) => HQ2.out.cell o
    have f_Q := fun (o : Nat) => HQ2.out.frz o
    have l_Q := HQ2.out.lt
    have c_F := fun (o : Nat) => (show Blk (((((w2.setCell ⟨w.heap.size + 1, 0, none⟩ (.int .i64 s'.o)).setCell ⟨w.heap.size + 1, 1, none⟩ (.int .i64 s'.a)).setCell ⟨w.heap.size + 1, 2, none⟩ (.int .i64 s'.p)).setCell ⟨w.heap.size + 1, 3, none⟩ (.bool s'.t)).setCell ⟨w.heap.size + 1, 4, none⟩ (.slice s'.ka s'.kn s'.kc)) (w.heap.size + 1) #[.int .i64 s'.o, .int .i64 s'.a, .int .i64 s'.p, .bool s'.t, .slice s'.ka s'.kn s'.kc] 30 by have := (((((HQ2.out).set 0 (.int .i64 s'.o)).set 1 (.int .i64 s'.a)).set 2 (.int .i64 s'.p)).set 3 (.bool s'.t)).set 4 (.slice s'.ka s'.kn s'.kc); simpa using this).cell o
    go_wp2
    clear c_Q f_Q
    exact bodyPost_ret (v := .agg #[.int .i64 s'.o, .int .i64 s'.a, .int .i64 s'.p, .bool s'.t, .slice s'.ka s'.kn s'.kc]) (by simp [results, Try.results25, go_sem, c_F]) rfl (prO_fin (s' := s') HV.out HX.out.1 HX.out.2 hl1 HB2.out ((((((Kp.refl (fun q => q = w.heap.size + 1) w2).set (q := w.heap.size + 1) (.inl rfl) 0 (.int .i64 s'.o)).set (q := w.heap.size + 1) (.inl rfl) 1 (.int .i64 s'.a)).set (q := w.heap.size + 1) (.inl rfl) 2 (.int .i64 s'.p)).set (q := w.heap.size + 1) (.inl rfl) 3 (.bool s'.t)).set (q := w.heap.size + 1) (.inl rfl) 4 (.slice s'.ka s'.kn s'.kc)))

theorem OD.nil_ {e : TypeId} (w : World) (n : Nat) {lo hi : Nat} (h : lo ≤ hi) : OD e w (n + 1) lo hi (.slice none 0 0) [] :=
  ⟨[], lo, lo, Own.nil_ _ _ _, Nat.le_refl _, Nat.le_refl _, h, (fun k hk => by cases hk), Nat.le_refl _⟩
def PdOut (n : Nat) (t : Tr) (w : World) (e : Ending) (w' : World) : Prop := ∃ s' : Sh, e = .returned (.tuple #[.agg #[.int .i64 s'.o, .int .i64 s'.a, .int .i64 s'.p, .bool s'.t, .slice s'.ka s'.kn s'.kc], .bool (hasP t)]) ∧ s'.same (prT t) ∧ OD 30 w' n w.heap.size w'.heap.size s'.kv (prT t).ks ∧ Below w.heap.size w w'
def PdS (n : Nat) (t : Tr) : Prop := ∀ (s : Sh) (w : World), TR w.heap.size w t s → Calls Try.prog 53 #[.agg #[.int .i64 s.o, .int .i64 s.a, .int .i64 s.p, .bool s.t, .slice s.ka s.kn s.kc]] w (PdOut n t w)
theorem pruned_two {n N g : Nat} {w w2 wx w3 wf : World} {s1 s2 : Sh} {p1 p2 : Pl} {e : TypeId} (a1 : s1.same p1) (a2 : OD e w2 n N w2.heap.size s1.kv p1.ks) (hN : w.heap.size + 1 < N) (hb : Below w2.heap.size w2 wx) (b1 : s2.same p2) (b2 : OD e w3 n wx.heap.size w3.heap.size s2.kv p2.ks) (hb3 : Below wx.heap.size wx w3)
    (hf : Kp (fun q => q = w.heap.size + 1) w3 wf) (hg : Own shE e w.heap.size wf (.slice (some ⟨g, 0, none⟩) 2 2) [s1, s2]) (hg3 : w3.heap.size ≤ g) : OD e wf (n + 1) w.heap.size wf.heap.size (.slice (some ⟨g, 0, none⟩) 2 2) [p1, p2] := by
  have z1 := hb.size
  have z2 := hb3.size
  have z3 := hf.size
  have z4 := hg.lt g rfl
  have z5 := a2.le
  refine ⟨[s1, s2], N, w3.heap.size, hg, by omega, by omega, by omega, fun k hk => ?_, w2.heap.size, z5, a2.heap (fun q h1 h2 => by rw [hf.block q (by omega) (by omega), hb3.block q (by omega), hb.block q (by omega)]), a1, w3.heap.size, by omega, (b2.heap (fun q h1 h2 => hf.block q (by omega) (by omega))).base_le (by omega), b1, Nat.le_refl _⟩
  have e1 : g = k := by simpa [Value.ownBlock] using hk
  omega

set_option maxHeartbeats 6400000 in
set_option maxRecDepth 100000 in
theorem pruned_leaf (n : Nat) (o p : Int) (t : Bool) : PdS (n + 1) (.leaf o p t) := by
  intro s w h
  have hT := h
  obtain ⟨h1, h2, h3, h4, h5, h6, h7, h8⟩ := h
  obtain ⟨so, sa, sp, st, ka, kn, kc⟩ := s
  simp only at h1 h2 h3 h4 h5 h8
  subst h1; subst h2; subst h3; subst h4; subst h5
  have hB : Below w.heap.size w ((w.alloc (.cells #[.int .i64 so, .int .i64 0, .int .i64 sp, .bool st, .slice ka 0 kc] 30)).alloc (.cells #[.int .i64 0, .int .i64 0, .int .i64 0, .bool false, .slice none 0 0] 30)) := ((Below.refl _ _).alloc (Nat.le_refl _) _).alloc (by simp) _
  have HB0 := hid hB
  have HP0 := hid (show Blk ((w.alloc (.cells #[.int .i64 so, .int .i64 0, .int .i64 sp, .bool st, .slice ka 0 kc] 30)).alloc (.cells #[.int .i64 0, .int .i64 0, .int .i64 0, .bool false, .slice none 0 0] 30)) w.heap.size #[.int .i64 so, .int .i64 0, .int .i64 sp, .bool st, .slice ka 0 kc] 30 from (Blk.new w _ _).alloc _)
  have HQ0 := hid (show Blk ((w.alloc (.cells #[.int .i64 so, .int .i64 0, .int .i64 sp, .bool st, .slice ka 0 kc] 30)).alloc (.cells #[.int .i64 0, .int .i64 0, .int .i64 0, .bool false, .slice none 0 0] 30)) (w.heap.size + 1) #[.int .i64 0, .int .i64 0, .int .i64 0, .bool false, .slice none 0 0] 30 by have := Blk.new (w.alloc (.cells #[.int .i64 so, .int .i64 0, .int .i64 sp, .bool st, .slice ka 0 kc] 30)) #[.int .i64 0, .int .i64 0, .int .i64 0, .bool false, .slice none 0 0] 30; simpa using this)
  have HC := hid h6
  have HV : Hid ((so == 1) = hasP (.leaf so sp st)) := rfl
  clear hB hT h6 h7 h8
  go_enter Try.func53, Try.ntmps53
  go_wp2_with fail
  refine (isCut_f ⟨so, 0, sp, st, ka, 0, kc⟩ HC.out _).mono ?_
  rintro e w1 ⟨rfl, hb⟩
  have HB1 := hid (HB0.out.trans (hb.mono HB0.out.size))
  have HP1 := hid (HP0.out.go hb)
  have HQ1 := hid (HQ0.out.go hb)
  clear hb
  try clear c_P f_P l_P c_Q f_Q l_Q
  have c_P := fun (o : Nat) => HP1.out.cell o
  have f_P := fun (o : Nat) => HP1.out.frz o
  have l_P := HP1.out.lt
  have c_Q := fun (o : Nat) => HQ1.out.cell o
  have f_Q := fun (o : Nat) => HQ1.out.frz o
  have l_Q := HQ1.out.lt
  go_upto_region 2 with (fail)
  go_region
  all_goals
    obtain ⟨wf, hwf⟩ : ∃ Z : World, Z = (((((w1.setCell ⟨w.heap.size + 1, 0, none⟩ (.int .i64 so)).setCell ⟨w.heap.size + 1, 1, none⟩ (.int .i64 0)).setCell ⟨w.heap.size + 1, 2, none⟩ (.int .i64 sp)).setCell ⟨w.heap.size + 1, 3, none⟩ (.bool st)).setCell ⟨w.heap.size + 1, 4, none⟩ (.slice none 0 0)).drew := ⟨_, rfl⟩
    have BQ := hid (show Blk wf (w.heap.size + 1) #[.int .i64 so, .int .i64 0, .int .i64 sp, .bool st, .slice none 0 0] 30 by rw [hwf]; have := (((((HQ1.out).set 0 (.int .i64 so)).set 1 (.int .i64 0)).set 2 (.int .i64 sp)).set 3 (.bool st)).set 4 (.slice none 0 0); exact Blk.draw1 (by simpa using this))
    have HKP := hid (show Kp (fun q => q = w.heap.size + 1) w1 wf by rw [hwf]; exact ((((((Kp.refl (fun q => q = w.heap.size + 1) w1).set (q := w.heap.size + 1) (.inl rfl) 0 (.int .i64 so)).set (q := w.heap.size + 1) (.inl rfl) 1 (.int .i64 0)).set (q := w.heap.size + 1) (.inl rfl) 2 (.int .i64 sp)).set (q := w.heap.size + 1) (.inl rfl) 3 (.bool st)).set (q := w.heap.size + 1) (.inl rfl) 4 (.slice none 0 0)).dr (Dr.refl _).one)
    rw [← hwf]
    clear hwf c_P f_P l_P c_Q f_Q l_Q
    have c_BQ := fun (o : Nat) => BQ.out.cell o
    have hw : w.heap.size ≤ wf.heap.size := Nat.le_trans HB1.out.size HKP.out.size
    go_wp2
    exact bodyPost_ret (v := .tuple #[.agg #[.int .i64 so, .int .i64 0, .int .i64 sp, .bool st, .slice none 0 0], .bool (so == 1)]) (by simp [results, Try.results53, go_sem, c_BQ]) rfl ⟨⟨so, 0, sp, st, none, 0, 0⟩, by rw [HV.out], ⟨rfl, rfl, rfl, rfl⟩, OD.nil_ _ _ hw, HB1.out.trans (HKP.out.toBelow HB1.out.size (fun q e => by omega))⟩

set_option maxHeartbeats 6400000 in
set_option maxRecDepth 100000 in
theorem pruned_cut (n : Nat) (o a : Int) (l r : Tr) (ihl : PdS n l) (ihr : PdS n r) : PdS (n + 1) (.cut o a l r) := by
  intro s w h
  have HC := hid h.cutT
  obtain ⟨h1, h2, h3, h4, -, sl, sr, hr, hl, hrr⟩ := h
  obtain ⟨so, sa, sp, st, ka, kn, kc⟩ := s
  simp only at h1 h2 h3 h4
  subst h1; subst h2; subst h3; subst h4
  obtain ⟨rfl, hkc, b1, o1, rfl, hb1, x0, x1, x2, x3, x4, y0, y1, y2, y3, y4⟩ := row_two hr
  have HL := hid (fun w1 (hb : Below w.heap.size w w1) => hl.go hb)
  have HR := hid (fun w1 (hb : Below w.heap.size w w1) => hrr.go hb)
  have hB : Below w.heap.size w ((w.alloc (.cells #[.int .i64 so, .int .i64 sa, .int .i64 0, .bool false, .slice (some ⟨b1, o1, none⟩) 2 kc] 30)).alloc (.cells #[.int .i64 0, .int .i64 0, .int .i64 0, .bool false, .slice none 0 0] 30)) := ((Below.refl _ _).alloc (Nat.le_refl _) _).alloc (by simp) _
  have HB0 := hid hB
  have HP0 := hid (show Blk ((w.alloc (.cells #[.int .i64 so, .int .i64 sa, .int .i64 0, .bool false, .slice (some ⟨b1, o1, none⟩) 2 kc] 30)).alloc (.cells #[.int .i64 0, .int .i64 0, .int .i64 0, .bool false, .slice none 0 0] 30)) w.heap.size #[.int .i64 so, .int .i64 sa, .int .i64 0, .bool false, .slice (some ⟨b1, o1, none⟩) 2 kc] 30 from (Blk.new w _ _).alloc _)
  have HQ0 := hid (show Blk ((w.alloc (.cells #[.int .i64 so, .int .i64 sa, .int .i64 0, .bool false, .slice (some ⟨b1, o1, none⟩) 2 kc] 30)).alloc (.cells #[.int .i64 0, .int .i64 0, .int .i64 0, .bool false, .slice none 0 0] 30)) (w.heap.size + 1) #[.int .i64 0, .int .i64 0, .int .i64 0, .bool false, .slice none 0 0] 30 by have := Blk.new (w.alloc (.cells #[.int .i64 so, .int .i64 sa, .int .i64 0, .bool false, .slice (some ⟨b1, o1, none⟩) 2 kc] 30)) #[.int .i64 0, .int .i64 0, .int .i64 0, .bool false, .slice none 0 0] 30; simpa using this)
  have HIL := hid ihl
  have HIR := hid ihr
  clear hB hl hrr hr ihl ihr
  go_enter Try.func53, Try.ntmps53
  go_wp2_with fail
  refine (isCut_t ⟨so, sa, 0, false, some ⟨b1, o1, none⟩, 2, kc⟩ HC.out _).mono ?_
  rintro e w1 ⟨rfl, hb⟩
  have HB1 := hid (HB0.out.trans (hb.mono HB0.out.size))
  have HP1 := hid (HP0.out.go hb)
  have HQ1 := hid (HQ0.out.go hb)
  clear hb
  try clear c_P f_P l_P c_Q f_Q l_Q
  have c_P := fun (o : Nat) => HP1.out.cell o
  have f_P := fun (o : Nat) => HP1.out.frz o
  have l_P := HP1.out.lt
  have c_Q := fun (o : Nat) => HQ1.out.cell o
  have f_Q := fun (o : Nat) => HQ1.out.frz o
  have l_Q := HQ1.out.lt
  have hN1 : w.heap.size + 1 < w1.heap.size := l_Q
  have hcc := (bcell HB1.out).1
  have x0n := (hcc b1 (o1) hb1).trans x0
  have x1n := (hcc b1 (o1 + 1) hb1).trans x1
  have x2n := (hcc b1 (o1 + 2) hb1).trans x2
  have x3n := (hcc b1 (o1 + 3) hb1).trans x3
  have x4n := (hcc b1 (o1 + 4) hb1).trans x4
  have y0n := (hcc b1 (o1 + 5) hb1).trans y0
  have y1n := (hcc b1 (o1 + 5 + 1) hb1).trans y1
  have y2n := (hcc b1 (o1 + 5 + 2) hb1).trans y2
  have y3n := (hcc b1 (o1 + 5 + 3) hb1).trans y3
  have y4n := (hcc b1 (o1 + 5 + 4) hb1).trans y4
  have hb1n : b1 < w1.heap.size := by omega
  clear hcc
  go_wp2_with fail
  refine (HIL.out sl _ (HL.out _ HB1.out)).mono ?_
  rintro e w2 ⟨s1, rfl, k1, k2, hb⟩
  have HX1 := hid (And.intro k1 k2)
  have HA1 := hid (show Below w2.heap.size w2 (w2.alloc (.cells #[.int .i64 s1.o, .int .i64 s1.a, .int .i64 s1.p, .bool s1.t, .slice s1.ka s1.kn s1.kc] 30)) from (Below.refl _ _).alloc (Nat.le_refl _) _)
  have HB2 := hid ((HB1.out.trans (hb.mono HB1.out.size)).trans (HA1.out.mono (HB1.out.trans (hb.mono HB1.out.size)).size))
  have HP2 := hid ((HP1.out.go hb).go HA1.out)
  have HQ2 := hid ((HQ1.out.go hb).go HA1.out)
  have HG1 := hid (Blk.new w2 #[.int .i64 s1.o, .int .i64 s1.a, .int .i64 s1.p, .bool s1.t, .slice s1.ka s1.kn s1.kc] 30)
  have hz2 := hb.size
  clear hb k1 k2 x0n x1n x2n x3n x4n y0n y1n y2n y3n y4n
  try clear c_P f_P l_P c_Q f_Q l_Q
  have c_P := fun (o : Nat) => HP2.out.cell o
  have f_P := fun (o : Nat) => HP2.out.frz o
  have l_P := HP2.out.lt
  have c_Q := fun (o : Nat) => HQ2.out.cell o
  have f_Q := fun (o : Nat) => HQ2.out.frz o
  have l_Q := HQ2.out.lt
  have hcc := (bcell HB2.out).1
  have x0m := (hcc b1 (o1) hb1).trans x0
  have x1m := (hcc b1 (o1 + 1) hb1).trans x1
  have x2m := (hcc b1 (o1 + 2) hb1).trans x2
  have x3m := (hcc b1 (o1 + 3) hb1).trans x3
  have x4m := (hcc b1 (o1 + 4) hb1).trans x4
  have y0m := (hcc b1 (o1 + 5) hb1).trans y0
  have y1m := (hcc b1 (o1 + 5 + 1) hb1).trans y1
  have y2m := (hcc b1 (o1 + 5 + 2) hb1).trans y2
  have y3m := (hcc b1 (o1 + 5 + 3) hb1).trans y3
  have y4m := (hcc b1 (o1 + 5 + 4) hb1).trans y4
  have hb1m : b1 < (w2.alloc (.cells #[.int .i64 s1.o, .int .i64 s1.a, .int .i64 s1.p, .bool s1.t, .slice s1.ka s1.kn s1.kc] 30)).heap.size := by have := HB2.out.size; omega
  clear hcc
  go_wp2_with fail
  refine (HIR.out sr _ (HR.out _ HB2.out)).mono ?_
  rintro e w3 ⟨s2, rfl, k1, k2, hb⟩
  have HX2 := hid (And.intro k1 k2)
  have HA2 := hid hb
  have HB3 := hid (HB2.out.trans (hb.mono HB2.out.size))
  have HP3 := hid (HP2.out.go hb)
  have HQ3 := hid (HQ2.out.go hb)
  have HG3 := hid (HG1.out.go hb)
  have hz3 : w2.heap.size < w3.heap.size := HG3.out.lt
  clear hb k1 k2 hb1m x0m x1m x2m x3m x4m y0m y1m y2m y3m y4m
  try clear c_P f_P l_P c_Q f_Q l_Q
  have c_P := fun (o : Nat) => HP3.out.cell o
  have f_P := fun (o : Nat) => HP3.out.frz o
  have l_P := HP3.out.lt
  have c_Q := fun (o : Nat) => HQ3.out.cell o
  have f_Q := fun (o : Nat) => HQ3.out.frz o
  have l_Q := HQ3.out.lt
  have c_G := fun (o : Nat) => HG3.out.cell o
  cases hpl : hasP l with
  | true =>
    have hh : hasP (.cut so sa l r) = true := by show (hasP l || hasP r) = true; rw [hpl]; rfl
    clear hpl
    have c_F := fun (o : Nat) => (show Blk (((((((w3.setCell ⟨w.heap.size + 1, 0, none⟩ (.int .i64 so)).setCell ⟨w.heap.size + 1, 1, none⟩ (.int .i64 sa)).setCell ⟨w.heap.size + 1, 2, none⟩ (.int .i64 0)).setCell ⟨w.heap.size + 1, 3, none⟩ (.bool false)).setCell ⟨w.heap.size + 1, 4, none⟩ (.slice (some ⟨w3.heap.size + 1, 0, none⟩) 2 2)).alloc (.cells #[.int .i64 s2.o, .int .i64 s2.a, .int .i64 s2.p, .bool s2.t, .slice s2.ka s2.kn s2.kc] 30)).alloc (.cells #[.int .i64 s1.o, .int .i64 s1.a, .int .i64 s1.p, .bool s1.t, .slice s1.ka s1.kn s1.kc, .int .i64 s2.o, .int .i64 s2.a, .int .i64 s2.p, .bool s2.t, .slice s2.ka s2.kn s2.kc] 30)) (w.heap.size + 1) #[.int .i64 so, .int .i64 sa, .int .i64 0, .bool false, .slice (some ⟨w3.heap.size + 1, 0, none⟩) 2 2] 30 by have := (((((((HQ3.out).set 0 (.int .i64 so)).set 1 (.int .i64 sa)).set 2 (.int .i64 0)).set 3 (.bool false)).set 4 (.slice (some ⟨w3.heap.size + 1, 0, none⟩) 2 2)).alloc (.cells #[.int .i64 s2.o, .int .i64 s2.a, .int .i64 s2.p, .bool s2.t, .slice s2.ka s2.kn s2.kc] 30)).alloc (.cells #[.int .i64 s1.o, .int .i64 s1.a, .int .i64 s1.p, .bool s1.t, .slice s1.ka s1.kn s1.kc, .int .i64 s2.o, .int .i64 s2.a, .int .i64 s2.p, .bool s2.t, .slice s2.ka s2.kn s2.kc] 30); simpa using this).cell o
    have HOW := hid (show Own shE 30 w.heap.size (((((((w3.setCell ⟨w.heap.size + 1, 0, none⟩ (.int .i64 so)).setCell ⟨w.heap.size + 1, 1, none⟩ (.int .i64 sa)).setCell ⟨w.heap.size + 1, 2, none⟩ (.int .i64 0)).setCell ⟨w.heap.size + 1, 3, none⟩ (.bool false)).setCell ⟨w.heap.size + 1, 4, none⟩ (.slice (some ⟨w3.heap.size + 1, 0, none⟩) 2 2)).alloc (.cells #[.int .i64 s2.o, .int .i64 s2.a, .int .i64 s2.p, .bool s2.t, .slice s2.ka s2.kn s2.kc] 30)).alloc (.cells #[.int .i64 s1.o, .int .i64 s1.a, .int .i64 s1.p, .bool s1.t, .slice s1.ka s1.kn s1.kc, .int .i64 s2.o, .int .i64 s2.a, .int .i64 s2.p, .bool s2.t, .slice s2.ka s2.kn s2.kc] 30)) (.slice (some ⟨w3.heap.size + 1, 0, none⟩) 2 2) [s1, s2] by have := Own.lit shE ((((((w3.setCell ⟨w.heap.size + 1, 0, none⟩ (.int .i64 so)).setCell ⟨w.heap.size + 1, 1, none⟩ (.int .i64 sa)).setCell ⟨w.heap.size + 1, 2, none⟩ (.int .i64 0)).setCell ⟨w.heap.size + 1, 3, none⟩ (.bool false)).setCell ⟨w.heap.size + 1, 4, none⟩ (.slice (some ⟨w3.heap.size + 1, 0, none⟩) 2 2)).alloc (.cells #[.int .i64 s2.o, .int .i64 s2.a, .int .i64 s2.p, .bool s2.t, .slice s2.ka s2.kn s2.kc] 30)) w.heap.size 30 #[.int .i64 s1.o, .int .i64 s1.a, .int .i64 s1.p, .bool s1.t, .slice s1.ka s1.kn s1.kc, .int .i64 s2.o, .int .i64 s2.a, .int .i64 s2.p, .bool s2.t, .slice s2.ka s2.kn s2.kc] [s1, s2] 2 rfl rfl (by simp; omega) (by simp [maxLen]); simpa using this)
    have HKP := hid (show Kp (fun q => q = w.heap.size + 1) w3 (((((((w3.setCell ⟨w.heap.size + 1, 0, none⟩ (.int .i64 so)).setCell ⟨w.heap.size + 1, 1, none⟩ (.int .i64 sa)).setCell ⟨w.heap.size + 1, 2, none⟩ (.int .i64 0)).setCell ⟨w.heap.size + 1, 3, none⟩ (.bool false)).setCell ⟨w.heap.size + 1, 4, none⟩ (.slice (some ⟨w3.heap.size + 1, 0, none⟩) 2 2)).alloc (.cells #[.int .i64 s2.o, .int .i64 s2.a, .int .i64 s2.p, .bool s2.t, .slice s2.ka s2.kn s2.kc] 30)).alloc (.cells #[.int .i64 s1.o, .int .i64 s1.a, .int .i64 s1.p, .bool s1.t, .slice s1.ka s1.kn s1.kc, .int .i64 s2.o, .int .i64 s2.a, .int .i64 s2.p, .bool s2.t, .slice s2.ka s2.kn s2.kc] 30)) from (((((((Kp.refl (fun q => q = w.heap.size + 1) w3).set (q := w.heap.size + 1) (.inl rfl) 0 (.int .i64 so)).set (q := w.heap.size + 1) (.inl rfl) 1 (.int .i64 sa)).set (q := w.heap.size + 1) (.inl rfl) 2 (.int .i64 0)).set (q := w.heap.size + 1) (.inl rfl) 3 (.bool false)).set (q := w.heap.size + 1) (.inl rfl) 4 (.slice (some ⟨w3.heap.size + 1, 0, none⟩) 2 2)).alloc (.cells #[.int .i64 s2.o, .int .i64 s2.a, .int .i64 s2.p, .bool s2.t, .slice s2.ka s2.kn s2.kc] 30)).alloc (.cells #[.int .i64 s1.o, .int .i64 s1.a, .int .i64 s1.p, .bool s1.t, .slice s1.ka s1.kn s1.kc, .int .i64 s2.o, .int .i64 s2.a, .int .i64 s2.p, .bool s2.t, .slice s2.ka s2.kn s2.kc] 30))
    have HE := hid (prT_t hh)
    have HH := hid hh
    clear hh
    go_wp2
    clear c_Q f_Q
    exact bodyPost_ret (v := .tuple #[.agg #[.int .i64 so, .int .i64 sa, .int .i64 0, .bool false, .slice (some ⟨w3.heap.size + 1, 0, none⟩) 2 2], .bool true]) (by simp [results, Try.results53, go_sem, c_F]) rfl ⟨⟨so, sa, 0, false, some ⟨w3.heap.size + 1, 0, none⟩, 2, 2⟩, by rw [HH.out], by rw [HE.out]; exact ⟨rfl, rfl, rfl, rfl⟩, by rw [HE.out]; exact pruned_two HX1.out.1 HX1.out.2 hN1 HA1.out HX2.out.1 HX2.out.2 HA2.out HKP.out HOW.out (Nat.le_succ _), HB3.out.trans (HKP.out.toBelow HB3.out.size (fun q e => by omega))⟩
  | false =>
    cases hpr : hasP r with
    | true =>
      have hh : hasP (.cut so sa l r) = true := by show (hasP l || hasP r) = true; rw [hpl, hpr]; rfl
      clear hpl hpr
      have c_F := fun (o : Nat) => (show Blk (((((((w3.setCell ⟨w.heap.size + 1, 0, none⟩ (.int .i64 so)).setCell ⟨w.heap.size + 1, 1, none⟩ (.int .i64 sa)).setCell ⟨w.heap.size + 1, 2, none⟩ (.int .i64 0)).setCell ⟨w.heap.size + 1, 3, none⟩ (.bool false)).setCell ⟨w.heap.size + 1, 4, none⟩ (.slice (some ⟨w3.heap.size + 1, 0, none⟩) 2 2)).alloc (.cells #[.int .i64 s2.o, .int .i64 s2.a, .int .i64 s2.p, .bool s2.t, .slice s2.ka s2.kn s2.kc] 30)).alloc (.cells #[.int .i64 s1.o, .int .i64 s1.a, .int .i64 s1.p, .bool s1.t, .slice s1.ka s1.kn s1.kc, .int .i64 s2.o, .int .i64 s2.a, .int .i64 s2.p, .bool s2.t, .slice s2.ka s2.kn s2.kc] 30)) (w.heap.size + 1) #[.int .i64 so, .int .i64 sa, .int .i64 0, .bool false, .slice (some ⟨w3.heap.size + 1, 0, none⟩) 2 2] 30 by have := (((((((HQ3.out).set 0 (.int .i64 so)).set 1 (.int .i64 sa)).set 2 (.int .i64 0)).set 3 (.bool false)).set 4 (.slice (some ⟨w3.heap.size + 1, 0, none⟩) 2 2)).alloc (.cells #[.int .i64 s2.o, .int .i64 s2.a, .int .i64 s2.p, .bool s2.t, .slice s2.ka s2.kn s2.kc] 30)).alloc (.cells #[.int .i64 s1.o, .int .i64 s1.a, .int .i64 s1.p, .bool s1.t, .slice s1.ka s1.kn s1.kc, .int .i64 s2.o, .int .i64 s2.a, .int .i64 s2.p, .bool s2.t, .slice s2.ka s2.kn s2.kc] 30); simpa using this).cell o
      have HOW := hid (show Own shE 30 w.heap.size (((((((w3.setCell ⟨w.heap.size + 1, 0, none⟩ (.int .i64 so)).setCell ⟨w.heap.size + 1, 1, none⟩ (.int .i64 sa)).setCell ⟨w.heap.size + 1, 2, none⟩ (.int .i64 0)).setCell ⟨w.heap.size + 1, 3, none⟩ (.bool false)).setCell ⟨w.heap.size + 1, 4, none⟩ (.slice (some ⟨w3.heap.size + 1, 0, none⟩) 2 2)).alloc (.cells #[.int .i64 s2.o, .int .i64 s2.a, .int .i64 s2.p, .bool s2.t, .slice s2.ka s2.kn s2.kc] 30)).alloc (.cells #[.int .i64 s1.o, .int .i64 s1.a, .int .i64 s1.p, .bool s1.t, .slice s1.ka s1.kn s1.kc, .int .i64 s2.o, .int .i64 s2.a, .int .i64 s2.p, .bool s2.t, .slice s2.ka s2.kn s2.kc] 30)) (.slice (some ⟨w3.heap.size + 1, 0, none⟩) 2 2) [s1, s2] by have := Own.lit shE ((((((w3.setCell ⟨w.heap.size + 1, 0, none⟩ (.int .i64 so)).setCell ⟨w.heap.size + 1, 1, none⟩ (.int .i64 sa)).setCell ⟨w.heap.size + 1, 2, none⟩ (.int .i64 0)).setCell ⟨w.heap.size + 1, 3, none⟩ (.bool false)).setCell ⟨w.heap.size + 1, 4, none⟩ (.slice (some ⟨w3.heap.size + 1, 0, none⟩) 2 2)).alloc (.cells #[.int .i64 s2.o, .int .i64 s2.a, .int .i64 s2.p, .bool s2.t, .slice s2.ka s2.kn s2.kc] 30)) w.heap.size 30 #[.int .i64 s1.o, .int .i64 s1.a, .int .i64 s1.p, .bool s1.t, .slice s1.ka s1.kn s1.kc, .int .i64 s2.o, .int .i64 s2.a, .int .i64 s2.p, .bool s2.t, .slice s2.ka s2.kn s2.kc] [s1, s2] 2 rfl rfl (by simp; omega) (by simp [maxLen]); simpa using this)
      have HKP := hid (show Kp (fun q => q = w.heap.size + 1) w3 (((((((w3.setCell ⟨w.heap.size + 1, 0, none⟩ (.int .i64 so)).setCell ⟨w.heap.size + 1, 1, none⟩ (.int .i64 sa)).setCell ⟨w.heap.size + 1, 2, none⟩ (.int .i64 0)).setCell ⟨w.heap.size + 1, 3, none⟩ (.bool false)).setCell ⟨w.heap.size + 1, 4, none⟩ (.slice (some ⟨w3.heap.size + 1, 0, none⟩) 2 2)).alloc (.cells #[.int .i64 s2.o, .int .i64 s2.a, .int .i64 s2.p, .bool s2.t, .slice s2.ka s2.kn s2.kc] 30)).alloc (.cells #[.int .i64 s1.o, .int .i64 s1.a, .int .i64 s1.p, .bool s1.t, .slice s1.ka s1.kn s1.kc, .int .i64 s2.o, .int .i64 s2.a, .int .i64 s2.p, .bool s2.t, .slice s2.ka s2.kn s2.kc] 30)) from (((((((Kp.refl (fun q => q = w.heap.size + 1) w3).set (q := w.heap.size + 1) (.inl rfl) 0 (.int .i64 so)).set (q := w.heap.size + 1) (.inl rfl) 1 (.int .i64 sa)).set (q := w.heap.size + 1) (.inl rfl) 2 (.int .i64 0)).set (q := w.heap.size + 1) (.inl rfl) 3 (.bool false)).set (q := w.heap.size + 1) (.inl rfl) 4 (.slice (some ⟨w3.heap.size + 1, 0, none⟩) 2 2)).alloc (.cells #[.int .i64 s2.o, .int .i64 s2.a, .int .i64 s2.p, .bool s2.t, .slice s2.ka s2.kn s2.kc] 30)).alloc (.cells #[.int .i64 s1.o, .int .i64 s1.a, .int .i64 s1.p, .bool s1.t, .slice s1.ka s1.kn s1.kc, .int .i64 s2.o, .int .i64 s2.a, .int .i64 s2.p, .bool s2.t, .slice s2.ka s2.kn s2.kc] 30))
      have HE := hid (prT_t hh)
      have HH := hid hh
      clear hh
      go_wp2
      clear c_Q f_Q
      exact bodyPost_ret (v := .tuple #[.agg #[.int .i64 so, .int .i64 sa, .int .i64 0, .bool false, .slice (some ⟨w3.heap.size + 1, 0, none⟩) 2 2], .bool true]) (by simp [results, Try.results53, go_sem, c_F]) rfl ⟨⟨so, sa, 0, false, some ⟨w3.heap.size + 1, 0, none⟩, 2, 2⟩, by rw [HH.out], by rw [HE.out]; exact ⟨rfl, rfl, rfl, rfl⟩, by rw [HE.out]; exact pruned_two HX1.out.1 HX1.out.2 hN1 HA1.out HX2.out.1 HX2.out.2 HA2.out HKP.out HOW.out (Nat.le_succ _), HB3.out.trans (HKP.out.toBelow HB3.out.size (fun q e => by omega))⟩
    | false =>
      have hh : hasP (.cut so sa l r) = false := by show (hasP l || hasP r) = false; rw [hpl, hpr]; rfl
      clear hpl hpr
      have c_F := fun (o : Nat) => (show Blk ((((((w3.setCell ⟨w.heap.size + 1, 0, none⟩ (.int .i64 0)).setCell ⟨w.heap.size + 1, 1, none⟩ (.int .i64 0)).setCell ⟨w.heap.size + 1, 2, none⟩ (.int .i64 0)).setCell ⟨w.heap.size + 1, 3, none⟩ (.bool false)).setCell ⟨w.heap.size + 1, 4, none⟩ (.slice none 0 0)).alloc (.cells #[.int .i64 s2.o, .int .i64 s2.a, .int .i64 s2.p, .bool s2.t, .slice s2.ka s2.kn s2.kc] 30)) (w.heap.size + 1) #[.int .i64 0, .int .i64 0, .int .i64 0, .bool false, .slice none 0 0] 30 by have := ((((((HQ3.out).set 0 (.int .i64 0)).set 1 (.int .i64 0)).set 2 (.int .i64 0)).set 3 (.bool false)).set 4 (.slice none 0 0)).alloc (.cells #[.int .i64 s2.o, .int .i64 s2.a, .int .i64 s2.p, .bool s2.t, .slice s2.ka s2.kn s2.kc] 30); simpa using this).cell o
      have HKP := hid (show Kp (fun q => q = w.heap.size + 1) w3 ((((((w3.setCell ⟨w.heap.size + 1, 0, none⟩ (.int .i64 0)).setCell ⟨w.heap.size + 1, 1, none⟩ (.int .i64 0)).setCell ⟨w.heap.size + 1, 2, none⟩ (.int .i64 0)).setCell ⟨w.heap.size + 1, 3, none⟩ (.bool false)).setCell ⟨w.heap.size + 1, 4, none⟩ (.slice none 0 0)).alloc (.cells #[.int .i64 s2.o, .int .i64 s2.a, .int .i64 s2.p, .bool s2.t, .slice s2.ka s2.kn s2.kc] 30)) from ((((((Kp.refl (fun q => q = w.heap.size + 1) w3).set (q := w.heap.size + 1) (.inl rfl) 0 (.int .i64 0)).set (q := w.heap.size + 1) (.inl rfl) 1 (.int .i64 0)).set (q := w.heap.size + 1) (.inl rfl) 2 (.int .i64 0)).set (q := w.heap.size + 1) (.inl rfl) 3 (.bool false)).set (q := w.heap.size + 1) (.inl rfl) 4 (.slice none 0 0)).alloc (.cells #[.int .i64 s2.o, .int .i64 s2.a, .int .i64 s2.p, .bool s2.t, .slice s2.ka s2.kn s2.kc] 30))
      have HE := hid (prT_f hh)
      have HH := hid hh
      have hwz : w.heap.size ≤ ((((((w3.setCell ⟨w.heap.size + 1, 0, none⟩ (.int .i64 0)).setCell ⟨w.heap.size + 1, 1, none⟩ (.int .i64 0)).setCell ⟨w.heap.size + 1, 2, none⟩ (.int .i64 0)).setCell ⟨w.heap.size + 1, 3, none⟩ (.bool false)).setCell ⟨w.heap.size + 1, 4, none⟩ (.slice none 0 0)).alloc (.cells #[.int .i64 s2.o, .int .i64 s2.a, .int .i64 s2.p, .bool s2.t, .slice s2.ka s2.kn s2.kc] 30)).heap.size := by simp; omega
      have HWZ := hid hwz
      clear hh hwz
      go_wp2
      clear c_Q f_Q
      exact bodyPost_ret (v := .tuple #[.agg #[.int .i64 0, .int .i64 0, .int .i64 0, .bool false, .slice none 0 0], .bool false]) (by simp [results, Try.results53, go_sem, c_F]) rfl ⟨⟨0, 0, 0, false, none, 0, 0⟩, by rw [HH.out], by rw [HE.out]; exact ⟨rfl, rfl, rfl, rfl⟩, by rw [HE.out]; exact OD.nil_ _ _ HWZ.out, HB3.out.trans (HKP.out.toBelow HB3.out.size (fun q e => by omega))⟩

theorem pruned_c : ∀ (t : Tr) (n : Nat), nodes t ≤ n → PdS n t
  | .leaf o p t, n, h => by
    simp only [nodes] at h
    obtain ⟨m, rfl⟩ : ∃ m, n = m + 1 := ⟨n - 1, by omega⟩
    exact pruned_leaf m o p t
  | .cut o a l r, n, h => by
    simp only [nodes] at h
    obtain ⟨m, rfl⟩ : ∃ m, n = m + 1 := ⟨n - 1, by omega⟩
    exact pruned_cut m o a l r (pruned_c l m (by omega)) (pruned_c r m (by omega))

def PrI (p : Pl) (w : World) (e : Ending) (w' : World) : Prop := ∃ s' : Sh, e = .returned (.agg #[.int .i64 s'.o, .int .i64 s'.a, .int .i64 s'.p, .bool s'.t, .slice s'.ka s'.kn s'.kc]) ∧ s'.same (prOut p) ∧ OD 30 w' 256 w.heap.size w'.heap.size s'.kv (prOut p).ks ∧ Below w.heap.size w w'
theorem prI_fin {p : Pl} {t : Tr} {w w1 w2 wf : World} {s' : Sh} (hp : prOut p = prT t) (hs : s'.same (prT t)) (hk : OD 30 w2 256 w1.heap.size w2.heap.size s'.kv (prT t).ks) (hN : w.heap.size + 1 < w1.heap.size) (hb : Below w.heap.size w w2) (hf : Kp (fun q => q = w.heap.size + 1) w2 wf) : PrI p w (.returned (.agg #[.int .i64 s'.o, .int .i64 s'.a, .int .i64 s'.p, .bool s'.t, .slice s'.ka s'.kn s'.kc])) wf := by
  have h1 := hf.size
  refine ⟨s', rfl, by rw [hp]; exact hs, ?_, hb.trans (hf.toBelow hb.size (fun q e => by omega))⟩
  rw [hp]
  exact ((hk.heap (fun q q1 q2 => hf.block q q2 (by omega))).base_le (by omega)).top_le h1

set_option maxHeartbeats 6400000 in
set_option maxRecDepth 100000 in
theorem PrunePlan_c {n : Nat} {p : Pl} {s : Sh} {w : World} (h : PR w.heap.size w n p s) : Calls Try.prog 27 #[.agg #[.int .i64 s.o, .int .i64 s.a, .int .i64 s.p, .bool s.t, .slice s.ka s.kn s.kc]] w (PrI p w) := by
  have hB : Below w.heap.size w ((w.alloc (.cells #[.int .i64 s.o, .int .i64 s.a, .int .i64 s.p, .bool s.t, .slice s.ka s.kn s.kc] 30)).alloc (.cells #[.int .i64 0, .int .i64 0, .int .i64 0, .bool false, .slice none 0 0] 30)) := ((Below.refl _ _).alloc (Nat.le_refl _) _).alloc (by simp) _
  have HB0 := hid hB
  have HP0 := hid (show Blk ((w.alloc (.cells #[.int .i64 s.o, .int .i64 s.a, .int .i64 s.p, .bool s.t, .slice s.ka s.kn s.kc] 30)).alloc (.cells #[.int .i64 0, .int .i64 0, .int .i64 0, .bool false, .slice none 0 0] 30)) w.heap.size #[.int .i64 s.o, .int .i64 s.a, .int .i64 s.p, .bool s.t, .slice s.ka s.kn s.kc] 30 from (Blk.new w _ _).alloc _)
  have HQ0 := hid (show Blk ((w.alloc (.cells #[.int .i64 s.o, .int .i64 s.a, .int .i64 s.p, .bool s.t, .slice s.ka s.kn s.kc] 30)).alloc (.cells #[.int .i64 0, .int .i64 0, .int .i64 0, .bool false, .slice none 0 0] 30)) (w.heap.size + 1) #[.int .i64 0, .int .i64 0, .int .i64 0, .bool false, .slice none 0 0] 30 by have := Blk.new (w.alloc (.cells #[.int .i64 s.o, .int .i64 s.a, .int .i64 s.p, .bool s.t, .slice s.ka s.kn s.kc] 30)) #[.int .i64 0, .int .i64 0, .int .i64 0, .bool false, .slice none 0 0] 30; simpa using this)
  have HP := hid h
  clear h hB
  go_enter Try.func27, Try.ntmps27
  go_wp2_with fail
  refine (PlanSize_c (n := n) (p := p) (s := s) (HP.out.go HB0.out)).mono ?_
  rintro e w1 ⟨rfl, hb⟩
  have HB1 := hid (HB0.out.trans (hb.mono HB0.out.size))
  have HP1 := hid (HP0.out.go hb)
  have HQ1 := hid (HQ0.out.go hb)
  clear hb
  try clear c_P f_P l_P c_Q f_Q l_Q
  have c_P := fun (o : Nat) => HP1.out.cell o
  have f_P := fun (o : Nat) => HP1.out.frz o
  have l_P := HP1.out.lt
  have c_Q := fun (o : Nat) => HQ1.out.cell o
  have f_Q := fun (o : Nat) => HQ1.out.frz o
  have l_Q := HQ1.out.lt
  by_cases hneg : psz p < 0
  · have HV := hid (prOut_neg hneg)
    have d1 : decide (psz p < 0) = true := decide_eq_true hneg
    clear hneg
    have c_F := fun (o : Nat) => (show Blk (((((w1.setCell ⟨w.heap.size + 1, 0, none⟩ (.int .i64 0)).setCell ⟨w.heap.size + 1, 1, none⟩ (.int .i64 0)).setCell ⟨w.heap.size + 1, 2, none⟩ (.int .i64 0)).setCell ⟨w.heap.size + 1, 3, none⟩ (.bool false)).setCell ⟨w.heap.size + 1, 4, none⟩ (.slice none 0 0)) (w.heap.size + 1) #[.int .i64 0, .int .i64 0, .int .i64 0, .bool false, .slice none 0 0] 30 by have := (((((HQ1.out).set 0 (.int .i64 0)).set 1 (.int .i64 0)).set 2 (.int .i64 0)).set 3 (.bool false)).set 4 (.slice none 0 0); simpa using this).cell o
    have hwz : w.heap.size ≤ (((((w1.setCell ⟨w.heap.size + 1, 0, none⟩ (.int .i64 0)).setCell ⟨w.heap.size + 1, 1, none⟩ (.int .i64 0)).setCell ⟨w.heap.size + 1, 2, none⟩ (.int .i64 0)).setCell ⟨w.heap.size + 1, 3, none⟩ (.bool false)).setCell ⟨w.heap.size + 1, 4, none⟩ (.slice none 0 0)).heap.size := by simp; omega
    have HWZ := hid hwz
    clear hwz
    go_wp2
    clear c_Q f_Q
    exact bodyPost_ret (v := .agg #[.int .i64 0, .int .i64 0, .int .i64 0, .bool false, .slice none 0 0]) (by simp [results, Try.results27, go_sem, c_F]) rfl ⟨⟨0, 0, 0, false, none, 0, 0⟩, rfl, by rw [HV.out]; exact ⟨rfl, rfl, rfl, rfl⟩, by rw [HV.out]; exact OD.nil_ _ _ HWZ.out, HB1.out.trans (((((((Kp.refl (fun q => q = w.heap.size + 1) w1).set (q := w.heap.size + 1) (.inl rfl) 0 (.int .i64 0)).set (q := w.heap.size + 1) (.inl rfl) 1 (.int .i64 0)).set (q := w.heap.size + 1) (.inl rfl) 2 (.int .i64 0)).set (q := w.heap.size + 1) (.inl rfl) 3 (.bool false)).set (q := w.heap.size + 1) (.inl rfl) 4 (.slice none 0 0)).toBelow HB1.out.size (fun q e => by omega))⟩
  · obtain ⟨t, hw, hps, hn⟩ := cp_tree (p := p) (room := 255) (by unfold psz at hneg; omega)
    have HV := hid (prOut_some hw hn)
    have HT := hid (HP.out.tr hw)
    have HPC := hid (pruned_c t 256 (by omega))
    have d1 : decide (psz p < 0) = false := decide_eq_false hneg
    clear hneg hw hn hps
    go_wp2_with fail
    refine (HPC.out s _ (HT.out.go HB1.out)).mono ?_
    rintro e w2 ⟨s', rfl, k1, k2, hb⟩
    have HX := hid (And.intro k1 k2)
    have HB2 := hid (HB1.out.trans (hb.mono HB1.out.size))
    have HP2 := hid (HP1.out.go hb)
    have HQ2 := hid (HQ1.out.go hb)
    have hl1 : w.heap.size + 1 < w1.heap.size := l_Q
    clear hb k1 k2
    try clear c_P f_P l_P c_Q f_Q l_Q
    have c_P := fun (o : Nat) => HP2.out.cell o
    have f_P := fun (o : Nat) => HP2.out.frz o
    have l_P := HP2.out.lt
    have c_Q := fun (o : Nat) => HQ2.out.cell o
    have f_Q := fun (o : Nat) => HQ2.out.frz o
    have l_Q := HQ2.out.lt
    have c_F := fun (o : Nat) => (show Blk ((((((w2.setCell ⟨w.heap.size + 1, 0, none⟩ (.int .i64 s'.o)).setCell ⟨w.heap.size + 1, 1, none⟩ (.int .i64 s'.a)).setCell ⟨w.heap.size + 1, 2, none⟩ (.int .i64 s'.p)).setCell ⟨w.heap.size + 1, 3, none⟩ (.bool s'.t)).setCell ⟨w.heap.size + 1, 4, none⟩ (.slice s'.ka s'.kn s'.kc)).alloc (.cells #[.int .i64 s'.o, .int .i64 s'.a, .int .i64 s'.p, .bool s'.t, .slice s'.ka s'.kn s'.kc] 30)) (w.heap.size + 1) #[.int .i64 s'.o, .int .i64 s'.a, .int .i64 s'.p, .bool s'.t, .slice s'.ka s'.kn s'.kc] 30 by have := ((((((HQ2.out).set 0 (.int .i64 s'.o)).set 1 (.int .i64 s'.a)).set 2 (.int .i64 s'.p)).set 3 (.bool s'.t)).set 4 (.slice s'.ka s'.kn s'.kc)).alloc (.cells #[.int .i64 s'.o, .int .i64 s'.a, .int .i64 s'.p, .bool s'.t, .slice s'.ka s'.kn s'.kc] 30); simpa using this).cell o
    go_wp2
    clear c_Q f_Q
    exact bodyPost_ret (v := .agg #[.int .i64 s'.o, .int .i64 s'.a, .int .i64 s'.p, .bool s'.t, .slice s'.ka s'.kn s'.kc]) (by simp [results, Try.results27, go_sem, c_F]) rfl (prI_fin (s' := s') HV.out HX.out.1 HX.out.2 hl1 HB2.out (((((((Kp.refl (fun q => q = w.heap.size + 1) w2).set (q := w.heap.size + 1) (.inl rfl) 0 (.int .i64 s'.o)).set (q := w.heap.size + 1) (.inl rfl) 1 (.int .i64 s'.a)).set (q := w.heap.size + 1) (.inl rfl) 2 (.int .i64 s'.p)).set (q := w.heap.size + 1) (.inl rfl) 3 (.bool s'.t)).set (q := w.heap.size + 1) (.inl rfl) 4 (.slice s'.ka s'.kn s'.kc)).alloc (.cells #[.int .i64 s'.o, .int .i64 s'.a, .int .i64 s'.p, .bool s'.t, .slice s'.ka s'.kn s'.kc] 30)))

end Go.Proofs.Ytafcohmneeabbaa
