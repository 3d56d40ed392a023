/-
  Contracts: stages of a plan.
-/
import Derived.Test.YtafcohmneeabbaaPlanSz
import Derived.Deep.RegionHeld3
namespace Go.Proofs.Ytafcohmneeabbaa
set_option linter.unusedSimpArgs false
set_option linter.unusedVariables false
open Go.RowKit

def stg : Tr → Int → Int
  | .leaf _ _ _, _ => 0
  | .cut o _ l r, above => max (stg l o) (stg r o) + if o = above then 0 else 1
theorem stg_bd : ∀ (t : Tr) (above : Int), 0 ≤ stg t above ∧ stg t above ≤ cuts t
  | .leaf _ _ _, _ => by simp [stg, cuts]
  | .cut o _ l r, above => by
    have h1 := stg_bd l o
    have h2 := stg_bd r o
    simp only [stg, cuts]
    split <;> omega
theorem cuts_small {t : Tr} (h : nodes t ≤ 255) : cuts t ≤ 127 := by have := nodes_cuts t; omega

/-- The part s of the tree t: is it a cut? -/
theorem TR.cutF {B : Nat} {w : World} {o p : Int} {t : Bool} {s : Sh} (h : TR B w (.leaf o p t) s) : cutB s.o = false := by
  obtain ⟨h1, _, _, _, _, h2, _⟩ := h
  rw [h1]; exact h2
theorem TR.cutT {B : Nat} {w : World} {o a : Int} {l r : Tr} {s : Sh} (h : TR B w (.cut o a l r) s) : cutB s.o = true := by
  obtain ⟨h1, _, _, _, h2, _⟩ := h
  rw [h1]; exact h2
theorem sisCut_f (s : Sh) (h : cutB s.o = false) (w : World) : Calls Try.prog 69 #[.agg #[.int .i64 s.o, .int .i64 s.a, .int .i64 s.p, .bool s.t, .slice s.ka s.kn s.kc]] w fun e w' => e = .returned (.bool false) ∧ Below w.heap.size w w' := by
  have := sisCut_c s w
  rwa [h] at this
theorem sisCut_t (s : Sh) (h : cutB s.o = true) (w : World) : Calls Try.prog 69 #[.agg #[.int .i64 s.o, .int .i64 s.a, .int .i64 s.p, .bool s.t, .slice s.ka s.kn s.kc]] w fun e w' => e = .returned (.bool true) ∧ Below w.heap.size w w' := by
  have := sisCut_c s w
  rwa [h] at this
theorem isCut_f (s : Sh) (h : cutB s.o = false) (w : World) : Calls Try.prog 70 #[.agg #[.int .i64 s.o, .int .i64 s.a, .int .i64 s.p, .bool s.t, .slice s.ka s.kn s.kc]] w fun e w' => e = .returned (.bool false) ∧ Below w.heap.size w w' := by
  have := isCut_c s w
  rwa [h] at this
theorem isCut_t (s : Sh) (h : cutB s.o = true) (w : World) : Calls Try.prog 70 #[.agg #[.int .i64 s.o, .int .i64 s.a, .int .i64 s.p, .bool s.t, .slice s.ka s.kn s.kc]] w fun e w' => e = .returned (.bool true) ∧ Below w.heap.size w w' := by
  have := isCut_c s w
  rwa [h] at this

abbrev StgS (t : Tr) : Prop := ∀ (s : Sh) (above : Int) (w : World), TR w.heap.size w t s → Calls Try.prog 47 #[.agg #[.int .i64 s.o, .int .i64 s.a, .int .i64 s.p, .bool s.t, .slice s.ka s.kn s.kc], .int .i64 above] w fun e w' => e = .returned (.int .i64 (stg t above)) ∧ Below w.heap.size w w'

set_option maxHeartbeats 1600000 in
theorem sstagesOf_leaf (o p : Int) (t : Bool) : StgS (.leaf o p t) := by
  intro s above w h
  have HB0 := hid (below_pl (o := s.o) (a := s.a) (p := s.p) (t := s.t) (ka := s.ka) (kn := s.kn) (kc := s.kc) (ty := 30) w)
  have HC := hid h.cutF
  clear h
  go_enter Try.func47, Try.ntmps47
  go_wp2_with fail
  refine (sisCut_f s HC.out _).mono ?_
  rintro e w1 ⟨rfl, hb⟩
  have HB1 := hid (HB0.out.trans (hb.mono HB0.out.size))
  clear hb
  go_wp2
  go_ret
  exact ⟨rfl, HB1.out⟩

set_option maxHeartbeats 3200000 in
theorem sstagesOf_cut (o a : Int) (l r : Tr) (ihl : StgS l) (ihr : StgS r) (hn : nodes (.cut o a l r) ≤ 255) : StgS (.cut o a l r) := by
  intro s above w h
  have HC := hid h.cutT
  obtain ⟨h1, h2, h3, h4, -, sl, sr, hr, hl, hrr⟩ := h
  obtain ⟨so, sa, sp, st, ka, kn, kc⟩ := s
  simp only at h1 h2 h3 h4
  subst h1; subst h2; subst h3; subst h4
  obtain ⟨rfl, hkc, b1, o1, rfl, hb1, x0, x1, x2, x3, x4, y0, y1, y2, y3, y4⟩ := row_two hr
  have HB0 := hid (below_pl (o := so) (a := sa) (p := 0) (t := false) (ka := some ⟨b1, o1, none⟩) (kn := 2) (kc := kc) (ty := 30) w)
  have HL := hid (fun w1 (hb : Below w.heap.size w w1) => hl.go hb)
  have HR := hid (fun w1 (hb : Below w.heap.size w w1) => hrr.go hb)
  have HIL := hid ihl
  have HIR := hid ihr
  have hbl := stg_bd l so
  have hbr := stg_bd r so
  have hcs := cuts_small hn
  simp only [cuts] at hcs
  obtain ⟨bl1, bl2⟩ := hbl
  obtain ⟨br1, br2⟩ := hbr
  clear hl hrr hr ihl ihr
  obtain ⟨mx, hmx, emx⟩ : ∃ m, (if stg l so < stg r so then stg r so else stg l so) = m ∧ m = max (stg l so) (stg r so) := ⟨_, rfl, by split <;> omega⟩
  have HE : Hid (stg (.cut so sa l r) above = mx + if so = above then 0 else 1) := by rw [Hid, stg, emx]
  have hm1 : 0 ≤ mx := by omega
  have hm2 : mx ≤ 127 := by omega
  clear emx
  have hcase : ((so != above) = false ∧ stg (.cut so sa l r) above = mx) ∨ ((so != above) = true ∧ stg (.cut so sa l r) above = mx + 1) := by
    by_cases hab : so = above
    · exact .inl ⟨by simp [hab], by rw [HE.out, if_pos hab]; omega⟩
    · exact .inr ⟨by simp [hab], by rw [HE.out, if_neg hab]⟩
  rcases hcase with ⟨hab, hv⟩ | ⟨hab, hv⟩
  all_goals
    have HV := hid hv
    clear hv
    go_enter Try.func47, Try.ntmps47
    go_wp2_with fail
    refine (sisCut_t ⟨so, sa, 0, false, some ⟨b1, o1, none⟩, 2, kc⟩ HC.out _).mono ?_
    rintro e w1 ⟨rfl, hb⟩
    have HB1 := hid (HB0.out.trans (hb.mono HB0.out.size))
    obtain ⟨hcc, hf, hsz⟩ := bcell hb
    have hz : w.heap.size < w1.heap.size := by simp at hsz; omega
    have hz1 : b1 < w1.heap.size := by omega
    have hz2 : b1 < w.heap.size + 1 := by omega
    clear hb hf
    go_wp2
    have ZK := hid ((Below.refl _ _).drew : Below w1.heap.size w1 w1.drew)
    go_region_held3 (fun w' => ∀ b o, b < w1.heap.size → w'.cell? ⟨b, o, none⟩ = w1.cell? ⟨b, o, none⟩) (exact fun b o h => ZK.out.cell (p := ⟨b, o, none⟩) h)
      (first | (go_at_call 47; ((with_reducible refine (HIL.out sl so _ (HL.out _ (HB1.out.trans (ZK.out.mono HB1.out.size)))).mono ?_); rintro e wq ⟨rfl, hb⟩; replace ZK := hid (ZK.out.trans (hb.mono ZK.out.size)); clear hb)) | (go_at_call 47; ((with_reducible refine (HIR.out sr so _ (HR.out _ (HB1.out.trans (ZK.out.mono HB1.out.size)))).mono ?_); rintro e wq ⟨rfl, hb⟩; replace ZK := hid (ZK.out.trans (hb.mono ZK.out.size)); clear hb)))
    all_goals
      go_wp2
      go_ret
      exact ⟨ret_int HV.out.symm, HB1.out.trans (ZK.out.mono HB1.out.size)⟩

theorem sstagesOf_c : ∀ (t : Tr), nodes t ≤ 255 → StgS t
  | .leaf o p t, _ => sstagesOf_leaf o p t
  | .cut o a l r, h => sstagesOf_cut o a l r (sstagesOf_c l (by simp only [nodes] at h; omega)) (sstagesOf_c r (by simp only [nodes] at h; omega)) h

abbrev StgI (t : Tr) : Prop := ∀ (s : Sh) (above : Int) (w : World), TR w.heap.size w t s → Calls Try.prog 46 #[.agg #[.int .i64 s.o, .int .i64 s.a, .int .i64 s.p, .bool s.t, .slice s.ka s.kn s.kc], .int .i64 above] w fun e w' => e = .returned (.int .i64 (stg t above)) ∧ Below w.heap.size w w'

set_option maxHeartbeats 1600000 in
theorem stagesBelow_leaf (o p : Int) (t : Bool) : StgI (.leaf o p t) := by
  intro s above w h
  have HB0 := hid (below_pl (o := s.o) (a := s.a) (p := s.p) (t := s.t) (ka := s.ka) (kn := s.kn) (kc := s.kc) (ty := 30) w)
  have HC := hid h.cutF
  clear h
  go_enter Try.func46, Try.ntmps46
  go_wp2_with fail
  refine (isCut_f s HC.out _).mono ?_
  rintro e w1 ⟨rfl, hb⟩
  have HB1 := hid (HB0.out.trans (hb.mono HB0.out.size))
  clear hb
  go_wp2
  go_ret
  exact ⟨rfl, HB1.out⟩

set_option maxHeartbeats 3200000 in
theorem stagesBelow_cut (o a : Int) (l r : Tr) (ihl : StgI l) (ihr : StgI r) (hn : nodes (.cut o a l r) ≤ 255) : StgI (.cut o a l r) := by
  intro s above w h
  have HC := hid h.cutT
  obtain ⟨h1, h2, h3, h4, -, sl, sr, hr, hl, hrr⟩ := h
  obtain ⟨so, sa, sp, st, ka, kn, kc⟩ := s
  simp only at h1 h2 h3 h4
  subst h1; subst h2; subst h3; subst h4
  obtain ⟨rfl, hkc, b1, o1, rfl, hb1, x0, x1, x2, x3, x4, y0, y1, y2, y3, y4⟩ := row_two hr
  have HB0 := hid (below_pl (o := so) (a := sa) (p := 0) (t := false) (ka := some ⟨b1, o1, none⟩) (kn := 2) (kc := kc) (ty := 30) w)
  have HL := hid (fun w1 (hb : Below w.heap.size w w1) => hl.go hb)
  have HR := hid (fun w1 (hb : Below w.heap.size w w1) => hrr.go hb)
  have HIL := hid ihl
  have HIR := hid ihr
  have hbl := stg_bd l so
  have hbr := stg_bd r so
  have hcs := cuts_small hn
  simp only [cuts] at hcs
  obtain ⟨bl1, bl2⟩ := hbl
  obtain ⟨br1, br2⟩ := hbr
  clear hl hrr hr ihl ihr
  obtain ⟨mx, hmx, emx⟩ : ∃ m, (if stg l so < stg r so then stg r so else stg l so) = m ∧ m = max (stg l so) (stg r so) := ⟨_, rfl, by split <;> omega⟩
  have HE : Hid (stg (.cut so sa l r) above = mx + if so = above then 0 else 1) := by rw [Hid, stg, emx]
  have hm1 : 0 ≤ mx := by omega
  have hm2 : mx ≤ 127 := by omega
  clear emx
  have hcase : ((so != above) = false ∧ stg (.cut so sa l r) above = mx) ∨ ((so != above) = true ∧ stg (.cut so sa l r) above = mx + 1) := by
    by_cases hab : so = above
    · exact .inl ⟨by simp [hab], by rw [HE.out, if_pos hab]; omega⟩
    · exact .inr ⟨by simp [hab], by rw [HE.out, if_neg hab]⟩
  rcases hcase with ⟨hab, hv⟩ | ⟨hab, hv⟩
  all_goals
    have HV := hid hv
    clear hv
    go_enter Try.func46, Try.ntmps46
    go_wp2_with fail
    refine (isCut_t ⟨so, sa, 0, false, some ⟨b1, o1, none⟩, 2, kc⟩ HC.out _).mono ?_
    rintro e w1 ⟨rfl, hb⟩
    have HB1 := hid (HB0.out.trans (hb.mono HB0.out.size))
    obtain ⟨hcc, hf, hsz⟩ := bcell hb
    have hz : w.heap.size < w1.heap.size := by simp at hsz; omega
    have hz1 : b1 < w1.heap.size := by omega
    have hz2 : b1 < w.heap.size + 1 := by omega
    clear hb hf
    go_wp2
    have ZK := hid ((Below.refl _ _).drew : Below w1.heap.size w1 w1.drew)
    go_region_held3 (fun w' => ∀ b o, b < w1.heap.size → w'.cell? ⟨b, o, none⟩ = w1.cell? ⟨b, o, none⟩) (exact fun b o h => ZK.out.cell (p := ⟨b, o, none⟩) h)
      (first | (go_at_call 46; ((with_reducible refine (HIL.out sl so _ (HL.out _ (HB1.out.trans (ZK.out.mono HB1.out.size)))).mono ?_); rintro e wq ⟨rfl, hb⟩; replace ZK := hid (ZK.out.trans (hb.mono ZK.out.size)); clear hb)) | (go_at_call 46; ((with_reducible refine (HIR.out sr so _ (HR.out _ (HB1.out.trans (ZK.out.mono HB1.out.size)))).mono ?_); rintro e wq ⟨rfl, hb⟩; replace ZK := hid (ZK.out.trans (hb.mono ZK.out.size)); clear hb)))
    all_goals
      go_wp2
      go_ret
      exact ⟨ret_int HV.out.symm, HB1.out.trans (ZK.out.mono HB1.out.size)⟩

theorem stagesBelow_c : ∀ (t : Tr), nodes t ≤ 255 → StgI t
  | .leaf o p t, _ => stagesBelow_leaf o p t
  | .cut o a l r, h => stagesBelow_cut o a l r (stagesBelow_c l (by simp only [nodes] at h; omega)) (stagesBelow_c r (by simp only [nodes] at h; omega)) h


theorem stg_root (t : Tr) (h : nodes t ≤ 255) {p : Pl} (hw : wf p = some t) : stg t 0 = stg t (-1) := by
  have key : ∀ (t : Tr) (p : Pl), wf p = some t → ∀ x y : Int, cutB x = false → cutB y = false → stg t x = stg t y := by
    intro t p hp x y hx hy
    cases t with
    | leaf o p t => rfl
    | cut o a l r =>
      have hc : cutB o = true := by
        obtain ⟨o', a', p', t', ks⟩ := p
        by_cases hc : cutB o' = true
        · by_cases hb : ks.length ≠ 2 ∨ p' ≠ 0 ∨ t' = true
          · rw [wf_cut_bad hc _ _ _ _ hb] at hp; cases hp
          · simp only [not_or, Decidable.not_not, Bool.not_eq_true] at hb
            obtain ⟨e1, rfl, rfl⟩ := hb
            match ks, e1 with
            | [l', r'], _ =>
              rw [wf_cut2 hc] at hp
              split at hp
              · simp only [Option.some.injEq, Tr.cut.injEq] at hp
                rw [← hp.1]; exact hc
              · cases hp
        · have hc' : cutB o' = false := by simpa using hc
          rw [wf_eq, if_neg hc] at hp
          split at hp
          · cases hp
          · cases hp
      simp only [stg]
      rw [if_neg, if_neg]
      · rintro rfl; rw [hc] at hy; cases hy
      · rintro rfl; rw [hc] at hx; cases hx
  exact key t p hw 0 (-1) rfl rfl

def stgOut (p : Pl) : Int := match wf p with | some t => if (nodes t : Int) ≤ 255 then stg t 0 else -1 | none => -1
theorem stgOut_some {p : Pl} {t : Tr} (h : wf p = some t) (hn : (nodes t : Int) ≤ 255) : stgOut p = stg t 0 := by simp [stgOut, h, hn]
theorem stgOut_neg {p : Pl} (h : psz p < 0) : stgOut p = -1 := by
  unfold stgOut
  unfold psz cp at h
  cases hw : wf p with
  | none => rfl
  | some t =>
    rw [hw] at h
    simp only at h ⊢
    by_cases hn : (nodes t : Int) ≤ 255
    · rw [if_pos hn] at h; omega
    · rw [if_neg hn]

set_option maxHeartbeats 800000 in
theorem sStagesOf_c {n : Nat} {p : Pl} {s : Sh} {w : World} (h : PR w.heap.size w n p s) : Calls Try.prog 20 #[.agg #[.int .i64 s.o, .int .i64 s.a, .int .i64 s.p, .bool s.t, .slice s.ka s.kn s.kc]] w fun e w' => e = .returned (.int .i64 (stgOut p)) ∧ Below w.heap.size w w' := by
  have HB0 := hid (below_pl (o := s.o) (a := s.a) (p := s.p) (t := s.t) (ka := s.ka) (kn := s.kn) (kc := s.kc) (ty := 30) w)
  have HP := hid h
  clear h
  by_cases hneg : psz p < 0
  · have HV := hid (stgOut_neg hneg)
    go_enter Try.func20, Try.ntmps20
    go_wp2_with fail
    refine (splanSize_c (n := n) (p := p) (s := s) (HP.out.go HB0.out)).mono ?_
    rintro e w1 ⟨rfl, hb⟩
    have HB1 := hid (HB0.out.trans (hb.mono HB0.out.size))
    clear hb
    go_wp2
    go_ret
    exact ⟨ret_int HV.out.symm, HB1.out⟩
  · obtain ⟨t, hw, -, hn⟩ := cp_tree (p := p) (room := 255) (by unfold psz at hneg; omega)
    have HV : Hid (stgOut p = stg t (-1)) := by rw [Hid, stgOut_some hw hn, stg_root t (by omega) hw]
    have HT := hid (sstagesOf_c t (by omega))
    have HR := hid (HP.out.tr hw)
    clear hw hn
    go_enter Try.func20, Try.ntmps20
    go_wp2_with fail
    refine (splanSize_c (n := n) (p := p) (s := s) (HP.out.go HB0.out)).mono ?_
    rintro e w1 ⟨rfl, hb⟩
    have HB1 := hid (HB0.out.trans (hb.mono HB0.out.size))
    obtain ⟨hcc, hf, hsz⟩ := bcell hb
    clear hb hf
    go_wp2_with fail
    refine (HT.out s (-1) _ (HR.out.go HB1.out)).mono ?_
    rintro e w2 ⟨rfl, hb⟩
    have HB2 := hid (HB1.out.trans (hb.mono HB1.out.size))
    clear hb hcc
    go_wp2
    go_ret
    exact ⟨ret_int HV.out.symm, HB2.out⟩

set_option maxHeartbeats 800000 in
theorem StagesOf_c {n : Nat} {p : Pl} {s : Sh} {w : World} (h : PR w.heap.size w n p s) : Calls Try.prog 19 #[.agg #[.int .i64 s.o, .int .i64 s.a, .int .i64 s.p, .bool s.t, .slice s.ka s.kn s.kc]] w fun e w' => e = .returned (.int .i64 (stgOut p)) ∧ Below w.heap.size w w' := by
  have HB0 := hid (below_pl (o := s.o) (a := s.a) (p := s.p) (t := s.t) (ka := s.ka) (kn := s.kn) (kc := s.kc) (ty := 30) w)
  have HP := hid h
  clear h
  by_cases hneg : psz p < 0
  · have HV := hid (stgOut_neg hneg)
    go_enter Try.func19, Try.ntmps19
    go_wp2_with fail
    refine (PlanSize_c (n := n) (p := p) (s := s) (HP.out.go HB0.out)).mono ?_
    rintro e w1 ⟨rfl, hb⟩
    have HB1 := hid (HB0.out.trans (hb.mono HB0.out.size))
    clear hb
    go_wp2
    go_ret
    exact ⟨ret_int HV.out.symm, HB1.out⟩
  · obtain ⟨t, hw, -, hn⟩ := cp_tree (p := p) (room := 255) (by unfold psz at hneg; omega)
    have HV := hid (stgOut_some hw hn)
    have HT := hid (stagesBelow_c t (by omega))
    have HR := hid (HP.out.tr hw)
    clear hw hn
    go_enter Try.func19, Try.ntmps19
    go_wp2_with fail
    refine (PlanSize_c (n := n) (p := p) (s := s) (HP.out.go HB0.out)).mono ?_
    rintro e w1 ⟨rfl, hb⟩
    have HB1 := hid (HB0.out.trans (hb.mono HB0.out.size))
    obtain ⟨hcc, hf, hsz⟩ := bcell hb
    clear hb hf
    go_wp2_with fail
    refine (HT.out s 0 _ (HR.out.go HB1.out)).mono ?_
    rintro e w2 ⟨rfl, hb⟩
    have HB2 := hid (HB1.out.trans (hb.mono HB1.out.size))
    clear hb hcc
    go_wp2
    go_ret
    exact ⟨ret_int HV.out.symm, HB2.out⟩

end Go.Proofs.Ytafcohmneeabbaa
