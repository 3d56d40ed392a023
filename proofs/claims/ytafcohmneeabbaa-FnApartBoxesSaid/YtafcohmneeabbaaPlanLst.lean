/-
  Contracts: how many pieces must wait (written by a program of mine).
-/
import Derived.Test.YtafcohmneeabbaaPlanStg
namespace Go.Proofs.Ytafcohmneeabbaa
set_option linter.unusedSimpArgs false
set_option linter.unusedVariables false
open Go.RowKit

def lst : Tr → Int
  | .leaf _ _ _ => 0
  | .cut _ _ l r => if lst l = lst r then lst l + 1 else max (lst l) (lst r)
theorem lst_bd : ∀ t : Tr, 0 ≤ lst t ∧ lst t ≤ cuts t
  | .leaf _ _ _ => by simp [lst, cuts]
  | .cut _ _ l r => by
    have h1 := lst_bd l
    have h2 := lst_bd r
    simp only [lst, cuts]
    split <;> omega
abbrev LstS (t : Tr) : Prop := ∀ (s : Sh) (w : World), TR w.heap.size w t s → Calls Try.prog 49 #[.agg #[.int .i64 s.o, .int .i64 s.a, .int .i64 s.p, .bool s.t, .slice s.ka s.kn s.kc]] w fun e w' => e = .returned (.int .i64 (lst t)) ∧ Below w.heap.size w w'

set_option maxHeartbeats 1600000 in
theorem sleast_leaf (o p : Int) (t : Bool) : LstS (.leaf o p t) := by
  intro s w h
  have HB0 := hid (below_pl (o := s.o) (a := s.a) (p := s.p) (t := s.t) (ka := s.ka) (kn := s.kn) (kc := s.kc) (ty := 30) w)
  have HC := hid h.cutF
  clear h
  go_enter Try.func49, Try.ntmps49
  go_wp2_with fail
  refine (sisCut_f s HC.out _).mono ?_
  rintro e w1 ⟨rfl, hb⟩
  have HB1 := hid (HB0.out.trans (hb.mono HB0.out.size))
  clear hb
  go_wp2
  go_ret
  exact ⟨rfl, HB1.out⟩

set_option maxHeartbeats 3200000 in
theorem sleast_cut (o a : Int) (l r : Tr) (ihl : LstS l) (ihr : LstS r) (hn : nodes (.cut o a l r) ≤ 255) : LstS (.cut o a l r) := by
  intro s w h
  have HC := hid h.cutT
  obtain ⟨h1, h2, h3, h4, -, sl, sr, hr, hl, hrr⟩ := h
  obtain ⟨so, sa, sp, st, ka, kn, kc⟩ := s
  simp only at h1 h2 h3 h4
  subst h1; subst h2; subst h3; subst h4
  obtain ⟨rfl, hkc, b1, o1, rfl, hb1, x0, x1, x2, x3, x4, y0, y1, y2, y3, y4⟩ := row_two hr
  have HB0 := hid (below_pl (o := so) (a := sa) (p := 0) (t := false) (ka := some ⟨b1, o1, none⟩) (kn := 2) (kc := kc) (ty := 30) w)
  have HL := hid (fun w1 (hb : Below w.heap.size w w1) => hl.go hb)
  have HR := hid (fun w1 (hb : Below w.heap.size w w1) => hrr.go hb)
  have HIL := hid ihl
  have HIR := hid ihr
  have hbl := lst_bd l
  have hbr := lst_bd r
  have hcs := cuts_small hn
  simp only [cuts] at hcs
  obtain ⟨bl1, bl2⟩ := hbl
  obtain ⟨br1, br2⟩ := hbr
  clear hl hrr hr ihl ihr
  obtain ⟨mx, hmx, emx⟩ : ∃ m, (if lst l < lst r then lst r else lst l) = m ∧ m = max (lst l) (lst r) := ⟨_, rfl, by split <;> omega⟩
  have hcase : ((lst l == lst r) = true ∧ lst (.cut so sa l r) = lst l + 1) ∨ ((lst l == lst r) = false ∧ lst (.cut so sa l r) = mx) := by
    by_cases hab : lst l = lst r
    · exact .inl ⟨by simp [hab], by rw [lst, if_pos hab]⟩
    · exact .inr ⟨by simp [hab], by rw [lst, if_neg hab, emx]⟩
  clear emx
  rcases hcase with ⟨hab, hv⟩ | ⟨hab, hv⟩
  all_goals
    have HV := hid hv
    clear hv
    go_enter Try.func49, Try.ntmps49
    go_wp2_with fail
    refine (sisCut_t ⟨so, sa, 0, false, some ⟨b1, o1, none⟩, 2, kc⟩ HC.out _).mono ?_
    rintro e w1 ⟨rfl, hb⟩
    have HB1 := hid (HB0.out.trans (hb.mono HB0.out.size))
    obtain ⟨hcc, hf, hsz⟩ := bcell hb
    have hz : w.heap.size < w1.heap.size := by simp at hsz; omega
    have hz1 : b1 < w1.heap.size := by omega
    have hz2 : b1 < w.heap.size + 1 := by omega
    clear hb hf
    go_wp2_with fail
    refine (HIL.out sl _ (HL.out _ HB1.out)).mono ?_
    rintro e w2 ⟨rfl, hb⟩
    have HB2 := hid (HB1.out.trans (hb.mono HB1.out.size))
    obtain ⟨hc2, hf2, hs2⟩ := bcell hb
    clear hb hf2
    go_wp2_with fail
    refine (HIR.out sr _ (HR.out _ HB2.out)).mono ?_
    rintro e w3 ⟨rfl, hb⟩
    have HB3 := hid (HB2.out.trans (hb.mono HB2.out.size))
    clear hb hc2 hcc
    go_wp2
    go_ret
    exact ⟨ret_int HV.out.symm, HB3.out⟩

theorem sleast_c : ∀ (t : Tr), nodes t ≤ 255 → LstS t
  | .leaf o p t, _ => sleast_leaf o p t
  | .cut o a l r, h => sleast_cut o a l r (sleast_c l (by simp only [nodes] at h; omega)) (sleast_c r (by simp only [nodes] at h; omega)) h

abbrev LstI (t : Tr) : Prop := ∀ (s : Sh) (w : World), TR w.heap.size w t s → Calls Try.prog 48 #[.agg #[.int .i64 s.o, .int .i64 s.a, .int .i64 s.p, .bool s.t, .slice s.ka s.kn s.kc]] w fun e w' => e = .returned (.int .i64 (lst t)) ∧ Below w.heap.size w w'

set_option maxHeartbeats 1600000 in
theorem tableFor_leaf (o p : Int) (t : Bool) : LstI (.leaf o p t) := by
  intro s w h
  have HB0 := hid (below_pl (o := s.o) (a := s.a) (p := s.p) (t := s.t) (ka := s.ka) (kn := s.kn) (kc := s.kc) (ty := 30) w)
  have HC := hid h.cutF
  clear h
  go_enter Try.func48, Try.ntmps48
  go_wp2_with fail
  refine (isCut_f s HC.out _).mono ?_
  rintro e w1 ⟨rfl, hb⟩
  have HB1 := hid (HB0.out.trans (hb.mono HB0.out.size))
  clear hb
  go_wp2
  go_ret
  exact ⟨rfl, HB1.out⟩

set_option maxHeartbeats 3200000 in
theorem tableFor_cut (o a : Int) (l r : Tr) (ihl : LstI l) (ihr : LstI r) (hn : nodes (.cut o a l r) ≤ 255) : LstI (.cut o a l r) := by
  intro s w h
  have HC := hid h.cutT
  obtain ⟨h1, h2, h3, h4, -, sl, sr, hr, hl, hrr⟩ := h
  obtain ⟨so, sa, sp, st, ka, kn, kc⟩ := s
  simp only at h1 h2 h3 h4
  subst h1; subst h2; subst h3; subst h4
  obtain ⟨rfl, hkc, b1, o1, rfl, hb1, x0, x1, x2, x3, x4, y0, y1, y2, y3, y4⟩ := row_two hr
  have HB0 := hid (below_pl (o := so) (a := sa) (p := 0) (t := false) (ka := some ⟨b1, o1, none⟩) (kn := 2) (kc := kc) (ty := 30) w)
  have HL := hid (fun w1 (hb : Below w.heap.size w w1) => hl.go hb)
  have HR := hid (fun w1 (hb : Below w.heap.size w w1) => hrr.go hb)
  have HIL := hid ihl
  have HIR := hid ihr
  have hbl := lst_bd l
  have hbr := lst_bd r
  have hcs := cuts_small hn
  simp only [cuts] at hcs
  obtain ⟨bl1, bl2⟩ := hbl
  obtain ⟨br1, br2⟩ := hbr
  clear hl hrr hr ihl ihr
  obtain ⟨mx, hmx, emx⟩ : ∃ m, (if lst l < lst r then lst r else lst l) = m ∧ m = max (lst l) (lst r) := ⟨_, rfl, by split <;> omega⟩
  have hcase : ((lst l == lst r) = true ∧ lst (.cut so sa l r) = lst l + 1) ∨ ((lst l == lst r) = false ∧ lst (.cut so sa l r) = mx) := by
    by_cases hab : lst l = lst r
    · exact .inl ⟨by simp [hab], by rw [lst, if_pos hab]⟩
    · exact .inr ⟨by simp [hab], by rw [lst, if_neg hab, emx]⟩
  clear emx
  rcases hcase with ⟨hab, hv⟩ | ⟨hab, hv⟩
  all_goals
    have HV := hid hv
    clear hv
    go_enter Try.func48, Try.ntmps48
    go_wp2_with fail
    refine (isCut_t ⟨so, sa, 0, false, some ⟨b1, o1, none⟩, 2, kc⟩ HC.out _).mono ?_
    rintro e w1 ⟨rfl, hb⟩
    have HB1 := hid (HB0.out.trans (hb.mono HB0.out.size))
    obtain ⟨hcc, hf, hsz⟩ := bcell hb
    have hz : w.heap.size < w1.heap.size := by simp at hsz; omega
    have hz1 : b1 < w1.heap.size := by omega
    have hz2 : b1 < w.heap.size + 1 := by omega
    clear hb hf
    go_wp2
    have ZK := hid ((Below.refl _ _).drew : Below w1.heap.size w1 w1.drew)
    go_region_held3 (fun w' => ∀ b o, b < w1.heap.size → w'.cell? ⟨b, o, none⟩ = w1.cell? ⟨b, o, none⟩) (exact fun b o h => ZK.out.cell (p := ⟨b, o, none⟩) h)
      (first | (go_at_call 48; ((with_reducible refine (HIL.out sl _ (HL.out _ (HB1.out.trans (ZK.out.mono HB1.out.size)))).mono ?_); rintro e wq ⟨rfl, hb⟩; replace ZK := hid (ZK.out.trans (hb.mono ZK.out.size)); clear hb)) | (go_at_call 48; ((with_reducible refine (HIR.out sr _ (HR.out _ (HB1.out.trans (ZK.out.mono HB1.out.size)))).mono ?_); rintro e wq ⟨rfl, hb⟩; replace ZK := hid (ZK.out.trans (hb.mono ZK.out.size)); clear hb)))
    all_goals
      go_wp2
      go_ret
      exact ⟨ret_int HV.out.symm, HB1.out.trans (ZK.out.mono HB1.out.size)⟩

theorem tableFor_c : ∀ (t : Tr), nodes t ≤ 255 → LstI t
  | .leaf o p t, _ => tableFor_leaf o p t
  | .cut o a l r, h => tableFor_cut o a l r (tableFor_c l (by simp only [nodes] at h; omega)) (tableFor_c r (by simp only [nodes] at h; omega)) h

def treeOut (f : Tr → Int) (p : Pl) : Int := match wf p with | some t => if (nodes t : Int) ≤ 255 then f t else -1 | none => -1
theorem treeOut_some {f : Tr → Int} {p : Pl} {t : Tr} (h : wf p = some t) (hn : (nodes t : Int) ≤ 255) : treeOut f p = f t := by simp [treeOut, h, hn]
theorem treeOut_neg {f : Tr → Int} {p : Pl} (h : psz p < 0) : treeOut f p = -1 := by
  unfold treeOut
  unfold psz cp at h
  cases hw : wf p with
  | none => rfl
  | some t =>
    rw [hw] at h
    simp only at h ⊢
    by_cases hn : (nodes t : Int) ≤ 255
    · rw [if_pos hn] at h; omega
    · rw [if_neg hn]

set_option maxHeartbeats 800000 in
theorem sLeastTable_c {n : Nat} {p : Pl} {s : Sh} {w : World} (h : PR w.heap.size w n p s) : Calls Try.prog 23 #[.agg #[.int .i64 s.o, .int .i64 s.a, .int .i64 s.p, .bool s.t, .slice s.ka s.kn s.kc]] w fun e w' => e = .returned (.int .i64 (treeOut lst p)) ∧ Below w.heap.size w w' := by
  have HB0 := hid (below_pl (o := s.o) (a := s.a) (p := s.p) (t := s.t) (ka := s.ka) (kn := s.kn) (kc := s.kc) (ty := 30) w)
  have HP := hid h
  clear h
  by_cases hneg : psz p < 0
  · have HV := hid (treeOut_neg (f := lst) hneg)
    go_enter Try.func23, Try.ntmps23
    go_wp2_with fail
    refine (splanSize_c (n := n) (p := p) (s := s) (HP.out.go HB0.out)).mono ?_
    rintro e w1 ⟨rfl, hb⟩
    have HB1 := hid (HB0.out.trans (hb.mono HB0.out.size))
    clear hb
    go_wp2
    go_ret
    exact ⟨ret_int HV.out.symm, HB1.out⟩
  · obtain ⟨t, hw, -, hn⟩ := cp_tree (p := p) (room := 255) (by unfold psz at hneg; omega)
    have HV := hid (treeOut_some (f := lst) hw hn)
    have HT := hid (sleast_c t (by omega))
    have HR := hid (HP.out.tr hw)
    clear hw hn
    go_enter Try.func23, Try.ntmps23
    go_wp2_with fail
    refine (splanSize_c (n := n) (p := p) (s := s) (HP.out.go HB0.out)).mono ?_
    rintro e w1 ⟨rfl, hb⟩
    have HB1 := hid (HB0.out.trans (hb.mono HB0.out.size))
    obtain ⟨hcc, hf, hsz⟩ := bcell hb
    clear hb hf
    go_wp2_with fail
    refine (HT.out s _ (HR.out.go HB1.out)).mono ?_
    rintro e w2 ⟨rfl, hb⟩
    have HB2 := hid (HB1.out.trans (hb.mono HB1.out.size))
    clear hb hcc
    go_wp2
    go_ret
    exact ⟨ret_int HV.out.symm, HB2.out⟩

set_option maxHeartbeats 800000 in
theorem LeastTable_c {n : Nat} {p : Pl} {s : Sh} {w : World} (h : PR w.heap.size w n p s) : Calls Try.prog 22 #[.agg #[.int .i64 s.o, .int .i64 s.a, .int .i64 s.p, .bool s.t, .slice s.ka s.kn s.kc]] w fun e w' => e = .returned (.int .i64 (treeOut lst p)) ∧ Below w.heap.size w w' := by
  have HB0 := hid (below_pl (o := s.o) (a := s.a) (p := s.p) (t := s.t) (ka := s.ka) (kn := s.kn) (kc := s.kc) (ty := 30) w)
  have HP := hid h
  clear h
  by_cases hneg : psz p < 0
  · have HV := hid (treeOut_neg (f := lst) hneg)
    go_enter Try.func22, Try.ntmps22
    go_wp2_with fail
    refine (PlanSize_c (n := n) (p := p) (s := s) (HP.out.go HB0.out)).mono ?_
    rintro e w1 ⟨rfl, hb⟩
    have HB1 := hid (HB0.out.trans (hb.mono HB0.out.size))
    clear hb
    go_wp2
    go_ret
    exact ⟨ret_int HV.out.symm, HB1.out⟩
  · obtain ⟨t, hw, -, hn⟩ := cp_tree (p := p) (room := 255) (by unfold psz at hneg; omega)
    have HV := hid (treeOut_some (f := lst) hw hn)
    have HT := hid (tableFor_c t (by omega))
    have HR := hid (HP.out.tr hw)
    clear hw hn
    go_enter Try.func22, Try.ntmps22
    go_wp2_with fail
    refine (PlanSize_c (n := n) (p := p) (s := s) (HP.out.go HB0.out)).mono ?_
    rintro e w1 ⟨rfl, hb⟩
    have HB1 := hid (HB0.out.trans (hb.mono HB0.out.size))
    obtain ⟨hcc, hf, hsz⟩ := bcell hb
    clear hb hf
    go_wp2_with fail
    refine (HT.out s _ (HR.out.go HB1.out)).mono ?_
    rintro e w2 ⟨rfl, hb⟩
    have HB2 := hid (HB1.out.trans (hb.mono HB1.out.size))
    clear hb hcc
    go_wp2
    go_ret
    exact ⟨ret_int HV.out.symm, HB2.out⟩

end Go.Proofs.Ytafcohmneeabbaa
