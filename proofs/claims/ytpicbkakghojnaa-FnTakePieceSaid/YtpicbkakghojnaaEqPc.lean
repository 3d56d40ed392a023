/-
  Contracts: equal boxes, equal pieces; parts of parts, in plain words.
-/
import Derived.Test.YtpicbkakghojnaaDrDrB
import Derived.Test.YtpicbkakghojnaaPcAt
namespace Go.Proofs.Ytpicbkakghojnaa
set_option linter.unusedSimpArgs false
set_option linter.unusedVariables false
open Go.RowKit

set_option maxHeartbeats 1600000 in
theorem equalBoxes_c (v1 v2 : Value) (L : List Bx) (w : World) (h1 : Row boxE w v1 L) (h2 : Row boxE w v2 L) : Calls Try.prog 75 #[v1, v2] w fun e w' => e = .returned (.bool true) ∧ Below w.heap.size w w' := by
  obtain ⟨A1, c1, rfl, hc1, hm1⟩ := h1.form
  obtain ⟨A2, c2, rfl, hc2, hm2⟩ := h2.form
  unfold maxLen at hm1 hm2
  have hlb : ((L.length : Int) != (L.length : Int)) = false := by simp
  go_enter Try.func75, Try.ntmps75
  go_wp2
  go_loopw [5] (fun i wr => ∃ k : Nat, i = .int .i64 k ∧ k ≤ L.length ∧ Below w.heap.size w wr) (fun i _ => L.length - (intOf i).toNat)
  case atStart => exact ⟨0, rfl, by omega, Below.refl _ _⟩
  case round =>
    obtain ⟨k, rfl, hk, hb⟩ := hrel
    by_cases hlt : k < L.length
    · obtain ⟨b1, o1, rfl, -, hx⟩ := row_boxs (h1.below hb) (by omega)
      obtain ⟨b2, o2, rfl, -, hy⟩ := row_boxs (h2.below hb) (by omega)
      obtain ⟨hx0, hx1, hx2, hx3⟩ := hx k hlt
      obtain ⟨hy0, hy1, hy2, hy3⟩ := hy k hlt
      have HB := hid hb
      clear hx hy h1 h2 hb
      go_wp2
      go_quiet (fail)
      go_wp2
      exact ⟨⟨k + 1, by go_num, by omega, below_drewN HB.out _⟩, by simp [intOf]; omega⟩
    · have HB := hid hb
      clear hb
      go_wp2
      go_ret
      exact ⟨rfl, HB.out⟩

set_option maxHeartbeats 1600000 in
theorem equalPiece_c (p : Pc) (s1 s2 : Ps) (w : World) (h1 : PvR w.heap.size w p s1) (h2 : PvR w.heap.size w p s2) : Calls Try.prog 43 #[.agg #[.int .i64 s1.l, .int .i64 s1.w, .int .i64 s1.h, .slice s1.ka s1.kn s1.kc], .agg #[.int .i64 s2.l, .int .i64 s2.w, .int .i64 s2.h, .slice s2.ka s2.kn s2.kc]] w fun e w' => e = .returned (.bool true) ∧ Below w.heap.size w w' := by
  have HB0 := hid ((below_ps (l := s1.l) (x := s1.w) (y := s1.h) (ka := s1.ka) (kn := s1.kn) (kc := s1.kc) (ty := 31) w).alloc (by simp) (.cells #[.int .i64 s2.l, .int .i64 s2.w, .int .i64 s2.h, .slice s2.ka s2.kn s2.kc] 31))
  have H1 := hid (h1.2.go HB0.out)
  have H2 := hid (h2.2.go HB0.out)
  obtain ⟨a1, a2, a3⟩ := h1.1
  obtain ⟨b1, b2, b3⟩ := h2.1
  have g1 : (s1.l == s2.l) = true := by rw [a1, b1]; simp
  have g2 : (s1.w == s2.w) = true := by rw [a2, b2]; simp
  have g3 : (s1.h == s2.h) = true := by rw [a3, b3]; simp
  clear h1 h2 a1 a2 a3 b1 b2 b3
  go_enter Try.func43, Try.ntmps43
  go_wp2_with fail
  refine (equalBoxes_c _ _ p.f _ H1.out H2.out).mono ?_
  rintro e w2 ⟨rfl, hb⟩
  have HB2 := hid (HB0.out.trans (hb.mono HB0.out.size))
  clear hb
  go_wp2
  go_ret
  exact ⟨rfl, HB2.out⟩

/-- The inner part of a part, and where it lies in the whole. -/
def cIn (b : Bx) : Bx := ⟨b.w / 3, b.h / 4, b.w - b.w / 3, b.h - b.h / 4⟩
def dIn (b : Bx) : Bx := ⟨b.x + b.w / 3, b.y + b.h / 4, b.w - b.w / 3, b.h - b.h / 4⟩

theorem coF_cons (g : Bx) (F : List Bx) (b : Bx) : coF (g :: F) b = opt (mtB g b = true) (shB (meetRaw g b) b) ++ coF F b := by simp [coF]
theorem coF_app (F G : List Bx) (b : Bx) : coF (F ++ G) b = coF F b ++ coF G b := by simp [coF]

theorem cut_cut_one (g b : Bx) (hb1 : 1 ≤ b.w) (hb2 : 1 ≤ b.h) : coF (opt (mtB g b = true) (shB (meetRaw g b) b)) (cIn b) = opt (mtB g (dIn b) = true) (shB (meetRaw g (dIn b)) (dIn b)) := by
  by_cases h1 : mtB g b = true
  · rw [opt_t h1, coF_cons]
    have e0 : coF [] (cIn b) = [] := rfl
    rw [e0, List.append_nil]
    have hm : mtB (shB (meetRaw g b) b) (cIn b) = mtB g (dIn b) := by
      rw [Bool.eq_iff_iff, mtB_iff, mtB_iff]
      rw [mtB_iff] at h1
      unfold Meets at *
      simp only [shB, meetRaw, cIn, dIn]
      omega
    by_cases h2 : mtB g (dIn b) = true
    · rw [opt_t h2, opt_t (hm.trans h2)]
      congr 1
      rw [mtB_iff] at h1 h2
      unfold Meets at *
      simp only [shB, meetRaw, cIn, dIn, Bx.mk.injEq] at *
      omega
    · rw [opt_f h2, opt_f (by rw [hm]; exact h2)]
  · rw [opt_f h1]
    have h2 : ¬ mtB g (dIn b) = true := by
      rw [mtB_iff] at *
      unfold Meets at *
      simp only [meetRaw, dIn] at *
      omega
    rw [opt_f h2]
    rfl
theorem cut_cut (F : List Bx) (b : Bx) (hb1 : 1 ≤ b.w) (hb2 : 1 ≤ b.h) : coF (coF F b) (cIn b) = coF F (dIn b) := by
  induction F with
  | nil => rfl
  | cons g F ih => rw [coF_cons, coF_app, ih, cut_cut_one g b hb1 hb2, coF_cons]
theorem cut_all (F : List Bx) (W H : Int) (h : ∀ g ∈ F, okF W H g) : coF F ⟨0, 0, W, H⟩ = F := by
  induction F with
  | nil => rfl
  | cons g F ih =>
    have hg := h g (by simp)
    rw [coF_cons, ih (fun x hx => h x (by simp [hx]))]
    unfold okF VB at hg
    obtain ⟨gx, gy, gw, gh⟩ := g
    simp only at hg
    have hm : mtB ⟨gx, gy, gw, gh⟩ ⟨0, 0, W, H⟩ = true := by
      rw [mtB_iff]; unfold Meets; simp only [meetRaw]; omega
    rw [opt_t hm]
    have e : shB (meetRaw ⟨gx, gy, gw, gh⟩ ⟨0, 0, W, H⟩) ⟨0, 0, W, H⟩ = ⟨gx, gy, gw, gh⟩ := by
      simp only [shB, meetRaw, Bx.mk.injEq]; omega
    rw [e]
    rfl
theorem coF_ok (F : List Bx) (b : Bx) (W H : Int) (hF : ∀ g ∈ F, okF W H g) (hb : okF W H b) : ∀ g ∈ coF F b, okF b.w b.h g := by
  intro g hg
  rw [coF, List.mem_flatMap] at hg
  obtain ⟨x, hx, hgx⟩ := hg
  have ho := hF x hx
  unfold opt at hgx
  split at hgx
  · rename_i hm
    rw [mtB_iff] at hm
    simp only [List.mem_singleton] at hgx
    subst hgx
    unfold okF VB at *
    unfold Meets at hm
    simp only [shB, meetRaw] at *
    omega
  · simp at hgx
theorem coR_valid {p : Pc} {b : Bx} {l : Int} (h : coOk p b l) : VP (coR p b l) := by
  rw [coR_t h]
  obtain ⟨hp, hb, hl⟩ := h
  have hb' := hb
  unfold okF VB at hb'
  refine ⟨hl, ⟨by simp only; omega, by simp only; omega⟩, ⟨by simp only; omega, by simp only; omega⟩, Nat.le_trans (coF_len _ _) hp.2.2.2.1, coF_ok _ _ p.w p.h hp.2.2.2.2 hb⟩
theorem coR_coR {p : Pc} {b : Bx} {l : Int} (h : coOk p b l) : coR (coR p b l) (cIn b) l = coR p (dIn b) l := by
  have hv := coR_valid h
  have hb' := h.2.1
  unfold okF VB at hb'
  have h1 : coOk (coR p b l) (cIn b) l := by
    refine ⟨hv, ?_, h.2.2⟩
    rw [coR_t h]
    unfold okF VB cIn
    simp only
    omega
  have h2 : coOk p (dIn b) l := by
    refine ⟨h.1, ?_, h.2.2⟩
    unfold okF VB dIn
    simp only
    omega
  rw [coR_t h1, coR_t h2, coR_t h]
  simp only [cut_cut p.f b (by omega) (by omega)]
  rfl
theorem coR_self {p : Pc} (h : VP p) : coR p ⟨0, 0, p.w, p.h⟩ p.l = p := by
  have h1 : coOk p ⟨0, 0, p.w, p.h⟩ p.l := by
    obtain ⟨a, ⟨b1, b2⟩, ⟨c1, c2⟩, -⟩ := id h
    refine ⟨h, ?_, a⟩
    unfold okF VB
    simp only
    omega
  rw [coR_t h1, cut_all p.f p.w p.h h.2.2.2.2]
theorem coR_w {p : Pc} {b : Bx} {l : Int} : ((coR p b l).w = 0) ↔ ¬ coOk p b l := by
  constructor
  · intro h1 h
    rw [coR_t h] at h1
    have hb' := h.2.1
    unfold okF VB at hb'
    simp only at h1
    omega
  · intro h
    rw [coR_f h]
    rfl

end Go.Proofs.Ytpicbkakghojnaa
