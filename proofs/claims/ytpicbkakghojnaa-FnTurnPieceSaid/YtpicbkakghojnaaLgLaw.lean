/-
  The largest clear box of a piece and of the piece seen from behind have the same area: the plain law.
-/
import Derived.Test.YtpicbkakghojnaaLgst
namespace Go.Proofs.Ytpicbkakghojnaa
set_option linter.unusedSimpArgs false
set_option linter.unusedVariables false
open Go.RowKit

theorem stp_mono (p : Pc) (acc c : Bx) : ar acc ≤ ar (stp p acc c) := by
  unfold stp
  split
  · rename_i h
    rw [Bool.and_eq_true] at h
    have h2 := h.2
    unfold btB at h2
    split at h2
    · simp at h2; omega
    · omega
  · exact Int.le_refl _
theorem stp_ge (p : Pc) (acc c : Bx) (h : caB p c = true) : ar c ≤ ar (stp p acc c) := by
  unfold stp
  split
  · exact Int.le_refl _
  · rename_i h2
    rw [h, Bool.true_and] at h2
    unfold btB at h2
    split at h2
    · simp at h2; omega
    · rename_i h3
      simp at h3
      omega
theorem fold_mono {α : Type} (f : Bx → α → Bx) (hf : ∀ a x, ar a ≤ ar (f a x)) : ∀ (l : List α) (a : Bx), ar a ≤ ar (l.foldl f a)
  | [], a => Int.le_refl _
  | x :: l, a => by rw [List.foldl_cons]; exact Int.le_trans (hf a x) (fold_mono f hf l _)
theorem fold_ge {α : Type} (f : Bx → α → Bx) (hf : ∀ a x, ar a ≤ ar (f a x)) (x : α) (k : Int) (hx : ∀ a, k ≤ ar (f a x)) : ∀ (l : List α) (a : Bx), x ∈ l → k ≤ ar (l.foldl f a)
  | [], a, h => by simp at h
  | y :: l, a, h => by
    rw [List.foldl_cons]
    rcases List.mem_cons.1 h with rfl | h
    · exact Int.le_trans (hx a) (fold_mono f hf l _)
    · exact fold_ge f hf x k hx l _ h
theorem fold_inv {α : Type} (f : Bx → α → Bx) (I : Bx → Prop) : ∀ (l : List α) (a : Bx), (∀ a x, x ∈ l → I a → I (f a x)) → I a → I (l.foldl f a)
  | [], a, _, h => h
  | y :: l, a, hf, h => by
    rw [List.foldl_cons]
    exact fold_inv f I l _ (fun a x hx => hf a x (List.mem_cons_of_mem _ hx)) (hf a y (List.mem_cons_self ..) h)
/-- The boxes that are tried. -/
def Cnd (p : Pc) (c : Bx) : Prop := ∃ x r y t, x ∈ xB p ∧ r ∈ xE p ∧ y ∈ yB p ∧ t ∈ yE p ∧ c = ⟨x, y, r - x, t - y⟩ ∧ caB p c = true
theorem f4_mono (p : Pc) (y t x : Int) (a : Bx) (r : Int) : ar a ≤ ar (f4 p y t x a r) := stp_mono p a _
theorem f3_mono (p : Pc) (y t : Int) (E : List Int) (a : Bx) (x : Int) : ar a ≤ ar (f3 p y t E a x) := fold_mono _ (f4_mono p y t x) E a
theorem f2_mono (p : Pc) (y : Int) (D E : List Int) (a : Bx) (t : Int) : ar a ≤ ar (f2 p y D E a t) := fold_mono _ (f3_mono p y t E) D a
theorem f1_mono (p : Pc) (C D E : List Int) (a : Bx) (y : Int) : ar a ≤ ar (f1 p C D E a y) := fold_mono _ (f2_mono p y D E) C a
theorem lgB_ge {p : Pc} {c : Bx} (h : Cnd p c) : ar c ≤ ar (lgB p) := by
  obtain ⟨x, r, y, t, hx, hr, hy, ht, rfl, hc⟩ := h
  exact fold_ge _ (f1_mono p _ _ _) y _ (fun a => fold_ge _ (f2_mono p y _ _) t _ (fun a => fold_ge _ (f3_mono p y t _) x _ (fun a => fold_ge _ (f4_mono p y t x) r _ (fun a => stp_ge p a _ hc) _ a hr) _ a hx) _ a ht) _ _ hy
theorem lgB_pos (p : Pc) : 0 ≤ ar (lgB p) := by
  have := fold_mono _ (f1_mono p (yE p) (xB p) (xE p)) (yB p) zeroBx
  have e : ar zeroBx = 0 := rfl
  rw [e] at this
  exact this
theorem lgB_in (p : Pc) : lgB p = zeroBx ∨ Cnd p (lgB p) := by
  refine fold_inv _ (fun b => b = zeroBx ∨ Cnd p b) _ _ (fun a y hy ha => ?_) (.inl rfl)
  refine fold_inv _ (fun b => b = zeroBx ∨ Cnd p b) _ _ (fun a t ht ha => ?_) ha
  refine fold_inv _ (fun b => b = zeroBx ∨ Cnd p b) _ _ (fun a x hx ha => ?_) ha
  refine fold_inv _ (fun b => b = zeroBx ∨ Cnd p b) _ _ (fun a r hr ha => ?_) ha
  unfold f4 stp
  split
  · rename_i h
    rw [Bool.and_eq_true] at h
    exact .inr ⟨x, r, y, t, hx, hr, hy, ht, rfl, h.1⟩
  · exact ha

theorem tuB_tuB (W : Int) (b : Bx) : tuB W (tuB W b) = b := by
  obtain ⟨x, y, w, h⟩ := b
  have e : W - (W - x - w) - w = x := by omega
  simp only [tuB, e]
theorem tuB_mt (W : Int) (g b : Bx) : mtB (tuB W g) (tuB W b) = mtB g b := by
  rw [Bool.eq_iff_iff, mtB_iff, mtB_iff]
  unfold Meets
  simp only [meetRaw, tuB]
  omega
theorem tuF_cl (W : Int) (F : List Bx) (b : Bx) : clB (tuF W F) (tuB W b) = clB F b := by
  induction F with
  | nil => rfl
  | cons g F ih =>
    have e : ∀ (g : Bx) (F : List Bx) (b : Bx), clB (g :: F) b = ((!mtB g b) && clB F b) := fun g F b => by simp [clB]
    have e2 : tuF W (g :: F) = tuB W g :: tuF W F := rfl
    rw [e2, e, e, ih, tuB_mt]
theorem tuB_ok {W H : Int} {b : Bx} (hW : W ≤ 200) (h : okF W H b) : okF W H (tuB W b) := by
  unfold okF VB at *
  simp only [tuB]
  omega
theorem tuR_valid {p : Pc} (h : VP p) : VP (tuR p) := by
  rw [tuR_t h]
  refine ⟨h.1, h.2.1, h.2.2.1, by simpa [tuF] using h.2.2.2.1, fun b hb => ?_⟩
  simp only [tuF, List.mem_map] at hb
  obtain ⟨g, hg, rfl⟩ := hb
  exact tuB_ok h.2.1.2 (h.2.2.2.2 g hg)
theorem tuR_tuR {p : Pc} (h : VP p) : tuR (tuR p) = p := by
  rw [tuR_t (tuR_valid h), tuR_t h]
  obtain ⟨l, w, hh, f⟩ := p
  have e : tuF w (tuF w f) = f := by
    simp only [tuF, List.map_map]
    have : (tuB w ∘ tuB w) = id := funext fun b => tuB_tuB w b
    rw [this, List.map_id]
  simp only [e]
theorem Cnd.turn {p : Pc} (hp : VP p) {c : Bx} (h : Cnd p c) : Cnd (tuR p) (tuB p.w c) := by
  obtain ⟨x, r, y, t, hx, hr, hy, ht, rfl, hc⟩ := h
  have hca : caB (tuR p) (tuB p.w ⟨x, y, r - x, t - y⟩) = true := by
    rw [caB, Bool.and_eq_true, Bool.and_eq_true, decide_eq_true_eq] at hc ⊢
    refine ⟨⟨vpB_iff.2 (tuR_valid hp), ?_⟩, ?_⟩
    · rw [tuR_t hp]; exact tuB_ok hp.2.1.2 hc.1.2
    · rw [tuR_t hp]
      simp only
      rw [tuF_cl]; exact hc.2
  refine ⟨p.w - r, p.w - x, y, t, ?_, ?_, ?_, ?_, ?_, hca⟩
  · rw [tuR_t hp]
    simp only [xE, edL, List.mem_cons, List.mem_map] at hr
    simp only [xB, edL, List.mem_cons, List.mem_map, tuF]
    rcases hr with rfl | ⟨g, hg, rfl⟩
    · exact .inl (by omega)
    · exact .inr ⟨tuB p.w g, ⟨g, hg, rfl⟩, by simp only [tuB]; omega⟩
  · rw [tuR_t hp]
    simp only [xB, edL, List.mem_cons, List.mem_map] at hx
    simp only [xE, edL, List.mem_cons, List.mem_map, tuF]
    rcases hx with rfl | ⟨g, hg, rfl⟩
    · exact .inl (by omega)
    · exact .inr ⟨tuB p.w g, ⟨g, hg, rfl⟩, by simp only [tuB]; omega⟩
  · rw [tuR_t hp]
    simp only [yB, edL, List.mem_cons, List.mem_map] at hy
    simp only [yB, edL, List.mem_cons, List.mem_map, tuF]
    rcases hy with rfl | ⟨g, hg, rfl⟩
    · exact .inl rfl
    · exact .inr ⟨tuB p.w g, ⟨g, hg, rfl⟩, rfl⟩
  · rw [tuR_t hp]
    simp only [yE, edL, List.mem_cons, List.mem_map] at ht
    simp only [yE, edL, List.mem_cons, List.mem_map, tuF]
    rcases ht with rfl | ⟨g, hg, rfl⟩
    · exact .inl rfl
    · exact .inr ⟨tuB p.w g, ⟨g, hg, rfl⟩, rfl⟩
  · have e1 : p.w - x - (r - x) = p.w - r := by omega
    have e2 : p.w - x - (p.w - r) = r - x := by omega
    simp only [tuB, e1, e2]
theorem lg_le {p : Pc} (hp : VP p) : ar (lgB p) ≤ ar (lgB (tuR p)) := by
  rcases lgB_in p with h | h
  · rw [h]
    have e : ar zeroBx = 0 := rfl
    rw [e]
    exact lgB_pos _
  · show ar (tuB p.w (lgB p)) ≤ _
    exact lgB_ge (h.turn hp)
theorem lg_area {p : Pc} (hp : VP p) : ar (lgR p) = ar (lgR (tuR p)) := by
  have h1 := lg_le hp
  have h2 := lg_le (tuR_valid hp)
  rw [tuR_tuR hp] at h2
  rw [lgR_t hp, lgR_t (tuR_valid hp)]
  omega
theorem lg_posB {p : Pc} (hp : VP p) : posB (lgR p) = decide (0 < ar (lgR p)) := by
  rw [lgR_t hp]
  rcases lgB_in p with h | ⟨x, r, y, t, -, -, -, -, -, hc⟩
  · rw [h]; rfl
  · rw [caB, Bool.and_eq_true, Bool.and_eq_true, decide_eq_true_eq] at hc
    have hw := hc.1.2.1
    unfold VB at hw
    obtain ⟨a1, a2, a3, -⟩ := hw
    have hv := Int.mul_le_mul a1 a3 (by decide) (by omega)
    unfold posB ar
    rw [decide_eq_decide]
    omega
theorem lg_pos {p : Pc} (hp : VP p) : posB (lgR p) = posB (lgR (tuR p)) := by rw [lg_posB hp, lg_posB (tuR_valid hp), lg_area hp]
theorem lgR_sB (p : Pc) : sB (lgR p) := by
  by_cases hp : VP p
  · rw [lgR_t hp]
    rcases lgB_in p with h | ⟨x, r, y, t, -, -, -, -, -, hc⟩
    · rw [h]; unfold sB zeroBx; simp only; omega
    · exact caB_sB hc
  · rw [lgR_f hp]; unfold sB zeroBx; simp only; omega

end Go.Proofs.Ytpicbkakghojnaa
