/-
  The least number of bars of every set, as a table; facts on bits. No program in sight.
-/
import Derived.Test.YtkckaooimffdpaaFewP
import Derived.Lib.QuoteBits
namespace Go.Proofs.Ytkckaooimffdpaa
set_option linter.unusedSimpArgs false
set_option linter.unusedVariables false
open Go.RowKit

theorem and_n (a b : Nat) (ha : a < 1000) (hb : b < 1000) : bits .and .i64 (a : Int) (b : Int) = ((a &&& b : Nat) : Int) := by
  show IntKind.i64.wrap ((BitVec.ofInt 64 (a : Int) &&& BitVec.ofInt 64 (b : Int)).toNat : Int) = _
  rw [BitVec.toNat_and, ofInt_u64 a (by omega), ofInt_u64 b (by omega)]
  exact Lib.wrap_i64_small _ (by have := Nat.and_le_left (n := a) (m := b); omega)
theorem andNot_n (s g : Nat) (hs : s < 128) (hg : g &&& s = g) : bits .andNot .i64 (s : Int) (g : Int) = ((s - g : Nat) : Int) := by
  have hle : g ≤ s := by rw [← hg]; exact Nat.and_le_right
  show IntKind.i64.wrap ((BitVec.ofInt 64 (s : Int) &&& ~~~BitVec.ofInt 64 (g : Int)).toNat : Int) = _
  rw [BitVec.toNat_and, BitVec.toNat_not, ofInt_u64 s (by omega), ofInt_u64 g (by omega)]
  have e : s &&& (2 ^ 64 - 1 - g) = s - g := by
    apply Nat.eq_of_testBit_eq
    intro i
    rw [diff_bit hs hg, Nat.testBit_and, show 2 ^ 64 - 1 - g = 2 ^ 64 - (g + 1) from by omega, Nat.testBit_two_pow_sub_succ (by omega)]
    by_cases h : i < 64
    · simp [h]
    · have : s.testBit i = false := Nat.testBit_lt_two_pow (Nat.lt_of_lt_of_le hs (Nat.le_trans (by decide : 128 ≤ 2 ^ 64) (Nat.pow_le_pow_right (by omega) (by omega))))
      simp [this]
  rw [e]
  exact Lib.wrap_i64_small _ (by omega)
theorem small_inside : ∀ a, a < 128 → ∀ b, b < 128 → a % 2 ≤ b % 2 → ((a &&& b = a) ↔ (a / 2 &&& b / 2 = a / 2)) := by decide +kernel
theorem small_outside : ∀ a, a < 128 → ∀ b, b < 128 → b % 2 < a % 2 → ¬ (a &&& b = a) := by decide +kernel
theorem bit_of (s k : Nat) : s.testBit k = decide (s / 2 ^ k % 2 = 1) := Nat.testBit_eq_decide_div_mod_eq
theorem pow_le7 {n : Nat} (h : n ≤ 7) : 2 ^ n ≤ 128 := Nat.pow_le_pow_right (n := 2) (by omega) h
theorem pow_ge1 (n : Nat) : 1 ≤ 2 ^ n := Nat.one_le_two_pow

theorem sm_bd {L : List Int} {b : Int} (h : ∀ x ∈ L, 0 ≤ x ∧ x ≤ b) (hb : 0 ≤ b) (s : Nat) : ∀ k, 0 ≤ sm L s k ∧ sm L s k ≤ b * k
  | 0 => by simp [sm]
  | k + 1 => by
    have h1 := sm_bd h hb s k
    have h2 : 0 ≤ L.getD k 0 ∧ L.getD k 0 ≤ b := by
      by_cases hk : k < L.length
      · rw [getD_at hk]; exact h _ (List.getElem_mem hk)
      · rw [List.getD_eq_getElem?_getD, List.getElem?_eq_none (by omega)]; simp; exact hb
    have h3 : b * ((k + 1 : Nat) : Int) = b * k + b := by push_cast; rw [Int.mul_add, Int.mul_one]
    rw [h3]
    simp only [sm]
    split <;> omega
theorem sm_zero (L : List Int) : ∀ k, sm L 0 k = 0
  | 0 => rfl
  | k + 1 => by rw [sm, sm_zero L k, Nat.zero_testBit]; rfl
theorem sm_one (L : List Int) (i : Nat) : ∀ k, sm L (2 ^ i) k = if i < k then L.getD i 0 else 0
  | 0 => by simp [sm]
  | k + 1 => by
    rw [sm, sm_one L i k, Nat.testBit_two_pow]
    by_cases e : i = k
    · subst e; simp
    · have h1 : decide (i = k) = false := by simp [e]
      rw [h1, if_neg (show ¬ (false = true) from by decide)]
      by_cases h : i < k
      · rw [if_pos h, if_pos (show i < k + 1 from by omega)]; omega
      · rw [if_neg h, if_neg (show ¬ i < k + 1 from by omega)]; rfl

theorem least_of {P : Nat → Prop} (m : Nat) (h : P m) : ∃ k, P k ∧ ∀ j, P j → k ≤ j := by
  induction m using Nat.strongRecOn with
  | _ m ih =>
    by_cases hx : ∃ j, j < m ∧ P j
    · obtain ⟨j, hj, hp⟩ := hx
      exact ih j hj hp
    · refine ⟨m, h, fun j hj => ?_⟩
      by_cases hlt : j < m
      · exact absurd ⟨j, hlt, hj⟩ hx
      · omega
open Classical in
noncomputable def fL (L : List Int) (bar : Int) (s : Nat) : Nat := if h : ∃ m, LsS L bar s m then h.choose else 0
theorem fL_ls {L : List Int} {bar : Int} (h : ∀ x ∈ L, 0 ≤ x ∧ x ≤ bar) (hb : 0 ≤ bar) (s : Nat) : LsS L bar s (fL L bar s) := by
  have hex : ∃ m, LsS L bar s m := least_of (P := PkS L bar s) L.length ⟨fun i => i, fun _ hi _ => hi, fun j _ => (ldS_id h hb s j _).2⟩
  unfold fL
  rw [dif_pos hex]
  exact hex.choose_spec
theorem fL_le {L : List Int} {bar : Int} (h : ∀ x ∈ L, 0 ≤ x ∧ x ≤ bar) (hb : 0 ≤ bar) (s : Nat) : fL L bar s ≤ L.length := few_le h hb (fL_ls h hb s)
theorem fL_zero {L : List Int} {bar : Int} (h : ∀ x ∈ L, 0 ≤ x ∧ x ≤ bar) (hb : 0 ≤ bar) : fL L bar 0 = 0 := (fL_ls h hb 0).uniq (pks_zero L bar)

/-- A table: so many numbers are done, one is under way. -/
def tb (f : Nat → Int) (N s : Nat) (x : Int) : List Int := (List.range N).map fun t => if t < s then f t else if t = s then x else 0
theorem tb_len (f : Nat → Int) (N s : Nat) (x : Int) : (tb f N s x).length = N := by simp [tb]
theorem tb_at (f : Nat → Int) (N s : Nat) (x : Int) (t : Nat) (h : t < (tb f N s x).length) : (tb f N s x)[t] = if t < s then f t else if t = s then x else 0 := by simp [tb]
theorem tb_start {f : Nat → Int} (N : Nat) (h : f 0 = 0) : List.replicate N 0 = tb f N 1 0 := by
  apply List.ext_getElem
  · simp [tb]
  · intro i h1 h2
    rw [tb_at, List.getElem_replicate]
    by_cases e : i = 0
    · subst e; simp [h]
    · rw [if_neg (by omega)]; split <;> rfl
theorem tb_set (f : Nat → Int) (N s : Nat) (x y : Int) : (tb f N s x).set s y = tb f N s y := by
  apply List.ext_getElem
  · simp [tb]
  · intro i h1 h2
    rw [List.getElem_set]
    by_cases e : s = i
    · subst e
      rw [if_pos rfl, tb_at]; simp
    · rw [if_neg e, tb_at, tb_at, if_neg (show ¬ i = s from fun h => e h.symm), if_neg (show ¬ i = s from fun h => e h.symm)]
theorem tb_next (f : Nat → Int) (N s : Nat) : tb f N s (f s) = tb f N (s + 1) 0 := by
  apply List.ext_getElem
  · simp [tb]
  · intro i h1 h2
    rw [tb_at, tb_at]
    by_cases e : i = s
    · subst e; simp
    · by_cases h : i < s
      · rw [if_pos h, if_pos (by omega)]
      · rw [if_neg h, if_neg e, if_neg (by omega)]; split <;> rfl

/-- The number of the table under way: the least over the groups above g. -/
def CurI (L : List Int) (bar : Int) (s g : Nat) (x : Int) : Prop := (∀ g', g < g' → Grp L bar s g' → 0 ≤ x ∧ x ≤ fL L bar (s - g') + 1) ∧ (x = -1 ∨ ∃ g', Grp L bar s g' ∧ x = fL L bar (s - g') + 1)
def CurS (L : List Int) (bar : Int) (s g : Nat) (x : Int) : Prop := (∀ g', g < g' → Grp L bar s g' → x ≤ fL L bar (s - g') + 1) ∧ (x = (L.length : Int) + 1 ∨ ∃ g', Grp L bar s g' ∧ x = fL L bar (s - g') + 1)
theorem grp_le {L : List Int} {bar : Int} {s g : Nat} (h : Grp L bar s g) : g ≤ s := by rw [← h.2.1]; exact Nat.and_le_right
theorem curI_start (L : List Int) (bar : Int) (s : Nat) : CurI L bar s s (-1) := ⟨fun g' h hg => by have := grp_le hg; omega, .inl rfl⟩
theorem curS_start (L : List Int) (bar : Int) (s : Nat) : CurS L bar s s ((L.length : Int) + 1) := ⟨fun g' h hg => by have := grp_le hg; omega, .inl rfl⟩
theorem next_le {s g : Nat} (hg : 0 < g) : (g - 1) &&& s ≤ g - 1 := Nat.and_le_left
theorem curI_skip {L : List Int} {bar : Int} {s g : Nat} {x : Int} (hs : s < 128) (hg : 0 < g) (hgs : g &&& s = g) (h : CurI L bar s g x) (hn : ¬ sm L g L.length ≤ bar) : CurI L bar s ((g - 1) &&& s) x := by
  refine ⟨fun g' h1 h2 => ?_, h.2⟩
  have hle : g ≤ s := by rw [← hgs]; exact Nat.and_le_right
  have hle' := grp_le h2
  rcases Nat.lt_trichotomy g' g with h3 | h3 | h3
  · have := small_next s hs g (by omega) hgs g' h3 h2.2.1; omega
  · rw [h3] at h2; exact absurd h2.2.2 hn
  · exact h.1 g' h3 h2
theorem curI_take {L : List Int} {bar : Int} {s g : Nat} {x : Int} (hs : s < 128) (hg : 0 < g) (hgs : g &&& s = g) (h : CurI L bar s g x) (hn : sm L g L.length ≤ bar) (hx : x < 0 ∨ (fL L bar (s - g) : Int) + 1 < x) : CurI L bar s ((g - 1) &&& s) (fL L bar (s - g) + 1) := by
  refine ⟨fun g' h1 h2 => ?_, .inr ⟨g, ⟨hg, hgs, hn⟩, rfl⟩⟩
  have hle : g ≤ s := by rw [← hgs]; exact Nat.and_le_right
  have hle' := grp_le h2
  rcases Nat.lt_trichotomy g' g with h3 | h3 | h3
  · have := small_next s hs g (by omega) hgs g' h3 h2.2.1; omega
  · rw [h3]; omega
  · have := h.1 g' h3 h2; omega
theorem curI_keep {L : List Int} {bar : Int} {s g : Nat} {x : Int} (hs : s < 128) (hg : 0 < g) (hgs : g &&& s = g) (h : CurI L bar s g x) (h0 : ¬ x < 0) (hx : ¬ (fL L bar (s - g) : Int) + 1 < x) : CurI L bar s ((g - 1) &&& s) x := by
  refine ⟨fun g' h1 h2 => ?_, h.2⟩
  have hle : g ≤ s := by rw [← hgs]; exact Nat.and_le_right
  have hle' := grp_le h2
  rcases Nat.lt_trichotomy g' g with h3 | h3 | h3
  · have := small_next s hs g (by omega) hgs g' h3 h2.2.1; omega
  · rw [h3]; omega
  · exact h.1 g' h3 h2
theorem curS_skip {L : List Int} {bar : Int} {s g : Nat} {x : Int} (h : CurS L bar s (g + 1) x) (hn : ¬ ((g + 1) &&& s = g + 1 ∧ sm L (g + 1) L.length ≤ bar)) : CurS L bar s g x := by
  refine ⟨fun g' h1 h2 => ?_, h.2⟩
  by_cases e : g' = g + 1
  · rw [e] at h2; exact absurd ⟨h2.2.1, h2.2.2⟩ hn
  · exact h.1 g' (by omega) h2
theorem curS_take {L : List Int} {bar : Int} {s g : Nat} {x : Int} (h : CurS L bar s (g + 1) x) (hn : (g + 1) &&& s = g + 1 ∧ sm L (g + 1) L.length ≤ bar) : CurS L bar s g (min x (1 + fL L bar (s - (g + 1)))) := by
  refine ⟨fun g' h1 h2 => ?_, ?_⟩
  · by_cases e : g' = g + 1
    · rw [e]; omega
    · have := h.1 g' (by omega) h2; omega
  · by_cases hx : x ≤ 1 + fL L bar (s - (g + 1))
    · rw [show min x (1 + (fL L bar (s - (g + 1)) : Int)) = x from by omega]; exact h.2
    · exact .inr ⟨g + 1, ⟨by omega, hn.1, hn.2⟩, by omega⟩
theorem grp_one {L : List Int} {bar : Int} {s : Nat} (h : ∀ x ∈ L, 0 ≤ x ∧ x ≤ bar) (hL : L.length ≤ 7) (hs : s < 2 ^ L.length) (h0 : 0 < s) : ∃ g, Grp L bar s g := by
  obtain ⟨i, hi⟩ := Nat.exists_testBit_of_ne_zero (x := s) (by omega)
  have hil : i < L.length := by
    rcases Nat.lt_or_ge i L.length with h | h
    · exact h
    · exfalso
      have := Nat.testBit_lt_two_pow (x := s) (i := i) (Nat.lt_of_lt_of_le hs (Nat.pow_le_pow_right (by omega) h))
      rw [this] at hi; cases hi
  refine ⟨2 ^ i, Nat.two_pow_pos i, ?_, ?_⟩
  · apply Nat.eq_of_testBit_eq
    intro j
    rw [Nat.testBit_and, Nat.testBit_two_pow]
    by_cases e : i = j
    · subst e; simp [hi]
    · simp [e]
  · rw [sm_one, if_pos hil, getD_at hil]
    exact (h _ (List.getElem_mem hil)).2
theorem cur_end {L : List Int} {bar : Int} {s : Nat} {x : Int} (h : ∀ x ∈ L, 0 ≤ x ∧ x ≤ bar) (hb : 0 ≤ bar) (hL : L.length ≤ 7) (hs : s < 2 ^ L.length) (h0 : 0 < s) (hm : ∀ g, Grp L bar s g → x ≤ fL L bar (s - g) + 1) (ha : ∃ g, Grp L bar s g ∧ x = fL L bar (s - g) + 1) : x = fL L bar s := by
  obtain ⟨g, hg, hx⟩ := ha
  have := few_step (L := L) (bar := bar) (s := s) (m := x.toNat) (f := fL L bar) hL hs h0 (fun t _ => fL_ls h hb t) ⟨g, hg, by omega⟩ (fun g' hg' => by have := hm g' hg'; omega)
  have := this.uniq (fL_ls h hb s)
  omega
theorem curI_end {L : List Int} {bar : Int} {s : Nat} {x : Int} (h : ∀ x ∈ L, 0 ≤ x ∧ x ≤ bar) (hb : 0 ≤ bar) (hL : L.length ≤ 7) (hs : s < 2 ^ L.length) (h0 : 0 < s) (hc : CurI L bar s 0 x) : x = fL L bar s := by
  obtain ⟨g, hg⟩ := grp_one h hL hs h0
  have h1 := hc.1 g hg.1 hg
  refine cur_end h hb hL hs h0 (fun g' hg' => (hc.1 g' hg'.1 hg').2) ?_
  rcases hc.2 with e | e
  · omega
  · exact e
theorem curS_end {L : List Int} {bar : Int} {s : Nat} {x : Int} (h : ∀ x ∈ L, 0 ≤ x ∧ x ≤ bar) (hb : 0 ≤ bar) (hL : L.length ≤ 7) (hs : s < 2 ^ L.length) (h0 : 0 < s) (hc : CurS L bar s 0 x) : x = fL L bar s := by
  obtain ⟨g, hg⟩ := grp_one h hL hs h0
  have h1 := hc.1 g hg.1 hg
  have h2 := fL_le h hb (s - g)
  refine cur_end h hb hL hs h0 (fun g' hg' => hc.1 g' hg'.1 hg') ?_
  rcases hc.2 with e | e
  · exact ⟨g, hg, by omega⟩
  · exact e
theorem curI_bd {L : List Int} {bar : Int} {s g : Nat} {x : Int} (h : ∀ x ∈ L, 0 ≤ x ∧ x ≤ bar) (hb : 0 ≤ bar) (hc : CurI L bar s g x) : -1 ≤ x ∧ x ≤ (L.length : Int) + 1 := by
  rcases hc.2 with e | ⟨g', _, e⟩
  · omega
  · have := fL_le h hb (s - g'); omega
theorem curS_bd {L : List Int} {bar : Int} {s g : Nat} {x : Int} (h : ∀ x ∈ L, 0 ≤ x ∧ x ≤ bar) (hb : 0 ≤ bar) (hc : CurS L bar s g x) : 0 ≤ x ∧ x ≤ (L.length : Int) + 1 := by
  rcases hc.2 with e | ⟨g', _, e⟩
  · omega
  · have := fL_le h hb (s - g'); omega

/-- What FewestBars answers. -/
noncomputable def fewZ (L : List Int) (bar : Int) : Int := if BrOk 7 L bar then (fL L bar (2 ^ L.length - 1) : Int) else -1
theorem fewZ_is (L : List Int) (bar : Int) : IsFew L bar (fewZ L bar) := by
  unfold fewZ
  by_cases h : BrOk 7 L bar
  · rw [if_pos h]
    exact .inr ⟨h, _, rfl, fL_ls (fun x hx => by have := h.2.2 x hx; omega) (by have := h.1; omega) _⟩
  · rw [if_neg h]
    exact .inl ⟨h, rfl⟩
theorem fewZ_less {L : List Int} {bar : Int} {i : Nat} (hr : 1 ≤ fewZ L bar) (hi : i < L.length) : fewZ (wo L i) bar ≤ fewZ L bar ∧ fewZ L bar - 1 ≤ fewZ (wo L i) bar := (fewZ_is L bar).less hr hi (fewZ_is _ bar)

end Go.Proofs.Ytkckaooimffdpaa
