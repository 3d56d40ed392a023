/-
  The least number of bars: sets of lengths as numbers, one step of the table, one length less. No program in sight.
-/
import Derived.Test.YtkckaooimffdpaaBarP
namespace Go.Proofs.Ytkckaooimffdpaa
set_option linter.unusedSimpArgs false
set_option linter.unusedVariables false
open Go.RowKit

/-- Facts on small sets, by trying all. -/
theorem small_sub : ∀ s, s < 128 → ∀ g, g < 128 → g &&& s = g → s - g = s ^^^ g := by decide +kernel
theorem small_next : ∀ s, s < 128 → ∀ y, y < 128 → y &&& s = y → ∀ x, x < y → x &&& s = x → x ≤ (y - 1) &&& s := by decide +kernel

/-- The sum of those of the first k lengths that are in a set; of those that are on bar j. -/
def sm (L : List Int) (s : Nat) : Nat → Int
  | 0 => 0
  | k + 1 => sm L s k + if s.testBit k = true then L.getD k 0 else 0
def ldS (L : List Int) (s : Nat) (G : Nat → Nat) (j : Nat) : Nat → Int
  | 0 => 0
  | k + 1 => ldS L s G j k + if s.testBit k = true ∧ G k = j then L.getD k 0 else 0
/-- The lengths of a set can be cut from m bars. -/
def PkS (L : List Int) (bar : Int) (s m : Nat) : Prop := ∃ G : Nat → Nat, (∀ i, i < L.length → s.testBit i = true → G i < m) ∧ ∀ j, j < m → ldS L s G j L.length ≤ bar
def LsS (L : List Int) (bar : Int) (s m : Nat) : Prop := PkS L bar s m ∧ ∀ k, PkS L bar s k → m ≤ k
theorem LsS.uniq {L : List Int} {bar : Int} {s m k : Nat} (h : LsS L bar s m) (h' : LsS L bar s k) : m = k := Nat.le_antisymm (h.2 k h'.1) (h'.2 m h.1)
/-- A group: some lengths of a set that fit a bar. -/
def Grp (L : List Int) (bar : Int) (s g : Nat) : Prop := 0 < g ∧ g &&& s = g ∧ sm L g L.length ≤ bar

theorem ldS_sm {L : List Int} {s g j : Nat} {G : Nat → Nat} : ∀ k, (∀ i, i < k → ((s.testBit i = true ∧ G i = j) ↔ g.testBit i = true)) → ldS L s G j k = sm L g k
  | 0, _ => rfl
  | k + 1, h => by
    rw [ldS, sm, ldS_sm k (fun i hi => h i (by omega))]
    have := h k (by omega)
    by_cases e : g.testBit k = true
    · rw [if_pos (this.2 e), if_pos e]
    · rw [if_neg (fun h => e (this.1 h)), if_neg e]
theorem ldS_congr {L : List Int} {s s' j : Nat} {G G' : Nat → Nat} : ∀ k, (∀ i, i < k → ((s.testBit i = true ∧ G i = j) ↔ (s'.testBit i = true ∧ G' i = j))) → ldS L s G j k = ldS L s' G' j k
  | 0, _ => rfl
  | k + 1, h => by
    rw [ldS, ldS, ldS_congr k (fun i hi => h i (by omega))]
    have := h k (by omega)
    by_cases e : s'.testBit k = true ∧ G' k = j
    · rw [if_pos (this.2 e), if_pos e]
    · rw [if_neg (fun h => e (this.1 h)), if_neg e]
theorem sub_bit {g s : Nat} (h : g &&& s = g) {i : Nat} (hi : g.testBit i = true) : s.testBit i = true := by
  rw [← h, Nat.testBit_and, Bool.and_eq_true] at hi
  exact hi.2
theorem diff_bit {g s : Nat} (hs : s < 128) (h : g &&& s = g) (i : Nat) : (s - g).testBit i = (s.testBit i && !g.testBit i) := by
  have hg : g ≤ s := by rw [← h]; exact Nat.and_le_right
  rw [small_sub s hs g (by omega) h, Nat.testBit_xor]
  cases hgi : g.testBit i with
  | false => simp
  | true => rw [sub_bit h hgi]; rfl
def gOf (P : Nat → Bool) : Nat → Nat
  | 0 => 0
  | n + 1 => gOf P n ||| if P n = true then 2 ^ n else 0
theorem gOf_bit (P : Nat → Bool) (i : Nat) : ∀ n, (gOf P n).testBit i = (decide (i < n) && P i)
  | 0 => by simp [gOf]
  | n + 1 => by
    rw [gOf, Nat.testBit_or, gOf_bit P i n]
    by_cases hP : P n = true
    · rw [if_pos hP, Nat.testBit_two_pow]
      by_cases e : n = i
      · subst e; simp [hP]
      · have h1 : decide (n = i) = false := by simp [e]
        have h2 : decide (i < n + 1) = decide (i < n) := by rw [decide_eq_decide]; omega
        rw [h1, h2, Bool.or_false]
    · rw [if_neg hP, Nat.zero_testBit, Bool.or_false]
      by_cases e : n = i
      · subst e
        have h0 : P n = false := by simpa using hP
        rw [h0]; simp
      · have h2 : decide (i < n + 1) = decide (i < n) := by rw [decide_eq_decide]; omega
        rw [h2]

theorem pks_zero (L : List Int) (bar : Int) : LsS L bar 0 0 := ⟨⟨fun _ => 0, fun i _ h => by simp at h, fun j h => by omega⟩, fun k _ => Nat.zero_le k⟩

/-- One step of the table. -/
theorem few_step {L : List Int} {bar : Int} {s m : Nat} {f : Nat → Nat} (hL : L.length ≤ 7) (hs : s < 2 ^ L.length) (h0 : 0 < s) (hf : ∀ t, t < s → LsS L bar t (f t)) (hg : ∃ g, Grp L bar s g ∧ m = f (s - g) + 1) (hm : ∀ g, Grp L bar s g → m ≤ f (s - g) + 1) : LsS L bar s m := by
  have h128 : 2 ^ L.length ≤ 128 := Nat.pow_le_pow_right (n := 2) (by omega) hL
  refine ⟨?_, fun k => ?_⟩
  · obtain ⟨g, ⟨hg0, hgs, hgb⟩, rfl⟩ := hg
    have hgle : g ≤ s := by rw [← hgs]; exact Nat.and_le_right
    have hdb := diff_bit (by omega) hgs
    obtain ⟨⟨G, hG1, hG2⟩, -⟩ := hf (s - g) (by omega)
    refine ⟨fun i => if g.testBit i = true then f (s - g) else G i, fun i hi hsi => ?_, fun j hj => ?_⟩
    · by_cases e : g.testBit i = true
      · simp only [e, if_true]; omega
      · have := hG1 i hi (by rw [hdb, hsi]; simp [e])
        simp only [e, if_false, Bool.false_eq_true]; omega
    · by_cases e : j = f (s - g)
      · subst e
        rw [ldS_sm (g := g)]
        · exact hgb
        · intro i hi
          constructor
          · rintro ⟨h1, h2⟩
            by_cases e : g.testBit i = true
            · exact e
            · exfalso
              have := hG1 i hi (by rw [hdb, h1]; simp [e])
              simp only [e, if_false, Bool.false_eq_true] at h2
              omega
          · intro h1
            exact ⟨sub_bit hgs h1, by simp only [h1, if_true]⟩
      · rw [ldS_congr (s' := s - g) (G' := G)]
        · exact hG2 j (by omega)
        · intro i hi
          rw [hdb]
          by_cases e2 : g.testBit i = true
          · simp only [e2, if_true, Bool.not_true, Bool.and_false, Bool.false_eq_true, false_and, iff_false, not_and]
            omega
          · have e3 : g.testBit i = false := by simpa using e2
            simp only [e3, Bool.not_false, Bool.and_true, Bool.false_eq_true, if_false]
  · induction k with
    | zero =>
      intro ⟨G, hG1, _⟩
      exfalso
      obtain ⟨i, hi⟩ := Nat.exists_testBit_of_ne_zero (x := s) (by omega)
      have hil : i < L.length := by
        rcases Nat.lt_or_ge i L.length with h | h
        · exact h
        · exfalso
          have := Nat.testBit_lt_two_pow (x := s) (i := i) (Nat.lt_of_lt_of_le hs (Nat.pow_le_pow_right (by omega) h))
          rw [this] at hi; cases hi
      have := hG1 i hil hi
      omega
    | succ k ih =>
      intro ⟨G, hG1, hG2⟩
      have hgb : ∀ i, (gOf (fun i => s.testBit i && decide (G i = k)) L.length).testBit i = (decide (i < L.length) && (s.testBit i && decide (G i = k))) := fun i => gOf_bit _ i _
      obtain ⟨g, hgd⟩ : ∃ g, g = gOf (fun i => s.testBit i && decide (G i = k)) L.length := ⟨_, rfl⟩
      rw [← hgd] at hgb
      by_cases hg0 : g = 0
      · have : PkS L bar s k := by
          refine ⟨G, fun i hi hsi => ?_, fun j hj => hG2 j (by omega)⟩
          have h1 := hG1 i hi hsi
          have h2 := hgb i
          rw [hg0, Nat.zero_testBit, hsi] at h2
          have h3 : G i ≠ k := by
            intro e
            rw [e] at h2
            simp [hi] at h2
          omega
        have := ih this
        omega
      · have hgs : g &&& s = g := by
          apply Nat.eq_of_testBit_eq
          intro i
          rw [Nat.testBit_and, hgb]
          cases s.testBit i <;> simp
        have hgle : g ≤ s := by rw [← hgs]; exact Nat.and_le_right
        have hdb := diff_bit (by omega) hgs
        have hsum : sm L g L.length ≤ bar := by
          rw [← ldS_sm (s := s) (G := G) (j := k)]
          · exact hG2 k (by omega)
          · intro i hi
            rw [hgb]
            simp [hi]
        have hpk : PkS L bar (s - g) k := by
          refine ⟨G, fun i hi hsi => ?_, fun j hj => ?_⟩
          · rw [hdb, hgb, Bool.and_eq_true] at hsi
            have h1 := hG1 i hi hsi.1
            have h2 := hsi.2
            rw [hsi.1] at h2
            simp [hi] at h2
            omega
          · rw [ldS_congr (s' := s) (G' := G)]
            · exact hG2 j (by omega)
            · intro i hi
              rw [hdb, hgb]
              constructor
              · rintro ⟨h1, h2⟩
                rw [Bool.and_eq_true] at h1
                exact ⟨h1.1, h2⟩
              · rintro ⟨h1, h2⟩
                refine ⟨?_, h2⟩
                rw [h1]
                have : G i ≠ k := by omega
                simp [this]
        have h3 := (hf (s - g) (by omega)).2 k hpk
        have h4 := hm g ⟨by omega, hgs, hsum⟩
        omega

/-- As many bars as lengths are enough. -/
theorem ldS_id {L : List Int} {b : Int} (h : ∀ x ∈ L, 0 ≤ x ∧ x ≤ b) (hb : 0 ≤ b) (s j : Nat) : ∀ k, (k ≤ j → ldS L s (fun i => i) j k = 0) ∧ ldS L s (fun i => i) j k ≤ b
  | 0 => by simp [ldS]; exact hb
  | k + 1 => by
    obtain ⟨h1, h2⟩ := ldS_id h hb s j k
    have h3 : 0 ≤ L.getD k 0 ∧ L.getD k 0 ≤ b := by
      by_cases hk : k < L.length
      · rw [getD_at hk]; exact h _ (List.getElem_mem hk)
      · rw [List.getD_eq_getElem?_getD, List.getElem?_eq_none (by omega)]; simp; exact hb
    simp only [ldS]
    by_cases e : s.testBit k = true ∧ k = j
    · rw [if_pos e, h1 (by omega)]
      exact ⟨fun h => by omega, by omega⟩
    · rw [if_neg e]
      exact ⟨fun h => by rw [h1 (by omega)]; rfl, by omega⟩
theorem few_le {L : List Int} {bar : Int} {s m : Nat} (h : ∀ x ∈ L, 0 ≤ x ∧ x ≤ bar) (hb : 0 ≤ bar) (hl : LsS L bar s m) : m ≤ L.length :=
  hl.2 _ ⟨fun i => i, fun _ hi _ => hi, fun j _ => (ldS_id h hb s j _).2⟩

/-- All lengths: as a list. -/
def ldA (L : List Int) (G : Nat → Nat) (j : Nat) : Nat → Int
  | 0 => 0
  | k + 1 => ldA L G j k + if G k = j then L.getD k 0 else 0
def PkA (L : List Int) (bar : Int) (m : Nat) : Prop := ∃ G : Nat → Nat, (∀ i, i < L.length → G i < m) ∧ ∀ j, j < m → ldA L G j L.length ≤ bar
theorem ldS_all (L : List Int) (n : Nat) (G : Nat → Nat) (j : Nat) : ∀ k, k ≤ n → ldS L (2 ^ n - 1) G j k = ldA L G j k
  | 0, _ => rfl
  | k + 1, h => by
    rw [ldS, ldA, ldS_all L n G j k (by omega)]
    have : (2 ^ n - 1).testBit k = true := by rw [Nat.testBit_two_pow_sub_one]; simp; omega
    simp only [this, true_and]
theorem pk_all {L : List Int} {bar : Int} {m : Nat} : PkS L bar (2 ^ L.length - 1) m ↔ PkA L bar m := by
  constructor
  · rintro ⟨G, h1, h2⟩
    exact ⟨G, fun i hi => h1 i hi (by rw [Nat.testBit_two_pow_sub_one]; simpa using hi), fun j hj => by rw [← ldS_all L L.length G j _ (Nat.le_refl _)]; exact h2 j hj⟩
  · rintro ⟨G, h1, h2⟩
    exact ⟨G, fun i hi _ => h1 i hi, fun j hj => by rw [ldS_all L L.length G j _ (Nat.le_refl _)]; exact h2 j hj⟩
/-- A list without one of its numbers. -/
def wo (L : List Int) (i : Nat) : List Int := L.take i ++ L.drop (i + 1)
theorem wo_len {L : List Int} {i : Nat} (h : i < L.length) : (wo L i).length + 1 = L.length := by simp [wo]; omega
theorem wo_mem {L : List Int} {i : Nat} {x : Int} (h : x ∈ wo L i) : x ∈ L := by
  rcases List.mem_append.1 h with h | h
  · exact List.mem_of_mem_take h
  · exact List.mem_of_mem_drop h
def sk (i k : Nat) : Nat := if k < i then k else k + 1
theorem wo_at {L : List Int} {i k : Nat} (h : i < L.length) : (wo L i).getD k 0 = L.getD (sk i k) 0 := by
  unfold wo sk
  rw [List.getD_eq_getElem?_getD, List.getD_eq_getElem?_getD]
  by_cases hk : k < i
  · rw [if_pos hk, List.getElem?_append_left (by simp; omega), List.getElem?_take, if_pos hk]
  · rw [if_neg hk, List.getElem?_append_right (by simp; omega), List.getElem?_drop]
    have e : i + 1 + (k - (L.take i).length) = k + 1 := by simp; omega
    rw [e]
theorem ldA_wo {L : List Int} {i : Nat} (h : i < L.length) (G : Nat → Nat) (j : Nat) : ∀ k, (k ≤ i → ldA (wo L i) (fun q => G (sk i q)) j k = ldA L G j k) ∧ (i ≤ k → ldA (wo L i) (fun q => G (sk i q)) j k + (if G i = j then L.getD i 0 else 0) = ldA L G j (k + 1))
  | 0 => ⟨fun _ => rfl, fun hk => by
      have e : i = 0 := by omega
      subst e
      simp [ldA]⟩
  | k + 1 => by
    obtain ⟨h1, h2⟩ := ldA_wo h G j k
    constructor
    · intro hk
      rw [ldA, ldA, h1 (by omega), wo_at h]
      have e : sk i k = k := by unfold sk; rw [if_pos (by omega)]
      rw [e]
    · intro hk
      by_cases e : i = k + 1
      · subst e
        rw [ldA, ldA, h1 (by omega), wo_at h]
        have e : sk (k + 1) k = k := by unfold sk; rw [if_pos (by omega)]
        rw [e]
        rfl
      · have h3 := h2 (by omega)
        have e : sk i k = k + 1 := by unfold sk; rw [if_neg (by omega)]
        rw [ldA, wo_at h, e, ldA, ← h3]
        omega
theorem less_down {L : List Int} {bar : Int} {i m : Nat} (h : ∀ x ∈ L, 0 ≤ x) (hi : i < L.length) (hp : PkA L bar m) : PkA (wo L i) bar m := by
  obtain ⟨G, h1, h2⟩ := hp
  have hl := wo_len hi
  refine ⟨fun q => G (sk i q), fun q hq => h1 _ (by unfold sk; split <;> omega), fun j hj => ?_⟩
  have h3 := (ldA_wo hi G j (wo L i).length).2 (by omega)
  have h4 := h2 j hj
  have h5 : 0 ≤ L.getD i 0 := by rw [getD_at hi]; exact h _ (List.getElem_mem hi)
  rw [hl] at h3
  split at h3 <;> omega
theorem ldA_zero {L : List Int} {G : Nat → Nat} {j : Nat} : ∀ k, (∀ q, q < k → G q ≠ j) → ldA L G j k = 0
  | 0, _ => rfl
  | k + 1, h => by rw [ldA, ldA_zero k (fun q hq => h q (by omega)), if_neg (h k (by omega))]; rfl
theorem ldA_congr {L : List Int} {G G' : Nat → Nat} {j : Nat} : ∀ k, (∀ q, q < k → G q = G' q) → ldA L G j k = ldA L G' j k
  | 0, _ => rfl
  | k + 1, h => by rw [ldA, ldA, ldA_congr k (fun q hq => h q (by omega)), h k (by omega)]
theorem less_up {L : List Int} {bar : Int} {i m : Nat} (h : ∀ x ∈ L, x ≤ bar) (hi : i < L.length) (hp : PkA (wo L i) bar m) : PkA L bar (m + 1) := by
  obtain ⟨G, h1, h2⟩ := hp
  have hl := wo_len hi
  obtain ⟨G', hG'⟩ : ∃ G' : Nat → Nat, G' = fun q => if q = i then m else G (if q < i then q else q - 1) := ⟨_, rfl⟩
  have hsk : ∀ q, G' (sk i q) = G q := fun q => by
    rw [hG']
    unfold sk
    by_cases e : q < i
    · simp only [if_pos e]
      rw [if_neg (by omega)]
    · simp only [if_neg e]
      rw [if_neg (by omega), if_neg (by omega)]
      rfl
  have hi' : G' i = m := by rw [hG']; simp
  refine ⟨G', fun q hq => ?_, fun j hj => ?_⟩
  · by_cases e : q = i
    · rw [e, hi']; omega
    · have e2 : sk i (if q < i then q else q - 1) = q := by
        unfold sk
        by_cases e3 : q < i
        · rw [if_pos e3, if_pos e3]
        · rw [if_neg e3, if_neg (by omega)]; omega
      rw [← e2, hsk]
      have := h1 (if q < i then q else q - 1) (by split <;> omega)
      omega
  · have h3 := (ldA_wo hi G' j (wo L i).length).2 (by omega)
    rw [hl] at h3
    rw [ldA_congr (G' := G) _ (fun q _ => hsk q), hi'] at h3
    by_cases e : m = j
    · rw [if_pos e, ldA_zero _ (fun q hq => by have := h1 q hq; omega)] at h3
      have h5 : L.getD i 0 ≤ bar := by rw [getD_at hi]; exact h _ (List.getElem_mem hi)
      omega
    · rw [if_neg e] at h3
      have := h2 j (by omega)
      omega
/-- What FewestBars answers. -/
def IsFew (L : List Int) (bar r : Int) : Prop := (¬ BrOk 7 L bar ∧ r = -1) ∨ (BrOk 7 L bar ∧ ∃ m : Nat, r = m ∧ LsS L bar (2 ^ L.length - 1) m)
theorem IsFew.uniq {L : List Int} {bar r r' : Int} (h : IsFew L bar r) (h' : IsFew L bar r') : r = r' := by
  rcases h with ⟨h1, h2⟩ | ⟨h1, m, h2, h3⟩
  · rcases h' with ⟨h4, h5⟩ | ⟨h4, _⟩
    · rw [h2, h5]
    · exact absurd h4 h1
  · rcases h' with ⟨h4, h5⟩ | ⟨h4, k, h5, h6⟩
    · exact absurd h1 h4
    · rw [h2, h5, h3.uniq h6]
theorem IsFew.less {L : List Int} {bar r r' : Int} {i : Nat} (h : IsFew L bar r) (hr : 1 ≤ r) (hi : i < L.length) (h' : IsFew (wo L i) bar r') : r' ≤ r ∧ r - 1 ≤ r' := by
  rcases h with ⟨h1, h2⟩ | ⟨h1, m, h2, h3⟩
  · omega
  · have hl := wo_len hi
    have hok : BrOk 7 (wo L i) bar := ⟨h1.1, by have := h1.2.1; omega, fun x hx => h1.2.2 x (wo_mem hx)⟩
    rcases h' with ⟨h4, h5⟩ | ⟨h4, k, h5, h6⟩
    · exact absurd hok h4
    · have h7 := h6.2 m (pk_all.2 (less_down (fun x hx => by have := (h1.2.2 x hx).1; omega) hi (pk_all.1 h3.1)))
      have h8 := h3.2 (k + 1) (pk_all.2 (less_up (fun x hx => (h1.2.2 x hx).2) hi (pk_all.1 h6.1)))
      omega

end Go.Proofs.Ytkckaooimffdpaa
