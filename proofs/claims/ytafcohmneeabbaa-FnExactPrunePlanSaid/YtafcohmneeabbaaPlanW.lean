/-
  Well formed plans as trees with two kids, and how such a tree lies in memory. No program in sight.
-/
import Derived.Test.YtafcohmneeabbaaPlanM
namespace Go.Proofs.Ytafcohmneeabbaa
set_option linter.unusedSimpArgs false
set_option linter.unusedVariables false
open Go.RowKit

def cutB (o : Int) : Bool := decide (o = 2 ∨ o = 3)
theorem cutB_t {o : Int} (h : cutB o = true) : o = 2 ∨ o = 3 := by simpa [cutB] using h
theorem cutB_f {o : Int} (h : cutB o = false) : o ≠ 2 ∧ o ≠ 3 := by simpa [cutB] using h

inductive Tr where
  | leaf (o p : Int) (t : Bool)
  | cut (o a : Int) (l r : Tr)

def wf : Pl → Option Tr
  | .mk o a p t ks =>
    if cutB o = true then
      match ks with
      | [l, r] => if p = 0 ∧ t = false then (match wf l, wf r with | some x, some y => some (.cut o a x y) | _, _ => none) else none
      | _ => none
    else if ks.length = 0 ∧ a = 0 ∧ (o = 1 ∨ (o = 0 ∧ p = 0 ∧ t = false)) then some (.leaf o p t) else none

/-- All parts of a tree; its cuts. -/
def nodes : Tr → Nat
  | .leaf _ _ _ => 1
  | .cut _ _ l r => 1 + nodes l + nodes r
def cuts : Tr → Nat
  | .leaf _ _ _ => 0
  | .cut _ _ l r => 1 + cuts l + cuts r
theorem nodes_cuts : ∀ t : Tr, nodes t = 2 * cuts t + 1
  | .leaf _ _ _ => rfl
  | .cut _ _ l r => by rw [nodes, cuts, nodes_cuts l, nodes_cuts r]; omega

/-- The parts of a plan if it is well formed and has at most 'room' of them, else -1. -/
def cp (p : Pl) (room : Int) : Int := match wf p with
  | some t => if (nodes t : Int) ≤ room then nodes t else -1
  | none => -1
def psz (p : Pl) : Int := cp p 255

theorem cp_some {p : Pl} {t : Tr} (h : wf p = some t) (room : Int) : cp p room = if (nodes t : Int) ≤ room then (nodes t : Int) else -1 := by simp [cp, h]
theorem cp_none {p : Pl} (h : wf p = none) (room : Int) : cp p room = -1 := by simp [cp, h]
theorem nodes_pos (t : Tr) : 1 ≤ nodes t := by rw [nodes_cuts]; omega
theorem cp_low (p : Pl) (room : Int) (h : room < 1) : cp p room = -1 := by
  unfold cp
  cases wf p with
  | none => rfl
  | some t => have := nodes_pos t; simp only; rw [if_neg (by omega)]
theorem cp_bd (p : Pl) (room : Int) : cp p room = -1 ∨ (1 ≤ cp p room ∧ cp p room ≤ room) := by
  unfold cp
  cases wf p with
  | none => exact .inl rfl
  | some t =>
    have := nodes_pos t
    simp only
    by_cases h : (nodes t : Int) ≤ room
    · rw [if_pos h]; omega
    · rw [if_neg h]; exact .inl rfl
theorem cp_tree {p : Pl} {room : Int} (h : 0 ≤ cp p room) : ∃ t, wf p = some t ∧ cp p room = nodes t ∧ (nodes t : Int) ≤ room := by
  unfold cp at h ⊢
  cases hw : wf p with
  | none => rw [hw] at h; simp at h
  | some t =>
    rw [hw] at h
    simp only at h ⊢
    by_cases hr : (nodes t : Int) ≤ room
    · exact ⟨t, rfl, by rw [if_pos hr], hr⟩
    · rw [if_neg hr] at h; simp at h

theorem wf_eq (o a p : Int) (t : Bool) (ks : List Pl) : wf (.mk o a p t ks) = if cutB o = true then
      match ks with
      | [l, r] => if p = 0 ∧ t = false then (match wf l, wf r with | some x, some y => some (.cut o a x y) | _, _ => none) else none
      | _ => none
    else if ks.length = 0 ∧ a = 0 ∧ (o = 1 ∨ (o = 0 ∧ p = 0 ∧ t = false)) then some (.leaf o p t) else none := by
  rw [wf.eq_def]
theorem wf_cut2 {o : Int} (h : cutB o = true) (a : Int) (l r : Pl) : wf (.mk o a 0 false [l, r]) = (match wf l, wf r with | some x, some y => some (.cut o a x y) | _, _ => none) := by
  rw [wf_eq, if_pos h]; simp
theorem wf_cut_bad {o : Int} (h : cutB o = true) (a p : Int) (t : Bool) (ks : List Pl) (hb : ks.length ≠ 2 ∨ p ≠ 0 ∨ t = true) : wf (.mk o a p t ks) = none := by
  rw [wf_eq, if_pos h]
  split
  · rw [if_neg]
    rintro ⟨h1, h2⟩
    rcases hb with hb | hb | hb
    · exact hb rfl
    · exact hb h1
    · rw [h2] at hb; cases hb
  · rfl
theorem wf_leaf {o : Int} (h : cutB o = false) (p : Int) (t : Bool) (hb : o = 1 ∨ (o = 0 ∧ p = 0 ∧ t = false)) : wf (.mk o 0 p t []) = some (.leaf o p t) := by
  rw [wf_eq, if_neg (by rw [h]; simp), if_pos ⟨rfl, rfl, hb⟩]
theorem wf_leaf_bad {o : Int} (h : cutB o = false) (a p : Int) (t : Bool) (ks : List Pl) (hb : ¬ (ks.length = 0 ∧ a = 0 ∧ (o = 1 ∨ (o = 0 ∧ p = 0 ∧ t = false)))) : wf (.mk o a p t ks) = none := by
  rw [wf_eq, if_neg (by rw [h]; simp), if_neg hb]

theorem ite_cut (x y room : Int) (hx : 1 ≤ x) (hy : 1 ≤ y) : (if 1 + x + y ≤ room then 1 + x + y else -1) =
   (if (if x ≤ room - 1 then x else -1) < 0 then -1 else if (if y ≤ room - 1 - (if x ≤ room - 1 then x else -1) then y else -1) < 0 then -1 else 1 + (if x ≤ room - 1 then x else -1) + (if y ≤ room - 1 - (if x ≤ room - 1 then x else -1) then y else -1)) := by
  by_cases h1 : x ≤ room - 1
  · simp only [h1, if_true]
    by_cases h2 : y ≤ room - 1 - x
    · simp only [h2, if_true]
      rw [if_pos (by omega), if_neg (by omega), if_neg (by omega)]
    · simp only [h2, if_false]
      rw [if_neg (by omega), if_neg (by omega), if_pos (by omega)]
  · simp only [h1, if_false]
    rw [if_neg (by omega), if_pos (by omega)]
theorem ite_psz (x y : Int) (hx : 1 ≤ x) (hy : 1 ≤ y) : (if 1 + x + y ≤ 255 then 1 + x + y else -1) =
   (if (if x ≤ 255 then x else -1) < 0 ∨ (if y ≤ 255 then y else -1) < 0 ∨ 255 < 1 + (if x ≤ 255 then x else -1) + (if y ≤ 255 then y else -1) then -1 else 1 + (if x ≤ 255 then x else -1) + (if y ≤ 255 then y else -1)) := by
  by_cases h1 : x ≤ 255
  · simp only [h1, if_true]
    by_cases h2 : y ≤ 255
    · simp only [h2, if_true]
      split <;> split <;> omega
    · simp only [h2, if_false]
      rw [if_neg (by omega), if_pos (by omega)]
  · simp only [h1, if_false]
    rw [if_neg (by omega), if_pos (by omega)]

theorem cp_two (x y : Tr) (room : Int) (o a : Int) {p : Pl} (h : wf p = some (.cut o a x y)) : cp p room = if 1 + (nodes x : Int) + nodes y ≤ room then 1 + (nodes x : Int) + nodes y else -1 := by
  rw [cp_some h, nodes]
  have e : ((1 + nodes x + nodes y : Nat) : Int) = 1 + (nodes x : Int) + nodes y := by omega
  rw [e]
/-- The parts of a cut: by one budget handed on. -/
theorem cp_cut {o : Int} (h : cutB o = true) (a : Int) (l r : Pl) (room : Int) : cp (.mk o a 0 false [l, r]) room =
    if cp l (room - 1) < 0 then -1 else if cp r (room - 1 - cp l (room - 1)) < 0 then -1 else 1 + cp l (room - 1) + cp r (room - 1 - cp l (room - 1)) := by
  have hw := wf_cut2 h a l r
  cases hl : wf l with
  | none => rw [cp_none (by rw [hw, hl]), cp_none hl]; rfl
  | some x =>
    have hx := nodes_pos x
    cases hr : wf r with
    | none =>
      rw [cp_none (by rw [hw, hl, hr]), cp_none hr]
      by_cases h2 : cp l (room - 1) < 0
      · rw [if_pos h2]
      · rw [if_neg h2]; rfl
    | some y =>
      have hy := nodes_pos y
      rw [cp_two x y room o a (by rw [hw, hl, hr]), cp_some hl, cp_some hr]
      exact ite_cut _ _ _ (by omega) (by omega)
/-- The parts of a cut: each kid by itself. -/
theorem psz_cut {o : Int} (h : cutB o = true) (a : Int) (l r : Pl) : psz (.mk o a 0 false [l, r]) = if psz l < 0 ∨ psz r < 0 ∨ 255 < 1 + psz l + psz r then -1 else 1 + psz l + psz r := by
  have hw := wf_cut2 h a l r
  unfold psz
  cases hl : wf l with
  | none => rw [cp_none (by rw [hw, hl]), cp_none hl, if_pos (.inl (by decide))]
  | some x =>
    have hx := nodes_pos x
    cases hr : wf r with
    | none => rw [cp_none (by rw [hw, hl, hr]), cp_none hr, if_pos (.inr (.inl (by decide)))]
    | some y =>
      have hy := nodes_pos y
      rw [cp_two x y 255 o a (by rw [hw, hl, hr]), cp_some hl, cp_some hr]
      exact ite_psz _ _ (by omega) (by omega)

/-- The part s reads, deep, as the tree. -/
def TR (B : Nat) (w : World) : Tr → Sh → Prop
  | .leaf o p t, s => s.o = o ∧ s.a = 0 ∧ s.p = p ∧ s.t = t ∧ s.kn = 0 ∧ cutB o = false ∧ (o = 1 ∨ (o = 0 ∧ p = 0 ∧ t = false)) ∧ s.kc ≤ maxLen
  | .cut o a l r, s => s.o = o ∧ s.a = a ∧ s.p = 0 ∧ s.t = false ∧ cutB o = true ∧ ∃ sl sr, RowB shE B w s.kv [sl, sr] ∧ TR B w l sl ∧ TR B w r sr

theorem TR.heap {B B' : Nat} {w w' : World} (hB : B ≤ B') (hk : ∀ k, k < B → w'.heap[k]? = w.heap[k]?) : ∀ {t : Tr} {s : Sh}, TR B w t s → TR B' w' t s
  | .leaf _ _ _, _, h => h
  | .cut _ _ l r, s, h => by
    obtain ⟨h1, h2, h3, h4, h5, sl, sr, h6, h7, h8⟩ := h
    exact ⟨h1, h2, h3, h4, h5, sl, sr, (h6.heap hk).more hB, TR.heap hB hk h7, TR.heap hB hk h8⟩
theorem TR.go {w w' : World} {t : Tr} {s : Sh} (h : TR w.heap.size w t s) (hb : Below w.heap.size w w') : TR w'.heap.size w' t s := TR.heap hb.size hb.block h
theorem TR.below {B : Nat} {w w' : World} {t : Tr} {s : Sh} (h : TR B w t s) (hb : Below B w w') : TR B w' t s := TR.heap (Nat.le_refl _) hb.block h
theorem TR.op {B : Nat} {w : World} {t : Tr} {s : Sh} (h : TR B w t s) : cutB s.o = true ↔ ∃ o a l r, t = .cut o a l r := by
  cases t with
  | leaf o p t => obtain ⟨h1, _, _, _, _, h2, _⟩ := h; rw [h1, h2]; simp
  | cut o a l r => obtain ⟨h1, _, _, _, h2, _⟩ := h; rw [h1, h2]; simp

theorem PR.tr {B : Nat} {w : World} : ∀ {n : Nat} {p : Pl} {s : Sh} {t : Tr}, PR B w n p s → wf p = some t → TR B w t s
  | 0, _, _, _, h, _ => h.2.elim
  | n + 1, .mk o a p t ks, s, tr, h, hw => by
    obtain ⟨⟨h1, h2, h3, h4⟩, S, hr, hl, hS⟩ := h
    simp only [Pl.o, Pl.a, Pl.p, Pl.t, Pl.ks] at h1 h2 h3 h4 hl hS
    by_cases hc : cutB o = true
    · by_cases hb : ks.length ≠ 2 ∨ p ≠ 0 ∨ t = true
      · rw [wf_cut_bad hc _ _ _ _ hb] at hw; cases hw
      · simp only [not_or, Decidable.not_not, Bool.not_eq_true] at hb
        obtain ⟨e1, rfl, rfl⟩ := hb
        match ks, e1 with
        | [l, r], _ =>
          rw [wf_cut2 hc] at hw
          cases hwl : wf l with
          | none => rw [hwl] at hw; cases hw
          | some x =>
            cases hwr : wf r with
            | none => rw [hwl, hwr] at hw; cases hw
            | some y =>
              rw [hwl, hwr] at hw
              simp only [Option.some.injEq] at hw
              subst hw
              match S, hl with
              | [sl, sr], _ =>
                exact ⟨h1, h2, h3, h4, hc, sl, sr, hr, PR.tr (hS 0 (by simp) (by simp)) hwl, PR.tr (hS 1 (by simp) (by simp)) hwr⟩
    · have hc' : cutB o = false := by simpa using hc
      by_cases hb : ks.length = 0 ∧ a = 0 ∧ (o = 1 ∨ (o = 0 ∧ p = 0 ∧ t = false))
      · obtain ⟨e1, rfl, e2⟩ := hb
        obtain rfl : ks = [] := List.eq_nil_of_length_eq_zero e1
        rw [wf_leaf hc' _ _ e2] at hw
        simp only [Option.some.injEq] at hw
        subst hw
        obtain ⟨A, c, h5, h6, h7, -⟩ := hr
        simp only [Sh.kv, Value.slice.injEq] at h5
        exact ⟨h1, h2, h3, h4, by rw [h5.2.1, hl]; rfl, hc', e2, by rw [h5.2.2]; exact h7⟩
      · rw [wf_leaf_bad hc' _ _ _ _ hb] at hw; cases hw

theorem PR.kn {B : Nat} {w : World} {n : Nat} {p : Pl} {s : Sh} (h : PR B w n p s) : s.kn = p.ks.length := by
  cases n with
  | zero => exact h.2.elim
  | succ n =>
    obtain ⟨-, S, hr, hl, hS⟩ := h
    obtain ⟨A, c, h5, h6⟩ := hr
    simp only [Sh.kv, Value.slice.injEq] at h5
    rw [h5.2.1, hl]

/-- The plan of a tree. -/
def unTr : Tr → Pl
  | .leaf o p t => .mk o 0 p t []
  | .cut o a l r => .mk o a 0 false [unTr l, unTr r]
theorem TR.wf_un {B : Nat} {w : World} : ∀ {t : Tr} {s : Sh}, TR B w t s → wf (unTr t) = some t
  | .leaf o p t, s, h => by
    obtain ⟨_, _, _, _, _, h1, h2, _⟩ := h
    exact wf_leaf h1 p t h2
  | .cut o a l r, s, h => by
    obtain ⟨_, _, _, _, h1, sl, sr, _, h2, h3⟩ := h
    rw [unTr, wf_cut2 h1, h2.wf_un, h3.wf_un]
theorem FR.up' {B : Nat} {w : World} : ∀ {n : Nat} {v : Value} {L : List Pl}, FR B w n v L → FR B w (n + 1) v L
  | 0, _, _, h => h.elim
  | n + 1, _, _, h => by
    obtain ⟨S, h1, h2, h3⟩ := h
    exact ⟨S, h1, h2, fun k h4 h5 => ⟨(h3 k h4 h5).1, (h3 k h4 h5).2.up'⟩⟩
theorem FR.ups {B : Nat} {w : World} {n m : Nat} {v : Value} {L : List Pl} (h : FR B w n v L) (hm : n ≤ m) : FR B w m v L := by
  induction m with
  | zero =>
    have e : n = 0 := by omega
    rw [e] at h; exact h
  | succ m ih =>
    by_cases e : n = m + 1
    · rw [e] at h; exact h
    · exact (ih (by omega)).up'
theorem TR.pr {B : Nat} {w : World} : ∀ {t : Tr} {s : Sh}, TR B w t s → ∃ n, PR B w n (unTr t) s
  | .leaf o p t, s, h => by
    obtain ⟨h1, h2, h3, h4, h5, _, _, h6⟩ := h
    refine ⟨1, ⟨h1, h2, h3, h4⟩, [], ⟨s.ka, s.kc, by rw [Sh.kv, h5]; rfl, by simp, h6, fun h => by simp at h⟩, rfl, fun k h _ => by simp at h⟩
  | .cut o a l r, s, h => by
    obtain ⟨h1, h2, h3, h4, _, sl, sr, h6, h7, h8⟩ := h
    obtain ⟨n, hn⟩ := h7.pr
    obtain ⟨m, hm⟩ := h8.pr
    refine ⟨max n m + 1, ⟨h1, h2, h3, h4⟩, [sl, sr], h6, rfl, fun k hk1 hk2 => ?_⟩
    match k, hk1 with
    | 0, _ => exact ⟨hn.1, hn.2.ups (by omega)⟩
    | 1, _ => exact ⟨hm.1, hm.2.ups (by omega)⟩
theorem TR.psz {B : Nat} {w : World} {t : Tr} {s : Sh} (h : TR B w t s) (hn : nodes t ≤ 255) : Proofs.Ytafcohmneeabbaa.psz (unTr t) = nodes t := by
  unfold Proofs.Ytafcohmneeabbaa.psz
  rw [cp_some h.wf_un, if_pos (by omega)]

end Go.Proofs.Ytafcohmneeabbaa
