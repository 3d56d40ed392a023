/-
  Contracts: the size of a plan, by the reference and by the program; is it a cut?
-/
import Derived.Test.YtafcohmneeabbaaPlan
import Derived.Test.YtafcohmneeabbaaPlanW
namespace Go.Proofs.Ytafcohmneeabbaa
set_option linter.unusedSimpArgs false
set_option linter.unusedVariables false
open Go.RowKit

theorem below_pl {o a p : Int} {t : Bool} {ka : Option Addr} {kn kc : Nat} {ty : TypeId} (w : World) : Below w.heap.size w (w.alloc (.cells #[.int .i64 o, .int .i64 a, .int .i64 p, .bool t, .slice ka kn kc] ty)) := (Below.refl _ _).alloc (Nat.le_refl _) _

theorem sisCut_c (s : Sh) (w : World) : Calls Try.prog 69 #[.agg #[.int .i64 s.o, .int .i64 s.a, .int .i64 s.p, .bool s.t, .slice s.ka s.kn s.kc]] w fun e w' => e = .returned (.bool (cutB s.o)) ∧ Below w.heap.size w w' := by
  by_cases h2 : s.o = 2
  · have HV : Hid (cutB s.o = true) := by simp [Hid, cutB, h2]
    go_enter Try.func69, Try.ntmps69
    go_wp2
    go_ret
    exact ⟨ret_bool HV.out.symm, (Below.refl _ _).alloc (Nat.le_refl _) _⟩
  · by_cases h3 : s.o = 3
    · have HV : Hid (cutB s.o = true) := by simp [Hid, cutB, h3]
      go_enter Try.func69, Try.ntmps69
      go_wp2
      go_ret
      exact ⟨ret_bool HV.out.symm, (Below.refl _ _).alloc (Nat.le_refl _) _⟩
    · have HV : Hid (cutB s.o = false) := by simp [Hid, cutB, h2, h3]
      have h2' : (s.o == 2) = false := by simpa using h2
      have h3' : (s.o == 3) = false := by simpa using h3
      clear h2 h3
      go_enter Try.func69, Try.ntmps69
      go_wp2
      go_ret
      exact ⟨ret_bool HV.out.symm, (Below.refl _ _).alloc (Nat.le_refl _) _⟩

theorem isCut_c (s : Sh) (w : World) : Calls Try.prog 70 #[.agg #[.int .i64 s.o, .int .i64 s.a, .int .i64 s.p, .bool s.t, .slice s.ka s.kn s.kc]] w fun e w' => e = .returned (.bool (cutB s.o)) ∧ Below w.heap.size w w' := by
  by_cases h2 : s.o = 2
  · have HV : Hid (cutB s.o = true) := by simp [Hid, cutB, h2]
    go_enter Try.func70, Try.ntmps70
    go_wp2
    go_ret
    exact ⟨ret_bool HV.out.symm, (Below.refl _ _).alloc (Nat.le_refl _) _⟩
  · by_cases h3 : s.o = 3
    · have HV : Hid (cutB s.o = true) := by simp [Hid, cutB, h3]
      go_enter Try.func70, Try.ntmps70
      go_wp2
      go_ret
      exact ⟨ret_bool HV.out.symm, (Below.refl _ _).alloc (Nat.le_refl _) _⟩
    · have HV : Hid (cutB s.o = false) := by simp [Hid, cutB, h2, h3]
      have h2' : (s.o == 2) = false := by simpa using h2
      have h3' : (s.o == 3) = false := by simpa using h3
      clear h2 h3
      go_enter Try.func70, Try.ntmps70
      go_wp2
      go_ret
      exact ⟨ret_bool HV.out.symm, (Below.refl _ _).alloc (Nat.le_refl _) _⟩

/-- The sum behind k of two kids. -/
def sm2 (x y : Int) : Nat → Int
  | 0 => 1
  | 1 => 1 + x
  | _ => 1 + x + y
theorem sm2_bd (l r : Pl) (k : Nat) : -1 ≤ sm2 (psz l) (psz r) k ∧ sm2 (psz l) (psz r) k ≤ 511 := by
  have h1 := cp_bd l 255
  have h2 := cp_bd r 255
  unfold psz
  match k with
  | 0 => simp [sm2]
  | 1 => simp only [sm2]; omega
  | k + 2 => simp only [sm2]; omega
theorem psz_sum {o : Int} (h : cutB o = true) (a : Int) (l r : Pl) (h1 : 0 ≤ psz l) (h2 : 0 ≤ psz r) : psz (.mk o a 0 false [l, r]) = if 255 < sm2 (psz l) (psz r) 2 then -1 else sm2 (psz l) (psz r) 2 := by
  rw [psz_cut h]
  simp only [sm2]
  by_cases h3 : 255 < 1 + psz l + psz r
  · rw [if_pos (.inr (.inr h3)), if_pos h3]
  · rw [if_neg (by omega), if_neg h3]
/-- Two kids by number. -/
def two {α : Type} (x y : α) : Nat → α
  | 0 => x
  | _ => y
theorem two_at {α : Type} (x y : α) (k : Nat) (hk : k < [x, y].length) : [x, y][k] = two x y k := by
  match k, hk with
  | 0, _ => rfl
  | 1, _ => rfl
theorem two_lt {k : Nat} (hk : k < 2) {P : Nat → Prop} (h0 : P 0) (h1 : P 1) : P k := by
  match k, hk with
  | 0, _ => exact h0
  | 1, _ => exact h1

def PszN (n : Nat) : Prop := ∀ (p : Pl) (s : Sh) (w : World), PR w.heap.size w n p s → Calls Try.prog 45 #[.agg #[.int .i64 s.o, .int .i64 s.a, .int .i64 s.p, .bool s.t, .slice s.ka s.kn s.kc]] w fun e w' => e = .returned (.int .i64 (psz p)) ∧ Below w.heap.size w w'

set_option maxHeartbeats 1600000 in
/-- A part that is no cut. -/
theorem splanSize_leaf (n : Nat) (o a p : Int) (t : Bool) (ks : List Pl) (s : Sh) (w : World) (h : PR w.heap.size w n (.mk o a p t ks) s) (hc : cutB o = false) : Calls Try.prog 45 #[.agg #[.int .i64 s.o, .int .i64 s.a, .int .i64 s.p, .bool s.t, .slice s.ka s.kn s.kc]] w fun e w' => e = .returned (.int .i64 (psz (.mk o a p t ks))) ∧ Below w.heap.size w w' := by
  have hkn := h.kn
  obtain ⟨⟨h1, h2, h3, h4⟩, -⟩ := h
  obtain ⟨o, a, p, t, ka, kn, kc⟩ := s
  simp only [Pl.o, Pl.a, Pl.p, Pl.t, Pl.ks] at h1 h2 h3 h4 hkn
  subst h1; subst h2; subst h3; subst h4
  have HK := hid hkn
  have HC := hid hc
  have hW : ¬ (ks.length = 0 ∧ a = 0 ∧ (o = 1 ∨ (o = 0 ∧ p = 0 ∧ t = false))) → psz (.mk o a p t ks) = -1 := fun hb => cp_none (wf_leaf_bad hc _ _ _ _ hb) _
  have HB0 := hid (below_pl (o := o) (a := a) (p := p) (t := t) (ka := ka) (kn := kn) (kc := kc) (ty := 30) w)
  have hC : ∀ (w1 : World), Calls Try.prog 69 #[.agg #[.int .i64 o, .int .i64 a, .int .i64 p, .bool t, .slice ka kn kc]] w1 fun e w' => e = .returned (.bool false) ∧ Below w1.heap.size w1 w' := fun w1 => by
    have := sisCut_c ⟨o, a, p, t, ka, kn, kc⟩ w1
    rw [hc] at this
    exact this
  have HCC := hid hC
  clear hc hC
  by_cases hok : ks.length = 0 ∧ a = 0 ∧ (o = 1 ∨ (o = 0 ∧ p = 0 ∧ t = false))
  · obtain ⟨hk, rfl, ho⟩ := hok
    obtain rfl : ks = [] := List.eq_nil_of_length_eq_zero hk
    obtain rfl : kn = 0 := hkn
    have HV : Hid (psz (.mk o 0 p t []) = 1) := by rw [Hid, psz, cp_some (wf_leaf HC.out p t ho)]; rfl
    clear hW hk
    rcases ho with rfl | ⟨rfl, rfl, rfl⟩
    all_goals
      go_enter Try.func45, Try.ntmps45
      go_wp2_with fail
      refine (HCC.out _).mono ?_
      rintro e w1 ⟨rfl, hb⟩
      have HB1 := hid (HB0.out.trans (hb.mono HB0.out.size))
      obtain ⟨hcc, hf, hsz⟩ := bcell hb
      clear hb
      go_wp2
      go_loopw [3, 4] (fun m i wr => m = .int .i64 1 ∧ i = .int .i64 0 ∧ wr = w1) (fun _ i _ => 0)
      case atStart => exact ⟨rfl, rfl, rfl⟩
      case round =>
        obtain ⟨rfl, rfl, rfl⟩ := hrel
        go_wp2
        go_ret
        exact ⟨ret_int HV.out.symm, HB1.out⟩
  · have HV := hid (hW hok)
    have hcase : ((kn : Int) != 0) = true ∨ (((kn : Int) != 0) = false ∧ (a != 0) = true) ∨ (((kn : Int) != 0) = false ∧ (a != 0) = false ∧ (o != 1) = true ∧ (o != 0) = true) ∨
        (((kn : Int) != 0) = false ∧ (a != 0) = false ∧ (o != 1) = true ∧ (o != 0) = false ∧ (p != 0) = true) ∨ (((kn : Int) != 0) = false ∧ (a != 0) = false ∧ (o != 1) = true ∧ (o != 0) = false ∧ (p != 0) = false ∧ t = true) := by
      simp only [bne_iff_ne, bne_eq_false_iff_eq]
      cases t <;> simp only [Bool.false_eq_true, and_true, and_false, or_false, reduceCtorEq] at hok ⊢ <;> omega
    clear hok hW hkn
    rcases hcase with g1 | ⟨g1, g2⟩ | ⟨g1, g2, g3, g4⟩ | ⟨g1, g2, g3, g4, g5⟩ | ⟨g1, g2, g3, g4, g5, rfl⟩
    all_goals
      go_enter Try.func45, Try.ntmps45
      go_wp2_with fail
      refine (HCC.out _).mono ?_
      rintro e w1 ⟨rfl, hb⟩
      have HB1 := hid (HB0.out.trans (hb.mono HB0.out.size))
      obtain ⟨hcc, hf, hsz⟩ := bcell hb
      clear hb
      go_wp2
      go_ret
      exact ⟨ret_int HV.out.symm, HB1.out⟩

set_option maxHeartbeats 1600000 in
/-- A part that is a cut. -/
theorem splanSize_cut (n : Nat) (ih : PszN n) (o a p : Int) (t : Bool) (ks : List Pl) (s : Sh) (w : World) (h : PR w.heap.size w (n + 1) (.mk o a p t ks) s) (hc : cutB o = true) : Calls Try.prog 45 #[.agg #[.int .i64 s.o, .int .i64 s.a, .int .i64 s.p, .bool s.t, .slice s.ka s.kn s.kc]] w fun e w' => e = .returned (.int .i64 (psz (.mk o a p t ks))) ∧ Below w.heap.size w w' := by
  have hkn := h.kn
  obtain ⟨⟨h1, h2, h3, h4⟩, hF⟩ := h
  obtain ⟨o, a, p, t, ka, kn, kc⟩ := s
  simp only [Pl.o, Pl.a, Pl.p, Pl.t, Pl.ks] at h1 h2 h3 h4 hkn hF
  subst h1; subst h2; subst h3; subst h4
  have HK := hid hkn
  have HC := hid hc
  have HI := hid ih
  have HB0 := hid (below_pl (o := o) (a := a) (p := p) (t := t) (ka := ka) (kn := kn) (kc := kc) (ty := 30) w)
  have hC : ∀ (w1 : World), Calls Try.prog 69 #[.agg #[.int .i64 o, .int .i64 a, .int .i64 p, .bool t, .slice ka kn kc]] w1 fun e w' => e = .returned (.bool true) ∧ Below w1.heap.size w1 w' := fun w1 => by
    have := sisCut_c ⟨o, a, p, t, ka, kn, kc⟩ w1
    rw [hc] at this
    exact this
  have HCC := hid hC
  clear hc hC ih
  by_cases hok : ks.length ≠ 2 ∨ p ≠ 0 ∨ t = true
  · have HV : Hid (psz (.mk o a p t ks) = -1) := cp_none (wf_cut_bad HC.out _ _ _ _ hok) _
    have hcase : ((kn : Int) != 2) = true ∨ (((kn : Int) != 2) = false ∧ (p != 0) = true) ∨ (((kn : Int) != 2) = false ∧ (p != 0) = false ∧ t = true) := by
      simp only [bne_iff_ne, bne_eq_false_iff_eq]
      cases t
      · simp only [Bool.false_eq_true, and_true, and_false, or_false, reduceCtorEq] at hok ⊢
        omega
      · simp only [Bool.false_eq_true, and_true, and_false, or_false, or_true, reduceCtorEq]
        omega
    clear hok hkn hF
    rcases hcase with g1 | ⟨g1, g2⟩ | ⟨g1, g2, rfl⟩
    all_goals
      go_enter Try.func45, Try.ntmps45
      go_wp2_with fail
      refine (HCC.out _).mono ?_
      rintro e w1 ⟨rfl, hb⟩
      have HB1 := hid (HB0.out.trans (hb.mono HB0.out.size))
      obtain ⟨hcc, hf, hsz⟩ := bcell hb
      clear hb
      go_wp2
      go_ret
      exact ⟨ret_int HV.out.symm, HB1.out⟩
  · simp only [not_or, Decidable.not_not, Bool.not_eq_true] at hok
    obtain ⟨hk2, rfl, rfl⟩ := hok
    match ks, hk2 with
    | [l, r], _ =>
    obtain rfl : kn = 2 := hkn
    obtain ⟨S, hr, hl, hS⟩ := hF
    match S, hl with
    | [sl, sr], _ =>
    have hrl : ∀ k, k < 2 → PR w.heap.size w n (two l r k) (two sl sr k) := fun k hk => by
      have := hS k (by simpa using hk) (by simpa using hk)
      rw [two_at, two_at] at this
      exact this
    obtain ⟨b1, o1, e1, hb1, hx⟩ := row_shs hr (by simp)
    have hx' : ∀ k, k < 2 → _ := fun k hk => by
      have := hx k (by simpa using hk)
      rw [two_at] at this
      exact this
    simp only [Sh.kv] at e1
    obtain rfl : ka = some ⟨b1, o1, none⟩ := e1
    obtain ⟨SS, hSS⟩ : ∃ SS, SS = two sl sr := ⟨_, rfl⟩
    rw [← hSS] at hrl hx'
    have HS : Hid (∀ w1, Below w.heap.size w w1 → ∀ k, k < 2 → PR w1.heap.size w1 n (two l r k) (SS k)) := fun w1 hb k h1 => PR.go (hrl k h1) hb
    have HN : Hid (∀ k, k < 2 → psz (two l r k) < 0 → psz (.mk o a 0 false [l, r]) = -1) := by
      intro k hk hn
      rw [psz_cut HC.out, if_pos]
      match k, hk with
      | 0, _ => exact .inl hn
      | 1, _ => exact .inr (.inl hn)
    have HSm : Hid (∀ k, k < 2 → sm2 (psz l) (psz r) (k + 1) = sm2 (psz l) (psz r) k + psz (two l r k)) := by
      intro k hk
      match k, hk with
      | 0, _ => rfl
      | 1, _ => rfl
    have HK0 : Hid (∀ k, k < 2 → (1 ≤ k → 0 ≤ psz l) → 0 ≤ psz (two l r k) → (1 ≤ k + 1 → 0 ≤ psz l) ∧ (2 ≤ k + 1 → 0 ≤ psz r)) := by
      intro k hk h1 h2
      match k, hk with
      | 0, _ => exact ⟨fun _ => h2, fun h => by omega⟩
      | 1, _ => exact ⟨fun _ => h1 (by omega), fun _ => h2⟩
    have HKB : Hid (∀ k, -1 ≤ psz (two l r k) ∧ psz (two l r k) ≤ 255) := fun k => by
      have := cp_bd (two l r k) 255
      unfold psz
      omega
    have HSu := hid (fun h1 h2 => psz_sum HC.out a l r h1 h2)
    have HBd := hid (sm2_bd l r)
    have HX := hid hx'
    clear hx hx' hr hS hl hrl hSS
    go_enter Try.func45, Try.ntmps45
    go_wp2_with fail
    refine (HCC.out _).mono ?_
    rintro e w1 ⟨rfl, hb⟩
    have HB1 := hid (HB0.out.trans (hb.mono HB0.out.size))
    obtain ⟨hcc, hf, hsz⟩ := bcell hb
    have HCC1 := hid hcc
    clear hb hf
    go_wp2
    go_loopw [3, 4] (fun m i wr => ∃ k : Nat, i = .int .i64 k ∧ k ≤ 2 ∧ m = .int .i64 (sm2 (psz l) (psz r) k) ∧ (1 ≤ k → 0 ≤ psz l) ∧ (2 ≤ k → 0 ≤ psz r) ∧ Below w1.heap.size w1 wr) (fun _ i _ => 2 - (intOf i).toNat)
    case atStart => exact ⟨0, rfl, by omega, rfl, by omega, by omega, Below.refl _ _⟩
    case round =>
      obtain ⟨k, rfl, hk, rfl, hl0, hr0, hb⟩ := hrel
      have HB2 := hid (HB1.out.trans (hb.mono HB1.out.size))
      obtain ⟨bd1, bd2⟩ := HBd.out k
      have hcb := fun (o : Nat) => (hb.cell (p := ⟨w.heap.size, o, none⟩) (by simp at hsz ⊢; omega)).trans (HCC1.out w.heap.size o (by simp))
      have hcx := fun (o : Nat) => HB2.out.cell (p := ⟨b1, o, none⟩) hb1
      by_cases hlt : k < 2
      · obtain ⟨hx0, hx1, hx2, hx3, hx4⟩ := HX.out k hlt
        have HL0 := hid hl0
        have hkb := HKB.out k
        obtain ⟨kb1, kb2⟩ := hkb
        clear hl0 hr0
        go_wp2_with fail
        refine (HI.out (two l r k) (SS k) _ (HS.out _ HB2.out k hlt)).mono ?_
        rintro e w3 ⟨rfl, hb3⟩
        have HB3 := hid (hb.trans (hb3.mono hb.size))
        clear hb3
        by_cases hneg : psz (two l r k) < 0
        · have HV := hid (HN.out k hlt hneg)
          go_wp2
          go_ret
          exact ⟨ret_int HV.out.symm, HB1.out.trans (HB3.out.mono HB1.out.size)⟩
        · have HSS := hid (HSm.out k hlt)
          obtain ⟨hz1, hz2⟩ := HK0.out k hlt HL0.out (by omega)
          have HZ1 := hid hz1
          have HZ2 := hid hz2
          clear hz1 hz2
          go_wp2
          exact ⟨⟨k + 1, by go_num, by omega, by rw [HSS.out], HZ1.out, HZ2.out, HB3.out⟩, by simp [intOf]; omega⟩
      · have e : k = 2 := by omega
        subst e
        have HV := hid (HSu.out (hl0 (by omega)) (hr0 (by omega)))
        clear hl0 hr0
        by_cases h255 : 255 < sm2 (psz l) (psz r) 2
        · have HV2 : Hid (psz (.mk o a 0 false [l, r]) = -1) := by rw [Hid, HV.out, if_pos h255]
          go_wp2
          go_ret
          exact ⟨ret_int HV2.out.symm, HB2.out⟩
        · have HV2 : Hid (psz (.mk o a 0 false [l, r]) = sm2 (psz l) (psz r) 2) := by rw [Hid, HV.out, if_neg h255]
          go_wp2
          go_ret
          exact ⟨ret_int HV2.out.symm, HB2.out⟩

theorem splanSize_any : ∀ n, PszN n
  | 0 => fun _ _ _ h => h.2.elim
  | n + 1 => fun p s w h => by
    obtain ⟨o, a, pn, t, ks⟩ := p
    cases hc : cutB o with
    | false => exact splanSize_leaf (n + 1) o a pn t ks s w h hc
    | true => exact splanSize_cut n (splanSize_any n) o a pn t ks s w h hc

theorem splanSize_c {n : Nat} {p : Pl} {s : Sh} {w : World} (h : PR w.heap.size w n p s) : Calls Try.prog 45 #[.agg #[.int .i64 s.o, .int .i64 s.a, .int .i64 s.p, .bool s.t, .slice s.ka s.kn s.kc]] w fun e w' => e = .returned (.int .i64 (psz p)) ∧ Below w.heap.size w w' := splanSize_any n p s w h

/-- The cells of two plans side by side. -/
theorem row_two {B : Nat} {w : World} {A : Option Addr} {n c : Nat} {sl sr : Sh} (h : RowB shE B w (.slice A n c) [sl, sr]) : n = 2 ∧ 2 ≤ c ∧ ∃ b off, A = some ⟨b, off, none⟩ ∧ b < B ∧
    w.cell? ⟨b, off, none⟩ = some (.int .i64 sl.o) ∧ w.cell? ⟨b, off + 1, none⟩ = some (.int .i64 sl.a) ∧ w.cell? ⟨b, off + 2, none⟩ = some (.int .i64 sl.p) ∧ w.cell? ⟨b, off + 3, none⟩ = some (.bool sl.t) ∧ w.cell? ⟨b, off + 4, none⟩ = some (.slice sl.ka sl.kn sl.kc) ∧
    w.cell? ⟨b, off + 5, none⟩ = some (.int .i64 sr.o) ∧ w.cell? ⟨b, off + 5 + 1, none⟩ = some (.int .i64 sr.a) ∧ w.cell? ⟨b, off + 5 + 2, none⟩ = some (.int .i64 sr.p) ∧ w.cell? ⟨b, off + 5 + 3, none⟩ = some (.bool sr.t) ∧ w.cell? ⟨b, off + 5 + 4, none⟩ = some (.slice sr.ka sr.kn sr.kc) := by
  have hn : n = 2 := h.at_.1
  have hc : n ≤ c := h.at_.2.1
  obtain ⟨b, off, rfl, hb, hx⟩ := row_shs h (by omega)
  have h0 := hx 0 (by simp)
  have h1 := hx 1 (by simp)
  simp only [Nat.zero_mul, Nat.add_zero, Nat.one_mul, List.getElem_cons_zero, List.getElem_cons_succ] at h0 h1
  obtain ⟨a0, a1, a2, a3, a4⟩ := h0
  obtain ⟨b0, b1, b2, b3, b4⟩ := h1
  exact ⟨hn, by omega, b, off, rfl, hb, a0, a1, a2, a3, a4, b0, b1, b2, b3, b4⟩

def CpN (n : Nat) : Prop := ∀ (p : Pl) (s : Sh) (room : Int) (w : World), PR w.heap.size w n p s → -1000 ≤ room → room ≤ 255 →
  Calls Try.prog 44 #[.agg #[.int .i64 s.o, .int .i64 s.a, .int .i64 s.p, .bool s.t, .slice s.ka s.kn s.kc], .int .i64 room] w fun e w' => e = .returned (.int .i64 (cp p room)) ∧ Below w.heap.size w w'

set_option maxHeartbeats 1600000 in
/-- A part that is no good cut. -/
theorem countParts_flat (n : Nat) (o a p : Int) (t : Bool) (ks : List Pl) (s : Sh) (room : Int) (w : World) (h : PR w.heap.size w n (.mk o a p t ks) s) (hr1 : -1000 ≤ room) (hr2 : room ≤ 255) (hc : ¬ (cutB o = true ∧ ks.length = 2 ∧ p = 0 ∧ t = false ∧ 1 ≤ room)) :
    Calls Try.prog 44 #[.agg #[.int .i64 s.o, .int .i64 s.a, .int .i64 s.p, .bool s.t, .slice s.ka s.kn s.kc], .int .i64 room] w fun e w' => e = .returned (.int .i64 (cp (.mk o a p t ks) room)) ∧ Below w.heap.size w w' := by
  have hkn := h.kn
  obtain ⟨⟨h1, h2, h3, h4⟩, -⟩ := h
  obtain ⟨o, a, p, t, ka, kn, kc⟩ := s
  simp only [Pl.o, Pl.a, Pl.p, Pl.t, Pl.ks] at h1 h2 h3 h4 hkn
  subst h1; subst h2; subst h3; subst h4
  have HK := hid hkn
  have HB0 := hid (below_pl (o := o) (a := a) (p := p) (t := t) (ka := ka) (kn := kn) (kc := kc) (ty := 30) w)
  by_cases hrm : room < 1
  · have HV := hid (cp_low (.mk o a p t ks) room hrm)
    clear hc hkn
    go_enter Try.func44, Try.ntmps44
    go_wp2
    go_ret
    exact ⟨ret_int HV.out.symm, HB0.out⟩
  by_cases hok : cutB o = false ∧ ks.length = 0 ∧ a = 0 ∧ (o = 1 ∨ (o = 0 ∧ p = 0 ∧ t = false))
  · obtain ⟨hcf, hk, rfl, ho⟩ := hok
    obtain rfl : ks = [] := List.eq_nil_of_length_eq_zero hk
    obtain rfl : kn = 0 := hkn
    have HV : Hid (cp (.mk o 0 p t []) room = 1) := by rw [Hid, cp_some (wf_leaf hcf p t ho), if_pos (by simp [nodes]; omega)]; rfl
    clear hc hcf hk
    rcases ho with rfl | ⟨rfl, rfl, rfl⟩
    all_goals
      go_enter Try.func44, Try.ntmps44
      go_wp2
      go_ret
      exact ⟨ret_int HV.out.symm, HB0.out⟩
  · have HV : Hid (cp (.mk o a p t ks) room = -1) := by
      cases hcb : cutB o with
      | false => exact cp_none (wf_leaf_bad hcb _ _ _ _ fun hx => hok ⟨hcb, hx⟩) _
      | true => 
        refine cp_none (wf_cut_bad hcb _ _ _ _ ?_) _
        by_cases q1 : ks.length = 2
        · by_cases q2 : p = 0
          · by_cases q3 : t = false
            · exact (hc ⟨hcb, q1, q2, q3, by omega⟩).elim
            · exact .inr (.inr (by simpa using q3))
          · exact .inr (.inl q2)
        · exact .inl q1
    have hcase : ((o == 0) = true ∧ (((kn : Int) != 0) = true ∨ (((kn : Int) != 0) = false ∧ (a != 0) = true) ∨ (((kn : Int) != 0) = false ∧ (a != 0) = false ∧ (p != 0) = true) ∨ (((kn : Int) != 0) = false ∧ (a != 0) = false ∧ (p != 0) = false ∧ t = true))) ∨
        ((o == 0) = false ∧ (o == 1) = true ∧ (((kn : Int) != 0) = true ∨ (((kn : Int) != 0) = false ∧ (a != 0) = true))) ∨
        ((o == 0) = false ∧ (o == 1) = false ∧ (o == 2) = true ∧ (((kn : Int) != 2) = true ∨ (((kn : Int) != 2) = false ∧ (p != 0) = true) ∨ (((kn : Int) != 2) = false ∧ (p != 0) = false ∧ t = true))) ∨
        ((o == 0) = false ∧ (o == 1) = false ∧ (o == 2) = false ∧ (o == 3) = true ∧ (((kn : Int) != 2) = true ∨ (((kn : Int) != 2) = false ∧ (p != 0) = true) ∨ (((kn : Int) != 2) = false ∧ (p != 0) = false ∧ t = true))) ∨
        ((o == 0) = false ∧ (o == 1) = false ∧ (o == 2) = false ∧ (o == 3) = false) := by
      simp only [cutB, decide_eq_true_eq, decide_eq_false_iff_not] at hc hok
      simp only [bne_iff_ne, bne_eq_false_iff_eq, beq_iff_eq, beq_eq_false_iff_ne]
      cases t <;> simp only [Bool.false_eq_true, and_true, true_and, false_and, and_false, or_false, or_true, reduceCtorEq, not_false_eq_true] at hc hok ⊢ <;> omega
    clear hok hc hkn
    rcases hcase with ⟨g0, g1 | ⟨g1, g2⟩ | ⟨g1, g2, g3⟩ | ⟨g1, g2, g3, rfl⟩⟩ | ⟨g0, g9, g1 | ⟨g1, g2⟩⟩ | ⟨g0, g9, g8, g1 | ⟨g1, g2⟩ | ⟨g1, g2, rfl⟩⟩ | ⟨g0, g9, g8, g7, g1 | ⟨g1, g2⟩ | ⟨g1, g2, rfl⟩⟩ | ⟨g0, g9, g8, g7⟩
    all_goals
      go_enter Try.func44, Try.ntmps44
      go_wp2
      go_ret
      exact ⟨ret_int HV.out.symm, HB0.out⟩

set_option maxHeartbeats 1600000 in
/-- A good cut. -/
theorem countParts_cut (n : Nat) (ih : CpN n) (o a : Int) (l r : Pl) (s : Sh) (room : Int) (w : World) (h : PR w.heap.size w (n + 1) (.mk o a 0 false [l, r]) s) (hr1 : 1 ≤ room) (hr2 : room ≤ 255) (hc : cutB o = true) :
    Calls Try.prog 44 #[.agg #[.int .i64 s.o, .int .i64 s.a, .int .i64 s.p, .bool s.t, .slice s.ka s.kn s.kc], .int .i64 room] w fun e w' => e = .returned (.int .i64 (cp (.mk o a 0 false [l, r]) room)) ∧ Below w.heap.size w w' := by
  obtain ⟨⟨h1, h2, h3, h4⟩, S, hr, hl, hS⟩ := h
  obtain ⟨o, a, p, t, ka, kn, kc⟩ := s
  simp only [Pl.o, Pl.a, Pl.p, Pl.t, Pl.ks] at h1 h2 h3 h4 hl hS
  subst h1; subst h2; subst h3; subst h4
  match S, hl with
  | [sl, sr], _ =>
  obtain ⟨rfl, hkc, b1, o1, rfl, hb1, x0, x1, x2, x3, x4, y0, y1, y2, y3, y4⟩ := row_two hr
  have HI := hid ih
  have HP0 : Hid (∀ w1, Below w.heap.size w w1 → PR w1.heap.size w1 n l sl) := fun w1 hb => PR.go (hS 0 (by simp) (by simp)) hb
  have HP1 : Hid (∀ w1, Below w.heap.size w w1 → PR w1.heap.size w1 n r sr) := fun w1 hb => PR.go (hS 1 (by simp) (by simp)) hb
  have HB0 := hid (below_pl (o := o) (a := a) (p := 0) (t := false) (ka := some ⟨b1, o1, none⟩) (kn := 2) (kc := kc) (ty := 30) w)
  have HCP := hid (cp_cut hc a l r room)
  have q1 := cp_bd l (room - 1)
  obtain ⟨F, hF⟩ : ∃ F, F = cp l (room - 1) := ⟨_, rfl⟩
  have HF := hid hF
  rw [← hF] at q1 HCP
  clear ih hr hS hF hl
  rcases cutB_t hc with rfl | rfl
  all_goals
    clear hc
    go_enter Try.func44, Try.ntmps44
    go_wp2_with fail
    refine (HI.out l sl _ _ (HP0.out _ HB0.out) (by omega) (by omega)).mono ?_
    rintro e w1 ⟨rfl, hb⟩
    rw [← HF.out]
    have HB1 := hid (HB0.out.trans (hb.mono HB0.out.size))
    obtain ⟨hcc, hf, hsz⟩ := bcell hb
    clear hb
    by_cases hneg : F < 0
    · have hv := HCP.out
      rw [if_pos hneg] at hv
      have HV := hid hv
      clear hv
      clear hcc hf
      go_wp2
      go_ret
      exact ⟨ret_int HV.out.symm, HB1.out⟩
    · have q2 := cp_bd r (room - 1 - F)
      obtain ⟨G, hG⟩ : ∃ G, G = cp r (room - 1 - F) := ⟨_, rfl⟩
      have HG := hid hG
      rw [← hG] at q2 HCP
      clear hG
      go_wp2_with fail
      refine (HI.out r sr _ _ (HP1.out _ HB1.out) (by omega) (by omega)).mono ?_
      rintro e w2 ⟨rfl, hb2⟩
      rw [← HG.out]
      have HB2 := hid (HB1.out.trans (hb2.mono HB1.out.size))
      clear hb2 hcc hf
      by_cases hneg2 : G < 0
      · have hv := HCP.out
        rw [if_neg (Int.not_lt.2 hneg), if_pos hneg2] at hv
        have HV := hid hv
        clear hv
        go_wp2
        go_ret
        exact ⟨ret_int HV.out.symm, HB2.out⟩
      · have hv := HCP.out
        rw [if_neg (Int.not_lt.2 hneg), if_neg hneg2] at hv
        have HV := hid hv
        clear hv
        go_wp2
        go_ret
        exact ⟨ret_int HV.out.symm, HB2.out⟩

theorem countParts_any : ∀ n, CpN n
  | 0 => fun _ _ _ _ h => h.2.elim
  | n + 1 => fun p s room w h h1 h2 => by
    obtain ⟨o, a, pn, t, ks⟩ := p
    by_cases hc : cutB o = true ∧ ks.length = 2 ∧ pn = 0 ∧ t = false ∧ 1 ≤ room
    · obtain ⟨h3, h4, rfl, rfl, h5⟩ := hc
      match ks, h4 with
      | [l, r], _ => exact countParts_cut n (countParts_any n) o a l r s room w h h5 h2 h3
    · exact countParts_flat (n + 1) o a pn t ks s room w h h1 h2 hc

theorem PlanSize_c {n : Nat} {p : Pl} {s : Sh} {w : World} (h : PR w.heap.size w n p s) : Calls Try.prog 15 #[.agg #[.int .i64 s.o, .int .i64 s.a, .int .i64 s.p, .bool s.t, .slice s.ka s.kn s.kc]] w fun e w' => e = .returned (.int .i64 (psz p)) ∧ Below w.heap.size w w' := by
  have HB0 := hid (below_pl (o := s.o) (a := s.a) (p := s.p) (t := s.t) (ka := s.ka) (kn := s.kn) (kc := s.kc) (ty := 30) w)
  have HP := hid h
  clear h
  go_enter Try.func15, Try.ntmps15
  go_wp2_with fail
  refine (countParts_any n p s 255 _ (HP.out.go HB0.out) (by omega) (by omega)).mono ?_
  rintro e w1 ⟨rfl, hb⟩
  have HB1 := hid (HB0.out.trans (hb.mono HB0.out.size))
  clear hb
  go_wp2
  go_ret
  exact ⟨rfl, HB1.out⟩
theorem sPlanSize_c {n : Nat} {p : Pl} {s : Sh} {w : World} (h : PR w.heap.size w n p s) : Calls Try.prog 16 #[.agg #[.int .i64 s.o, .int .i64 s.a, .int .i64 s.p, .bool s.t, .slice s.ka s.kn s.kc]] w fun e w' => e = .returned (.int .i64 (psz p)) ∧ Below w.heap.size w w' := by
  have HB0 := hid (below_pl (o := s.o) (a := s.a) (p := s.p) (t := s.t) (ka := s.ka) (kn := s.kn) (kc := s.kc) (ty := 30) w)
  have HP := hid h
  clear h
  go_enter Try.func16, Try.ntmps16
  go_wp2_with fail
  refine (splanSize_c (n := n) (p := p) (s := s) (HP.out.go HB0.out)).mono ?_
  rintro e w1 ⟨rfl, hb⟩
  have HB1 := hid (HB0.out.trans (hb.mono HB0.out.size))
  clear hb
  go_wp2
  go_ret
  exact ⟨rfl, HB1.out⟩

end Go.Proofs.Ytafcohmneeabbaa
