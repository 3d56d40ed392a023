/-
  Contracts: valid panes, where a pane is in an order, valid orders, by the program and by the reference.
-/
import Derived.Test.YtmenkjloabficaaOrdP
import Derived.Test.YtmenkjloabficaaRange
import Derived.Test.YtmenkjloabficaaBlk
namespace Go.Proofs.Ytmenkjloabficaa
set_option linter.unusedSimpArgs false
set_option linter.unusedVariables false
open Go.RowKit

theorem svalidPane_t (p : Pn) (w : World) (h : okPn p) : Calls Try.prog 51 #[.agg #[.int .i64 p.w, .int .i64 p.h, .bool p.t, .int .i64 p.k]] w fun e w' => e = .returned (.bool true) ∧ Below w.heap.size w w' := by
  unfold okPn at h
  obtain ⟨h1, h2, h3, h4, h5, h6⟩ := h
  go_enter Try.func51, Try.ntmps51
  go_wp2_with fail
  refine (inRange_t _ _ _ _ h1 h2).mono ?_; rintro e w1 ⟨rfl, rfl⟩
  go_wp2_with fail
  refine (inRange_t _ _ _ _ h3 h4).mono ?_; rintro e w1 ⟨rfl, rfl⟩
  go_wp2_with fail
  refine (inRange_t _ _ _ _ h5 h6).mono ?_; rintro e w1 ⟨rfl, rfl⟩
  go_wp2
  go_ret
  exact ⟨rfl, (Below.refl _ _).alloc (Nat.le_refl _) _⟩
theorem svalidPane_f (p : Pn) (w : World) (h : ¬ okPn p) : Calls Try.prog 51 #[.agg #[.int .i64 p.w, .int .i64 p.h, .bool p.t, .int .i64 p.k]] w fun e w' => e = .returned (.bool false) ∧ Below w.heap.size w w' := by
  unfold okPn at h
  by_cases h1 : 1 ≤ p.w ∧ p.w ≤ 200
  · by_cases h2 : 1 ≤ p.h ∧ p.h ≤ 200
    · have h3 : p.k < 0 ∨ 9 < p.k := by omega
      obtain ⟨a1, a2⟩ := h1
      obtain ⟨a3, a4⟩ := h2
      have H3 := hid h3
      clear h h3
      go_enter Try.func51, Try.ntmps51
      go_wp2_with fail
      refine (inRange_t _ _ _ _ a1 a2).mono ?_; rintro e w1 ⟨rfl, rfl⟩
      go_wp2_with fail
      refine (inRange_t _ _ _ _ a3 a4).mono ?_; rintro e w1 ⟨rfl, rfl⟩
      go_wp2_with fail
      refine (inRange_f _ _ _ _ H3.out).mono ?_; rintro e w1 ⟨rfl, rfl⟩
      go_wp2
      go_ret
      exact ⟨rfl, (Below.refl _ _).alloc (Nat.le_refl _) _⟩
    · have h3 : p.h < 1 ∨ 200 < p.h := by omega
      obtain ⟨a1, a2⟩ := h1
      have H3 := hid h3
      clear h h3 h2
      go_enter Try.func51, Try.ntmps51
      go_wp2_with fail
      refine (inRange_t _ _ _ _ a1 a2).mono ?_; rintro e w1 ⟨rfl, rfl⟩
      go_wp2_with fail
      refine (inRange_f _ _ _ _ H3.out).mono ?_; rintro e w1 ⟨rfl, rfl⟩
      go_wp2
      go_ret
      exact ⟨rfl, (Below.refl _ _).alloc (Nat.le_refl _) _⟩
  · have h3 : p.w < 1 ∨ 200 < p.w := by omega
    have H3 := hid h3
    clear h h3 h1
    go_enter Try.func51, Try.ntmps51
    go_wp2_with fail
    refine (inRange_f _ _ _ _ H3.out).mono ?_; rintro e w1 ⟨rfl, rfl⟩
    go_wp2
    go_ret
    exact ⟨rfl, (Below.refl _ _).alloc (Nat.le_refl _) _⟩
theorem ValidPane_c (p : Pn) (w : World) : Calls Try.prog 22 #[.agg #[.int .i64 p.w, .int .i64 p.h, .bool p.t, .int .i64 p.k]] w fun e w' => e = .returned (.bool (vpnB p)) ∧ Below w.heap.size w w' := by
  have HV : Hid (∀ c : Bool, (c = true ↔ okPn p) → c = vpnB p) := fun c h => by rw [Bool.eq_iff_iff, vpnB_iff]; exact h
  go_enter Try.func22, Try.ntmps22
  go_wp2
  all_goals
    go_ret
    refine ⟨ret_bool (HV.out _ ?_), (Below.refl _ _).alloc (Nat.le_refl _) _⟩
    unfold okPn
    simp
    omega

/-- Which of two panes' fields differs first. -/
theorem pane_ne {a b : Pn} (h : a ≠ b) : (a.w == b.w) = false ∨ ((a.w == b.w) = true ∧ (a.h == b.h) = false) ∨ ((a.w == b.w) = true ∧ (a.h == b.h) = true ∧ (a.t == b.t) = false) ∨ ((a.w == b.w) = true ∧ (a.h == b.h) = true ∧ (a.t == b.t) = true ∧ (a.k == b.k) = false) := by
  by_cases h1 : a.w = b.w
  · by_cases h2 : a.h = b.h
    · by_cases h3 : a.t = b.t
      · have h4 : a.k ≠ b.k := fun h4 => h (by cases a; cases b; simp_all)
        exact .inr (.inr (.inr ⟨by simpa using h1, by simpa using h2, by simpa using h3, by simpa using h4⟩))
      · exact .inr (.inr (.inl ⟨by simpa using h1, by simpa using h2, by simpa using h3⟩))
    · exact .inr (.inl ⟨by simpa using h1, by simpa using h2⟩)
  · exact .inl (by simpa using h1)

theorem samePane_t (l : Ln) (g : Nat) (w : World) (h : Blk w g #[.int .i64 l.w, .int .i64 l.h, .bool l.t, .int .i64 l.k] 38) : Calls Try.prog 56 #[.agg #[.int .i64 l.w, .int .i64 l.h, .bool l.t, .int .i64 l.k, .int .i64 l.c], .pointer (some ⟨g, 0, none⟩)] w fun e w' => e = .returned (.bool true) ∧ Below w.heap.size w w' := by
  have hc := fun (o : Nat) => h.cell o
  have hl := h.lt
  clear h
  go_enter Try.func56, Try.ntmps56
  go_wp2
  go_ret
  exact ⟨rfl, (Below.refl _ _).alloc (Nat.le_refl _) _⟩
theorem samePane_f (l : Ln) (q : Pn) (g : Nat) (w : World) (h : Blk w g #[.int .i64 q.w, .int .i64 q.h, .bool q.t, .int .i64 q.k] 38) (hne : l.p ≠ q) : Calls Try.prog 56 #[.agg #[.int .i64 l.w, .int .i64 l.h, .bool l.t, .int .i64 l.k, .int .i64 l.c], .pointer (some ⟨g, 0, none⟩)] w fun e w' => e = .returned (.bool false) ∧ Below w.heap.size w w' := by
  have hc := fun (o : Nat) => h.cell o
  have hl := h.lt
  have hcase := pane_ne hne
  simp only [Ln.p] at hcase
  clear h hne
  rcases hcase with g1 | ⟨g1, g2⟩ | ⟨g1, g2, g3⟩ | ⟨g1, g2, g3, g4⟩
  all_goals
    go_enter Try.func56, Try.ntmps56
    go_wp2
    go_ret
    exact ⟨rfl, (Below.refl _ _).alloc (Nat.le_refl _) _⟩

/-- r is the place of the first line of a pane (the list's length if there is none). -/
def PlP (L : List Ln) (q : Pn) (r : Nat) : Prop := r ≤ L.length ∧ (∀ l ∈ L.take r, l.p ≠ q) ∧ ∀ (h : r < L.length), L[r].p = q
theorem plp_ex (L : List Ln) (q : Pn) : ∃ r, PlP L q r := by
  induction L with
  | nil => exact ⟨0, by simp, by simp, fun h => by simp at h⟩
  | cons l L ih =>
    by_cases h : l.p = q
    · exact ⟨0, by simp, by simp, fun _ => h⟩
    · obtain ⟨r, h1, h2, h3⟩ := ih
      refine ⟨r + 1, by simpa using h1, fun x hx => ?_, fun hr => by simpa using h3 (by simpa using hr)⟩
      rw [List.take_succ_cons] at hx
      rcases List.mem_cons.1 hx with rfl | hx
      · exact h
      · exact h2 x hx
def plV (L : List Ln) (r : Nat) : Int := if r < L.length then (r : Int) else -1
theorem plV_t {L : List Ln} {r : Nat} (h : r < L.length) : plV L r = r := by simp [plV, h]
theorem plV_f {L : List Ln} {r : Nat} (h : ¬ r < L.length) : plV L r = -1 := by simp [plV, h]

set_option maxHeartbeats 1600000 in
set_option maxRecDepth 100000 in
theorem indexLine_c (v : Value) (L : List Ln) (q : Pn) (r g : Nat) (w : World) (h : Row lineE w v L) (hp : Blk w g #[.int .i64 q.w, .int .i64 q.h, .bool q.t, .int .i64 q.k] 38) (hr : PlP L q r) : Calls Try.prog 55 #[v, .func (.func 56) #[] #[.pointer (some ⟨g, 0, none⟩)]] w fun e w' => e = .returned (.int .i64 (plV L r)) ∧ Below w.heap.size w w' := by
  obtain ⟨A1, c1, rfl, hc1, hm1⟩ := h.form
  unfold maxLen at hm1
  have HP := hid hp
  have HR := hid hr
  have HH := hid h
  clear hp hr h
  go_enter Try.func55, Try.ntmps55
  go_wp2
  go_loopw [8] (fun i wr => ∃ k : Nat, i = .int .i64 k ∧ k ≤ r ∧ Below w.heap.size w wr) (fun i _ => L.length - (intOf i).toNat)
  case atStart => exact ⟨0, rfl, by omega, Below.refl _ _⟩
  case round =>
    obtain ⟨k, rfl, hk, hb⟩ := hrel
    have hrL := HR.out.1
    have HB := hid hb
    have HP1 := hid (HP.out.go hb)
    by_cases hlt : k < L.length
    · obtain ⟨b1, o1, rfl, hb1, hx⟩ := row_lines (HH.out.below hb) (by omega)
      obtain ⟨x0, x1, x2, x3, x4⟩ := hx k hlt
      clear hx hb
      by_cases hkr : k = r
      · have he := HR.out.2.2 (by omega)
        subst hkr
        have HE : Hid (plV L k = k) := plV_t hlt
        have HQ : Hid (Blk wr g #[.int .i64 L[k].w, .int .i64 L[k].h, .bool L[k].t, .int .i64 L[k].k] 38) := by
          have := HP1.out; rw [← he] at this; exact this
        clear he hk
        go_wp2_with fail
        refine (samePane_t L[k] g _ HQ.out).mono ?_
        rintro e w2 ⟨rfl, hb⟩
        have HB2 := hid (HB.out.trans (hb.mono HB.out.size))
        clear hb
        go_wp2
        go_ret
        exact ⟨ret_int HE.out.symm, HB2.out⟩
      · have hk2 : k + 1 ≤ r := by omega
        have HN := hid (HR.out.2.1 L[k] (List.mem_take_iff_getElem.2 ⟨k, by omega, rfl⟩))
        clear hkr hk
        go_wp2_with fail
        refine (samePane_f L[k] q g _ HP1.out HN.out).mono ?_
        rintro e w2 ⟨rfl, hb⟩
        have HB2 := hid (HB.out.trans (hb.mono HB.out.size))
        clear hb
        go_wp2
        exact ⟨⟨k + 1, by go_num, hk2, HB2.out⟩, by simp [intOf]; omega⟩
    · have HE : Hid (plV L r = -1) := plV_f (by omega)
      clear hb
      go_wp2
      go_ret
      exact ⟨ret_int HE.out.symm, HB.out⟩

set_option maxHeartbeats 1600000 in
set_option maxRecDepth 100000 in
theorem findLine_c (v : Value) (L : List Ln) (q : Pn) (r : Nat) (w : World) (h : Row lineE w v L) (hr : PlP L q r) : Calls Try.prog 44 #[v, .agg #[.int .i64 q.w, .int .i64 q.h, .bool q.t, .int .i64 q.k]] w fun e w' => e = .returned (.int .i64 (plV L r)) ∧ Below w.heap.size w w' := by
  have HH := hid (h.go ((Below.refl _ _).alloc (Nat.le_refl _) (.cells #[.int .i64 q.w, .int .i64 q.h, .bool q.t, .int .i64 q.k] 38)))
  have HR := hid hr
  clear h hr
  go_enter Try.func44, Try.ntmps44
  go_wp2_with fail
  refine (indexLine_c _ L q r w.heap.size _ HH.out (Blk.new _ _ _) HR.out).mono ?_
  rintro e w2 ⟨rfl, hb⟩
  have HB2 := hid (((Below.refl _ _).alloc (Nat.le_refl _) _).trans (hb.mono (by simp)) : Below w.heap.size w w2)
  clear hb
  go_wp2
  go_ret
  exact ⟨rfl, HB2.out⟩

theorem plp_self {L : List Ln} {k : Nat} (hk : k < L.length) (h : L[k].p ∉ (L.take k).map Ln.p) : PlP L L[k].p k :=
  ⟨by omega, fun l hl e => h (List.mem_map.2 ⟨l, hl, e⟩), fun _ => rfl⟩
theorem plp_lt {L : List Ln} {k : Nat} (hk : k < L.length) (h : L[k].p ∈ (L.take k).map Ln.p) : ∃ r, r < k ∧ PlP L L[k].p r := by
  obtain ⟨r, h1, h2, h3⟩ := plp_ex L L[k].p
  refine ⟨r, ?_, h1, h2, h3⟩
  obtain ⟨l, hl, e⟩ := List.mem_map.1 h
  rcases Nat.lt_or_ge r k with h4 | h4
  · exact h4
  · exfalso
    obtain ⟨i, hi, rfl⟩ := List.mem_take_iff_getElem.1 hl
    exact h2 L[i] (List.mem_take_iff_getElem.2 ⟨i, by omega, rfl⟩) e

set_option maxHeartbeats 3200000 in
set_option maxRecDepth 100000 in
theorem ValidOrder_c (v : Value) (L : List Ln) (w : World) (h : Row lineE w v L) : Calls Try.prog 21 #[v] w fun e w' => e = .returned (.bool (voB L)) ∧ Below w.heap.size w w' := by
  obtain ⟨A1, c1, rfl, hc1, hm1⟩ := h.form
  unfold maxLen at hm1
  have HH := hid h
  clear h
  by_cases h8 : L.length ≤ 8
  · have d8 : decide ((8 : Int) < (L.length : Int)) = false := decide_eq_false (by omega)
    go_enter Try.func21, Try.ntmps21
    go_wp2
    go_loopw [3, 11] (fun s i wr => ∃ k : Nat, ∃ lf : Int, i = .int .i64 k ∧ s = .int .i64 lf ∧ lf = 24 - sumC (L.take k) ∧ 0 ≤ lf ∧ lf ≤ 24 ∧ k ≤ L.length ∧ goodTo L k ∧ Below w.heap.size w wr) (fun _ i _ => L.length - (intOf i).toNat)
    case atStart => exact ⟨0, 24, rfl, rfl, by simp [sumC], by omega, by omega, by omega, goodTo_zero L, Below.refl _ _⟩
    case round =>
      obtain ⟨k, lf, rfl, rfl, hlf, hlf0, hlf1, hk, hg, hb⟩ := hrel
      have HLF := hid hlf
      have HG := hid hg
      have HB := hid hb
      have HR := hid (HH.out.go hb)
      have hsz := hb.size
      clear hlf hg hb
      by_cases hlt : k < L.length
      · obtain ⟨b1, o1, rfl, hb1, hx⟩ := row_lines HR.out (by omega)
        obtain ⟨x0, x1, x2, x3, x4⟩ := hx k hlt
        have HQ := hid (Blk.new wr #[.int .i64 L[k].w, .int .i64 L[k].h, .bool L[k].t, .int .i64 L[k].k, .int .i64 L[k].c] 56)
        have HB1 := hid (HB.out.alloc hsz (.cells #[.int .i64 L[k].w, .int .i64 L[k].h, .bool L[k].t, .int .i64 L[k].k, .int .i64 L[k].c] 56))
        have HR1 := hid (HR.out.go ((Below.refl _ _).alloc (Nat.le_refl _) (.cells #[.int .i64 L[k].w, .int .i64 L[k].h, .bool L[k].t, .int .i64 L[k].k, .int .i64 L[k].c] 56)))
        clear hx
        go_wp2_with fail
        refine (ValidPane_c L[k].p _).mono ?_
        rintro e w2 ⟨rfl, hb⟩
        have HB2 := hid (HB1.out.trans (hb.mono HB1.out.size))
        have HQ2 := hid (HQ.out.go hb)
        have HR2 := hid (HR1.out.go hb)
        clear hb
        have c_Q := fun (o : Nat) => HQ2.out.cell o
        have l_Q := HQ2.out.lt
        cases hp : vpnB L[k].p with
        | false =>
          have HF : Hid (voB L = false) := voB_not.2 (fun hv => by
            have := (hv.2.1 _ (List.getElem_mem hlt)).1
            rw [← vpnB_iff, hp] at this; cases this)
          clear hp
          go_wp2
          go_ret
          exact ⟨ret_bool HF.out.symm, HB2.out⟩
        | true =>
          have HP := hid (vpnB_iff.1 hp)
          clear hp
          by_cases hin : L[k].p ∈ (L.take k).map Ln.p
          · obtain ⟨r, hrk, hr⟩ := plp_lt hlt hin
            have HF : Hid (voB L = false) := voB_not.2 (fun hv => hv.no_dup k hlt hin)
            have HPL := hid hr
            have hpv := plV_t (L := L) (r := r) (by omega)
            have hne : ((r : Int) != (k : Int)) = true := by simp; omega
            have HPV := hid hpv
            clear hin hr hpv
            go_wp2_with fail
            refine (findLine_c _ L L[k].p r _ HR2.out HPL.out).mono ?_
            rintro e w3 ⟨rfl, hb⟩
            rw [HPV.out]
            have HB3 := hid (HB2.out.trans (hb.mono HB2.out.size))
            clear hb
            go_wp2
            go_ret
            exact ⟨ret_bool HF.out.symm, HB3.out⟩
          · have HPL := hid (plp_self hlt hin)
            have HPV := hid (plV_t hlt)
            have HIN := hid hin
            have hne : ((k : Int) != (k : Int)) = false := by simp
            clear hin
            go_wp2_with fail
            refine (findLine_c _ L L[k].p k _ HR2.out HPL.out).mono ?_
            rintro e w3 ⟨rfl, hb⟩
            rw [HPV.out]
            have HB3 := hid (HB2.out.trans (hb.mono HB2.out.size))
            have HQ3 := hid (HQ2.out.go hb)
            clear hb c_Q l_Q
            have c_Q := fun (o : Nat) => HQ3.out.cell o
            have l_Q := HQ3.out.lt
            have HS := hid (sumC_succ L k hlt)
            by_cases hc : 1 ≤ L[k].c ∧ L[k].c ≤ lf
            · obtain ⟨hc1', hc2'⟩ := hc
              have d1 : decide (L[k].c < 1) = false := decide_eq_false (by omega)
              have d2 : decide (lf < L[k].c) = false := decide_eq_false (by omega)
              have HG2 := hid (goodTo_succ hlt HG.out HP.out hc1' (by omega) HIN.out)
              have HL2 : Hid (lf - L[k].c = 24 - sumC (L.take (k + 1))) := by have := HS.out; have := HLF.out; rw [Hid]; omega
              go_wp2
              exact ⟨⟨k + 1, lf - L[k].c, by go_num, by go_num, HL2.out, by omega, by omega, by omega, HG2.out, HB3.out⟩, by simp [intOf]; omega⟩
            · have HF : Hid (voB L = false) := voB_not.2 (fun hv => hc ⟨(hv.2.1 _ (List.getElem_mem hlt)).2.1, by
                have h1 := hv.sum_to (k + 1)
                have := HS.out
                have := HLF.out
                omega⟩)
              by_cases h1 : L[k].c < 1
              · have d1 : decide (L[k].c < 1) = true := decide_eq_true h1
                clear hc
                go_wp2
                go_ret
                exact ⟨ret_bool HF.out.symm, HB3.out⟩
              · have d1 : decide (L[k].c < 1) = false := decide_eq_false h1
                have d2 : decide (lf < L[k].c) = true := decide_eq_true (by omega)
                clear hc h1
                go_wp2
                go_ret
                exact ⟨ret_bool HF.out.symm, HB3.out⟩
      · have HT : Hid (voB L = true) := by
          have := HLF.out
          rw [List.take_of_length_le (by omega)] at this
          exact voB_iff.2 (good_end (by omega) HG.out h8 (by omega))
        go_wp2
        go_ret
        exact ⟨ret_bool HT.out.symm, HB.out⟩
  · have d8 : decide ((8 : Int) < (L.length : Int)) = true := decide_eq_true (by omega)
    have HF : Hid (voB L = false) := voB_not.2 (fun hv => h8 hv.1)
    clear h8
    go_enter Try.func21, Try.ntmps21
    go_wp2
    go_ret
    exact ⟨ret_bool HF.out.symm, Below.refl _ _⟩

end Go.Proofs.Ytmenkjloabficaa
