/-
  Orders, plain: no program in sight.
-/
import Derived.Test.YtmenkjloabficaaLine
namespace Go.Proofs.Ytmenkjloabficaa
set_option linter.unusedSimpArgs false
set_option linter.unusedVariables false

/-- The pane of a line. -/
def Ln.p (l : Ln) : Pn := ⟨l.w, l.h, l.t, l.k⟩
/-- A line of a pane. -/
def Pn.ln (p : Pn) (c : Int) : Ln := ⟨p.w, p.h, p.t, p.k, c⟩
theorem ln_p (p : Pn) (c : Int) : (p.ln c).p = p := rfl
theorem ln_eq (l : Ln) : l.p.ln l.c = l := rfl
/-- A valid pane. -/
def okPn (p : Pn) : Prop := 1 ≤ p.w ∧ p.w ≤ 200 ∧ 1 ≤ p.h ∧ p.h ≤ 200 ∧ 0 ≤ p.k ∧ p.k ≤ 9
instance (p : Pn) : Decidable (okPn p) := by unfold okPn; infer_instance
def vpnB (p : Pn) : Bool := decide (okPn p)
theorem vpnB_iff {p : Pn} : vpnB p = true ↔ okPn p := by simp [vpnB]
theorem vpnB_not {p : Pn} : vpnB p = false ↔ ¬ okPn p := by simp [vpnB]
def sumC (L : List Ln) : Int := (L.map (·.c)).sum
theorem sumC_nil : sumC [] = 0 := rfl
theorem sumC_cons (l : Ln) (L : List Ln) : sumC (l :: L) = l.c + sumC L := by simp [sumC]
theorem sumC_append (L M : List Ln) : sumC (L ++ M) = sumC L + sumC M := by simp [sumC]
theorem sumC_succ (L : List Ln) (k : Nat) (hk : k < L.length) : sumC (L.take (k + 1)) = sumC (L.take k) + L[k].c := by
  rw [List.take_succ_eq_append_getElem hk, sumC_append, sumC_cons, sumC_nil]; omega
/-- A valid order. -/
def VO (L : List Ln) : Prop := L.length ≤ 8 ∧ (∀ l ∈ L, okPn l.p ∧ 1 ≤ l.c ∧ l.c ≤ 24) ∧ (L.map Ln.p).Nodup ∧ sumC L ≤ 24
instance (L : List Ln) : Decidable (VO L) := by unfold VO; infer_instance
def voB (L : List Ln) : Bool := decide (VO L)
theorem voB_iff {L : List Ln} : voB L = true ↔ VO L := by simp [voB]
theorem voB_not {L : List Ln} : voB L = false ↔ ¬ VO L := by simp [voB]
theorem sumC_bd {L : List Ln} (h : ∀ l ∈ L, 1 ≤ l.c ∧ l.c ≤ 24) : (L.length : Int) ≤ sumC L ∧ sumC L ≤ 24 * L.length := by
  induction L with
  | nil => simp [sumC_nil]
  | cons l L ih =>
    have h1 := ih (fun x hx => h x (by simp [hx]))
    have h2 := h l (by simp)
    rw [sumC_cons, List.length_cons]
    omega
/-- The first k lines are well. -/
def goodTo (L : List Ln) (k : Nat) : Prop := (∀ l ∈ L.take k, okPn l.p ∧ 1 ≤ l.c ∧ l.c ≤ 24) ∧ ((L.take k).map Ln.p).Nodup
theorem goodTo_zero (L : List Ln) : goodTo L 0 := by simp [goodTo]
theorem nodup_snocA {α : Type} {l : List α} {a : α} : (l ++ [a]).Nodup ↔ l.Nodup ∧ a ∉ l := by
  rw [List.nodup_append]
  constructor
  · intro ⟨h1, _, h3⟩
    exact ⟨h1, fun h => h3 a h a (by simp) rfl⟩
  · intro ⟨h1, h2⟩
    exact ⟨h1, by simp, fun x hx y hy => by simp at hy; subst hy; rintro rfl; exact h2 hx⟩
theorem goodTo_succ {L : List Ln} {k : Nat} (hk : k < L.length) (h : goodTo L k) (h1 : okPn L[k].p) (h2 : 1 ≤ L[k].c) (h3 : L[k].c ≤ 24) (h4 : L[k].p ∉ (L.take k).map Ln.p) : goodTo L (k + 1) := by
  unfold goodTo at *
  rw [List.take_succ_eq_append_getElem hk]
  refine ⟨fun l hl => ?_, ?_⟩
  · rcases List.mem_append.1 hl with hl | hl
    · exact h.1 l hl
    · simp at hl; subst hl; exact ⟨h1, h2, h3⟩
  · rw [List.map_append]
    exact nodup_snocA.2 ⟨h.2, h4⟩
theorem VO.good {L : List Ln} (h : VO L) (k : Nat) : goodTo L k :=
  ⟨fun l hl => h.2.1 l (List.mem_of_mem_take hl), by rw [List.map_take]; exact h.2.2.1.sublist (List.take_sublist _ _)⟩
theorem good_end {L : List Ln} {k : Nat} (hk : L.length ≤ k) (h : goodTo L k) (h8 : L.length ≤ 8) (hs : sumC L ≤ 24) : VO L := by
  unfold goodTo at h
  rw [List.take_of_length_le hk] at h
  exact ⟨h8, h.1, h.2, hs⟩
theorem VO.no_dup {L : List Ln} (h : VO L) (k : Nat) (hk : k < L.length) : L[k].p ∉ (L.take k).map Ln.p := by
  have := (h.good (k + 1)).2
  rw [List.take_succ_eq_append_getElem hk, List.map_append] at this
  exact (nodup_snocA.1 this).2
theorem VO.sum_to {L : List Ln} (h : VO L) (k : Nat) : sumC (L.take k) ≤ 24 := by
  have h1 : sumC L = sumC (L.take k) + sumC (L.drop k) := by rw [← sumC_append, List.take_append_drop]
  have h2 := sumC_bd (L := L.drop k) (fun l hl => (h.2.1 l (List.mem_of_mem_drop hl)).2)
  have := h.2.2.2
  omega

/-- All panes. -/
def panesL (L : List Ln) : List Pn := L.flatMap fun l => List.replicate l.c.toNat l.p
theorem panesL_append (L M : List Ln) : panesL (L ++ M) = panesL L ++ panesL M := by simp [panesL]
theorem panesL_succ (L : List Ln) (k : Nat) (hk : k < L.length) : panesL (L.take (k + 1)) = panesL (L.take k) ++ List.replicate L[k].c.toNat L[k].p := by
  rw [List.take_succ_eq_append_getElem hk, panesL_append]; simp [panesL]
theorem panesL_len {L : List Ln} (h : ∀ l ∈ L, 0 ≤ l.c) : ((panesL L).length : Int) = sumC L := by
  induction L with
  | nil => rfl
  | cons l L ih =>
    have h1 := ih (fun x hx => h x (by simp [hx]))
    have h2 := h l (by simp)
    have e : panesL (l :: L) = List.replicate l.c.toNat l.p ++ panesL L := by simp [panesL]
    rw [e, List.length_append, List.length_replicate, sumC_cons]
    omega
theorem panesL_mem {L : List Ln} {p : Pn} (h : p ∈ panesL L) : ∃ l ∈ L, l.p = p := by
  simp only [panesL, List.mem_flatMap] at h
  obtain ⟨l, hl, h2⟩ := h
  exact ⟨l, hl, (List.eq_of_mem_replicate h2).symm⟩
def areaP (M : List Pn) : Int := (M.map fun p => p.w * p.h).sum
theorem areaP_nil : areaP [] = 0 := rfl
theorem areaP_cons (p : Pn) (M : List Pn) : areaP (p :: M) = p.w * p.h + areaP M := by simp [areaP]
theorem areaP_append (L M : List Pn) : areaP (L ++ M) = areaP L + areaP M := by simp [areaP]
theorem areaP_succ (M : List Pn) (k : Nat) (hk : k < M.length) : areaP (M.take (k + 1)) = areaP (M.take k) + M[k].w * M[k].h := by
  rw [List.take_succ_eq_append_getElem hk, areaP_append, areaP_cons, areaP_nil]; omega
def areaO (L : List Ln) : Int := (L.map fun l => l.c * l.w * l.h).sum
theorem areaO_nil : areaO [] = 0 := rfl
theorem areaO_cons (l : Ln) (L : List Ln) : areaO (l :: L) = l.c * l.w * l.h + areaO L := by simp [areaO]
theorem areaO_append (L M : List Ln) : areaO (L ++ M) = areaO L + areaO M := by simp [areaO]
theorem areaO_succ (L : List Ln) (k : Nat) (hk : k < L.length) : areaO (L.take (k + 1)) = areaO (L.take k) + L[k].c * L[k].w * L[k].h := by
  rw [List.take_succ_eq_append_getElem hk, areaO_append, areaO_cons, areaO_nil]; omega
theorem areaP_rep (n : Nat) (p : Pn) : areaP (List.replicate n p) = n * (p.w * p.h) := by
  induction n with
  | zero => simp [areaP_nil]
  | succ n ih => rw [List.replicate_succ, areaP_cons, ih]; push_cast; rw [Int.add_mul]; omega
theorem area_panes {L : List Ln} (h : ∀ l ∈ L, 0 ≤ l.c) : areaP (panesL L) = areaO L := by
  induction L with
  | nil => rfl
  | cons l L ih =>
    have h1 := ih (fun x hx => h x (by simp [hx]))
    have h2 := h l (by simp)
    have e : panesL (l :: L) = List.replicate l.c.toNat l.p ++ panesL L := by simp [panesL]
    rw [e, areaP_append, areaP_rep, areaO_cons, h1]
    have e2 : ((l.c.toNat : Nat) : Int) = l.c := by omega
    rw [e2, Int.mul_assoc]
    rfl
theorem okPn.area {p : Pn} (h : okPn p) : 1 ≤ p.w * p.h ∧ p.w * p.h ≤ 40000 := by
  unfold okPn at h
  constructor
  · have : (1 : Int) * 1 ≤ p.w * p.h := Int.mul_le_mul (by omega) (by omega) (by omega) (by omega)
    omega
  · have : p.w * p.h ≤ 200 * 200 := Int.mul_le_mul (by omega) (by omega) (by omega) (by omega)
    omega
theorem areaP_bd {M : List Pn} (h : ∀ p ∈ M, okPn p) : 0 ≤ areaP M ∧ areaP M ≤ 40000 * M.length := by
  induction M with
  | nil => simp [areaP_nil]
  | cons p M ih =>
    have h1 := ih (fun x hx => h x (by simp [hx]))
    have h2 := (h p (by simp)).area
    rw [areaP_cons, List.length_cons]
    omega
theorem VO.panes_ok {L : List Ln} (h : VO L) : ∀ p ∈ panesL L, okPn p := fun p hp => by
  obtain ⟨l, hl, rfl⟩ := panesL_mem hp
  exact (h.2.1 l hl).1
theorem VO.pos {L : List Ln} (h : VO L) : ∀ l ∈ L, 0 ≤ l.c := fun l hl => by have := (h.2.1 l hl).2.1; omega
theorem VO.areaO_bd {L : List Ln} (h : VO L) : 0 ≤ areaO L ∧ areaO L ≤ 40000 * 24 := by
  rw [← area_panes h.pos]
  have h1 := areaP_bd h.panes_ok
  have h2 := panesL_len h.pos
  have := h.2.2.2
  omega

/-- One more line of a pane. -/
def addL : List Ln → Pn → Int → List Ln
  | [], p, c => [p.ln c]
  | l :: L, p, c => if l.p = p then l.p.ln (l.c + c) :: L else l :: addL L p c
theorem addL_at : ∀ (L : List Ln) (p : Pn) (c : Int) (k : Nat) (hk : k < L.length), (∀ l ∈ L.take k, l.p ≠ p) → L[k].p = p → addL L p c = L.set k (L[k].p.ln (L[k].c + c))
  | [], p, c, k, hk, _, _ => by simp at hk
  | l :: L, p, c, 0, hk, _, h => by simp at h; simp [addL, h]
  | l :: L, p, c, k + 1, hk, hn, h => by
    have h1 : l.p ≠ p := hn l (by simp)
    have h2 := addL_at L p c k (by simpa using hk) (fun x hx => hn x (by simp [hx])) (by simpa using h)
    simp only [addL, if_neg h1, List.set_cons_succ, List.getElem_cons_succ]
    rw [h2]
theorem addL_none : ∀ (L : List Ln) (p : Pn) (c : Int), (∀ l ∈ L, l.p ≠ p) → addL L p c = L ++ [p.ln c]
  | [], p, c, _ => rfl
  | l :: L, p, c, h => by
    have h1 : l.p ≠ p := h l (by simp)
    simp only [addL, if_neg h1, List.cons_append]
    rw [addL_none L p c (fun x hx => h x (by simp [hx]))]
theorem addL_len (L : List Ln) (p : Pn) (c : Int) : (addL L p c).length ≤ L.length + 1 ∧ L.length ≤ (addL L p c).length := by
  induction L with
  | nil => simp [addL]
  | cons l L ih => unfold addL; split <;> simp <;> omega
theorem addL_sum (L : List Ln) (p : Pn) (c : Int) : sumC (addL L p c) = sumC L + c := by
  induction L with
  | nil => simp [addL, sumC, Pn.ln]
  | cons l L ih =>
    unfold addL
    split
    · rw [sumC_cons, sumC_cons]; simp only [Pn.ln]; omega
    · rw [sumC_cons, sumC_cons, ih]; omega
theorem addL_area (L : List Ln) (p : Pn) (c : Int) : areaO (addL L p c) = areaO L + c * p.w * p.h := by
  induction L with
  | nil => simp [addL, areaO, Pn.ln]
  | cons l L ih =>
    unfold addL
    split
    · rename_i h
      subst h
      rw [areaO_cons, areaO_cons]
      simp only [Pn.ln, Ln.p, Int.add_mul]
      omega
    · rw [areaO_cons, areaO_cons, ih]; omega
theorem addL_bd {L : List Ln} {p : Pn} {c B : Int} (hB : 0 ≤ B) (h : ∀ l ∈ L, -B ≤ l.c ∧ l.c ≤ B) (hc : -1000 ≤ c ∧ c ≤ 1000) : ∀ l ∈ addL L p c, -(B + 1000) ≤ l.c ∧ l.c ≤ B + 1000 := by
  induction L with
  | nil => intro l hl; simp [addL] at hl; subst hl; simp only [Pn.ln]; omega
  | cons x L ih =>
    intro l hl
    have hx := h x (by simp)
    unfold addL at hl
    split at hl
    · rcases List.mem_cons.1 hl with rfl | hl
      · simp only [Pn.ln]; omega
      · have := h l (by simp [hl]); omega
    · rcases List.mem_cons.1 hl with rfl | hl
      · omega
      · exact ih (fun y hy => h y (by simp [hy])) l hl
def mergeL (a b : List Ln) : List Ln := b.foldl (fun s l => addL s l.p l.c) a
theorem mergeL_succ (a b : List Ln) (k : Nat) (hk : k < b.length) : mergeL a (b.take (k + 1)) = addL (mergeL a (b.take k)) b[k].p b[k].c := by
  unfold mergeL
  rw [List.take_succ_eq_append_getElem hk, List.foldl_append]
  rfl
theorem mergeL_snoc (a b : List Ln) (x : Ln) : mergeL a (b ++ [x]) = addL (mergeL a b) x.p x.c := by simp [mergeL]
theorem mergeL_nil (a : List Ln) : mergeL a [] = a := rfl
theorem mergeL_sum (a : List Ln) : ∀ (b : List Ln) , sumC (mergeL a b) = sumC a + sumC b := by
  intro b
  induction b generalizing a with
  | nil => simp [mergeL_nil, sumC_nil]
  | cons x b ih =>
    have e : mergeL a (x :: b) = mergeL (addL a x.p x.c) b := rfl
    rw [e, ih, addL_sum, sumC_cons]; omega
theorem mergeL_area (a : List Ln) : ∀ (b : List Ln) , areaO (mergeL a b) = areaO a + areaO b := by
  intro b
  induction b generalizing a with
  | nil => simp [mergeL_nil, areaO_nil]
  | cons x b ih =>
    have e : mergeL a (x :: b) = mergeL (addL a x.p x.c) b := rfl
    rw [e, ih, addL_area, areaO_cons]
    simp only [Ln.p]; omega
theorem mergeL_len (a : List Ln) : ∀ (b : List Ln), (mergeL a b).length ≤ a.length + b.length := by
  intro b
  induction b generalizing a with
  | nil => simp [mergeL_nil]
  | cons x b ih =>
    have e : mergeL a (x :: b) = mergeL (addL a x.p x.c) b := rfl
    have h1 := (addL_len a x.p x.c).1
    have h2 := ih (addL a x.p x.c)
    rw [e, List.length_cons]; omega

/-- How many panes of a kind an order has. -/
def cntIn (b : List Ln) (p : Pn) : Int := match b with
  | [] => 0
  | x :: b => if x.p = p then x.c else cntIn b p
theorem cntIn_none {b : List Ln} {p : Pn} (h : ∀ l ∈ b, l.p ≠ p) : cntIn b p = 0 := by
  induction b with
  | nil => rfl
  | cons x b ih => simp only [cntIn, if_neg (h x (by simp))]; exact ih (fun l hl => h l (by simp [hl]))
theorem cntIn_mem {b : List Ln} (hn : (b.map Ln.p).Nodup) {x : Ln} (hx : x ∈ b) : cntIn b x.p = x.c := by
  induction b with
  | nil => simp at hx
  | cons y b ih =>
    rw [List.map_cons, List.nodup_cons] at hn
    rcases List.mem_cons.1 hx with rfl | hx
    · simp [cntIn]
    · have hne : y.p ≠ x.p := fun e => hn.1 (e ▸ List.mem_map.2 ⟨x, hx, rfl⟩)
      simp only [cntIn, if_neg hne]
      exact ih hn.2 hx
theorem cntIn_snoc {b : List Ln} {x : Ln} {p : Pn} (h : ∀ l ∈ b, l.p ≠ x.p) : cntIn (b ++ [x]) p = cntIn b p + (if x.p = p then x.c else 0) := by
  induction b with
  | nil => simp [cntIn]
  | cons y b ih =>
    have h1 := ih (fun l hl => h l (by simp [hl]))
    have h2 := h y (by simp)
    by_cases hy : y.p = p
    · have : x.p ≠ p := fun e => h2 (by rw [hy, e])
      simp [cntIn, hy, this]
    · simp only [List.cons_append, cntIn, if_neg hy]
      exact h1
theorem addL_append {A R : List Ln} {p : Pn} {c : Int} (h : ∃ l ∈ A, l.p = p) : addL (A ++ R) p c = addL A p c ++ R := by
  induction A with
  | nil => simp at h
  | cons x A ih =>
    by_cases hx : x.p = p
    · simp [addL, hx]
    · simp only [List.cons_append, addL, if_neg hx]
      rw [ih]
      obtain ⟨l, hl, e⟩ := h
      rcases List.mem_cons.1 hl with rfl | hl
      · exact absurd e hx
      · exact ⟨l, hl, e⟩
theorem addL_map {a : List Ln} (hn : (a.map Ln.p).Nodup) {f : Ln → Int} {p : Pn} {c : Int} (h : ∃ l ∈ a, l.p = p) : addL (a.map fun l => l.p.ln (f l)) p c = a.map fun l => l.p.ln (f l + (if p = l.p then c else 0)) := by
  induction a with
  | nil => simp at h
  | cons x a ih =>
    rw [List.map_cons, List.nodup_cons] at hn
    by_cases hx : x.p = p
    · have e1 : addL ((x :: a).map fun l => l.p.ln (f l)) p c = x.p.ln (f x + c) :: a.map fun l => l.p.ln (f l) := by
        show (if (x.p.ln (f x)).p = p then _ else _) = _
        rw [if_pos (show (x.p.ln (f x)).p = p from hx)]
        rfl
      rw [e1, List.map_cons, if_pos hx.symm]
      congr 1
      refine List.map_congr_left fun l hl => ?_
      have hne : p ≠ l.p := fun e => hn.1 (by rw [hx, e]; exact List.mem_map.2 ⟨l, hl, rfl⟩)
      rw [if_neg hne]; simp
    · have hx2 : p ≠ x.p := fun e => hx e.symm
      have e1 : addL ((x :: a).map fun l => l.p.ln (f l)) p c = x.p.ln (f x) :: addL (a.map fun l => l.p.ln (f l)) p c := by
        show (if (x.p.ln (f x)).p = p then _ else _) = _
        rw [if_neg (show ¬ (x.p.ln (f x)).p = p from hx)]
      rw [e1, List.map_cons, if_neg hx2, Int.add_zero, ih hn.2]
      obtain ⟨l, hl, e⟩ := h
      rcases List.mem_cons.1 hl with rfl | hl
      · exact absurd e hx
      · exact ⟨l, hl, e⟩
/-- What a merge is. -/
theorem merge_form {a : List Ln} (ha : (a.map Ln.p).Nodup) : ∀ (k : Nat) (b : List Ln), k ≤ b.length → (b.map Ln.p).Nodup → mergeL a (b.take k) = (a.map fun l => l.p.ln (l.c + cntIn (b.take k) l.p)) ++ (b.take k).filter (fun l => decide (l.p ∉ a.map Ln.p)) := by
  intro k
  induction k with
  | zero =>
    intro b _ _
    simp only [List.take_zero, mergeL_nil, cntIn, List.filter_nil, List.append_nil, Int.add_zero]
    symm
    have : (fun l : Ln => l.p.ln l.c) = id := rfl
    rw [this, List.map_id]
  | succ k ih =>
    intro b hk hb
    have hkl : k < b.length := by omega
    rw [mergeL_succ a b k hkl, ih b (by omega) hb]
    have hnd : ∀ l ∈ b.take k, l.p ≠ b[k].p := fun l hl e => by
      have h1 : ((b.take (k + 1)).map Ln.p).Nodup := by rw [List.map_take]; exact hb.sublist (List.take_sublist _ _)
      rw [List.take_succ_eq_append_getElem hkl, List.map_append] at h1
      exact (nodup_snocA.1 h1).2 (List.mem_map.2 ⟨l, hl, e⟩)
    rw [List.take_succ_eq_append_getElem hkl, List.filter_append]
    by_cases hin : b[k].p ∈ a.map Ln.p
    · obtain ⟨l0, hl0, e0⟩ := List.mem_map.1 hin
      rw [addL_append ⟨l0.p.ln _, List.mem_map.2 ⟨l0, hl0, rfl⟩, by rw [ln_p]; exact e0⟩, addL_map ha (f := fun l => l.c + cntIn (b.take k) l.p) ⟨l0, hl0, e0⟩]
      have e1 : ([b[k]].filter fun l => decide (l.p ∉ a.map Ln.p)) = [] := List.filter_eq_nil_iff.2 fun l hl => by
        rw [List.mem_singleton] at hl
        subst hl
        rw [decide_eq_true_iff]
        exact fun h => h hin
      rw [e1, List.append_nil]
      congr 1
      refine List.map_congr_left fun l hl => ?_
      rw [cntIn_snoc hnd, Int.add_assoc]
    · rw [addL_none]
      · have e1 : ([b[k]].filter fun l => decide (l.p ∉ a.map Ln.p)) = [b[k]] := List.filter_eq_self.2 fun l hl => by
          rw [List.mem_singleton] at hl
          subst hl
          rw [decide_eq_true_iff]
          exact hin
        rw [e1, List.append_assoc]
        congr 1
        refine List.map_congr_left fun l hl => ?_
        have hne : b[k].p ≠ l.p := fun e => hin (e ▸ List.mem_map.2 ⟨l, hl, rfl⟩)
        rw [cntIn_snoc hnd, if_neg hne, Int.add_zero]
      · intro l hl e
        rcases List.mem_append.1 hl with hl | hl
        · obtain ⟨x, hx, rfl⟩ := List.mem_map.1 hl
          rw [ln_p] at e
          exact hin (e ▸ List.mem_map.2 ⟨x, hx, rfl⟩)
        · exact hnd l ((List.mem_filter.1 hl).1) e

/-- What is left of an order. -/
def lackL (L : List Ln) (G : List Int) : List Ln := (L.zipWith (fun l g => l.p.ln (l.c - g)) G).filter fun l => decide (0 < l.c)
def okG (L : List Ln) (G : List Int) : Prop := G.length = L.length ∧ ∀ i (hi : i < L.length), 0 ≤ G.getD i 0 ∧ G.getD i 0 ≤ L[i].c
theorem lackL_succ {L : List Ln} {G : List Int} (k : Nat) (hk : k < L.length) (hg : k < G.length) : lackL (L.take (k + 1)) (G.take (k + 1)) = lackL (L.take k) (G.take k) ++ (if 0 < L[k].c - G[k] then [L[k].p.ln (L[k].c - G[k])] else []) := by
  unfold lackL
  rw [List.take_succ_eq_append_getElem hk, List.take_succ_eq_append_getElem hg, List.zipWith_append (by simp; omega), List.filter_append]
  congr 1
  simp [Pn.ln, List.filter_cons]
theorem lackL_len (L : List Ln) (G : List Int) : (lackL L G).length ≤ L.length := by
  unfold lackL
  refine Nat.le_trans (List.length_filter_le _ _) ?_
  simp; omega
theorem lack_zero {L : List Ln} (h : ∀ l ∈ L, 1 ≤ l.c) : lackL L (List.replicate L.length 0) = L := by
  unfold lackL
  have e : L.zipWith (fun l g => l.p.ln (l.c - g)) (List.replicate L.length 0) = L := by
    induction L with
    | nil => rfl
    | cons l L ih =>
      rw [List.length_cons, List.replicate_succ, List.zipWith_cons_cons, ih (fun x hx => h x (by simp [hx])), Int.sub_zero, ln_eq]
  rw [e, List.filter_eq_self]
  intro l hl
  have := h l hl
  simp; omega
theorem lack_sum : ∀ {L : List Ln} {G : List Int}, okG L G → sumC (lackL L G) + G.sum = sumC L
  | [], G, h => by have := h.1; simp at this; subst this; rfl
  | l :: L, [], h => by have := h.1; simp at this
  | l :: L, g :: G, h => by
    have h0 := h.2 0 (by simp)
    simp at h0
    have ih := lack_sum (L := L) (G := G) ⟨by have := h.1; simpa using this, fun i hi => by have := h.2 (i + 1) (by simpa using hi); simpa using this⟩
    have e : lackL (l :: L) (g :: G) = (if 0 < l.c - g then [l.p.ln (l.c - g)] else []) ++ lackL L G := by
      unfold lackL
      rw [List.zipWith_cons_cons, List.filter_cons]
      by_cases hp : 0 < l.c - g
      · rw [if_pos (show decide (0 < (l.p.ln (l.c - g)).c) = true from decide_eq_true hp), if_pos hp]; rfl
      · rw [if_neg (show ¬ decide (0 < (l.p.ln (l.c - g)).c) = true by rw [decide_eq_true_iff]; exact hp), if_neg hp]; rfl
    rw [e, sumC_append, List.sum_cons, sumC_cons]
    by_cases hp : 0 < l.c - g
    · rw [if_pos hp, sumC_cons, sumC_nil]; simp only [Pn.ln]; omega
    · rw [if_neg hp, sumC_nil]; omega
theorem lack_mem {L : List Ln} {G : List Int} (h : okG L G) {x : Ln} (hx : x ∈ lackL L G) : ∃ l ∈ L, x.p = l.p ∧ 1 ≤ x.c ∧ x.c ≤ l.c := by
  unfold lackL at hx
  obtain ⟨hx, hc⟩ := List.mem_filter.1 hx
  obtain ⟨i, hi, rfl⟩ := List.getElem_of_mem hx
  have hi' := hi
  rw [List.length_zipWith] at hi'
  have hl : i < L.length := by omega
  have hg : i < G.length := by omega
  have h2 := h.2 i hl
  rw [List.getD_eq_getElem?_getD, List.getElem?_eq_getElem hg] at h2
  simp only [Option.getD_some] at h2
  refine ⟨L[i], List.getElem_mem hl, ?_⟩
  rw [List.getElem_zipWith] at hc ⊢
  have hc2 : 0 < L[i].c - G[i] := of_decide_eq_true hc
  refine ⟨rfl, ?_, ?_⟩
  · show 1 ≤ L[i].c - G[i]
    omega
  · show L[i].c - G[i] ≤ L[i].c
    omega
theorem lack_sub (L : List Ln) (G : List Int) : ((lackL L G).map Ln.p).Sublist (L.map Ln.p) := by
  unfold lackL
  refine (List.filter_sublist.map Ln.p).trans ?_
  rw [List.map_zipWith]
  induction L generalizing G with
  | nil => simp
  | cons l L ih =>
    cases G with
    | nil => simp
    | cons g G => simp only [List.zipWith_cons_cons, List.map_cons, ln_p]; exact (ih G).cons_cons _
theorem lack_VO {L : List Ln} {G : List Int} (hv : VO L) (h : okG L G) : VO (lackL L G) := by
  refine ⟨Nat.le_trans (lackL_len L G) hv.1, fun x hx => ?_, hv.2.2.1.sublist (lack_sub L G), ?_⟩
  · obtain ⟨l, hl, e, h1, h2⟩ := lack_mem h hx
    have := hv.2.1 l hl
    exact ⟨by rw [e]; exact this.1, h1, by omega⟩
  · have h1 := lack_sum h
    have h2 : 0 ≤ G.sum := by
      have : ∀ (M : List Int), (∀ x ∈ M, 0 ≤ x) → 0 ≤ M.sum := fun M => by
        induction M with
        | nil => simp
        | cons x M ih => intro hm; have := ih (fun y hy => hm y (by simp [hy])); have := hm x (by simp); simp; omega
      refine this G fun x hx => ?_
      obtain ⟨i, hi, rfl⟩ := List.getElem_of_mem hx
      have := (h.2 i (by rw [← h.1]; exact hi)).1
      rw [List.getD_eq_getElem?_getD, List.getElem?_eq_getElem hi] at this
      exact this
    have := hv.2.2.2
    omega
/-- What was added can be given. -/
def backG (out b : List Ln) : List Int := out.map fun l => cntIn b l.p
theorem lack_map (A : List Ln) (f : Ln → Ln) (g : Ln → Int) (h : ∀ l ∈ A, (f l).p.ln ((f l).c - g (f l)) = l ∧ 1 ≤ l.c) : lackL (A.map f) ((A.map f).map g) = A := by
  unfold lackL
  have e : (A.map f).zipWith (fun l g => l.p.ln (l.c - g)) ((A.map f).map g) = A := by
    induction A with
    | nil => rfl
    | cons x A ih =>
      simp only [List.map_cons, List.zipWith_cons_cons]
      rw [(h x (by simp)).1, ih (fun l hl => h l (by simp [hl]))]
  rw [e, List.filter_eq_self]
  intro l hl
  have := (h l hl).2
  simp; omega
theorem lack_append {A B : List Ln} {G H : List Int} (h : A.length = G.length) : lackL (A ++ B) (G ++ H) = lackL A G ++ lackL B H := by
  unfold lackL
  rw [List.zipWith_append h, List.filter_append]
theorem lack_none (B : List Ln) (g : Ln → Int) (h : ∀ l ∈ B, l.c - g l = 0) : lackL B (B.map g) = [] := by
  unfold lackL
  rw [List.filter_eq_nil_iff]
  intro x hx
  obtain ⟨i, hi, rfl⟩ := List.getElem_of_mem hx
  have hi' := hi
  rw [List.length_zipWith] at hi'
  have hl : i < B.length := by omega
  have := h B[i] (List.getElem_mem hl)
  rw [List.getElem_zipWith]
  simp only [Pn.ln, List.getElem_map, decide_eq_true_iff]
  omega
theorem merge_back {a b : List Ln} (ha : VO a) (hb : VO b) : lackL (mergeL a b) (backG (mergeL a b) b) = a ∧ okG (mergeL a b) (backG (mergeL a b) b) := by
  have hf := merge_form ha.2.2.1 b.length b (Nat.le_refl _) hb.2.2.1
  rw [List.take_length] at hf
  have hcn : ∀ p, 0 ≤ cntIn b p := fun p => by
    by_cases h : ∃ l ∈ b, l.p = p
    · obtain ⟨l, hl, rfl⟩ := h
      rw [cntIn_mem hb.2.2.1 hl]
      have := (hb.2.1 l hl).2.1
      omega
    · rw [cntIn_none (fun l hl e => h ⟨l, hl, e⟩)]
      exact Int.le_refl 0
  refine ⟨?_, by simp [backG], fun i hi => ?_⟩
  · unfold backG
    have k1 := lack_map a (fun l => l.p.ln (l.c + cntIn b l.p)) (fun l => cntIn b l.p) (fun l hl => ⟨by
      simp only [Pn.ln, Ln.p]
      have e : l.c + cntIn b ⟨l.w, l.h, l.t, l.k⟩ - cntIn b ⟨l.w, l.h, l.t, l.k⟩ = l.c := by omega
      rw [e], (ha.2.1 l hl).2.1⟩)
    have k2 := lack_none (b.filter fun l => decide (l.p ∉ a.map Ln.p)) (fun l => cntIn b l.p) (fun l hl => by
      have hlb := (List.mem_filter.1 hl).1
      rw [cntIn_mem hb.2.2.1 hlb]; omega)
    rw [hf, List.map_append, lack_append (by simp), k1, k2, List.append_nil]
  · have hg : (backG (mergeL a b) b).getD i 0 = cntIn b (mergeL a b)[i].p := by
      simp [backG, List.getD_eq_getElem?_getD, hi]
    rw [hg]
    refine ⟨hcn _, ?_⟩
    have hm := List.getElem_mem hi
    generalize (mergeL a b)[i] = x at hm
    rw [hf] at hm
    rcases List.mem_append.1 hm with hm | hm
    · obtain ⟨l, hl, rfl⟩ := List.mem_map.1 hm
      have := (ha.2.1 l hl).2.1
      simp only [Pn.ln, Ln.p]
      omega
    · rw [cntIn_mem hb.2.2.1 ((List.mem_filter.1 hm).1)]
      exact Int.le_refl _

end Go.Proofs.Ytmenkjloabficaa
