/-
  What is left of boxes, and what boxes cover, plain.
-/
import Derived.Test.YtafcohmneeabbaaLawBox
import Derived.Test.YtafcohmneeabbaaCovP
namespace Go.Proofs.Ytafcohmneeabbaa
set_option linter.unusedSimpArgs false
set_option linter.unusedVariables false

theorem pts_le {f g h : Nat → Nat → Bool} (hh : ∀ x y, b2i (f x y) ≤ b2i (g x y) + b2i (h x y)) : pts f ≤ pts g + pts h := by
  unfold pts
  rw [← sumN_add]
  refine sumN_le fun y hy => ?_
  rw [← sumN_add]
  exact sumN_le fun x hx => hh x y
theorem pts_mono {f g : Nat → Nat → Bool} (hh : ∀ x y, f x y = true → g x y = true) : pts f ≤ pts g := by
  unfold pts
  refine sumN_le fun y hy => sumN_le fun x hx => ?_
  cases h : f x y with
  | false => simp [b2i]; split <;> omega
  | true => rw [hh x y h]; simp [b2i]

theorem opt_pw {R : Bx → Bx → Prop} (c : Prop) [Decidable c] (x : Bx) : (opt c x).Pairwise R := by unfold opt; split <;> simp
theorem opt_mem {c : Prop} [Decidable c] {x y : Bx} (h : y ∈ opt c x) : c ∧ y = x := by
  unfold opt at h
  split at h
  · simp at h; exact ⟨by assumption, h⟩
  · simp at h
theorem apart_pw {L : List Bx} (h : L.Pairwise fun a b => mtB b a = false) : Apart L := by
  intro i j hi hj
  exact List.pairwise_iff_getElem.1 h j i (by omega) hi hj
theorem leftParts_pw {a m : Bx} (ha : VB a) (hm : VB m) (hi : a.x ≤ m.x ∧ m.x + m.w ≤ a.x + a.w ∧ a.y ≤ m.y ∧ m.y + m.h ≤ a.y + a.h) : (leftParts a m).Pairwise fun a b => mtB b a = false := by
  unfold VB at ha hm
  unfold leftParts lp1 lp2 lp3 lp4
  refine List.pairwise_append.2 ⟨List.pairwise_append.2 ⟨List.pairwise_append.2 ⟨opt_pw _ _, opt_pw _ _, ?_⟩, opt_pw _ _, ?_⟩, opt_pw _ _, ?_⟩
  · intro p hp q hq
    obtain ⟨h1, rfl⟩ := opt_mem hp
    obtain ⟨h2, rfl⟩ := opt_mem hq
    rw [mtB_not]; unfold Meets meetRaw; simp only; omega
  · intro p hp q hq
    obtain ⟨h2, rfl⟩ := opt_mem hq
    rcases List.mem_append.1 hp with hp | hp <;> obtain ⟨h1, rfl⟩ := opt_mem hp <;> rw [mtB_not] <;> unfold Meets meetRaw <;> simp only <;> omega
  · intro p hp q hq
    obtain ⟨h2, rfl⟩ := opt_mem hq
    rcases List.mem_append.1 hp with hp | hp
    · rcases List.mem_append.1 hp with hp | hp <;> obtain ⟨h1, rfl⟩ := opt_mem hp <;> rw [mtB_not] <;> unfold Meets meetRaw <;> simp only <;> omega
    · obtain ⟨h1, rfl⟩ := opt_mem hp
      rw [mtB_not]; unfold Meets meetRaw; simp only; omega
theorem left_apart {a b : Bx} (ha : VB a) (hb : VB b) : Apart (leftL a b) := by
  refine apart_pw ?_
  unfold leftL
  split
  · rename_i h
    have hm := meetRaw_valid ha hb (mtB_iff.1 h)
    refine leftParts_pw ha hm ?_
    unfold meetRaw; simp only; omega
  · simp
theorem left_away {a b : Bx} (ha : VB a) (hb : VB b) : ∀ c ∈ leftL a b, mtB c b = false ∧ InB c a := by
  intro c hc
  unfold leftL at hc
  split at hc
  · rename_i h
    have hm := mtB_iff.1 h
    unfold Meets meetRaw at hm
    simp only at hm
    unfold VB at ha hb
    unfold leftParts lp1 lp2 lp3 lp4 at hc
    simp only [List.mem_append] at hc
    rcases hc with ((hc | hc) | hc) | hc <;> obtain ⟨h1, rfl⟩ := opt_mem hc <;> (unfold meetRaw at h1; simp only at h1) <;> refine ⟨?_, ?_⟩
    all_goals first | (rw [mtB_not]; unfold Meets meetRaw; simp only; omega) | (unfold InB meetRaw; simp only; omega)
  · simp at hc
    subst hc
    rename_i h
    exact ⟨by simpa using h, by unfold InB; omega⟩
theorem meet_pts {a b : Bx} (ha : VB a) (hb : VB b) : pts (fun x y => inB a x y && inB b x y) = (meetBx a b).w * (meetBx a b).h := by
  cases hm : mtB a b with
  | true =>
    have h1 : meetOk a b = true := by rw [meetOk, vbB_iff.2 ha, vbB_iff.2 hb, hm]; rfl
    rw [(meetOk_t h1).2.2.2, ← pts_box (meetRaw_valid ha hb (mtB_iff.1 hm))]
    refine pts_congr fun x y => ?_
    rw [Bool.eq_iff_iff]
    simp only [inB, Bool.and_eq_true, decide_eq_true_iff]
    unfold meetRaw
    simp only
    omega
  | false =>
    have h1 : meetOk a b = false := by rw [meetOk, hm, Bool.and_false]
    rw [meetOk_f h1]
    have : pts (fun x y => inB a x y && inB b x y) = pts (fun _ _ => false) := by
      refine pts_congr fun x y => ?_
      have h2 := mtB_not.1 hm
      unfold Meets meetRaw at h2
      simp only at h2
      rw [← Bool.not_eq_true]
      simp only [inB, Bool.and_eq_true, decide_eq_true_iff]
      unfold VB at ha hb
      omega
    rw [this, pts_none]
    rfl
theorem left_pts {a b : Bx} (ha : VB a) (hb : VB b) : areaL (leftL a b) = pts (cutFn (inB a) b) := by
  rw [areaL_pts (leftL_valid ha hb)]
  unfold pts
  exact sumN_congr fun y _ => sumN_congr fun x _ => left_ind ha hb x y
/-- What is left and what is in common make up the box. -/
theorem left_meet {a b : Bx} (ha : VB a) (hb : VB b) : areaL (leftL a b) + (meetBx a b).w * (meetBx a b).h = a.w * a.h := by
  rw [left_pts ha hb, ← meet_pts ha hb, ← pts_box ha]
  symm
  refine pts_or fun x y => ?_
  unfold cutFn
  cases inB a x y <;> cases inB b x y <;> rfl
theorem leftOut_y {a b : Bx} (ha : VB a) (hb : VB b) : leftOut a b = leftL a b := by simp [leftOut, vbB_iff.2 ha, vbB_iff.2 hb]
theorem leftOut_n {a b : Bx} (h : ¬ (VB a ∧ VB b)) : leftOut a b = [] := by
  unfold leftOut
  rw [if_neg]
  rw [vbB_iff, vbB_iff]
  exact h
theorem left_VBs {a b : Bx} (ha : VB a) (hb : VB b) : VBs (leftL a b) := ⟨by have := leftL_len a b; omega, leftL_valid ha hb⟩

/-- Two boxes cover what they have, less what they have in common. -/
theorem cov_two {a b : Bx} (ha : VB a) (hb : VB b) : covN [a, b] = areaL [a, b] - (meetBx a b).w * (meetBx a b).h := by
  have h1 : covN [a, b] = pts (cutFn (inB a) b) + pts (inB b) := by
    unfold covN
    refine pts_or fun x y => ?_
    simp only [anyB, cutFn, List.any_cons, List.any_nil, Bool.or_false]
    cases inB a x y <;> cases inB b x y <;> rfl
  have h2 := left_meet ha hb
  rw [left_pts ha hb] at h2
  rw [h1, pts_box hb, areaL_cons, areaL_cons, areaL_nil]
  omega
theorem cov_rev (L : List Bx) : covN L.reverse = covN L := by
  unfold covN
  exact pts_congr fun x y => by simp [anyB]
theorem cov_area {L : List Bx} (h : ∀ b ∈ L, VB b) : covN L ≤ areaL L := by
  induction L with
  | nil =>
    have : covN [] = 0 := by
      unfold covN
      rw [← pts_none]
      exact pts_congr fun x y => rfl
    rw [this, areaL_nil]; omega
  | cons b L ih =>
    have h1 := ih (fun c hc => h c (by simp [hc]))
    have h2 : covN (b :: L) ≤ pts (inB b) + covN L := by
      unfold covN
      refine pts_le fun x y => ?_
      simp only [anyB, List.any_cons]
      cases inB b x y <;> cases (L.any fun b => inB b x y) <;> simp [b2i]
    rw [pts_box (h b (by simp))] at h2
    rw [areaL_cons]
    omega
theorem cov_mono {L M : List Bx} (h : ∀ b ∈ L, b ∈ M) : covN L ≤ covN M := by
  unfold covN
  refine pts_mono fun x y hx => ?_
  simp only [anyB, List.any_eq_true] at hx ⊢
  obtain ⟨b, hb, h2⟩ := hx
  exact ⟨b, h b hb, h2⟩
theorem cov_same {L M : List Bx} (h : ∀ b, b ∈ L ↔ b ∈ M) : covN L = covN M :=
  Int.le_antisymm (cov_mono fun b hb => (h b).1 hb) (cov_mono fun b hb => (h b).2 hb)
theorem cov_less {L : List Bx} (h : ∀ b ∈ L, VB b) (i : Nat) (hi : i < L.length) : covN (L.take i ++ L.drop (i + 1)) ≤ covN L ∧ covN L - L[i].w * L[i].h ≤ covN (L.take i ++ L.drop (i + 1)) := by
  refine ⟨cov_mono fun b hb => ?_, ?_⟩
  · rcases List.mem_append.1 hb with hb | hb
    · exact List.mem_of_mem_take hb
    · exact List.mem_of_mem_drop hb
  · have h1 : covN L ≤ pts (inB L[i]) + covN (L.take i ++ L.drop (i + 1)) := by
      unfold covN
      refine pts_le fun x y => ?_
      have e : anyB L x y = (inB L[i] x y || anyB (L.take i ++ L.drop (i + 1)) x y) := by
        have e1 : L = L.take i ++ L[i] :: L.drop (i + 1) := by rw [← List.drop_eq_getElem_cons hi, List.take_append_drop]
        have e2 : anyB L x y = anyB (L.take i ++ L[i] :: L.drop (i + 1)) x y := by rw [← e1]
        rw [e2]
        simp only [anyB, List.any_append, List.any_cons]
        cases (List.take i L).any fun b => inB b x y <;> cases inB L[i] x y <;> cases (List.drop (i + 1) L).any fun b => inB b x y <;> rfl
      rw [e]
      cases inB L[i] x y <;> cases anyB (L.take i ++ L.drop (i + 1)) x y <;> simp [b2i]
    rw [pts_box (h _ (List.getElem_mem hi))] at h1
    omega
theorem covOut_t {L : List Bx} (h : VBs L) : covOut L = covN L := by simp [covOut, vbsB_iff.2 h]
theorem covOut_f {L : List Bx} (h : vbsB L = false) : covOut L = -1 := by simp [covOut, h]
theorem covN_bd (L : List Bx) : 0 ≤ covN L ∧ covN L ≤ 40000 := pts_bd _
theorem areaL_bd {L : List Bx} (h : ∀ b ∈ L, VB b) : 0 ≤ areaL L ∧ areaL L ≤ 40000 * L.length := by
  induction L with
  | nil => simp [areaL_nil]
  | cons b L ih =>
    have h1 := ih (fun c hc => h c (by simp [hc]))
    have h2 := (h b (by simp)).area
    rw [areaL_cons, List.length_cons]
    omega
theorem meet_area {a b : Bx} (ha : VB a) : 0 ≤ (meetBx a b).w * (meetBx a b).h ∧ (meetBx a b).w * (meetBx a b).h ≤ 40000 := by
  cases h : meetOk a b with
  | true =>
    have h1 := meetOk_t h
    rw [h1.2.2.2]
    have := (meetRaw_valid h1.1 h1.2.1 (mtB_iff.1 h1.2.2.1)).area
    omega
  | false => rw [meetOk_f h]; simp [zeroBx]

end Go.Proofs.Ytafcohmneeabbaa
