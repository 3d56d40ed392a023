/-
  Contracts: boxes inside of boxes; valid pieces, by both.
-/
import Derived.Test.YtpicbkakghojnaaPiece
import Derived.Test.YtpicbkakghojnaaMeet
import Derived.Test.YtpicbkakghojnaaGrow
namespace Go.Proofs.Ytpicbkakghojnaa
set_option linter.unusedSimpArgs false
set_option linter.unusedVariables false
open Go.RowKit

theorem svalidBox_t (b : Bx) (h : VB b) (w : World) : Calls Try.prog 53 #[.agg #[.int .i64 b.x, .int .i64 b.y, .int .i64 b.w, .int .i64 b.h]] w fun e w' => e = .returned (.bool true) ∧ Below w.heap.size w w' := by
  have := svalidBox_c b w
  rwa [vbB_iff.2 h] at this
theorem svalidBox_f (b : Bx) (h : ¬ VB b) (w : World) : Calls Try.prog 53 #[.agg #[.int .i64 b.x, .int .i64 b.y, .int .i64 b.w, .int .i64 b.h]] w fun e w' => e = .returned (.bool false) ∧ Below w.heap.size w w' := by
  have := svalidBox_c b w
  rwa [vbB_not.2 h] at this
theorem meetOk_t {a b : Bx} (h : meetOk a b = true) : VB a ∧ VB b ∧ mtB a b = true ∧ meetBx a b = meetRaw a b := by
  have h' := h
  simp only [meetOk, Bool.and_eq_true] at h
  exact ⟨vbB_iff.1 h.1.1, vbB_iff.1 h.1.2, h.2, if_pos h'⟩
theorem meetOk_f {a b : Bx} (h : meetOk a b = false) : meetBx a b = zeroBx := by rw [meetBx, if_neg (by rw [h]; simp)]
theorem MeetOf_c (a b : Bx) (w : World) : Calls Try.prog 69 #[.agg #[.int .i64 a.x, .int .i64 a.y, .int .i64 a.w, .int .i64 a.h], .agg #[.int .i64 b.x, .int .i64 b.y, .int .i64 b.w, .int .i64 b.h]] w fun e w' =>
    e = .returned (.tuple #[.agg #[.int .i64 (meetBx a b).x, .int .i64 (meetBx a b).y, .int .i64 (meetBx a b).w, .int .i64 (meetBx a b).h], .bool (meetOk a b)]) ∧ Below w.heap.size w w' := by
  by_cases hab : VB a ∧ VB b
  · cases hm : mtB a b with
    | true =>
      have h1 : meetOk a b = true := by rw [meetOk, vbB_iff.2 hab.1, vbB_iff.2 hab.2, hm]; rfl
      rw [h1, (meetOk_t h1).2.2.2]
      exact MeetOf_t a b w hab.1 hab.2 hm
    | false =>
      have h1 : meetOk a b = false := by rw [meetOk, hm, Bool.and_false]
      rw [h1, meetOk_f h1]
      exact MeetOf_f a b w hab.1 hab.2 hm
  · have h1 : meetOk a b = false := by
      rw [meetOk]
      by_cases ha : VB a
      · have hb : vbB b = false := by rw [vbB_not]; exact fun hb => hab ⟨ha, hb⟩
        rw [hb, Bool.and_false, Bool.false_and]
      · have ha' : vbB a = false := vbB_not.2 ha
        rw [ha', Bool.false_and, Bool.false_and]
    rw [h1, meetOk_f h1]
    exact MeetOf_n a b w hab

/-- a lies inside of b. -/
def InB (a b : Bx) : Prop := b.x ≤ a.x ∧ b.y ≤ a.y ∧ a.x + a.w ≤ b.x + b.w ∧ a.y + a.h ≤ b.y + b.h
instance (a b : Bx) : Decidable (InB a b) := by unfold InB; infer_instance
def insB (a b : Bx) : Bool := decide (VB a ∧ VB b ∧ InB a b)
theorem insB_iff {a b : Bx} : insB a b = true ↔ VB a ∧ VB b ∧ InB a b := by simp [insB]
theorem insB_meet (a b : Bx) : insB a b = (meetOk a b && decide (meetBx a b = a)) := by
  rw [Bool.eq_iff_iff, insB_iff, Bool.and_eq_true, decide_eq_true_eq]
  constructor
  · rintro ⟨ha, hb, hi⟩
    have hm : Meets a b ∧ meetRaw a b = a := by
      unfold InB at hi
      unfold VB at ha hb
      obtain ⟨ax, ay, aw, ah⟩ := a
      unfold Meets meetRaw
      simp only [Bx.mk.injEq] at *
      omega
    have h1 : meetOk a b = true := by rw [meetOk, vbB_iff.2 ha, vbB_iff.2 hb, mtB_iff.2 hm.1]; rfl
    exact ⟨h1, by rw [(meetOk_t h1).2.2.2, hm.2]⟩
  · rintro ⟨h1, h2⟩
    obtain ⟨ha, hb, hm, e⟩ := meetOk_t h1
    rw [e] at h2
    refine ⟨ha, hb, ?_⟩
    obtain ⟨ax, ay, aw, ah⟩ := a
    unfold InB
    unfold meetRaw at h2
    simp only [Bx.mk.injEq] at *
    omega

set_option maxHeartbeats 1600000 in
theorem InsideOf_c (a b : Bx) (w : World) : Calls Try.prog 39 #[.agg #[.int .i64 a.x, .int .i64 a.y, .int .i64 a.w, .int .i64 a.h], .agg #[.int .i64 b.x, .int .i64 b.y, .int .i64 b.w, .int .i64 b.h]] w fun e w' => e = .returned (.bool (insB a b)) ∧ Below w.heap.size w w' := by
  have hI := insB_meet a b
  have HI := hid hI
  have B2 := hid (((Below.refl _ _).alloc (Nat.le_refl _) (.cells #[.int .i64 a.x, .int .i64 a.y, .int .i64 a.w, .int .i64 a.h] 33)).alloc (by simp) (.cells #[.int .i64 b.x, .int .i64 b.y, .int .i64 b.w, .int .i64 b.h] 33) : Below w.heap.size w _)
  clear hI
  go_enter Try.func39, Try.ntmps39
  go_wp2_with fail
  refine (MeetOf_c a b _).mono ?_
  rintro e w1 ⟨rfl, hb⟩
  have HB1 := hid (B2.out.trans (hb.mono B2.out.size))
  obtain ⟨hc, hf, hs⟩ := bcell hb
  have hz : w.heap.size < w1.heap.size := by simp at hs; omega
  have hs1 := HB1.out.size
  clear hb hf hs
  obtain ⟨m, hm⟩ : ∃ m, m = meetBx a b := ⟨_, rfl⟩
  rw [← hm] at HI ⊢
  clear hm
  cases hok : meetOk a b with
  | false =>
    rw [hok] at HI
    clear hok
    go_wp2
    go_ret
    exact ⟨ret_bool HI.out.symm, HB1.out.alloc hs1 _⟩
  | true =>
    rw [hok] at HI
    clear hok
    have hcase : m = a ∨ (m ≠ a ∧ ((m.x == a.x) = false ∨ ((m.x == a.x) = true ∧ (m.y == a.y) = false) ∨ ((m.x == a.x) = true ∧ (m.y == a.y) = true ∧ (m.w == a.w) = false) ∨ ((m.x == a.x) = true ∧ (m.y == a.y) = true ∧ (m.w == a.w) = true ∧ (m.h == a.h) = false))) := by
      by_cases e : m = a
      · exact .inl e
      · refine .inr ⟨e, ?_⟩
        simp only [beq_iff_eq, beq_eq_false_iff_ne]
        have : ¬ (m.x = a.x ∧ m.y = a.y ∧ m.w = a.w ∧ m.h = a.h) := fun ⟨h1, h2, h3, h4⟩ => e (by cases m; cases a; simp_all)
        omega
    rcases hcase with rfl | ⟨hne, hcase⟩
    · have HI2 : Hid (insB m b = true) := by rw [Hid, HI.out]; simp
      go_wp2
      go_ret
      exact ⟨ret_bool HI2.out.symm, HB1.out.alloc hs1 _⟩
    · have HI2 : Hid (insB a b = false) := by rw [Hid, HI.out]; simp [hne]
      clear hne
      rcases hcase with g1 | ⟨g1, g2⟩ | ⟨g1, g2, g3⟩ | ⟨g1, g2, g3, g4⟩
      all_goals
        go_wp2
        go_ret
        exact ⟨ret_bool HI2.out.symm, HB1.out.alloc hs1 _⟩

theorem pieceBox_c (s : Ps) (w : World) : Calls Try.prog 57 #[.agg #[.int .i64 s.l, .int .i64 s.w, .int .i64 s.h, .slice s.ka s.kn s.kc]] w fun e w' => e = .returned (.agg #[.int .i64 0, .int .i64 0, .int .i64 s.w, .int .i64 s.h]) ∧ Below w.heap.size w w' := by
  have HB := hid (((below_ps (l := s.l) (x := s.w) (y := s.h) (ka := s.ka) (kn := s.kn) (kc := s.kc) (ty := 31) w).alloc (by simp) (.cells #[.int .i64 0, .int .i64 0, .int .i64 0, .int .i64 0] 33)))
  go_enter Try.func57, Try.ntmps57
  go_wp2
  exact bodyPost_ret (v := .agg #[.int .i64 0, .int .i64 0, .int .i64 s.w, .int .i64 s.h]) (by simp [results, Try.results57, go_sem]) rfl ⟨rfl, by first | exact ((((HB.out.setCell (by simp) _).setCell (by simp) _).setCell (by simp) _).setCell (by simp) _) | exact (below_ps w).alloc (by simp) _⟩

def fitB (a : Bx) (W H : Int) : Bool := decide (a.x + a.w ≤ W ∧ a.y + a.h ≤ H)
/-- A number of 64 bits. -/
def I64 (x : Int) : Prop := -9223372036854775808 ≤ x ∧ x ≤ 9223372036854775807

set_option maxHeartbeats 1600000 in
/-- Is a valid box inside of glass of the sides w and h? -/
theorem sinsideOf_c (a : Bx) (W H : Int) (ha : VB a) (hW : I64 W) (hH : I64 H) (w : World) : Calls Try.prog 54 #[.agg #[.int .i64 a.x, .int .i64 a.y, .int .i64 a.w, .int .i64 a.h], .agg #[.int .i64 0, .int .i64 0, .int .i64 W, .int .i64 H]] w fun e w' => e = .returned (.bool (fitB a W H)) ∧ Below w.heap.size w w' := by
  unfold VB at ha
  obtain ⟨a1, a2, a3, a4, a5, a6, a7, a8⟩ := ha
  obtain ⟨w1, w2⟩ := hW
  obtain ⟨h1, h2⟩ := hH
  have B2 := hid (((Below.refl _ _).alloc (Nat.le_refl _) (.cells #[.int .i64 a.x, .int .i64 a.y, .int .i64 a.w, .int .i64 a.h] 33)).alloc (by simp) (.cells #[.int .i64 0, .int .i64 0, .int .i64 W, .int .i64 H] 33) : Below w.heap.size w _)
  have d1 : decide (0 ≤ a.x) = true := by simp; omega
  have d2 : decide (0 ≤ a.y) = true := by simp; omega
  by_cases c1 : a.x + a.w ≤ W
  · have e1 : decide (a.x + a.w ≤ W) = true := by simpa using c1
    by_cases c2 : a.y + a.h ≤ H
    · have HV : Hid (fitB a W H = true) := by simp [Hid, fitB, c1, c2]
      go_enter Try.func54, Try.ntmps54
      go_wp2
      go_ret
      exact ⟨ret_bool HV.out.symm, B2.out⟩
    · have HV : Hid (fitB a W H = false) := by simp [Hid, fitB]; omega
      go_enter Try.func54, Try.ntmps54
      go_wp2
      go_ret
      exact ⟨ret_bool HV.out.symm, B2.out⟩
  · have HV : Hid (fitB a W H = false) := by simp [Hid, fitB]; omega
    have e1 : decide (a.x + a.w ≤ W) = false := by simp; omega
    go_enter Try.func54, Try.ntmps54
    go_wp2
    go_ret
    exact ⟨ret_bool HV.out.symm, B2.out⟩

/-- A flaw of a piece of the sides w and h. -/
def okF (W H : Int) (b : Bx) : Prop := VB b ∧ b.x + b.w ≤ W ∧ b.y + b.h ≤ H
instance (W H : Int) (b : Bx) : Decidable (okF W H b) := by unfold okF; infer_instance
def VP (p : Pc) : Prop := (1 ≤ p.l ∧ p.l ≤ 9999) ∧ (1 ≤ p.w ∧ p.w ≤ 200) ∧ (1 ≤ p.h ∧ p.h ≤ 200) ∧ p.f.length ≤ 6 ∧ ∀ b ∈ p.f, okF p.w p.h b
instance (p : Pc) : Decidable (VP p) := by unfold VP; infer_instance
def vpB (p : Pc) : Bool := decide (VP p)
theorem vpB_iff {p : Pc} : vpB p = true ↔ VP p := by simp [vpB]
theorem vpB_not {p : Pc} : vpB p = false ↔ ¬ VP p := by simp [vpB]
theorem fitB_ok {b : Bx} {W H : Int} (hb : VB b) : fitB b W H = decide (okF W H b) := by rw [fitB, decide_eq_decide]; unfold okF; exact ⟨fun h => ⟨hb, h⟩, fun h => h.2⟩
theorem insB_ok {b : Bx} {W H : Int} (h1 : 1 ≤ W ∧ W ≤ 200) (h2 : 1 ≤ H ∧ H ≤ 200) : insB b ⟨0, 0, W, H⟩ = decide (okF W H b) := by
  rw [insB, decide_eq_decide]
  unfold okF InB VB
  simp only
  omega

set_option maxHeartbeats 3200000 in
theorem svalidPiece_c (p : Pc) (s : Ps) (w : World) (h : PvR w.heap.size w p s) (hW : I64 p.w) (hH : I64 p.h) : Calls Try.prog 52 #[.agg #[.int .i64 s.l, .int .i64 s.w, .int .i64 s.h, .slice s.ka s.kn s.kc]] w fun e w' => e = .returned (.bool (vpB p)) ∧ Below w.heap.size w w' := by
  have HB0 := hid (below_ps (l := s.l) (x := s.w) (y := s.h) (ka := s.ka) (kn := s.kn) (kc := s.kc) (ty := 31) w)
  obtain ⟨⟨g1, g2, g3⟩, hr⟩ := h
  obtain ⟨sl, sw, sh, ka, kn, kc⟩ := s
  obtain ⟨pl, pw, ph, f⟩ := p
  simp only at g1 g2 g3 hW hH hr
  subst g1; subst g2; subst g3
  obtain ⟨A1, c1, e1, hc1, hm1⟩ := hr.form
  simp only [Ps.kv, Value.slice.injEq] at e1
  obtain ⟨rfl, rfl, rfl⟩ := e1
  unfold maxLen at hm1
  have HR := hid hr
  have HW := hid hW
  have HH := hid hH
  clear hr hW hH
  go_enter Try.func52, Try.ntmps52
  go_wp2
  go_loopw [3] (fun i wr => ∃ k : Nat, i = .int .i64 k ∧ k ≤ f.length ∧ (∀ b ∈ f.take k, okF sw sh b) ∧ Below (w.heap.size + 1) (w.alloc (.cells #[.int .i64 sl, .int .i64 sw, .int .i64 sh, .slice ka f.length kc] 31)) wr) (fun i _ => f.length - (intOf i).toNat)
  case atStart => exact ⟨0, rfl, by omega, by simp, Below.refl _ _⟩
  case round =>
    obtain ⟨k, rfl, hk, hok, hb⟩ := hrel
    have hbc : ∀ o : Nat, wr.cell? ⟨w.heap.size, o, none⟩ = (w.alloc (.cells #[.int .i64 sl, .int .i64 sw, .int .i64 sh, .slice ka f.length kc] 31)).cell? ⟨w.heap.size, o, none⟩ := fun o => hb.cell (p := ⟨w.heap.size, o, none⟩) (by simp)
    have hsz : w.heap.size < wr.heap.size := by have := hb.size; simp at this; omega
    have hbz := hb.size
    have HBr := hid (HB0.out.trans (hb.mono (Nat.le_succ _)))
    have HOK := hid hok
    by_cases hlt : k < f.length
    · obtain ⟨b1, o1, rfl, hb1, hx⟩ := row_boxs (HR.out.below HBr.out) (Nat.lt_of_le_of_lt (Nat.zero_le _) hlt)
      obtain ⟨x0, x1, x2, x3⟩ := hx k hlt
      have hb1' : b1 < wr.heap.size := by have := HBr.out.size; omega
      clear hx hok
      have hq := fun (q : GW wr.heap.size wr) => q.cell
      by_cases hv : VB f[k]
      · have HVB := hid hv
        by_cases ho : okF sw sh f[k]
        · have HFT : Hid (fitB f[k] sw sh = true) := by rw [Hid, fitB_ok hv]; simpa using ho
          have HOK2 : Hid (∀ b ∈ f.take (k + 1), okF sw sh b) := by
            rw [Hid, List.take_succ_eq_append_getElem hlt]
            intro b hb
            rcases List.mem_append.1 hb with hb | hb
            · exact HOK.out b hb
            · simp at hb; rw [hb]; exact ho
          have HC : Hid (∀ w, Calls Try.prog 54 #[.agg #[.int .i64 f[k].x, .int .i64 f[k].y, .int .i64 f[k].w, .int .i64 f[k].h], .agg #[.int .i64 0, .int .i64 0, .int .i64 sw, .int .i64 sh]] w fun e w' => e = .returned (.bool true) ∧ Below w.heap.size w w') := fun w => by
            have := sinsideOf_c f[k] sw sh hv HW.out HH.out w
            rwa [HFT.out] at this
          have HBB := hid hb
          clear hv ho hb
          go_wp2
          refine wp_region_grow wr.heap.size wr (by kernel_rfl) (by kernel_rfl) ?_
          repeat (go_big_quiet_step (first | (go_at_call 53; exact GW.call (Nat.le_refl _) (svalidBox_t f[k] HVB.out _)) | (go_at_call 54; exact GW.call (Nat.le_refl _) (HC.out _))))
          refine wpQuiet_nil ?_
          rintro _ ⟨q, rfl⟩
          have HQ := hid q.h
          go_wp2
          exact ⟨⟨k + 1, by go_num, by omega, HOK2.out, HBB.out.trans (HQ.out.mono (by have := HBB.out.size; simp at this; omega))⟩, by simp [intOf]; omega⟩
        · have HF : Hid (vpB ⟨sl, sw, sh, f⟩ = false) := by
            rw [Hid, vpB_not]; exact fun hp => ho (hp.2.2.2.2 _ (List.getElem_mem hlt))
          have HFT : Hid (fitB f[k] sw sh = false) := by rw [Hid, fitB_ok hv]; simpa using ho
          have HC : Hid (∀ w, Calls Try.prog 54 #[.agg #[.int .i64 f[k].x, .int .i64 f[k].y, .int .i64 f[k].w, .int .i64 f[k].h], .agg #[.int .i64 0, .int .i64 0, .int .i64 sw, .int .i64 sh]] w fun e w' => e = .returned (.bool false) ∧ Below w.heap.size w w') := fun w => by
            have := sinsideOf_c f[k] sw sh hv HW.out HH.out w
            rwa [HFT.out] at this
          clear hv ho hb
          go_wp2
          refine wp_region_grow wr.heap.size wr (by kernel_rfl) (by kernel_rfl) ?_
          repeat (go_big_quiet_step (first | (go_at_call 53; exact GW.call (Nat.le_refl _) (svalidBox_t f[k] HVB.out _)) | (go_at_call 54; exact GW.call (Nat.le_refl _) (HC.out _))))
          refine wpQuiet_nil ?_
          rintro _ ⟨q, rfl⟩
          have HQ := hid q.h
          go_wp2
          go_ret
          exact ⟨ret_bool HF.out.symm, HBr.out.trans (HQ.out.mono HBr.out.size)⟩
      · have HF : Hid (vpB ⟨sl, sw, sh, f⟩ = false) := by
          rw [Hid, vpB_not]; exact fun hp => hv (hp.2.2.2.2 _ (List.getElem_mem hlt)).1
        have HVB := hid hv
        clear hv hb
        go_wp2
        refine wp_region_grow wr.heap.size wr (by kernel_rfl) (by kernel_rfl) ?_
        repeat (go_big_quiet_step (first | (go_at_call 53; exact GW.call (Nat.le_refl _) (svalidBox_f f[k] HVB.out _))))
        refine wpQuiet_nil ?_
        rintro _ ⟨q, rfl⟩
        have HQ := hid q.h
        go_wp2
        go_ret
        exact ⟨ret_bool HF.out.symm, HBr.out.trans (HQ.out.mono HBr.out.size)⟩
    · have HOKA : Hid (∀ b ∈ f, okF sw sh b) := by rw [List.take_of_length_le (by omega)] at hok; exact hok
      have HV : Hid (∀ c : Bool, (c = true ↔ (1 ≤ sl ∧ sl ≤ 9999) ∧ (1 ≤ sw ∧ sw ≤ 200) ∧ (1 ≤ sh ∧ sh ≤ 200) ∧ f.length ≤ 6) → c = vpB ⟨sl, sw, sh, f⟩) := fun c h => by
        rw [Bool.eq_iff_iff, vpB_iff, h]; exact ⟨fun h => ⟨h.1, h.2.1, h.2.2.1, h.2.2.2, HOKA.out⟩, fun h => ⟨h.1, h.2.1, h.2.2.1, h.2.2.2.1⟩⟩
      clear hok
      by_cases c1 : 1 ≤ sl ∧ sl ≤ 9999
      · obtain ⟨c1a, c1b⟩ := c1
        by_cases c2 : 1 ≤ sw ∧ sw ≤ 200
        · obtain ⟨c2a, c2b⟩ := c2
          by_cases c3 : 1 ≤ sh ∧ sh ≤ 200
          · obtain ⟨c3a, c3b⟩ := c3
            have hcase : decide ((f.length : Int) ≤ 6) = true ∨ decide ((f.length : Int) ≤ 6) = false := by cases decide ((f.length : Int) ≤ 6) <;> simp
            rcases hcase with g | g
            all_goals
              go_wp2_with fail
              refine (inRange_t _ _ _ _ c1a c1b).mono ?_; rintro e w1 ⟨rfl, rfl⟩
              go_wp2_with fail
              refine (inRange_t _ _ _ _ c2a c2b).mono ?_; rintro e w1 ⟨rfl, rfl⟩
              go_wp2_with fail
              refine (inRange_t _ _ _ _ c3a c3b).mono ?_; rintro e w1 ⟨rfl, rfl⟩
              go_wp2
              go_ret
              exact ⟨ret_bool (HV.out _ (by simp at g ⊢; omega)), HBr.out⟩
          · have hn : sh < 1 ∨ 200 < sh := by omega
            have HN := hid hn
            clear hn c3
            go_wp2_with fail
            refine (inRange_t _ _ _ _ c1a c1b).mono ?_; rintro e w1 ⟨rfl, rfl⟩
            go_wp2_with fail
            refine (inRange_t _ _ _ _ c2a c2b).mono ?_; rintro e w1 ⟨rfl, rfl⟩
            go_wp2_with fail
            refine (inRange_f _ _ _ _ HN.out).mono ?_; rintro e w1 ⟨rfl, rfl⟩
            go_wp2
            go_ret
            exact ⟨ret_bool (HV.out _ (by simp; have := HN.out; omega)), HBr.out⟩
        · have hn : sw < 1 ∨ 200 < sw := by omega
          have HN := hid hn
          clear hn c2
          go_wp2_with fail
          refine (inRange_t _ _ _ _ c1a c1b).mono ?_; rintro e w1 ⟨rfl, rfl⟩
          go_wp2_with fail
          refine (inRange_f _ _ _ _ HN.out).mono ?_; rintro e w1 ⟨rfl, rfl⟩
          go_wp2
          go_ret
          exact ⟨ret_bool (HV.out _ (by simp; have := HN.out; omega)), HBr.out⟩
      · have hn : sl < 1 ∨ 9999 < sl := by omega
        have HN := hid hn
        clear hn c1
        go_wp2_with fail
        refine (inRange_f _ _ _ _ HN.out).mono ?_; rintro e w1 ⟨rfl, rfl⟩
        go_wp2
        go_ret
        exact ⟨ret_bool (HV.out _ (by simp; have := HN.out; omega)), HBr.out⟩

theorem ValidBox_t (b : Bx) (h : VB b) (w : World) : Calls Try.prog 38 #[.agg #[.int .i64 b.x, .int .i64 b.y, .int .i64 b.w, .int .i64 b.h]] w fun e w' => e = .returned (.bool true) ∧ Below w.heap.size w w' := by
  have := ValidBox_c b w
  rwa [vbB_iff.2 h] at this
theorem ValidBox_f (b : Bx) (h : ¬ VB b) (w : World) : Calls Try.prog 38 #[.agg #[.int .i64 b.x, .int .i64 b.y, .int .i64 b.w, .int .i64 b.h]] w fun e w' => e = .returned (.bool false) ∧ Below w.heap.size w w' := by
  have := ValidBox_c b w
  rwa [vbB_not.2 h] at this

set_option maxHeartbeats 3200000 in
theorem ValidPiece_c (p : Pc) (s : Ps) (w : World) (h : PvR w.heap.size w p s) : Calls Try.prog 37 #[.agg #[.int .i64 s.l, .int .i64 s.w, .int .i64 s.h, .slice s.ka s.kn s.kc]] w fun e w' => e = .returned (.bool (vpB p)) ∧ Below w.heap.size w w' := by
  have HB0 := hid (below_ps (l := s.l) (x := s.w) (y := s.h) (ka := s.ka) (kn := s.kn) (kc := s.kc) (ty := 31) w)
  obtain ⟨⟨g1, g2, g3⟩, hr⟩ := h
  obtain ⟨sl, sw, sh, ka, kn, kc⟩ := s
  obtain ⟨pl, pw, ph, f⟩ := p
  simp only at g1 g2 g3 hr
  subst g1; subst g2; subst g3
  obtain ⟨A1, c1, e1, hc1, hm1⟩ := hr.form
  simp only [Ps.kv, Value.slice.injEq] at e1
  obtain ⟨rfl, rfl, rfl⟩ := e1
  unfold maxLen at hm1
  have HR := hid hr
  have HPB := hid (pieceBox_c ⟨sl, sw, sh, ka, f.length, kc⟩)
  clear hr
  by_cases hbad : sl < 1 ∨ 9999 < sl
  · have HF : Hid (vpB ⟨sl, sw, sh, f⟩ = false) := by rw [Hid, vpB_not]; exact fun hp => by have := hp.1; simp only at this; omega
    have hcase : decide (sl < 1) = true ∨ (decide (sl < 1) = false ∧ decide (9999 < sl) = true) := by simp; omega
    clear hbad
    rcases hcase with g1 | ⟨g1, g2⟩
    all_goals
      go_enter Try.func37, Try.ntmps37
      go_wp2
      go_ret
      exact ⟨ret_bool HF.out.symm, HB0.out⟩
  have d1 : decide (sl < 1) = false := by simp; omega
  have d2 : decide (9999 < sl) = false := by simp; omega
  by_cases hv : VB ⟨0, 0, sw, sh⟩
  · have HVB := hid (ValidBox_t ⟨0, 0, sw, sh⟩ hv)
    have hv1 : 1 ≤ sw ∧ sw ≤ 200 := by unfold VB at hv; simp only at hv; omega
    have hv2 : 1 ≤ sh ∧ sh ≤ 200 := by unfold VB at hv; simp only at hv; omega
    have HIN := hid (fun b => insB_ok (b := b) hv1 hv2)
    by_cases h6 : f.length ≤ 6
    · have d3 : decide (6 < (f.length : Int)) = false := by simp; omega
      have HV : Hid ((∀ b ∈ f, okF sw sh b) → vpB ⟨sl, sw, sh, f⟩ = true) := fun hf => by
        rw [vpB_iff]; exact ⟨by simp only; omega, hv1, hv2, h6, hf⟩
      clear hv hv1 hv2 hbad
      go_enter Try.func37, Try.ntmps37
      go_wp2_with fail
      refine (HPB.out _).mono ?_
      rintro e w1 ⟨rfl, hb⟩
      have HB1 := hid (HB0.out.trans (hb.mono HB0.out.size))
      obtain ⟨cc1, f1, z1⟩ := bcell hb
      have y1 : w.heap.size < w1.heap.size := by simp at z1; omega
      clear hb f1
      go_wp2_with fail
      refine (HVB.out _).mono ?_
      rintro e w2 ⟨rfl, hb⟩
      have HB2 := hid (HB1.out.trans (hb.mono HB1.out.size))
      obtain ⟨cc2, f2, z2⟩ := bcell hb
      have y2 : w.heap.size < w2.heap.size := by omega
      have hbx : ∀ o : Nat, w2.cell? ⟨w.heap.size, o, none⟩ = (w.alloc (.cells #[.int .i64 sl, .int .i64 sw, .int .i64 sh, .slice ka f.length kc] 31)).cell? ⟨w.heap.size, o, none⟩ := fun o => (cc2 _ o y1).trans (cc1 _ o (by simp))
      have HBX := hid hbx
      clear hb f2
      go_wp2
      go_loopw [28] (fun i wr => ∃ k : Nat, i = .int .i64 k ∧ k ≤ f.length ∧ (∀ b ∈ f.take k, okF sw sh b) ∧ Below w2.heap.size w2 wr) (fun i _ => f.length - (intOf i).toNat)
      case atStart => exact ⟨0, rfl, by omega, by simp, Below.refl _ _⟩
      case round =>
        obtain ⟨k, rfl, hk, hok, hb⟩ := hrel
        have HBr := hid (HB2.out.trans (hb.mono HB2.out.size))
        have hbx : ∀ o : Nat, wr.cell? ⟨w.heap.size, o, none⟩ = (w.alloc (.cells #[.int .i64 sl, .int .i64 sw, .int .i64 sh, .slice ka f.length kc] 31)).cell? ⟨w.heap.size, o, none⟩ := fun o => (hb.cell (p := ⟨w.heap.size, o, none⟩) y2).trans (HBX.out o)
        have yr : w.heap.size < wr.heap.size := by have := hb.size; omega
        have HOK := hid hok
        by_cases hlt : k < f.length
        · obtain ⟨b1, o1, rfl, hb1, hx⟩ := row_boxs (HR.out.below HBr.out) (Nat.lt_of_le_of_lt (Nat.zero_le _) hlt)
          obtain ⟨x0, x1, x2, x3⟩ := hx k hlt
          have hbz := hb.size
          have HBB := hid hb
          have y1' : w.heap.size < wr.heap.size + 1 := by omega
          have hq := fun (q : GW (wr.heap.size + 1) (wr.alloc (.cells #[.int .i64 f[k].x, .int .i64 f[k].y, .int .i64 f[k].w, .int .i64 f[k].h] 33))) => q.cell
          have HBA := hid ((Below.refl wr.heap.size wr).alloc (Nat.le_refl _) (.cells #[.int .i64 f[k].x, .int .i64 f[k].y, .int .i64 f[k].w, .int .i64 f[k].h] 33))
          clear hx hok hb cc1 cc2
          have HI2 := hid (InsideOf_c f[k] ⟨0, 0, sw, sh⟩)
          by_cases ho : okF sw sh f[k]
          · have HC : Hid (∀ w, Calls Try.prog 39 #[.agg #[.int .i64 f[k].x, .int .i64 f[k].y, .int .i64 f[k].w, .int .i64 f[k].h], .agg #[.int .i64 0, .int .i64 0, .int .i64 sw, .int .i64 sh]] w fun e w' => e = .returned (.bool true) ∧ Below w.heap.size w w') := fun w => by
              have := HI2.out w
              rw [HIN.out] at this
              have e : decide (okF sw sh f[k]) = true := by simpa using ho
              rwa [e] at this
            have HOK2 : Hid (∀ b ∈ f.take (k + 1), okF sw sh b) := by
              rw [Hid, List.take_succ_eq_append_getElem hlt]
              intro b hb
              rcases List.mem_append.1 hb with hb | hb
              · exact HOK.out b hb
              · simp at hb; rw [hb]; exact ho
            clear ho
            go_wp2
            refine wp_region_grow (wr.heap.size + 1) _ (by kernel_rfl) (by kernel_rfl) ?_
            repeat (go_big_quiet_step (first | (go_at_call 57; exact GW.call (by simp) (HPB.out _)) | (go_at_call 39; exact GW.call (by simp) (HC.out _))))
            refine wpQuiet_nil ?_
            rintro _ ⟨q, rfl⟩
            have HQ := hid (HBA.out.trans (q.h.mono (Nat.le_succ _)))
            go_wp2
            exact ⟨⟨k + 1, by go_num, by omega, HOK2.out, HBB.out.trans (HQ.out.mono hbz)⟩, by simp [intOf]; omega⟩
          · have HC : Hid (∀ w, Calls Try.prog 39 #[.agg #[.int .i64 f[k].x, .int .i64 f[k].y, .int .i64 f[k].w, .int .i64 f[k].h], .agg #[.int .i64 0, .int .i64 0, .int .i64 sw, .int .i64 sh]] w fun e w' => e = .returned (.bool false) ∧ Below w.heap.size w w') := fun w => by
              have := HI2.out w
              rw [HIN.out] at this
              have e : decide (okF sw sh f[k]) = false := by simpa using ho
              rwa [e] at this
            have HF : Hid (vpB ⟨sl, sw, sh, f⟩ = false) := by
              rw [Hid, vpB_not]; exact fun hp => ho (hp.2.2.2.2 _ (List.getElem_mem hlt))
            clear ho
            go_wp2
            refine wp_region_grow (wr.heap.size + 1) _ (by kernel_rfl) (by kernel_rfl) ?_
            repeat (go_big_quiet_step (first | (go_at_call 57; exact GW.call (by simp) (HPB.out _)) | (go_at_call 39; exact GW.call (by simp) (HC.out _))))
            refine wpQuiet_nil ?_
            rintro _ ⟨q, rfl⟩
            have HQ := hid (HBA.out.trans (q.h.mono (Nat.le_succ _)))
            go_wp2
            go_ret
            exact ⟨ret_bool HF.out.symm, HBr.out.trans (HQ.out.mono HBr.out.size)⟩
        · have HOKA : Hid (∀ b ∈ f, okF sw sh b) := by rw [List.take_of_length_le (by omega)] at hok; exact hok
          have HT := hid (HV.out HOKA.out)
          clear hok
          go_wp2
          go_ret
          exact ⟨ret_bool HT.out.symm, HBr.out⟩
    · have d3 : decide (6 < (f.length : Int)) = true := by simp; omega
      have HF : Hid (vpB ⟨sl, sw, sh, f⟩ = false) := by rw [Hid, vpB_not]; exact fun hp => h6 hp.2.2.2.1
      clear hv hv1 hv2 hbad
      go_enter Try.func37, Try.ntmps37
      go_wp2_with fail
      refine (HPB.out _).mono ?_
      rintro e w1 ⟨rfl, hb⟩
      have HB1 := hid (HB0.out.trans (hb.mono HB0.out.size))
      obtain ⟨cc1, f1, z1⟩ := bcell hb
      have y1 : w.heap.size < w1.heap.size := by simp at z1; omega
      clear hb f1
      go_wp2_with fail
      refine (HVB.out _).mono ?_
      rintro e w2 ⟨rfl, hb⟩
      have HB2 := hid (HB1.out.trans (hb.mono HB1.out.size))
      obtain ⟨cc2, f2, z2⟩ := bcell hb
      clear hb f2
      go_wp2
      go_ret
      exact ⟨ret_bool HF.out.symm, HB2.out⟩
  · have HVB := hid (ValidBox_f ⟨0, 0, sw, sh⟩ hv)
    have HF : Hid (vpB ⟨sl, sw, sh, f⟩ = false) := by
      rw [Hid, vpB_not]
      intro hp
      have h1 := hp.2.1
      have h2 := hp.2.2.1
      simp only at h1 h2
      exact hv (by unfold VB; simp only; omega)
    clear hv hbad
    go_enter Try.func37, Try.ntmps37
    go_wp2_with fail
    refine (HPB.out _).mono ?_
    rintro e w1 ⟨rfl, hb⟩
    have HB1 := hid (HB0.out.trans (hb.mono HB0.out.size))
    obtain ⟨cc1, f1, z1⟩ := bcell hb
    clear hb f1
    go_wp2_with fail
    refine (HVB.out _).mono ?_
    rintro e w2 ⟨rfl, hb⟩
    have HB2 := hid (HB1.out.trans (hb.mono HB1.out.size))
    clear hb cc1
    go_wp2
    go_ret
    exact ⟨ret_bool HF.out.symm, HB2.out⟩

end Go.Proofs.Ytpicbkakghojnaa
