/-
  Contracts: clear boxes of a piece, by both.
-/
import Derived.Test.YtpicbkakghojnaaPieceV
namespace Go.Proofs.Ytpicbkakghojnaa
set_option linter.unusedSimpArgs false
set_option linter.unusedVariables false
open Go.RowKit

/-- No flaw has a point of b. -/
def clB (L : List Bx) (b : Bx) : Bool := L.all fun f => !mtB f b
theorem clB_f {L : List Bx} {b : Bx} {k : Nat} (hk : k < L.length) (h : mtB L[k] b = true) : clB L b = false := by
  rw [clB, List.all_eq_false]
  exact ⟨L[k], List.getElem_mem hk, by simp [h]⟩
theorem clB_t {L : List Bx} {b : Bx} (h : ∀ f ∈ L, mtB f b = false) : clB L b = true := by
  rw [clB, List.all_eq_true]
  intro f hf
  simp [h f hf]
theorem take_mt {L : List Bx} {b : Bx} {k : Nat} (hk : k < L.length) (h : mtB L[k] b = false) (hno : ∀ f ∈ L.take k, mtB f b = false) : ∀ f ∈ L.take (k + 1), mtB f b = false := by
  intro f hf
  rw [List.take_succ_eq_append_getElem hk] at hf
  rcases List.mem_append.1 hf with hf | hf
  · exact hno f hf
  · simp at hf; rw [hf]; exact h

set_option maxHeartbeats 3200000 in
theorem meetsFlaw_c (v : Value) (L : List Bx) (b : Bx) (w : World) (h : Row boxE w v L) (hL : ∀ f ∈ L, VB f) (hb : VB b) : Calls Try.prog 58 #[v, .agg #[.int .i64 b.x, .int .i64 b.y, .int .i64 b.w, .int .i64 b.h]] w fun e w' => e = .returned (.bool (!clB L b)) ∧ Below w.heap.size w w' := by
  obtain ⟨A1, c1, rfl, hc1, hm1⟩ := h.form
  unfold maxLen at hm1
  have HR := hid h
  have HL := hid hL
  have HVB := hid hb
  have HB0 := hid ((Below.refl w.heap.size w).alloc (Nat.le_refl _) (.cells #[.int .i64 b.x, .int .i64 b.y, .int .i64 b.w, .int .i64 b.h] 33))
  clear h hL hb
  go_enter Try.func58, Try.ntmps58
  go_wp2
  go_loopw [11] (fun i wr => ∃ k : Nat, i = .int .i64 k ∧ k ≤ L.length ∧ (∀ f ∈ L.take k, mtB f b = false) ∧ Below (w.heap.size + 1) (w.alloc (.cells #[.int .i64 b.x, .int .i64 b.y, .int .i64 b.w, .int .i64 b.h] 33)) wr) (fun i _ => L.length - (intOf i).toNat)
  case atStart => exact ⟨0, rfl, by omega, by simp, Below.refl _ _⟩
  case round =>
    obtain ⟨k, rfl, hk, hno, hb⟩ := hrel
    have hbz : w.heap.size + 1 ≤ wr.heap.size := by have := hb.size; simp at this; omega
    have hbx : ∀ o : Nat, wr.cell? ⟨w.heap.size, o, none⟩ = (w.alloc (.cells #[.int .i64 b.x, .int .i64 b.y, .int .i64 b.w, .int .i64 b.h] 33)).cell? ⟨w.heap.size, o, none⟩ := fun o => hb.cell (p := ⟨w.heap.size, o, none⟩) (by simp)
    have HBr := hid (HB0.out.trans (hb.mono (Nat.le_succ _)))
    have HNO := hid hno
    by_cases hlt : k < L.length
    · obtain ⟨b1, o1, rfl, hb1, hx⟩ := row_boxs (HR.out.below HBr.out) (Nat.lt_of_le_of_lt (Nat.zero_le _) hlt)
      obtain ⟨x0, x1, x2, x3⟩ := hx k hlt
      have HBB := hid hb
      have y1 : w.heap.size < wr.heap.size + 1 := by omega
      have y2 : w.heap.size < wr.heap.size := by omega
      have y3 : b1 < wr.heap.size := by omega
      clear hx hno hb
      cases hm : mtB L[k] b with
      | true =>
        have HF := hid (clB_f hlt hm)
        have HM := hid hm
        clear hm
        go_wp2_with fail
        refine (MeetOf_t L[k] b _ (HL.out _ (List.getElem_mem hlt)) HVB.out HM.out).mono ?_
        rintro e w2 ⟨rfl, hb2⟩
        have HB2 := hid ((HBr.out.alloc (by omega) _).trans (hb2.mono (by simp; omega)))
        have hs2 := hb2.size
        clear hb2
        go_wp2
        go_ret
        exact ⟨ret_bool (by rw [HF.out]; rfl), HB2.out.alloc (by simp at hs2; omega) _⟩
      | false =>
        have HM := hid hm
        have HNO2 := hid (take_mt hlt hm HNO.out)
        clear hm
        go_wp2_with fail
        refine (MeetOf_f L[k] b _ (HL.out _ (List.getElem_mem hlt)) HVB.out HM.out).mono ?_
        rintro e w2 ⟨rfl, hb2⟩
        have HB2 := hid ((HBB.out.alloc hbz _).trans (hb2.mono (by simp; omega)))
        have hs2 := hb2.size
        clear hb2
        go_wp2
        exact ⟨⟨k + 1, by go_num, by omega, HNO2.out, HB2.out.alloc (by simp at hs2; omega) _⟩, by simp [intOf]; omega⟩
    · have HT : Hid (clB L b = true) := clB_t (by rw [List.take_of_length_le (by omega)] at hno; exact hno)
      clear hno hb
      go_wp2
      go_ret
      exact ⟨ret_bool (by rw [HT.out]; rfl), HBr.out⟩

theorem pieceBox_p (s : Ps) (p : Pc) (h : s.same p) (w : World) : Calls Try.prog 57 #[.agg #[.int .i64 s.l, .int .i64 s.w, .int .i64 s.h, .slice s.ka s.kn s.kc]] w fun e w' => e = .returned (.agg #[.int .i64 0, .int .i64 0, .int .i64 p.w, .int .i64 p.h]) ∧ Below w.heap.size w w' :=
  (pieceBox_c s w).mono fun e w' ⟨h1, h2⟩ => ⟨by rw [h1, h.2.1, h.2.2], h2⟩

/-- Is the box b clear in p? -/
def caB (p : Pc) (b : Bx) : Bool := vpB p && decide (okF p.w p.h b) && clB p.f b

set_option maxHeartbeats 3200000 in
theorem ClearAt_c (p : Pc) (s : Ps) (b : Bx) (w : World) (h : PvR w.heap.size w p s) : Calls Try.prog 18 #[.agg #[.int .i64 s.l, .int .i64 s.w, .int .i64 s.h, .slice s.ka s.kn s.kc], .agg #[.int .i64 b.x, .int .i64 b.y, .int .i64 b.w, .int .i64 b.h]] w fun e w' => e = .returned (.bool (caB p b)) ∧ Below w.heap.size w w' := by
  have B2 := hid ((below_ps (l := s.l) (x := s.w) (y := s.h) (ka := s.ka) (kn := s.kn) (kc := s.kc) (ty := 31) w).alloc (by simp) (.cells #[.int .i64 b.x, .int .i64 b.y, .int .i64 b.w, .int .i64 b.h] 33))
  obtain ⟨W, hW⟩ : ∃ W, W = (w.alloc (.cells #[.int .i64 s.l, .int .i64 s.w, .int .i64 s.h, .slice s.ka s.kn s.kc] 31)).alloc (.cells #[.int .i64 b.x, .int .i64 b.y, .int .i64 b.w, .int .i64 b.h] 33) := ⟨_, rfl⟩
  have HP := hid (fun w1 (hb : Below w.heap.size w w1) => h.go hb)
  have hPB := pieceBox_p s p h.1
  have HPB := hid hPB
  have hq := fun (q : GW (w.heap.size + 1 + 1) ((w.alloc (.cells #[.int .i64 s.l, .int .i64 s.w, .int .i64 s.h, .slice s.ka s.kn s.kc] 31)).alloc (.cells #[.int .i64 b.x, .int .i64 b.y, .int .i64 b.w, .int .i64 b.h] 33))) => q.cell
  have HQP : Hid (∀ (q : GW (w.heap.size + 1 + 1) ((w.alloc (.cells #[.int .i64 s.l, .int .i64 s.w, .int .i64 s.h, .slice s.ka s.kn s.kc] 31)).alloc (.cells #[.int .i64 b.x, .int .i64 b.y, .int .i64 b.w, .int .i64 b.h] 33))), Below w.heap.size w q.w) := fun q => B2.out.trans (q.h.mono (by omega))
  clear h hPB
  by_cases hv : VP p
  · have HV : Hid (∀ w1, PvR w1.heap.size w1 p s → Calls Try.prog 37 #[.agg #[.int .i64 s.l, .int .i64 s.w, .int .i64 s.h, .slice s.ka s.kn s.kc]] w1 fun e w' => e = .returned (.bool true) ∧ Below w1.heap.size w1 w') := fun w1 hp => by
      have := ValidPiece_c p s w1 hp
      rwa [vpB_iff.2 hv] at this
    have HIN := hid (insB_ok (b := b) hv.2.1 hv.2.2.1)
    by_cases ho : okF p.w p.h b
    · have HI : Hid (∀ w1, Calls Try.prog 39 #[.agg #[.int .i64 b.x, .int .i64 b.y, .int .i64 b.w, .int .i64 b.h], .agg #[.int .i64 0, .int .i64 0, .int .i64 p.w, .int .i64 p.h]] w1 fun e w' => e = .returned (.bool true) ∧ Below w1.heap.size w1 w') := fun w1 => by
        have := InsideOf_c b ⟨0, 0, p.w, p.h⟩ w1
        rw [HIN.out] at this
        have e : decide (okF p.w p.h b) = true := by simpa using ho
        rwa [e] at this
      have HM : Hid (∀ w1, Row boxE w1 s.kv p.f → Calls Try.prog 58 #[s.kv, .agg #[.int .i64 b.x, .int .i64 b.y, .int .i64 b.w, .int .i64 b.h]] w1 fun e w' => e = .returned (.bool (!clB p.f b)) ∧ Below w1.heap.size w1 w') := fun w1 hr => meetsFlaw_c _ p.f b w1 hr (fun f hf => (hv.2.2.2.2 f hf).1) ho.1
      have HR : Hid (caB p b = clB p.f b) := by rw [Hid, caB, vpB_iff.2 hv]; simp [ho]
      clear hv ho
      cases hc : clB p.f b with
      | true =>
        rw [hc] at HM HR
        clear hc
        go_enter Try.func18, Try.ntmps18
        go_wp2
        refine wp_region_grow (w.heap.size + 1 + 1) _ (by kernel_rfl) (by kernel_rfl) ?_
        repeat (go_big_quiet_step (first | (go_at_call 37; exact GW.call (by simp) (HV.out _ (HP.out _ (HQP.out _)))) | (go_at_call 57; exact GW.call (by simp) (HPB.out _)) | (go_at_call 39; exact GW.call (by simp) (HI.out _)) | (go_at_call 58; exact GW.call (by simp) (HM.out _ (HP.out _ (HQP.out _)).2))))
        refine wpQuiet_nil ?_
        rintro _ ⟨q, rfl⟩
        have HQ := hid (HQP.out q)
        go_wp2
        go_ret
        exact ⟨ret_bool HR.out.symm, HQ.out⟩
      | false =>
        rw [hc] at HM HR
        clear hc
        go_enter Try.func18, Try.ntmps18
        go_wp2
        refine wp_region_grow (w.heap.size + 1 + 1) _ (by kernel_rfl) (by kernel_rfl) ?_
        repeat (go_big_quiet_step (first | (go_at_call 37; exact GW.call (by simp) (HV.out _ (HP.out _ (HQP.out _)))) | (go_at_call 57; exact GW.call (by simp) (HPB.out _)) | (go_at_call 39; exact GW.call (by simp) (HI.out _)) | (go_at_call 58; exact GW.call (by simp) (HM.out _ (HP.out _ (HQP.out _)).2))))
        refine wpQuiet_nil ?_
        rintro _ ⟨q, rfl⟩
        have HQ := hid (HQP.out q)
        go_wp2
        go_ret
        exact ⟨ret_bool HR.out.symm, HQ.out⟩
    · have HI : Hid (∀ w1, Calls Try.prog 39 #[.agg #[.int .i64 b.x, .int .i64 b.y, .int .i64 b.w, .int .i64 b.h], .agg #[.int .i64 0, .int .i64 0, .int .i64 p.w, .int .i64 p.h]] w1 fun e w' => e = .returned (.bool false) ∧ Below w1.heap.size w1 w') := fun w1 => by
        have := InsideOf_c b ⟨0, 0, p.w, p.h⟩ w1
        rw [HIN.out] at this
        have e : decide (okF p.w p.h b) = false := by simpa using ho
        rwa [e] at this
      have HR : Hid (caB p b = false) := by rw [Hid, caB]; simp [ho]
      clear hv ho
      go_enter Try.func18, Try.ntmps18
      go_wp2
      refine wp_region_grow (w.heap.size + 1 + 1) _ (by kernel_rfl) (by kernel_rfl) ?_
      repeat (go_big_quiet_step (first | (go_at_call 37; exact GW.call (by simp) (HV.out _ (HP.out _ (HQP.out _)))) | (go_at_call 57; exact GW.call (by simp) (HPB.out _)) | (go_at_call 39; exact GW.call (by simp) (HI.out _))))
      refine wpQuiet_nil ?_
      rintro _ ⟨q, rfl⟩
      have HQ := hid (HQP.out q)
      go_wp2
      go_ret
      exact ⟨ret_bool HR.out.symm, HQ.out⟩
  · have HV : Hid (∀ w1, PvR w1.heap.size w1 p s → Calls Try.prog 37 #[.agg #[.int .i64 s.l, .int .i64 s.w, .int .i64 s.h, .slice s.ka s.kn s.kc]] w1 fun e w' => e = .returned (.bool false) ∧ Below w1.heap.size w1 w') := fun w1 hp => by
      have := ValidPiece_c p s w1 hp
      rwa [vpB_not.2 hv] at this
    have HR : Hid (caB p b = false) := by rw [Hid, caB, vpB_not.2 hv]; rfl
    clear hv
    go_enter Try.func18, Try.ntmps18
    go_wp2
    refine wp_region_grow (w.heap.size + 1 + 1) _ (by kernel_rfl) (by kernel_rfl) ?_
    repeat (go_big_quiet_step (first | (go_at_call 37; exact GW.call (by simp) (HV.out _ (HP.out _ (HQP.out _))))))
    refine wpQuiet_nil ?_
    rintro _ ⟨q, rfl⟩
    have HQ := hid (HQP.out q)
    go_wp2
    go_ret
    exact ⟨ret_bool HR.out.symm, HQ.out⟩

end Go.Proofs.Ytpicbkakghojnaa
