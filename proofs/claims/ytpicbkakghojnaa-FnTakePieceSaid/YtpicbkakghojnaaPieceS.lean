/-
  Contracts: clear boxes of a piece, by the reference.
-/
import Derived.Test.YtpicbkakghojnaaPieceC
namespace Go.Proofs.Ytpicbkakghojnaa
set_option linter.unusedSimpArgs false
set_option linter.unusedVariables false
open Go.RowKit

set_option maxHeartbeats 12800000 in
set_option maxRecDepth 100000 in
theorem sclearAt_c (p : Pc) (s : Ps) (b : Bx) (w : World) (h : PvR w.heap.size w p s) (hL : ∀ f ∈ p.f, VB f) (hb : VB b) : Calls Try.prog 55 #[.agg #[.int .i64 s.l, .int .i64 s.w, .int .i64 s.h, .slice s.ka s.kn s.kc], .agg #[.int .i64 b.x, .int .i64 b.y, .int .i64 b.w, .int .i64 b.h]] w fun e w' => e = .returned (.bool (clB p.f b)) ∧ Below w.heap.size w w' := by
  have B2 := hid ((below_ps (l := s.l) (x := s.w) (y := s.h) (ka := s.ka) (kn := s.kn) (kc := s.kc) (ty := 31) w).alloc (by simp) (.cells #[.int .i64 b.x, .int .i64 b.y, .int .i64 b.w, .int .i64 b.h] 33))
  obtain ⟨-, hr⟩ := h
  obtain ⟨sl, sw, sh, ka, kn, kc⟩ := s
  obtain ⟨pl, pw, ph, f⟩ := p
  simp only at hr hL ⊢
  obtain ⟨A1, c1, e1, hc1, hm1⟩ := hr.form
  simp only [Ps.kv, Value.slice.injEq] at e1
  obtain ⟨rfl, rfl, rfl⟩ := e1
  unfold maxLen at hm1
  have HR := hid hr
  have HL := hid hL
  have HVB := hid hb
  clear hr hL hb
  go_enter Try.func55, Try.ntmps55
  go_wp2
  go_loopw [5] (fun i wr => ∃ k : Nat, i = .int .i64 k ∧ k ≤ f.length ∧ (∀ y ∈ f.take k, mtB y b = false) ∧ Below (w.heap.size + 1 + 1) ((w.alloc (.cells #[.int .i64 sl, .int .i64 sw, .int .i64 sh, .slice ka f.length kc] 31)).alloc (.cells #[.int .i64 b.x, .int .i64 b.y, .int .i64 b.w, .int .i64 b.h] 33)) wr) (fun i _ => f.length - (intOf i).toNat)
  case atStart => exact ⟨0, rfl, by omega, by simp, Below.refl _ _⟩
  case round =>
    obtain ⟨k, rfl, hk, hno, hb⟩ := hrel
    have hbz : w.heap.size + 1 + 1 ≤ wr.heap.size := by have := hb.size; simp at this; omega
    have hbx : ∀ o : Nat, wr.cell? ⟨w.heap.size, o, none⟩ = ((w.alloc (.cells #[.int .i64 sl, .int .i64 sw, .int .i64 sh, .slice ka f.length kc] 31)).alloc (.cells #[.int .i64 b.x, .int .i64 b.y, .int .i64 b.w, .int .i64 b.h] 33)).cell? ⟨w.heap.size, o, none⟩ := fun o => hb.cell (p := ⟨w.heap.size, o, none⟩) (by simp; omega)
    have hby : ∀ o : Nat, wr.cell? ⟨w.heap.size + 1, o, none⟩ = ((w.alloc (.cells #[.int .i64 sl, .int .i64 sw, .int .i64 sh, .slice ka f.length kc] 31)).alloc (.cells #[.int .i64 b.x, .int .i64 b.y, .int .i64 b.w, .int .i64 b.h] 33)).cell? ⟨w.heap.size + 1, o, none⟩ := fun o => hb.cell (p := ⟨w.heap.size + 1, o, none⟩) (by simp)
    have HBr := hid (B2.out.trans (hb.mono (by omega)))
    have HNO := hid hno
    by_cases hlt : k < f.length
    · obtain ⟨b1, o1, rfl, hb1, hx⟩ := row_boxs (HR.out.below HBr.out) (Nat.lt_of_le_of_lt (Nat.zero_le _) hlt)
      obtain ⟨x0, x1, x2, x3⟩ := hx k hlt
      have HBB := hid hb
      have y1 : w.heap.size < wr.heap.size + 1 := by omega
      have y2 : w.heap.size < wr.heap.size := by omega
      have y3 : b1 < wr.heap.size := by omega
      have y4 : w.heap.size + 1 < wr.heap.size := by omega
      have y5 : b1 < wr.heap.size + 1 := by omega
      have y6 : w.heap.size < wr.heap.size + 1 := by omega
      clear hx hno hb
      cases hm : mtB f[k] b with
      | true =>
        have HF := hid (clB_f hlt hm)
        have HM := hid hm
        clear hm
        go_wp2
        have ZK := hid ((Below.refl _ _).drew : Below wr.heap.size wr wr.drew)
        go_region_held3 (fun w' => ∀ b o, b < wr.heap.size → w'.cell? ⟨b, o, none⟩ = wr.cell? ⟨b, o, none⟩) (first | with_reducible exact fun b o h => ZK.out.cell (p := ⟨b, o, none⟩) h | with_reducible exact fun b o h => (ZK.out.alloc ZK.out.size _).cell (p := ⟨b, o, none⟩) h | with_reducible exact fun b o h => (((Below.refl _ _).alloc (Nat.le_refl _) _).drew).cell (p := ⟨b, o, none⟩) h | with_reducible exact fun b o h => ((((ZK.out.setCell (Nat.le_refl _) _).setCell (Nat.le_refl _) _).setCell (Nat.le_refl _) _).setCell (Nat.le_refl _) _).cell (p := ⟨b, o, none⟩) h)
          (first | (go_at_call 83; ((with_reducible refine (smeetOf_t f[k] b _ (HL.out _ (List.getElem_mem hlt)) HVB.out HM.out).mono ?_); rintro e wq ⟨rfl, hb⟩; obtain ⟨hc2, hf2, hs2⟩ := bcell hb; (try have hz2 : wr.heap.size < wq.heap.size := (by simp at hs2; omega)); (first | with_reducible replace ZK := hid (ZK.out.trans (hb.mono ZK.out.size)) | with_reducible replace ZK := hid ((((Below.refl wr.heap.size wr).alloc (Nat.le_refl _) _).drew).trans (hb.mono (((Below.refl wr.heap.size wr).alloc (Nat.le_refl _) _).drew).size))); clear hb hs2)))
        all_goals
          go_wp2
          go_ret
          first | exact ⟨ret_bool HF.out.symm, HBr.out.trans ((((((ZK.out.setCell (Nat.le_refl _) _).setCell (Nat.le_refl _) _).setCell (Nat.le_refl _) _).setCell (Nat.le_refl _) _)).mono HBr.out.size)⟩ | exact ⟨ret_bool HF.out.symm, HBr.out.trans ((ZK.out.alloc ZK.out.size _).mono HBr.out.size)⟩
      | false =>
        have HM := hid hm
        have HNO2 := hid (take_mt hlt hm HNO.out)
        clear hm
        go_wp2
        have ZK := hid ((Below.refl _ _).drew : Below wr.heap.size wr wr.drew)
        go_region_held3 (fun w' => ∀ b o, b < wr.heap.size → w'.cell? ⟨b, o, none⟩ = wr.cell? ⟨b, o, none⟩) (first | with_reducible exact fun b o h => ZK.out.cell (p := ⟨b, o, none⟩) h | with_reducible exact fun b o h => (ZK.out.alloc ZK.out.size _).cell (p := ⟨b, o, none⟩) h | with_reducible exact fun b o h => (((Below.refl _ _).alloc (Nat.le_refl _) _).drew).cell (p := ⟨b, o, none⟩) h | with_reducible exact fun b o h => ((((ZK.out.setCell (Nat.le_refl _) _).setCell (Nat.le_refl _) _).setCell (Nat.le_refl _) _).setCell (Nat.le_refl _) _).cell (p := ⟨b, o, none⟩) h)
          (first | (go_at_call 83; ((with_reducible refine (smeetOf_f f[k] b _ (HL.out _ (List.getElem_mem hlt)) HVB.out HM.out).mono ?_); rintro e wq ⟨rfl, hb⟩; obtain ⟨hc2, hf2, hs2⟩ := bcell hb; (try have hz2 : wr.heap.size < wq.heap.size := (by simp at hs2; omega)); (first | with_reducible replace ZK := hid (ZK.out.trans (hb.mono ZK.out.size)) | with_reducible replace ZK := hid ((((Below.refl wr.heap.size wr).alloc (Nat.le_refl _) _).drew).trans (hb.mono (((Below.refl wr.heap.size wr).alloc (Nat.le_refl _) _).drew).size))); clear hb hs2)))
        all_goals
          go_wp2
          first | exact ⟨⟨k + 1, by go_num, by omega, HNO2.out, HBB.out.trans ((((((ZK.out.setCell (Nat.le_refl _) _).setCell (Nat.le_refl _) _).setCell (Nat.le_refl _) _).setCell (Nat.le_refl _) _)).mono hbz)⟩, by simp [intOf]; omega⟩ | exact ⟨⟨k + 1, by go_num, by omega, HNO2.out, HBB.out.trans ((ZK.out.alloc ZK.out.size _).mono hbz)⟩, by simp [intOf]; omega⟩
    · have HT : Hid (clB f b = true) := clB_t (by rw [List.take_of_length_le (by omega)] at hno; exact hno)
      clear hno hb
      go_wp2
      go_ret
      exact ⟨ret_bool HT.out.symm, HBr.out⟩

end Go.Proofs.Ytpicbkakghojnaa
