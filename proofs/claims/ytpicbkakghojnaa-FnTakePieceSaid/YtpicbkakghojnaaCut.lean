/-
  Contracts: a part cut out of a piece, by the program.
-/
import Derived.Test.YtpicbkakghojnaaPieceT
import Derived.Test.YtpicbkakghojnaaBlk
namespace Go.Proofs.Ytpicbkakghojnaa
set_option linter.unusedSimpArgs false
set_option linter.unusedVariables false
open Go.RowKit

def shB (m b : Bx) : Bx := ⟨m.x - b.x, m.y - b.y, m.w, m.h⟩
/-- The flaws of a part. -/
def coF (F : List Bx) (b : Bx) : List Bx := F.flatMap fun g => opt (mtB g b = true) (shB (meetRaw g b) b)
theorem coF_t {F : List Bx} {b : Bx} {k : Nat} (hk : k < F.length) (h : mtB F[k] b = true) : coF (F.take (k + 1)) b = coF (F.take k) b ++ [shB (meetRaw F[k] b) b] := by
  rw [List.take_succ_eq_append_getElem hk]; simp only [coF, List.flatMap_append, List.flatMap_cons, List.flatMap_nil, List.append_nil, opt_t h]
theorem coF_f {F : List Bx} {b : Bx} {k : Nat} (hk : k < F.length) (h : mtB F[k] b = false) : coF (F.take (k + 1)) b = coF (F.take k) b := by
  rw [List.take_succ_eq_append_getElem hk]; simp only [coF, List.flatMap_append, List.flatMap_cons, List.flatMap_nil, List.append_nil, opt_f (show ¬ mtB F[k] b = true by rw [h]; simp)]
theorem coF_len (F : List Bx) (b : Bx) : (coF F b).length ≤ F.length := by
  induction F with
  | nil => simp [coF]
  | cons g F ih =>
    have e : coF (g :: F) b = opt (mtB g b = true) (shB (meetRaw g b) b) ++ coF F b := by simp [coF]
    have := opt_len (mtB g b = true) (shB (meetRaw g b) b)
    rw [e, List.length_append, List.length_cons]
    omega
theorem coF_lenK (F : List Bx) (b : Bx) (k : Nat) (h : F.length ≤ 6) : (coF (F.take k) b).length ≤ 6 := by
  have := coF_len (F.take k) b
  rw [List.length_take] at this
  omega
def coOk (p : Pc) (b : Bx) (l : Int) : Prop := VP p ∧ okF p.w p.h b ∧ 1 ≤ l ∧ l ≤ 9999
instance (p : Pc) (b : Bx) (l : Int) : Decidable (coOk p b l) := by unfold coOk; infer_instance
def zeroPc : Pc := ⟨0, 0, 0, []⟩
def coR (p : Pc) (b : Bx) (l : Int) : Pc := if coOk p b l then ⟨l, b.w, b.h, coF p.f b⟩ else zeroPc
theorem coR_t {p : Pc} {b : Bx} {l : Int} (h : coOk p b l) : coR p b l = ⟨l, b.w, b.h, coF p.f b⟩ := if_pos h
theorem coR_f {p : Pc} {b : Bx} {l : Int} (h : ¬ coOk p b l) : coR p b l = zeroPc := if_neg h
theorem coR_len (p : Pc) (b : Bx) (l : Int) : (coR p b l).f.length ≤ 6 := by
  by_cases h : coOk p b l
  · rw [coR_t h]; exact Nat.le_trans (coF_len _ _) h.1.2.2.2.1
  · rw [coR_f h]; simp [zeroPc]
/-- What a call answers that makes a piece. -/
def PcOut (base : Nat) (p : Pc) (e : Ending) (w' : World) : Prop := ∃ s : Ps, e = .returned (.agg #[.int .i64 s.l, .int .i64 s.w, .int .i64 s.h, .slice s.ka s.kn s.kc]) ∧ s.same p ∧ Own boxE 33 base w' s.kv p.f

theorem pcOut_zero (base : Nat) (w : World) : PcOut base zeroPc (.returned (.agg #[.int .i64 0, .int .i64 0, .int .i64 0, .slice none 0 0])) w := ⟨⟨0, 0, 0, none, 0, 0⟩, rfl, ⟨rfl, rfl, rfl⟩, Own.nil_ _ _ _⟩

theorem grown_setCell (w : World) (p : Addr) (u : Value) : w.grownBy (w.setCell p u) (some p.block) :=
  ⟨rfl, rfl, rfl, by simp, fun k _ hne => heap_setCell_other w p k u (fun e => hne (by rw [e]))⟩
theorem Own.setCell_ne {α : Type} {E : Enc α} {e : TypeId} {base : Nat} {w : World} {v : Value} {L : List α} {p : Addr} (h : Own E e base w v L) (hp : v.ownBlock ≠ some p.block) (u : Value) : Own E e base (w.setCell p u) v L := h.kept (grown_setCell w p u) (.inr hp)

/-- A piece that is being built: its cells in block g, its flaws owned, from block B on. -/
def pcSt (B g : Nat) (l bw bh : Int) (W wr : World) (v : Value) (M : List Bx) : Prop := Below B W wr ∧ B ≤ g ∧ Blk wr g #[.int .i64 l, .int .i64 bw, .int .i64 bh, v] 31 ∧ Own boxE 33 B wr v M ∧ v.ownBlock ≠ some g
theorem pcSt.below {B g : Nat} {l bw bh : Int} {W wr w' : World} {v : Value} {M : List Bx} (h : pcSt B g l bw bh W wr v M) (hb : Below wr.heap.size wr w') : pcSt B g l bw bh W w' v M :=
  ⟨h.1.trans (hb.mono (Nat.le_trans h.2.1 (Nat.le_of_lt h.2.2.1.lt))), h.2.1, h.2.2.1.go hb, h.2.2.2.1.below hb, h.2.2.2.2⟩
theorem pcSt.push {B g n : Nat} {l bw bh : Int} {W wr w' : World} {v v' : Value} {M M' : List Bx} (h : pcSt B g l bw bh W wr v M) (ho : Own boxE 33 B w' v' M') (hg : wr.grownBy w' v.ownBlock) (hat : v'.ownBlock = v.ownBlock ∨ v'.ownBlock = some n) (hn : g < n) :
    pcSt B g l bw bh W (w'.setCell ⟨g, 3, none⟩ v') v' M' := by
  obtain ⟨h1, h0, h2, h3, h4⟩ := h
  have hne : v'.ownBlock ≠ some g := by
    rcases hat with e | e
    · rw [e]; exact h4
    · rw [e]; intro e'; injection e'; omega
  have h2' := h2.grown hg (fun e => h4 e.symm)
  refine ⟨(h1.grown hg (Nat.le_trans h0 (Nat.le_of_lt h2.lt)) (fun k hk => (h3.lt k hk).1)).setCell h0 _, h0, h2'.set 3 v', ?_, hne⟩
  exact ho.setCell_ne (p := ⟨g, 3, none⟩) hne _
theorem pcSt.blkG {B g : Nat} {l bw bh : Int} {W wr w' : World} {v : Value} {M : List Bx} (h : pcSt B g l bw bh W wr v M) (hg : wr.grownBy w' v.ownBlock) : Blk w' g #[.int .i64 l, .int .i64 bw, .int .i64 bh, v] 31 :=
  h.2.2.1.grown hg (fun e => h.2.2.2.2 e.symm)

theorem meetRaw_in {a b : Bx} (ha : VB a) (hb : VB b) (h : mtB a b = true) : VB (meetRaw a b) := meetRaw_valid ha hb (mtB_iff.1 h)

set_option maxHeartbeats 6400000 in
set_option maxRecDepth 100000 in
theorem CutOut_c (p : Pc) (s : Ps) (b : Bx) (l : Int) (w : World) (h : PvR w.heap.size w p s) : Calls Try.prog 35 #[.agg #[.int .i64 s.l, .int .i64 s.w, .int .i64 s.h, .slice s.ka s.kn s.kc], .agg #[.int .i64 b.x, .int .i64 b.y, .int .i64 b.w, .int .i64 b.h], .int .i64 l] w fun e w' => PcOut w.heap.size (coR p b l) e w' ∧ Below w.heap.size w w' := by
  have hPB := pieceBox_p s p h.1
  obtain ⟨⟨g1, g2, g3⟩, hr⟩ := id h
  obtain ⟨sl, sw, sh, ka, kn, kc⟩ := s
  obtain ⟨pl, pw, ph, f⟩ := p
  simp only at g1 g2 g3 hr hPB
  subst g1; subst g2; subst g3
  obtain ⟨A1, c1, e1, hc1, hm1⟩ := hr.form
  simp only [Ps.kv, Value.slice.injEq] at e1
  obtain ⟨rfl, rfl, rfl⟩ := e1
  unfold maxLen at hm1
  have B3 := hid (((below_ps (l := sl) (x := sw) (y := sh) (ka := ka) (kn := f.length) (kc := kc) (ty := 31) w).alloc (by simp) (.cells #[.int .i64 b.x, .int .i64 b.y, .int .i64 b.w, .int .i64 b.h] 33)).alloc (by simp; omega) (.cells #[.int .i64 0, .int .i64 0, .int .i64 0, .slice none 0 0] 31))
  have HP := hid (fun w1 (hb : Below w.heap.size w w1) => h.go hb)
  have HPB := hid hPB
  have HR := hid hr
  obtain ⟨W, hW⟩ : ∃ W, W = ((w.alloc (.cells #[.int .i64 sl, .int .i64 sw, .int .i64 sh, .slice ka f.length kc] 31)).alloc (.cells #[.int .i64 b.x, .int .i64 b.y, .int .i64 b.w, .int .i64 b.h] 33)).alloc (.cells #[.int .i64 0, .int .i64 0, .int .i64 0, .slice none 0 0] 31) := ⟨_, rfl⟩
  have K0 : Blk W w.heap.size #[.int .i64 sl, .int .i64 sw, .int .i64 sh, .slice ka f.length kc] 31 := by rw [hW]; exact ((Blk.new _ _ _).alloc _).alloc _
  have K1 : Blk W (w.heap.size + 1) #[.int .i64 b.x, .int .i64 b.y, .int .i64 b.w, .int .i64 b.h] 33 := by
    rw [hW]; have := (Blk.new (w.alloc (.cells #[.int .i64 sl, .int .i64 sw, .int .i64 sh, .slice ka f.length kc] 31)) #[.int .i64 b.x, .int .i64 b.y, .int .i64 b.w, .int .i64 b.h] 33).alloc (.cells #[.int .i64 0, .int .i64 0, .int .i64 0, .slice none 0 0] 31); simpa using this
  have K2 : Blk W (w.heap.size + 1 + 1) #[.int .i64 0, .int .i64 0, .int .i64 0, .slice none 0 0] 31 := by
    rw [hW]; have := (Blk.new ((w.alloc (.cells #[.int .i64 sl, .int .i64 sw, .int .i64 sh, .slice ka f.length kc] 31)).alloc (.cells #[.int .i64 b.x, .int .i64 b.y, .int .i64 b.w, .int .i64 b.h] 33)) #[.int .i64 0, .int .i64 0, .int .i64 0, .slice none 0 0] 31); simpa using this
  have HW := hid hW
  rw [← hW] at B3
  have HK0 := hid K0
  have HK1 := hid K1
  have HK2 := hid K2
  have hsW : W.heap.size = w.heap.size + 1 + 1 + 1 := by rw [hW]; simp
  have HsW := hid hsW
  have hq := fun (q : GW W.heap.size W) (o : Nat) => (K0.go q.h).cell o
  have hq1 := fun (q : GW W.heap.size W) (o : Nat) => (K1.go q.h).cell o
  have hq2 := fun (q : GW W.heap.size W) (o : Nat) => (K2.go q.h).cell o
  have hf2 := fun (q : GW W.heap.size W) (o : Nat) => (K2.go q.h).frz o
  have hp0 := fun (o : Nat) => K0.cell o
  have hp1 := fun (o : Nat) => K1.cell o
  have HQP : Hid (∀ (q : GW W.heap.size W), Below w.heap.size w q.w) := fun q => B3.out.trans (q.h.mono (by omega))
  clear hW K0 K1 K2 hsW h hPB hr hc1
  by_cases hv : VP ⟨sl, sw, sh, f⟩
  · have HV : Hid (∀ w1, PvR w1.heap.size w1 ⟨sl, sw, sh, f⟩ ⟨sl, sw, sh, ka, f.length, kc⟩ → Calls Try.prog 37 #[.agg #[.int .i64 sl, .int .i64 sw, .int .i64 sh, .slice ka f.length kc]] w1 fun e w' => e = .returned (.bool true) ∧ Below w1.heap.size w1 w') := fun w1 hp => by
      have := ValidPiece_c _ _ w1 hp
      rwa [vpB_iff.2 hv] at this
    have HIN := hid (insB_ok (b := b) hv.2.1 hv.2.2.1)
    simp only at HIN
    by_cases ho : okF sw sh b
    · have HI : Hid (∀ w1, Calls Try.prog 39 #[.agg #[.int .i64 b.x, .int .i64 b.y, .int .i64 b.w, .int .i64 b.h], .agg #[.int .i64 0, .int .i64 0, .int .i64 sw, .int .i64 sh]] w1 fun e w' => e = .returned (.bool true) ∧ Below w1.heap.size w1 w') := fun w1 => by
        have := InsideOf_c b ⟨0, 0, sw, sh⟩ w1
        rw [HIN.out] at this
        have e : decide (okF sw sh b) = true := by simpa using ho
        rwa [e] at this
      by_cases hl : 1 ≤ l ∧ l ≤ 9999
      · have HCR := hid (coR_t (p := ⟨sl, sw, sh, f⟩) (b := b) (l := l) ⟨hv, ho, hl⟩)
        have HVF : Hid (∀ g ∈ f, VB g) := fun g hg => (hv.2.2.2.2 g hg).1
        have HVB := hid ho.1
        have h6 : f.length ≤ 6 := hv.2.2.2.1
        have HLK := hid (fun k => coF_lenK f b k h6)
        have d1 : decide (l < 1) = false := by simp; omega
        have d2 : decide (9999 < l) = false := by simp; omega
        obtain ⟨i0, hi0, hz0, hz1, hz2⟩ := info_parts box_info
        clear hv ho hl
        go_enter Try.func35, Try.ntmps35
        go_wp2
        rw [← HW.out]
        refine wp_region_grow W.heap.size W (by kernel_rfl) (by kernel_rfl) ?_
        repeat (go_big_quiet_step (first | (go_at_call 37; exact GW.call (Nat.le_refl _) (HV.out _ (HP.out _ (HQP.out _)))) | (go_at_call 57; exact GW.call (Nat.le_refl _) (HPB.out _)) | (go_at_call 39; exact GW.call (Nat.le_refl _) (HI.out _))))
        refine wpQuiet_nil ?_
        intro wq hwq
        have hqq : Below W.heap.size W wq := by obtain ⟨q, rfl⟩ := hwq; exact q.h
        clear hwq
        have Q0 := HK0.out.go hqq
        have Q1 := HK1.out.go hqq
        have Q2 := HK2.out.go hqq
        have HQ0 := hid Q0
        have HQ1 := hid Q1
        have HQ2 := hid Q2
        have HBQ := hid (B3.out.trans (hqq.mono (by have := HsW.out; omega)))
        have hzq : w.heap.size + 1 + 1 < wq.heap.size := by have := HK2.out.lt; have := hqq.size; omega
        have hzq0 : w.heap.size < wq.heap.size := by omega
        have hzq1 : w.heap.size + 1 < wq.heap.size := by omega
        have hc0 := fun (o : Nat) => Q0.cell o
        have hc1 := fun (o : Nat) => Q1.cell o
        clear hqq hq hq1 hq2 hf2 hp0 hp1 HQP Q0 Q1 Q2
        go_wp2
        go_loopw [40] (fun i wr => ∃ k : Nat, i = .int .i64 k ∧ k ≤ f.length ∧ ∃ v, pcSt wq.heap.size wq.heap.size l b.w b.h wq wr v (coF (f.take k) b)) (fun i _ => f.length - (intOf i).toNat)
        case atStart => exact ⟨0, rfl, by omega, _, (Below.refl _ _).alloc (Nat.le_refl _) _, Nat.le_refl _, Blk.new _ _ _, by have := Own.nil_ (E := boxE) (wq.alloc (.cells #[.int .i64 l, .int .i64 b.w, .int .i64 b.h, .slice none 0 0] 31)) wq.heap.size 33; simpa [coF] using this, by simp [Value.ownBlock]⟩
        case round =>
          obtain ⟨k, rfl, hk, v, hst⟩ := hrel
          obtain ⟨hbw, -, hkg, ho, -⟩ := id hst
          have HST := hid hst
          have HO := hid ho
          have HX := hid (fun X (hb : Below wr.heap.size wr X) => hst.below hb)
          have HBr := hid (HBQ.out.trans (hbw.mono HBQ.out.size))
          have R0 := HQ0.out.go hbw
          have R1 := HQ1.out.go hbw
          have hr0 := fun (o : Nat) => R0.cell o
          have hr1 := fun (o : Nat) => R1.cell o
          have hrg := fun (o : Nat) => hkg.cell o
          have hfg := fun (o : Nat) => hkg.frz o
          have hzr : wq.heap.size < wr.heap.size := hkg.lt
          have z1 : w.heap.size < wr.heap.size := by omega
          have z2 : w.heap.size + 1 < wr.heap.size := by omega
          have z3 : w.heap.size + 1 < wr.heap.size + 1 := by omega
          have z4 : wq.heap.size < wr.heap.size + 1 := by omega
          have HK := hid hkg
          have HBW := hid hbw
          clear hst hbw hkg ho R0 R1 hc0 hc1
          by_cases hlt : k < f.length
          · obtain ⟨b1, o1, rfl, hb1, hx⟩ := row_boxs (HR.out.below HBr.out) (Nat.lt_of_le_of_lt (Nat.zero_le _) hlt)
            obtain ⟨x0, x1, x2, x3⟩ := hx k hlt
            have y3 : b1 < wr.heap.size := by omega
            have y5 : b1 < wr.heap.size + 1 := by omega
            have HBA := hid ((Below.refl wr.heap.size wr).alloc (Nat.le_refl _) (.cells #[.int .i64 f[k].x, .int .i64 f[k].y, .int .i64 f[k].w, .int .i64 f[k].h] 33))
            clear hx
            cases hm : mtB f[k] b with
            | true =>
              have HC := hid (coF_t hlt hm)
              have hmv := meetRaw_in (HVF.out _ (List.getElem_mem hlt)) HVB.out hm
              have HM := hid hm
              have hvb := HVB.out
              clear hm
              go_wp2_with fail
              refine (MeetOf_t f[k] b _ (HVF.out _ (List.getElem_mem hlt)) HVB.out HM.out).mono ?_
              rintro e w5 ⟨rfl, hb⟩
              obtain ⟨m, hmm⟩ : ∃ m, meetRaw f[k] b = m := ⟨_, rfl⟩
              rw [hmm] at hmv HC ⊢
              have HB5 := hid (HBA.out.trans (hb.mono HBA.out.size))
              obtain ⟨c5, f5, z5⟩ := bcell hb
              have z5' : wr.heap.size < w5.heap.size := by simp at z5; omega
              have z5a : wq.heap.size < w5.heap.size := by omega
              have z5b : w.heap.size + 1 < w5.heap.size := by omega
              unfold VB at hmv hvb
              obtain ⟨m1, m2, m3, m4, m5, m6, m7, m8⟩ := hmv
              obtain ⟨n1, n2, n3, n4, n5, n6, n7, n8⟩ := hvb
              clear hb hmm
              have HOX := hid (HX.out _ (HB5.out.alloc HB5.out.size (.cells #[.int .i64 (m.x - b.x), .int .i64 (m.y - b.y), .int .i64 m.w, .int .i64 m.h] 33)))
              obtain ⟨L2, hL2⟩ : ∃ M : List Bx, M = coF (f.take k) b ++ [shB m b] := ⟨_, rfl⟩
              have HL2 := hid hL2
              clear hL2
              go_wp2_with (at_builtin; refine wpList_pushN boxE _ rfl (.tmp 64) (.tmp 66) _ rfl wq.heap.size 33 i0 _ 32 Try.underlying29 hi0 hz0 hz1 hz2 rfl (by omega) _ _ rfl HOX.out.2.2.2.1 _ (shB m b) _ rfl rfl (by simp) (Nat.le_trans (HLK.out k) (by omega)) (by simp; omega) L2 HL2.out ?_)
              intro v' w' ho' hg' hat'
              obtain ⟨A', cap', rfl, -⟩ := ho'.shape
              have HST' := hid (HOX.out.push ho' hg' hat' (by first | omega | (simp; omega)))
              have hkw := HOX.out.blkG hg'
              have hcw := fun (o : Nat) => hkw.cell o
              have hfw := fun (o : Nat) => hkw.frz o
              clear ho' hg' hat' hkw
              go_wp2
              exact ⟨⟨k + 1, by go_num, by omega, _, by rw [HC.out, ← HL2.out]; exact HST'.out⟩, by simp [intOf]; omega⟩
            | false =>
              have HC := hid (coF_f hlt hm)
              have HM := hid hm
              clear hm
              go_wp2_with fail
              refine (MeetOf_f f[k] b _ (HVF.out _ (List.getElem_mem hlt)) HVB.out HM.out).mono ?_
              rintro e w5 ⟨rfl, hb⟩
              have HB5 := hid (HBA.out.trans (hb.mono HBA.out.size))
              have HST' := hid (HX.out _ (HB5.out.alloc HB5.out.size (.cells #[.int .i64 0, .int .i64 0, .int .i64 0, .int .i64 0] 33)))
              clear hb
              go_wp2
              exact ⟨⟨k + 1, by go_num, by omega, v, by rw [HC.out]; exact HST'.out⟩, by simp [intOf]; omega⟩
          · have e : f.take k = f := List.take_of_length_le (by omega)
            rw [e] at HST HO
            have R2 := HQ2.out.below HBW.out (by omega)
            have hr2 := fun (o : Nat) => R2.cell o
            have hf2 := fun (o : Nat) => R2.frz o
            obtain ⟨A', cap', rfl, -⟩ := HO.out.shape
            have z6 : w.heap.size + 1 + 1 < wr.heap.size := by omega
            clear e R2 HX
            go_wp2
            refine bodyPost_ret (v := .agg #[.int .i64 l, .int .i64 b.w, .int .i64 b.h, .slice A' (coF f b).length cap']) (by simp [results, Try.results35, go_sem, hr2]) rfl ⟨?_, ?_⟩
            · rw [HCR.out]
              refine ⟨⟨l, b.w, b.h, A', (coF f b).length, cap'⟩, rfl, ⟨rfl, rfl, rfl⟩, ?_⟩
              exact ((((HO.out.setCell_far (p := ⟨w.heap.size + 1 + 1, 0, none⟩) (by simp; omega) _).setCell_far (p := ⟨w.heap.size + 1 + 1, 1, none⟩) (by simp; omega) _).setCell_far (p := ⟨w.heap.size + 1 + 1, 2, none⟩) (by simp; omega) _).setCell_far (p := ⟨w.heap.size + 1 + 1, 3, none⟩) (by simp; omega) _).base_le (by omega)
            · exact ((((HBr.out.setCell (by simp; omega) _).setCell (by simp; omega) _).setCell (by simp; omega) _).setCell (by simp; omega) _)
      · have HG := hid (coR_f (p := ⟨sl, sw, sh, f⟩) (b := b) (l := l) (fun h => hl h.2.2))
        have hcase : decide (l < 1) = true ∨ (decide (l < 1) = false ∧ decide (9999 < l) = true) := by simp; omega
        clear hv ho hl
        rcases hcase with d1 | ⟨d1, d2⟩
        all_goals
          go_enter Try.func35, Try.ntmps35
          go_wp2
          rw [← HW.out]
          refine wp_region_grow W.heap.size W (by kernel_rfl) (by kernel_rfl) ?_
          repeat (go_big_quiet_step (first | (go_at_call 37; exact GW.call (Nat.le_refl _) (HV.out _ (HP.out _ (HQP.out _)))) | (go_at_call 57; exact GW.call (Nat.le_refl _) (HPB.out _)) | (go_at_call 39; exact GW.call (Nat.le_refl _) (HI.out _))))
          refine wpQuiet_nil ?_
          rintro _ ⟨q, rfl⟩
          have HQ := hid (HQP.out q)
          go_wp2
          refine bodyPost_ret (v := .agg #[.int .i64 0, .int .i64 0, .int .i64 0, .slice none 0 0]) (by simp [results, Try.results35, go_sem, hq2]) rfl ⟨by rw [HG.out]; exact pcOut_zero _ _, ?_⟩
          exact ((((HQ.out.setCell (by simp; omega) _).setCell (by simp; omega) _).setCell (by simp; omega) _).setCell (by simp; omega) _)
    · have HI : Hid (∀ w1, Calls Try.prog 39 #[.agg #[.int .i64 b.x, .int .i64 b.y, .int .i64 b.w, .int .i64 b.h], .agg #[.int .i64 0, .int .i64 0, .int .i64 sw, .int .i64 sh]] w1 fun e w' => e = .returned (.bool false) ∧ Below w1.heap.size w1 w') := fun w1 => by
        have := InsideOf_c b ⟨0, 0, sw, sh⟩ w1
        rw [HIN.out] at this
        have e : decide (okF sw sh b) = false := by simpa using ho
        rwa [e] at this
      have HG := hid (coR_f (p := ⟨sl, sw, sh, f⟩) (b := b) (l := l) (fun h => ho h.2.1))
      clear hv ho
      go_enter Try.func35, Try.ntmps35
      go_wp2
      rw [← HW.out]
      refine wp_region_grow W.heap.size W (by kernel_rfl) (by kernel_rfl) ?_
      repeat (go_big_quiet_step (first | (go_at_call 37; exact GW.call (Nat.le_refl _) (HV.out _ (HP.out _ (HQP.out _)))) | (go_at_call 57; exact GW.call (Nat.le_refl _) (HPB.out _)) | (go_at_call 39; exact GW.call (Nat.le_refl _) (HI.out _))))
      refine wpQuiet_nil ?_
      rintro _ ⟨q, rfl⟩
      have HQ := hid (HQP.out q)
      go_wp2
      refine bodyPost_ret (v := .agg #[.int .i64 0, .int .i64 0, .int .i64 0, .slice none 0 0]) (by simp [results, Try.results35, go_sem, hq2]) rfl ⟨by rw [HG.out]; exact pcOut_zero _ _, ?_⟩
      exact ((((HQ.out.setCell (by simp; omega) _).setCell (by simp; omega) _).setCell (by simp; omega) _).setCell (by simp; omega) _)
  · have HV : Hid (∀ w1, PvR w1.heap.size w1 ⟨sl, sw, sh, f⟩ ⟨sl, sw, sh, ka, f.length, kc⟩ → Calls Try.prog 37 #[.agg #[.int .i64 sl, .int .i64 sw, .int .i64 sh, .slice ka f.length kc]] w1 fun e w' => e = .returned (.bool false) ∧ Below w1.heap.size w1 w') := fun w1 hp => by
      have := ValidPiece_c _ _ w1 hp
      rwa [vpB_not.2 hv] at this
    have HG := hid (coR_f (p := ⟨sl, sw, sh, f⟩) (b := b) (l := l) (fun h => hv h.1))
    clear hv
    go_enter Try.func35, Try.ntmps35
    go_wp2
    rw [← HW.out]
    refine wp_region_grow W.heap.size W (by kernel_rfl) (by kernel_rfl) ?_
    repeat (go_big_quiet_step (first | (go_at_call 37; exact GW.call (Nat.le_refl _) (HV.out _ (HP.out _ (HQP.out _))))))
    refine wpQuiet_nil ?_
    rintro _ ⟨q, rfl⟩
    have HQ := hid (HQP.out q)
    go_wp2
    refine bodyPost_ret (v := .agg #[.int .i64 0, .int .i64 0, .int .i64 0, .slice none 0 0]) (by simp [results, Try.results35, go_sem, hq2]) rfl ⟨by rw [HG.out]; exact pcOut_zero _ _, ?_⟩
    exact ((((HQ.out.setCell (by simp; omega) _).setCell (by simp; omega) _).setCell (by simp; omega) _).setCell (by simp; omega) _)

end Go.Proofs.Ytpicbkakghojnaa
