/-
  Contracts: a piece seen from behind, by both.
-/
import Derived.Test.YtpicbkakghojnaaCopy
namespace Go.Proofs.Ytpicbkakghojnaa
set_option linter.unusedSimpArgs false
set_option linter.unusedVariables false
open Go.RowKit

def tuB (W : Int) (b : Bx) : Bx := ⟨W - b.x - b.w, b.y, b.w, b.h⟩
def tuF (W : Int) (F : List Bx) : List Bx := F.map (tuB W)
def tuR (p : Pc) : Pc := if VP p then ⟨p.l, p.w, p.h, tuF p.w p.f⟩ else zeroPc
theorem tuR_t {p : Pc} (h : VP p) : tuR p = ⟨p.l, p.w, p.h, tuF p.w p.f⟩ := if_pos h
theorem tuR_f {p : Pc} (h : ¬ VP p) : tuR p = zeroPc := if_neg h
theorem tuR_len (p : Pc) : (tuR p).f.length ≤ 6 := by
  by_cases h : VP p
  · rw [tuR_t h]; simpa [tuF] using h.2.2.2.1
  · rw [tuR_f h]; simp [zeroPc]
/-- The first k flaws turned. -/
def tuK (W : Int) (F : List Bx) (k : Nat) : List Bx := tuF W (F.take k) ++ F.drop k
theorem tuK_zero (W : Int) (F : List Bx) : tuK W F 0 = F := by simp [tuK, tuF]
theorem tuK_len (W : Int) (F : List Bx) (k : Nat) : (tuK W F k).length = F.length := by
  simp only [tuK, tuF, List.length_append, List.length_map, List.length_take, List.length_drop]; omega
theorem tuK_at {W : Int} {F : List Bx} {k : Nat} (hk : k < F.length) (h : k < (tuK W F k).length) : (tuK W F k)[k] = F[k] := by
  have e : (tuK W F k)[k]? = F[k]? := by
    unfold tuK
    rw [List.getElem?_append_right (by simp [tuF]; omega)]
    simp only [tuF, List.length_map, List.length_take, List.getElem?_drop]
    congr 1
    omega
  rw [List.getElem?_eq_getElem h, List.getElem?_eq_getElem hk] at e
  exact Option.some.inj e
theorem tuK_set {W : Int} {F : List Bx} {k : Nat} (hk : k < F.length) : (tuK W F k).set k (tuB W F[k]) = tuK W F (k + 1) := by
  unfold tuK
  have hl : (tuF W (F.take k)).length = k := by simp [tuF]; omega
  rw [List.set_append_right _ _ (by omega), hl, Nat.sub_self, List.drop_eq_getElem_cons hk, List.set_cons_zero, List.take_succ_eq_append_getElem hk]
  simp only [tuF, List.map_append, List.map_cons, List.map_nil, List.append_assoc, List.cons_append, List.nil_append]
theorem tuK_all {W : Int} {F : List Bx} {k : Nat} (hk : ¬ k < F.length) : tuK W F k = tuF W F := by
  rw [tuK, List.take_of_length_le (by omega), List.drop_eq_nil_of_le (by omega), List.append_nil]

theorem pcSt.put {B g : Nat} {l bw bh : Int} {W wr w' : World} {v : Value} {M M' : List Bx} (h : pcSt B g l bw bh W wr v M) (ho : Own boxE 33 B w' v M') (hg : wr.grownBy w' v.ownBlock) : pcSt B g l bw bh W w' v M' :=
  ⟨h.1.grown hg (Nat.le_trans h.2.1 (Nat.le_of_lt h.2.2.1.lt)) (fun k hk => (h.2.2.2.1.lt k hk).1), h.2.1, h.2.2.1.grown hg (fun e => h.2.2.2.2 e.symm), ho, h.2.2.2.2⟩

set_option maxHeartbeats 6400000 in
set_option maxRecDepth 100000 in
theorem TurnPiece_c (p : Pc) (s : Ps) (w : World) (h : PvR w.heap.size w p s) : Calls Try.prog 31 #[.agg #[.int .i64 s.l, .int .i64 s.w, .int .i64 s.h, .slice s.ka s.kn s.kc]] w fun e w' => PcOut w.heap.size (tuR p) e w' ∧ Below w.heap.size w w' := by
  obtain ⟨⟨g1, g2, g3⟩, hr⟩ := id h
  obtain ⟨sl, sw, sh, ka, kn, kc⟩ := s
  obtain ⟨pl, pw, ph, f⟩ := p
  simp only at g1 g2 g3 hr
  subst g1; subst g2; subst g3
  obtain ⟨A1, c1, e1, hc1, hm1⟩ := hr.form
  simp only [Ps.kv, Value.slice.injEq] at e1
  obtain ⟨rfl, rfl, rfl⟩ := e1
  unfold maxLen at hm1
  have B2 := hid ((below_ps (l := sl) (x := sw) (y := sh) (ka := ka) (kn := f.length) (kc := kc) (ty := 31) w).alloc (by simp) (.cells #[.int .i64 0, .int .i64 0, .int .i64 0, .slice none 0 0] 31))
  obtain ⟨W, hW⟩ : ∃ W, W = (w.alloc (.cells #[.int .i64 sl, .int .i64 sw, .int .i64 sh, .slice ka f.length kc] 31)).alloc (.cells #[.int .i64 0, .int .i64 0, .int .i64 0, .slice none 0 0] 31) := ⟨_, rfl⟩
  have K0 : Blk W w.heap.size #[.int .i64 sl, .int .i64 sw, .int .i64 sh, .slice ka f.length kc] 31 := by rw [hW]; exact (Blk.new _ _ _).alloc _
  have K1 : Blk W (w.heap.size + 1) #[.int .i64 0, .int .i64 0, .int .i64 0, .slice none 0 0] 31 := by
    rw [hW]; have := Blk.new (w.alloc (.cells #[.int .i64 sl, .int .i64 sw, .int .i64 sh, .slice ka f.length kc] 31)) #[.int .i64 0, .int .i64 0, .int .i64 0, .slice none 0 0] 31; simpa using this
  have HW := hid hW
  rw [← hW] at B2
  have hp0 := fun (o : Nat) => K0.cell o
  have HK0 := hid K0
  have HK1 := hid K1
  have HP := hid (fun w1 (hb : Below w.heap.size w w1) => h.go hb)
  have HR := hid hr
  have q0 : w.heap.size + 1 < W.heap.size := K1.lt
  clear hW K0 K1 h hr hc1
  by_cases hv : VP ⟨sl, sw, sh, f⟩
  · have HG := hid (tuR_t hv)
    have h6 : f.length ≤ 6 := hv.2.2.2.1
    have hw1 : 1 ≤ sw := hv.2.1.1
    have hw2 : sw ≤ 200 := hv.2.1.2
    have HVF : Hid (∀ g ∈ f, VB g) := fun g hg => (hv.2.2.2.2 g hg).1
    have HI := hid (show (Try.prog.info? 3).map (·.size) = some 1 by kernel_rfl)
    go_enter Try.func31, Try.ntmps31
    go_upto_region 1 with (fail)
    rw [← HW.out]
    go_wp2_with fail
    refine (ValidPiece_c ⟨sl, sw, sh, f⟩ ⟨sl, sw, sh, ka, f.length, kc⟩ _ (HP.out _ B2.out)).mono ?_
    rintro e w1 ⟨rfl, hb⟩
    rw [vpB_iff.2 hv]
    have HB1 := hid (B2.out.trans (hb.mono B2.out.size))
    have k0 := HK0.out.go hb
    have HK0a := hid k0
    have HK1a := hid (HK1.out.go hb)
    have c0 := fun (o : Nat) => k0.cell o
    clear hb k0 hp0 hv
    go_wp2_with fail
    refine (copyPiece_c ⟨sl, sw, sh, f⟩ ⟨sl, sw, sh, ka, f.length, kc⟩ _ (HP.out _ HB1.out) (by simp only; omega)).mono ?_
    rintro e w2 ⟨⟨s2, rfl, ⟨g4, g5, g6⟩, ho⟩, hb⟩
    obtain ⟨tl, tw, th, ta, tn, tc⟩ := s2
    simp only at g4 g5 g6 ho
    subst g4; subst g5; subst g6
    obtain ⟨A2, c2, e2, -, -, hA2⟩ := ho.shape
    simp only [Ps.kv, Value.slice.injEq] at e2 ho
    obtain ⟨rfl, rfl, rfl⟩ := e2
    have HB2 := hid (HB1.out.trans (hb.mono HB1.out.size))
    have HK0b := hid (HK0a.out.go hb)
    have HK1b := hid (HK1a.out.go hb)
    have k0 := HK0b.out
    have c0b := fun (o : Nat) => k0.cell o
    have y1 : w.heap.size < w2.heap.size := k0.lt
    have y2 : w.heap.size + 1 < w1.heap.size := HK1a.out.lt
    have HST : Hid (pcSt w1.heap.size w2.heap.size tl tw th w1 (w2.alloc (.cells #[.int .i64 tl, .int .i64 tw, .int .i64 th, .slice ta f.length tc] 31)) (.slice ta f.length tc) (tuK tw f 0)) :=
      ⟨hb.alloc hb.size _, hb.size, Blk.new _ _ _, by rw [tuK_zero]; exact ho.alloc _, fun e => by have := (ho.lt _ e).2; omega⟩
    clear hb ho k0 c0 hA2
    go_wp2
    go_loopw [15] (fun i wr => ∃ k : Nat, i = .int .i64 k ∧ k ≤ f.length ∧ pcSt w1.heap.size w2.heap.size tl tw th w1 wr (.slice ta f.length tc) (tuK tw f k)) (fun i _ => f.length - (intOf i).toNat)
    case atStart => exact ⟨0, rfl, by omega, HST.out⟩
    case round =>
      obtain ⟨k, rfl, hk, hst⟩ := hrel
      obtain ⟨hbw, -, hkg, ho, -⟩ := id hst
      have HST2 := hid hst
      have HBr := hid (HB1.out.trans (hbw.mono HB1.out.size))
      have HBW := hid hbw
      have k0 := HK0a.out.go hbw
      have r0 := fun (o : Nat) => k0.cell o
      have rg := fun (o : Nat) => hkg.cell o
      have z1 : w.heap.size < wr.heap.size := k0.lt
      have z2 : w2.heap.size < wr.heap.size := hkg.lt
      clear hbw k0 hkg c0b HST
      by_cases hlt : k < f.length
      · obtain ⟨b1, o1, rfl, hb1, hx⟩ := row_boxs (HR.out.below HBr.out) (Nat.lt_of_le_of_lt (Nat.zero_le _) hlt)
        obtain ⟨x0, x1, x2, x3⟩ := hx k hlt
        have y3 : b1 < wr.heap.size := by omega
        obtain ⟨gg, cp, e3, hg1, hg2, -, -⟩ := ho.form (by rw [tuK_len]; omega)
        rw [tuK_len] at e3
        simp only [Value.slice.injEq] at e3
        obtain ⟨rfl, -, rfl⟩ := e3
        have hvb := HVF.out _ (List.getElem_mem hlt)
        unfold VB at hvb
        obtain ⟨n1, n2, n3, n4, n5, n6, n7, n8⟩ := hvb
        have HSA := hid (hst.below ((Below.refl wr.heap.size wr).alloc (Nat.le_refl _) (.cells #[.int .i64 f[k].x, .int .i64 f[k].y, .int .i64 f[k].w, .int .i64 f[k].h] 33)))
        clear hx ho hst
        go_wp2_with (refine wpList_put1 boxE rfl 3 _ _ rfl 33 w1.heap.size gg f.length _ k 0 _ (tuK tw f k) (tuB tw f[k]) (.int .i64 (tw - f[k].x - f[k].w)) HSA.out.2.2.2.1 (by rw [tuK_len]) (by rw [tuK_len]; exact hlt) (by decide) rfl rfl rfl rfl rfl HI.out (by rw [tuK_at hlt]; rfl) _ (tuK_set hlt).symm ?_)
        intro w4 ho4 hg4
        have HS4 := hid (HSA.out.put ho4 hg4)
        clear ho4 hg4
        go_wp2
        exact ⟨⟨k + 1, by go_num, by omega, HS4.out⟩, by simp [intOf]; omega⟩
      · have k1 := HK1a.out.go HBW.out
        have r1 := fun (o : Nat) => k1.cell o
        have f1 := fun (o : Nat) => k1.frz o
        have z3 : w.heap.size + 1 < wr.heap.size := k1.lt
        rw [tuK_all hlt] at ho
        have HO := hid ho
        clear ho hst k1
        go_wp2
        refine bodyPost_ret (v := .agg #[.int .i64 tl, .int .i64 tw, .int .i64 th, .slice ta f.length tc]) (by simp [results, Try.results31, go_sem, r1]) rfl ⟨?_, ?_⟩
        · rw [HG.out]
          exact ⟨⟨tl, tw, th, ta, f.length, tc⟩, rfl, ⟨rfl, rfl, rfl⟩, own_res4 HO.out (by omega) _ _ _ _ (by have := HB1.out.size; omega)⟩
        · exact ((((HBr.out.setCell (by simp) _).setCell (by simp) _).setCell (by simp) _).setCell (by simp) _)
  · have HG := hid (tuR_f hv)
    go_enter Try.func31, Try.ntmps31
    go_upto_region 1 with (fail)
    rw [← HW.out]
    go_wp2_with fail
    refine (ValidPiece_c ⟨sl, sw, sh, f⟩ ⟨sl, sw, sh, ka, f.length, kc⟩ _ (HP.out _ B2.out)).mono ?_
    rintro e w1 ⟨rfl, hb⟩
    rw [vpB_not.2 hv]
    have HB1 := hid (B2.out.trans (hb.mono B2.out.size))
    have k1 := HK1.out.go hb
    have r1 := fun (o : Nat) => k1.cell o
    have f1 := fun (o : Nat) => k1.frz o
    clear hb k1 hp0 hv
    go_wp2
    refine bodyPost_ret (v := .agg #[.int .i64 0, .int .i64 0, .int .i64 0, .slice none 0 0]) (by simp [results, Try.results31, go_sem, r1]) rfl ⟨by rw [HG.out]; exact pcOut_zero _ _, ?_⟩
    exact ((((HB1.out.setCell (by simp) _).setCell (by simp) _).setCell (by simp) _).setCell (by simp) _)

end Go.Proofs.Ytpicbkakghojnaa
