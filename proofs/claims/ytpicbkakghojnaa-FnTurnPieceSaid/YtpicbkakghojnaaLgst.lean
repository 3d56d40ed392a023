/-
  Contracts: the largest clear box, by the program.
-/
import Derived.Test.YtpicbkakghojnaaEdges
import Derived.Test.YtpicbkakghojnaaRead
namespace Go.Proofs.Ytpicbkakghojnaa
set_option linter.unusedSimpArgs false
set_option linter.unusedVariables false
open Go.RowKit

def stp (p : Pc) (acc c : Bx) : Bx := if caB p c && btB c acc then c else acc
def f4 (p : Pc) (y t x : Int) (acc : Bx) (r : Int) : Bx := stp p acc ⟨x, y, r - x, t - y⟩
def f3 (p : Pc) (y t : Int) (E : List Int) (acc : Bx) (x : Int) : Bx := E.foldl (f4 p y t x) acc
def f2 (p : Pc) (y : Int) (D E : List Int) (acc : Bx) (t : Int) : Bx := D.foldl (f3 p y t E) acc
def f1 (p : Pc) (C D E : List Int) (acc : Bx) (y : Int) : Bx := C.foldl (f2 p y D E) acc
def xB (p : Pc) : List Int := edL 0 p.f (fun b => b.x + b.w)
def xE (p : Pc) : List Int := edL p.w p.f (fun b => b.x)
def yB (p : Pc) : List Int := edL 0 p.f (fun b => b.y + b.h)
def yE (p : Pc) : List Int := edL p.h p.f (fun b => b.y)
def lgB (p : Pc) : Bx := (yB p).foldl (f1 p (yE p) (xB p) (xE p)) zeroBx
def lgR (p : Pc) : Bx := if VP p then lgB p else zeroBx
theorem lgR_t {p : Pc} (h : VP p) : lgR p = lgB p := if_pos h
theorem lgR_f {p : Pc} (h : ¬ VP p) : lgR p = zeroBx := if_neg h
def posB (b : Bx) : Bool := decide (0 < b.w)
theorem foldl_take {α β : Type} (f : β → α → β) (l : List α) (a : β) (k : Nat) (hk : k < l.length) : (l.take (k + 1)).foldl f a = f ((l.take k).foldl f a) l[k] := by
  rw [List.take_succ_eq_append_getElem hk, List.foldl_append]; rfl
theorem foldl_all {α β : Type} (f : β → α → β) (l : List α) (a : β) (k : Nat) (hk : ¬ k < l.length) : (l.take k).foldl f a = l.foldl f a := by
  rw [List.take_of_length_le (by omega)]
theorem edL_in {p : Pc} (hp : VP p) : (∀ e ∈ xB p, 0 ≤ e ∧ e ≤ 200) ∧ (∀ e ∈ xE p, 0 ≤ e ∧ e ≤ 200) ∧ (∀ e ∈ yB p, 0 ≤ e ∧ e ≤ 200) ∧ (∀ e ∈ yE p, 0 ≤ e ∧ e ≤ 200) := by
  obtain ⟨-, ⟨w1, w2⟩, ⟨h1, h2⟩, -, hf⟩ := hp
  have key : ∀ (a : Int) (g : Bx → Int), 0 ≤ a ∧ a ≤ 200 → (∀ b, okF p.w p.h b → 0 ≤ g b ∧ g b ≤ 200) → ∀ e ∈ edL a p.f g, 0 ≤ e ∧ e ≤ 200 := fun a g ha hg e he => by
    rw [edL, List.mem_cons, List.mem_map] at he
    rcases he with rfl | ⟨b, hb, rfl⟩
    · exact ha
    · exact hg b (hf b hb)
  refine ⟨key _ _ (by omega) ?_, key _ _ (by omega) ?_, key _ _ (by omega) ?_, key _ _ (by omega) ?_⟩ <;> (intro b hb; unfold okF VB at hb; omega)
theorem caB_sB {p : Pc} {c : Bx} (h : caB p c = true) : sB c := by
  rw [caB, Bool.and_eq_true, Bool.and_eq_true, decide_eq_true_eq] at h
  have := h.1.2.1
  unfold VB at this
  unfold sB
  omega
theorem stp_sB {p : Pc} {acc c : Bx} (h : sB acc) : sB (stp p acc c) := by
  unfold stp
  split
  · rename_i hc
    rw [Bool.and_eq_true] at hc
    exact caB_sB hc.1
  · exact h

def LgSt (q4 : Nat) (X wr : World) (b : Bx) : Prop := X.grownBy wr (some q4) ∧ Blk wr q4 #[.int .i64 b.x, .int .i64 b.y, .int .i64 b.w, .int .i64 b.h] 33 ∧ sB b
theorem LgSt.below {q4 : Nat} {X wr w' : World} {b : Bx} (h : LgSt q4 X wr b) (hb : Below wr.heap.size wr w') : LgSt q4 X w' b := ⟨gr_below h.1 hb, h.2.1.go hb, h.2.2⟩
theorem LgSt.set {q4 : Nat} {X wr : World} {b c : Bx} (h : LgSt q4 X wr b) (hc : sB c) : LgSt q4 X ((((wr.setCell ⟨q4, 0, none⟩ (.int .i64 c.x)).setCell ⟨q4, 1, none⟩ (.int .i64 c.y)).setCell ⟨q4, 2, none⟩ (.int .i64 c.w)).setCell ⟨q4, 3, none⟩ (.int .i64 c.h)) c := by
  obtain ⟨h1, h2, h3⟩ := h
  have e := (((h2.set 0 (.int .i64 c.x)).set 1 (.int .i64 c.y)).set 2 (.int .i64 c.w)).set 3 (.int .i64 c.h)
  have g : ∀ (Y : World) (i : Nat) (u : Value), X.grownBy Y (some q4) → X.grownBy (Y.setCell ⟨q4, i, none⟩ u) (some q4) := fun Y i u hy => gr_step hy (grown_setCell Y ⟨q4, i, none⟩ u) (fun k hk => .inl (by injection hk with hk; exact hk.symm))
  exact ⟨g _ _ _ (g _ _ _ (g _ _ _ (g _ _ _ h1))), by simpa using e, hc⟩
/-- A row of numbers that lasts. -/
theorem row_gr {base q4 : Nat} {X wr : World} {v : Value} {L : List Int} (h : Own intE 3 base X v L) (hq : q4 < base) (hg : X.grownBy wr (some q4)) : Row intE wr v L := (h.kept hg (own_na h hq)).rowB

-- printed --
set_option maxHeartbeats 25600000 in
set_option maxRecDepth 100000 in
theorem LargestClear_c (p : Pc) (s : Ps) (w : World) (h : PvR w.heap.size w p s) : Calls Try.prog 45 #[.agg #[.int .i64 s.l, .int .i64 s.w, .int .i64 s.h, .slice s.ka s.kn s.kc]] w fun e w' => e = .returned (.tuple #[.agg #[.int .i64 (lgR p).x, .int .i64 (lgR p).y, .int .i64 (lgR p).w, .int .i64 (lgR p).h], .bool (posB (lgR p))]) ∧ Below w.heap.size w w' := by
  obtain ⟨g1, g2, g3⟩ := id h.1
  have HPV := hid h
  obtain ⟨P, hP⟩ : ∃ P, P = p := ⟨_, rfl⟩
  obtain ⟨sl, sw, sh, ka, kn, kc⟩ := s
  have B2 := hid ((below_ps (l := sl) (x := sw) (y := sh) (ka := ka) (kn := kn) (kc := kc) (ty := 31) w).alloc (by simp) (.cells #[.int .i64 0, .int .i64 0, .int .i64 0, .int .i64 0] 33))
  have HP := hid (fun w1 (hb : Below w.heap.size w w1) => h.go hb)
  obtain ⟨W, hW⟩ : ∃ W, W = (w.alloc (.cells #[.int .i64 sl, .int .i64 sw, .int .i64 sh, .slice ka kn kc] 31)).alloc (.cells #[.int .i64 0, .int .i64 0, .int .i64 0, .int .i64 0] 33) := ⟨_, rfl⟩
  have K0 : Blk W w.heap.size #[.int .i64 sl, .int .i64 sw, .int .i64 sh, .slice ka kn kc] 31 := by rw [hW]; exact (Blk.new _ _ _).alloc _
  have K1 : Blk W (w.heap.size + 1) #[.int .i64 0, .int .i64 0, .int .i64 0, .int .i64 0] 33 := by
    rw [hW]; have := Blk.new (w.alloc (.cells #[.int .i64 sl, .int .i64 sw, .int .i64 sh, .slice ka kn kc] 31)) #[.int .i64 0, .int .i64 0, .int .i64 0, .int .i64 0] 33; simpa using this
  have HW := hid hW
  rw [← hW] at B2
  have HK0 := hid K0
  have HK1 := hid K1
  have hp0 := fun (o : Nat) => K0.cell o
  have q0 : w.heap.size + 1 < W.heap.size := K1.lt
  have q1 : w.heap.size < W.heap.size := K0.lt
  clear hW K0 K1 h g1 g2 g3
  by_cases hv : VP p
  · have HG := hid (lgR_t hv)
    have HV := hid hv
    obtain ⟨hx1, hx2, hy1, hy2⟩ := edL_in hv
    have HX1 := hid hx1
    have HX2 := hid hx2
    have HY1 := hid hy1
    have HY2 := hid hy2
    clear hx1 hx2 hy1 hy2
    go_enter Try.func45, Try.ntmps45
    go_upto_region 1 with (fail)
    rw [← HW.out]
    go_wp2_with fail
    refine (ValidPiece_c p ⟨sl, sw, sh, ka, kn, kc⟩ _ (HP.out _ B2.out)).mono ?_
    rintro e w1 ⟨rfl, hb⟩
    rw [vpB_iff.2 hv]
    have HB1 := hid (B2.out.trans (hb.mono B2.out.size))
    have k0 := HK0.out.go hb
    have HK0a := hid (k0.alloc (.cells #[.int .i64 0, .int .i64 0, .int .i64 0, .int .i64 0] 33))
    have HK1a := hid ((HK1.out.go hb).alloc (.cells #[.int .i64 0, .int .i64 0, .int .i64 0, .int .i64 0] 33))
    have c_p := fun (o : Nat) => k0.cell o
    have l_p := k0.lt
    have l_q := (HK1.out.go hb).lt
    have l_p1 : w.heap.size < w1.heap.size + 1 := by omega
    have HB1a := hid (HB1.out.alloc HB1.out.size (.cells #[.int .i64 0, .int .i64 0, .int .i64 0, .int .i64 0] 33))
    clear hb k0 hp0 hv
    go_wp2_with fail
    refine (edgesOf_c p ⟨sl, sw, sh, ka, kn, kc⟩ _ (HP.out _ HB1a.out) HV.out).mono ?_
    rintro e w2 ⟨⟨v0, v1, v2, v3, rfl, o0, o1, o2, o3⟩, hb⟩
    rw [World.size_alloc] at o0 o1 o2 o3
    have Hbest := hid ((Blk.new w1 #[.int .i64 0, .int .i64 0, .int .i64 0, .int .i64 0] 33).go hb)
    have HK0b := hid (HK0a.out.go hb)
    have HK1b := hid (HK1a.out.go hb)
    have HB2 := hid (HB1a.out.trans (hb.mono HB1a.out.size))
    obtain ⟨A0, c0, rfl, -⟩ := o0.shape
    obtain ⟨A1, c1, rfl, -⟩ := o1.shape
    obtain ⟨A2, c2, rfl, -⟩ := o2.shape
    obtain ⟨A3, c3, rfl, -⟩ := o3.shape
    have O0 := hid (show Own intE 3 (w1.heap.size + 1) w2 (.slice A0 (xB p).length c0) (xB p) from o0)
    have O1 := hid (show Own intE 3 (w1.heap.size + 1) w2 (.slice A1 (xE p).length c1) (xE p) from o1)
    have O2 := hid (show Own intE 3 (w1.heap.size + 1) w2 (.slice A2 (yB p).length c2) (yB p) from o2)
    have O3 := hid (show Own intE 3 (w1.heap.size + 1) w2 (.slice A3 (yE p).length c3) (yE p) from o3)
    have e0 : (edL 0 p.f fun b => b.x + b.w).length = (xB p).length := rfl
    have e1 : (edL p.w p.f fun b => b.x).length = (xE p).length := rfl
    have e2 : (edL 0 p.f fun b => b.y + b.h).length = (yB p).length := rfl
    have e3 : (edL p.h p.f fun b => b.y).length = (yE p).length := rfl
    have hll : (xB p).length ≤ 7 ∧ (xE p).length ≤ 7 ∧ (yB p).length ≤ 7 ∧ (yE p).length ≤ 7 := by
      have h6 := HV.out.2.2.2.1
      simp only [xB, xE, yB, yE, edL, List.length_cons, List.length_map]; omega
    obtain ⟨hl0, hl1, hl2, hl3⟩ := hll
    simp only [e0, e1, e2, e3]
    clear o0 o1 o2 o3 hb e0 e1 e2 e3 c_p
    obtain ⟨X, hX⟩ : ∃ X, X = (w2.alloc (.cells #[.slice A0 (xB p).length c0, .slice A1 (xE p).length c1] 87)).alloc (.cells #[.slice A2 (yB p).length c2, .slice A3 (yE p).length c3] 87) := ⟨_, rfl⟩
    have HX := hid hX
    have KX0 := hid (show Blk X w.heap.size _ _ by rw [hX]; exact (HK0b.out.alloc _).alloc _)
    have KX1 := hid (show Blk X (w.heap.size + 1) _ _ by rw [hX]; exact (HK1b.out.alloc _).alloc _)
    have KX5 := hid (show Blk X w2.heap.size #[.slice A0 (xB p).length c0, .slice A1 (xE p).length c1] 87 by rw [hX]; exact (Blk.new _ _ _).alloc _)
    have KX6 := hid (show Blk X (w2.heap.size + 1) #[.slice A2 (yB p).length c2, .slice A3 (yE p).length c3] 87 by rw [hX]; have := Blk.new (w2.alloc (.cells #[.slice A0 (xB p).length c0, .slice A1 (xE p).length c1] 87)) #[.slice A2 (yB p).length c2, .slice A3 (yE p).length c3] 87; simpa using this)
    have OX0 := hid (show Own intE 3 (w1.heap.size + 1) X _ _ by rw [hX]; exact (O0.out.alloc _).alloc _)
    have OX1 := hid (show Own intE 3 (w1.heap.size + 1) X _ _ by rw [hX]; exact (O1.out.alloc _).alloc _)
    have OX2 := hid (show Own intE 3 (w1.heap.size + 1) X _ _ by rw [hX]; exact (O2.out.alloc _).alloc _)
    have OX3 := hid (show Own intE 3 (w1.heap.size + 1) X _ _ by rw [hX]; exact (O3.out.alloc _).alloc _)
    have HST : Hid (LgSt w1.heap.size X X zeroBx) := ⟨World.grownBy.refl _ _, by rw [hX]; exact (Hbest.out.alloc _).alloc _, by unfold sB zeroBx; simp only; omega⟩
    have HBX := hid (show Below w.heap.size w X by rw [hX]; exact (HB2.out.alloc HB2.out.size _).alloc (by have := HB2.out.size; simp; omega) _)
    have hw12 : w1.heap.size < w2.heap.size := Hbest.out.lt
    have HN1 : Hid (w.heap.size + 1 < w1.heap.size) := by rw [Hid]; omega
    have HN2 := hid hw12
    have HPX : Hid (∀ wr, X.grownBy wr (some w1.heap.size) → PvR wr.heap.size wr p ⟨sl, sw, sh, ka, kn, kc⟩) := fun wr hg => by
      have h1 := HPV.out.below HBX.out
      have h2 := HBX.out.size
      have h3 := hg.size
      have h4 := HN1.out
      exact ⟨h1.1, (h1.2.keep (grown_keep hg (fun k hk => by injection hk with hk; omega) h2)).more (by omega)⟩
    have HQ0 : Hid (∀ wr, X.grownBy wr (some w1.heap.size) → Blk wr w.heap.size _ _) := fun wr hg => KX0.out.grown hg (fun e => by injection e with e; have := HN1.out; omega)
    have HQ1 : Hid (∀ wr, X.grownBy wr (some w1.heap.size) → Blk wr (w.heap.size + 1) _ _) := fun wr hg => KX1.out.grown hg (fun e => by injection e with e; have := HN1.out; omega)
    have HQ5 : Hid (∀ wr, X.grownBy wr (some w1.heap.size) → Blk wr w2.heap.size _ _) := fun wr hg => KX5.out.grown hg (fun e => by injection e with e; have := HN2.out; omega)
    have HQ6 : Hid (∀ wr, X.grownBy wr (some w1.heap.size) → Blk wr (w2.heap.size + 1) _ _) := fun wr hg => KX6.out.grown hg (fun e => by injection e with e; have := HN2.out; omega)
    have HBW : Hid (∀ wr, X.grownBy wr (some w1.heap.size) → Below w.heap.size w wr) := fun wr hg => below_gr HBX.out hg HBX.out.size (by have := HN1.out; omega)
    go_upto_region 5 with (fail)
    rw [← HX.out]
    have c_6 := fun (o : Nat) => KX6.out.cell o
    have l_6 := KX6.out.lt
    clear hX
    go_wp2
    go_loopw [28] (fun i wr => ∃ k1 : Nat, i = .int .i64 k1 ∧ k1 ≤ (yB p).length ∧ LgSt w1.heap.size X wr (((yB p).take k1).foldl (f1 p (yE p) (xB p) (xE p)) zeroBx)) (fun i _ => (yB p).length - (intOf i).toNat)
    case atStart => exact ⟨0, rfl, by omega, HST.out⟩
    case round =>
      obtain ⟨k1, rfl, hk1, hst1⟩ := hrel
      have HS1 := hid hst1
      clear hst1 c_6 l_6
      have k6 := HQ6.out _ HS1.out.1
      have c_6 := fun (o : Nat) => k6.cell o
      have l_6 := k6.lt
      by_cases hlt1 : k1 < (yB p).length
      · obtain ⟨b2, o2, rfl, hb2, hx⟩ := row_cells1 (row_gr OX2.out (Nat.lt_succ_self _) HS1.out.1) (Nat.lt_of_le_of_lt (Nat.zero_le _) hlt1)
        have xk1 := hx k1 hlt1
        obtain ⟨y, hy⟩ : ∃ y, y = (yB p)[k1] := ⟨_, rfl⟩
        obtain ⟨y0, y1⟩ := HY1.out _ (List.getElem_mem hlt1)
        rw [← hy] at xk1 y0 y1
        have HF1 : Hid (((yB p).take (k1 + 1)).foldl (f1 p (yE p) (xB p) (xE p)) zeroBx = f1 p (yE p) (xB p) (xE p) (((yB p).take k1).foldl (f1 p (yE p) (xB p) (xE p)) zeroBx) y) := by rw [hy]; exact foldl_take _ _ _ _ hlt1
        revert HF1 HS1
        generalize ((yB p).take k1).foldl (f1 p (yE p) (xB p) (xE p)) zeroBx = acc1
        intro HS1 HF1
        clear hx hy
        go_wp2
        go_loopw [35] (fun i wr => ∃ k2 : Nat, i = .int .i64 k2 ∧ k2 ≤ (yE p).length ∧ LgSt w1.heap.size X wr (((yE p).take k2).foldl (f2 p y (xB p) (xE p)) acc1)) (fun i _ => (yE p).length - (intOf i).toNat)
        case atStart => exact ⟨0, rfl, by omega, HS1.out⟩
        case round =>
          obtain ⟨k2, rfl, hk2, hst2⟩ := hrel
          have HS2 := hid hst2
          clear hst2 c_6 l_6 k6 xk1
          have k5 := HQ5.out _ HS2.out.1
          have c_5 := fun (o : Nat) => k5.cell o
          have l_5 := k5.lt
          by_cases hlt2 : k2 < (yE p).length
          · obtain ⟨b3, o3, rfl, hb3, hx⟩ := row_cells1 (row_gr OX3.out (Nat.lt_succ_self _) HS2.out.1) (Nat.lt_of_le_of_lt (Nat.zero_le _) hlt2)
            have xk2 := hx k2 hlt2
            obtain ⟨t, ht⟩ : ∃ t, t = (yE p)[k2] := ⟨_, rfl⟩
            obtain ⟨t0, t1⟩ := HY2.out _ (List.getElem_mem hlt2)
            rw [← ht] at xk2 t0 t1
            have HF2 : Hid (((yE p).take (k2 + 1)).foldl (f2 p y (xB p) (xE p)) acc1 = f2 p y (xB p) (xE p) (((yE p).take k2).foldl (f2 p y (xB p) (xE p)) acc1) t) := by rw [ht]; exact foldl_take _ _ _ _ hlt2
            revert HF2 HS2
            generalize ((yE p).take k2).foldl (f2 p y (xB p) (xE p)) acc1 = acc2
            intro HS2 HF2
            clear hx ht
            go_wp2
            go_loopw [42] (fun i wr => ∃ k3 : Nat, i = .int .i64 k3 ∧ k3 ≤ (xB p).length ∧ LgSt w1.heap.size X wr (((xB p).take k3).foldl (f3 p y t (xE p)) acc2)) (fun i _ => (xB p).length - (intOf i).toNat)
            case atStart => exact ⟨0, rfl, by omega, HS2.out⟩
            case round =>
              obtain ⟨k3, rfl, hk3, hst3⟩ := hrel
              have HS3 := hid hst3
              clear hst3 c_5 l_5 k5 xk2
              have k5 := HQ5.out _ HS3.out.1
              have c_5 := fun (o : Nat) => k5.cell o
              have l_5 := k5.lt
              by_cases hlt3 : k3 < (xB p).length
              · obtain ⟨b0, o0, rfl, hb0, hx⟩ := row_cells1 (row_gr OX0.out (Nat.lt_succ_self _) HS3.out.1) (Nat.lt_of_le_of_lt (Nat.zero_le _) hlt3)
                have xk3 := hx k3 hlt3
                obtain ⟨x, hxx⟩ : ∃ x, x = (xB p)[k3] := ⟨_, rfl⟩
                obtain ⟨x0, x1⟩ := HX1.out _ (List.getElem_mem hlt3)
                rw [← hxx] at xk3 x0 x1
                have HF3 : Hid (((xB p).take (k3 + 1)).foldl (f3 p y t (xE p)) acc2 = f3 p y t (xE p) (((xB p).take k3).foldl (f3 p y t (xE p)) acc2) x) := by rw [hxx]; exact foldl_take _ _ _ _ hlt3
                revert HF3 HS3
                generalize ((xB p).take k3).foldl (f3 p y t (xE p)) acc2 = acc3
                intro HS3 HF3
                clear hx hxx
                go_wp2
                go_loopw [49] (fun i wr => ∃ k4 : Nat, i = .int .i64 k4 ∧ k4 ≤ (xE p).length ∧ LgSt w1.heap.size X wr (((xE p).take k4).foldl (f4 p y t x) acc3)) (fun i _ => (xE p).length - (intOf i).toNat)
                case atStart => exact ⟨0, rfl, by omega, HS3.out⟩
                case round =>
                  obtain ⟨k4, rfl, hk4, hst4⟩ := hrel
                  have HS4 := hid hst4
                  clear hst4 c_5 l_5 k5 xk3
                  by_cases hlt4 : k4 < (xE p).length
                  · obtain ⟨b1, o1, rfl, hb1, hx⟩ := row_cells1 (row_gr OX1.out (Nat.lt_succ_self _) HS4.out.1) (Nat.lt_of_le_of_lt (Nat.zero_le _) hlt4)
                    have xk4 := hx k4 hlt4
                    obtain ⟨r, hr⟩ : ∃ r, r = (xE p)[k4] := ⟨_, rfl⟩
                    obtain ⟨r0, r1⟩ := HX2.out _ (List.getElem_mem hlt4)
                    rw [← hr] at xk4 r0 r1
                    have HF4 : Hid (((xE p).take (k4 + 1)).foldl (f4 p y t x) acc3 = f4 p y t x (((xE p).take k4).foldl (f4 p y t x) acc3) r) := by rw [hr]; exact foldl_take _ _ _ _ hlt4
                    revert HF4 HS4
                    generalize ((xE p).take k4).foldl (f4 p y t x) acc3 = acc4
                    intro HS4 HF4
                    clear hx hr
                    have kp := HQ0.out _ HS4.out.1
                    have c_p := fun (o : Nat) => kp.cell o
                    have l_p := kp.lt
                    have l_p1 : w.heap.size < wr.heap.size + 1 := by omega
                    have HSA := hid (HS4.out.below ((Below.refl wr.heap.size wr).alloc (Nat.le_refl _) (.cells #[.int .i64 x, .int .i64 y, .int .i64 (r - x), .int .i64 (t - y)] 33)))
                    have HKb := hid (Blk.new wr #[.int .i64 x, .int .i64 y, .int .i64 (r - x), .int .i64 (t - y)] 33)
                    cases hca : caB p ⟨x, y, r - x, t - y⟩ with
                    | false =>
                      have HR4 : Hid (f4 p y t x acc4 r = acc4) := by simp [Hid, f4, stp, hca]
                      have HCA := hid hca
                      clear hca
                      go_wp2_with fail
                      refine (ClearAt_c p ⟨sl, sw, sh, ka, kn, kc⟩ ⟨x, y, r - x, t - y⟩ _ (HPX.out _ HSA.out.1)).mono ?_
                      rintro e w5 ⟨rfl, hb⟩
                      rw [HCA.out]
                      have HS5 := hid (HSA.out.below hb)
                      clear hb c_p kp
                      go_wp2
                      exact ⟨⟨k4 + 1, by go_num, by omega, by rw [HF4.out, HR4.out]; exact HS5.out⟩, by simp [intOf]; omega⟩
                    | true =>
                      have HCA := hid hca
                      have HSB := hid (caB_sB hca)
                      go_wp2_with fail
                      refine (ClearAt_c p ⟨sl, sw, sh, ka, kn, kc⟩ ⟨x, y, r - x, t - y⟩ _ (HPX.out _ HSA.out.1)).mono ?_
                      rintro e w5 ⟨rfl, hb⟩
                      rw [HCA.out]
                      have HS5 := hid (HSA.out.below hb)
                      have kb := HKb.out.go hb
                      have HKb5 := hid kb
                      have k4b := HS5.out.2.1
                      have c_b := fun (o : Nat) => kb.cell o
                      have l_b := kb.lt
                      have c_4 := fun (o : Nat) => k4b.cell o
                      have l_4 := k4b.lt
                      clear hb c_p kp kb k4b
                      cases hbt : btB ⟨x, y, r - x, t - y⟩ acc4 with
                      | false =>
                        have HR4 : Hid (f4 p y t x acc4 r = acc4) := by simp [Hid, f4, stp, hca, hbt]
                        have HBT := hid hbt
                        clear hca hbt
                        go_wp2_with fail
                        refine (betterClear_c ⟨x, y, r - x, t - y⟩ acc4 _ HSB.out HS5.out.2.2).mono ?_
                        rintro e w6 ⟨rfl, hb⟩
                        rw [HBT.out]
                        have HS6 := hid (HS5.out.below hb)
                        clear hb
                        go_wp2
                        exact ⟨⟨k4 + 1, by go_num, by omega, by rw [HF4.out, HR4.out]; exact HS6.out⟩, by simp [intOf]; omega⟩
                      | true =>
                        have HR4 : Hid (f4 p y t x acc4 r = ⟨x, y, r - x, t - y⟩) := by simp [Hid, f4, stp, hca, hbt]
                        have HBT := hid hbt
                        clear hca hbt
                        go_wp2_with fail
                        refine (betterClear_c ⟨x, y, r - x, t - y⟩ acc4 _ HSB.out HS5.out.2.2).mono ?_
                        rintro e w6 ⟨rfl, hb⟩
                        rw [HBT.out]
                        have HS6 := hid (HS5.out.below hb)
                        have kb := HKb5.out.go hb
                        have k4b := HS6.out.2.1
                        have c_b6 := fun (o : Nat) => kb.cell o
                        have l_b6 := kb.lt
                        have c_46 := fun (o : Nat) => k4b.cell o
                        have f_46 := fun (o : Nat) => k4b.frz o
                        have l_46 := k4b.lt
                        have HS7 := hid (HS6.out.set HSB.out)
                        clear hb kb k4b c_b c_4
                        go_wp2
                        exact ⟨⟨k4 + 1, by go_num, by omega, by rw [HF4.out, HR4.out]; exact HS7.out⟩, by simp [intOf]; omega⟩
                  · have HE := hid (foldl_all (f4 p y t x) (xE p) acc3 k4 hlt4)
                    go_wp2
                    exact ⟨⟨k3 + 1, by go_num, by omega, by rw [HF3.out]; unfold f3; rw [← HE.out]; exact HS4.out⟩, by simp [intOf]; omega⟩
              · have HE := hid (foldl_all (f3 p y t (xE p)) (xB p) acc2 k3 hlt3)
                go_wp2
                exact ⟨⟨k2 + 1, by go_num, by omega, by rw [HF2.out]; unfold f2; rw [← HE.out]; exact HS3.out⟩, by simp [intOf]; omega⟩
          · have HE := hid (foldl_all (f2 p y (xB p) (xE p)) (yE p) acc1 k2 hlt2)
            go_wp2
            exact ⟨⟨k1 + 1, by go_num, by omega, by rw [HF1.out]; unfold f1; rw [← HE.out]; exact HS2.out⟩, by simp [intOf]; omega⟩
      · have HE := hid (foldl_all (f1 p (yE p) (xB p) (xE p)) (yB p) zeroBx k1 hlt1)
        obtain ⟨r, hr⟩ : ∃ r, r = lgB p := ⟨_, rfl⟩
        have hst := HS1.out
        rw [HE.out, show (yB p).foldl (f1 p (yE p) (xB p) (xE p)) zeroBx = r from hr.symm] at hst
        have HRG := hid (HG.out.trans hr.symm)
        have kq := HQ1.out _ hst.1
        have c_q := fun (o : Nat) => kq.cell o
        have f_q := fun (o : Nat) => kq.frz o
        have l_q2 := kq.lt
        have k4 := hst.2.1
        have c_4 := fun (o : Nat) => k4.cell o
        have l_4 := k4.lt
        have HBf := hid (HBW.out _ hst.1)
        have HNE : Hid (w1.heap.size ≠ w.heap.size + 1) := by rw [Hid]; have := HN1.out; omega
        have hne := HNE.out
        have HPB : Hid (decide (0 < r.w) = posB r) := rfl
        clear hst hr kq k4 k6 c_6 l_6 HS1 HE
        go_wp2
        go_region
        all_goals
          go_wp2
          refine bodyPost_ret (v := .tuple #[.agg #[.int .i64 r.x, .int .i64 r.y, .int .i64 r.w, .int .i64 r.h], .bool (decide (0 < r.w))]) (by simp [results, Try.results45, go_sem, c_q]) rfl ⟨by rw [HRG.out, HPB.out], ?_⟩
          exact ((((HBf.out.drew.setCell (by simp <;> omega) _).setCell (by simp <;> omega) _).setCell (by simp <;> omega) _).setCell (by simp <;> omega) _)
  · have HG := hid (lgR_f hv)
    go_enter Try.func45, Try.ntmps45
    go_upto_region 1 with (fail)
    rw [← HW.out]
    go_wp2_with fail
    refine (ValidPiece_c p ⟨sl, sw, sh, ka, kn, kc⟩ _ (HP.out _ B2.out)).mono ?_
    rintro e w1 ⟨rfl, hb⟩
    rw [vpB_not.2 hv]
    have HB1 := hid (B2.out.trans (hb.mono B2.out.size))
    have kq := HK1.out.go hb
    have c_q := fun (o : Nat) => kq.cell o
    have f_q := fun (o : Nat) => kq.frz o
    have l_q := kq.lt
    clear hb kq hp0 hv
    go_wp2
    refine bodyPost_ret (v := .tuple #[.agg #[.int .i64 0, .int .i64 0, .int .i64 0, .int .i64 0], .bool false]) (by simp [results, Try.results45, go_sem, c_q]) rfl ⟨by rw [HG.out]; rfl, ?_⟩
    exact ((((HB1.out.setCell (by simp <;> omega) _).setCell (by simp <;> omega) _).setCell (by simp <;> omega) _).setCell (by simp <;> omega) _)


end Go.Proofs.Ytpicbkakghojnaa
