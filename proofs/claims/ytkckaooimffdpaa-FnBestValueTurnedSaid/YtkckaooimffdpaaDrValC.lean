/-
  Contract: a work and values, drawn by the generators of the reference.
-/
import Derived.Test.YtkckaooimffdpaaDrValB
namespace Go.Proofs.Ytkckaooimffdpaa
set_option linter.unusedSimpArgs false
set_option linter.unusedVariables false
open Go.RowKit

/-- Where the walk stands: the reader, the panes, the values, the work, the result. -/
def SdSt (w0 : World) (ra n1 kb : Nat) (W H : Int) (pv : Value) (L : List Pn) (vv : Value) (V : List Int) (m : Int) (wz : World) : Prop :=
  Rd w0.heap.size wz ra m ∧ Below w0.heap.size w0 wz ∧ Own paneE 40 n1 wz pv L ∧ Own intE 3 (kb + 1) wz vv V ∧ Blk wz kb #[.int .i64 W, .int .i64 H, pv] 35 ∧ Blk wz w0.heap.size #[.int .i64 0, .int .i64 0, .slice none 0 0] 35 ∧ (w0.heap.size < ra ∧ ra < n1 ∧ n1 ≤ kb) ∧ (∀ q, pv.ownBlock = some q → q < kb)
section
variable {w0 wz wq : World} {ra n1 kb : Nat} {W H : Int} {pv vv : Value} {L : List Pn} {V : List Int} {m m' : Int}
theorem SdSt.pick (h : SdSt w0 ra n1 kb W H pv L vv V m wz) (hR : Rd w0.heap.size wq ra m') (hg : wz.grownBy wq (some ra)) : SdSt w0 ra n1 kb W H pv L vv V m' wq := by
  obtain ⟨h1, h2, h3, h4, h5, h6, h7, h8⟩ := h
  exact ⟨hR, below_gr h2 hg h2.size (by omega), h3.kept hg (bown_na h3 (by omega)), h4.kept hg (bown_na h4 (by omega)), h5.grown hg (by intro e; injection e with e; omega), h6.grown hg (by intro e; injection e with e; omega), h7, h8⟩
theorem SdSt.below (h : SdSt w0 ra n1 kb W H pv L vv V m wz) (hb : Below wz.heap.size wz wq) : SdSt w0 ra n1 kb W H pv L vv V m wq := by
  obtain ⟨h1, h2, h3, h4, h5, h6, h7, h8⟩ := h
  exact ⟨h1.below hb, h2.trans (hb.mono h2.size), h3.below hb, h4.below hb, h5.go hb, h6.go hb, h7, h8⟩
theorem SdSt.alloc (h : SdSt w0 ra n1 kb W H pv L vv V m wz) (o : Obj) : SdSt w0 ra n1 kb W H pv L vv V m (wz.alloc o) := h.below ((Below.refl _ _).alloc (Nat.le_refl _) o)
theorem SdSt.draw (h : SdSt w0 ra n1 kb W H pv L vv V m wz) : SdSt w0 ra n1 kb W H pv L vv V m wz.drew := h.below (Below.refl _ _).drew
theorem SdSt.up (h : SdSt w0 ra n1 kb W H pv L vv V m wz) (hm : m ≤ m') : SdSt w0 ra n1 kb W H pv L vv V m' wz := ⟨h.1.up hm, h.2⟩
theorem SdSt.rd (h : SdSt w0 ra n1 kb W H pv L vv V m wz) : Rd w0.heap.size wz ra m := h.1
theorem SdSt.ov (h : SdSt w0 ra n1 kb W H pv L vv V m wz) : Own intE 3 (kb + 1) wz vv V := h.2.2.2.1
theorem SdSt.op (h : SdSt w0 ra n1 kb W H pv L vv V m wz) : Own paneE 40 n1 wz pv L := h.2.2.1
theorem SdSt.bs (h : SdSt w0 ra n1 kb W H pv L vv V m wz) : kb + 1 ≤ wz.heap.size := h.2.2.2.2.1.lt
theorem SdSt.rl (h : SdSt w0 ra n1 kb W H pv L vv V m wz) : ra < wz.heap.size := h.1.lt
theorem SdSt.s {g c k : Nat} (h : SdSt w0 ra n1 kb W H (.slice (some ⟨g, 0, none⟩) L.length c) L vv V m wz) (hk : k < L.length) : wz.cell? ⟨kb, 2, none⟩ = some (.slice (some ⟨g, 0, none⟩) L.length c) ∧ wz.cell? ⟨g, k * 4, none⟩ = some (.int .i64 L[k].w) ∧ wz.cell? ⟨g, k * 4 + 1, none⟩ = some (.int .i64 L[k].h) :=
  ⟨h.2.2.2.2.1.cell 2, h.2.2.1.cellAt rfl k 0 hk (by decide), h.2.2.1.cellAt rfl k 1 hk (by decide)⟩
/-- One more value. -/
theorem SdSt.push {v5 : Value} {V' : List Int} (h : SdSt w0 ra n1 kb W H pv L vv V m wz) (ho : Own intE 3 (kb + 1) wq v5 V') (hg : wz.grownBy wq vv.ownBlock) : SdSt w0 ra n1 kb W H pv L v5 V' m wq := by
  obtain ⟨h1, h2, h3, h4, h5, h6, h7, h8⟩ := h
  have hne : ∀ k, vv.ownBlock = some k → kb + 1 ≤ k := fun k hk => (h4.lt k hk).1
  refine ⟨h1.grown hg (fun k hk => by have := hne k hk; omega), h2.grown hg h2.size (fun k hk => by have := hne k hk; omega), h3.kept hg ?_, ho, h5.grown hg (fun e => by have := hne _ e.symm; omega), h6.grown hg (fun e => by have := hne _ e.symm; omega), h7, h8⟩
  cases hp : pv.ownBlock with
  | none => exact .inl rfl
  | some q => exact .inr (fun e => by have h9 := h8 q hp; have := hne q e.symm; omega)
end
theorem row3 (w : World) (x y z : Int) : Row intE (w.alloc (.cells #[.int .i64 x, .int .i64 y, .int .i64 z] 3)) (.slice (some ⟨w.heap.size, 0, none⟩) 3 3) [x, y, z] := lit_row w w.heap.size rfl _ _ 3 rfl rfl (by simp [maxLen])
theorem row1 (w : World) (x : Int) : RowB intE (w.heap.size + 1) (w.alloc (.cells #[.int .i64 x] 3)) (.slice (some ⟨w.heap.size, 0, none⟩) 1 1) [x] := by
  have := lit_row w w.heap.size rfl #[.int .i64 x] [x] 1 rfl rfl (by simp [maxLen])
  unfold Row at this
  rw [World.size_alloc] at this
  exact this
theorem ob_ne {n ra : Nat} (h : ra < n) : (Value.slice (some ⟨n, 0, none⟩) 3 3).ownBlock ≠ some ra := by simp [Value.ownBlock]; omega
theorem mem3_bd {x y z u b : Int} (h : u ∈ [x, y, z]) (hx : 0 ≤ x ∧ x ≤ b) (hy : 0 ≤ y ∧ y ≤ b) (hz : 0 ≤ z ∧ z ≤ b) : 0 ≤ u ∧ u ≤ b := by simp at h; omega
theorem len3 (x y z : Int) : 0 < [x, y, z].length := by simp
theorem len3' (x y z : Int) : [x, y, z].length ≤ 100 := by simp
theorem prx {p x : Int} (hp : 0 ≤ p ∧ p ≤ 90000) (h : 0 ≤ x ∧ x ≤ 299) : IntKind.i64.wrap (p + x) = p + x := IntWalk.i64_in _ (by omega)
def DbOut (w : World) (e : Ending) (w' : World) : Prop := ∃ (W H : Int) (A : Option Addr) (c : Nat) (L : List Pn) (v : Value) (V : List Int), e = .returned (.tuple #[.agg #[.int .i64 W, .int .i64 H, .slice A L.length c], v]) ∧ Row paneE w' (.slice A L.length c) L ∧ Row intE w' v V ∧ L.length ≤ 7 ∧ V.length ≤ 7 ∧ (0 ≤ W ∧ W ≤ 201) ∧ (6 ≤ H ∧ H ≤ 16) ∧ (∀ p ∈ L, bdP p) ∧ (∀ x ∈ V, 0 ≤ x ∧ x ≤ 100000) ∧ Below w.heap.size w w'
theorem db_end {w0 wz : World} {ra n1 kb : Nat} {W H : Int} {A : Option Addr} {c : Nat} {L : List Pn} {vv : Value} {V : List Int} {m : Int} (h : SdSt w0 ra n1 kb W H (.slice A L.length c) L vv V m wz) (hL : L.length ≤ 7) (hV : V.length ≤ 7) (hW : 0 ≤ W ∧ W ≤ 201) (hH : 6 ≤ H ∧ H ≤ 16) (hT : ∀ p ∈ L, bdP p) (hX : ∀ x ∈ V, 0 ≤ x ∧ x ≤ 100000) :
    DbOut w0 (.returned (.tuple #[.agg #[.int .i64 W, .int .i64 H, .slice A L.length c], vv])) (((wz.setCell ⟨w0.heap.size, 0, none⟩ (.int .i64 W)).setCell ⟨w0.heap.size, 1, none⟩ (.int .i64 H)).setCell ⟨w0.heap.size, 2, none⟩ (.slice A L.length c)) ∧
    Blk (((wz.setCell ⟨w0.heap.size, 0, none⟩ (.int .i64 W)).setCell ⟨w0.heap.size, 1, none⟩ (.int .i64 H)).setCell ⟨w0.heap.size, 2, none⟩ (.slice A L.length c)) w0.heap.size #[.int .i64 W, .int .i64 H, .slice A L.length c] 35 := by
  obtain ⟨h1, h2, h3, h4, h5, h6, h7, h8⟩ := h
  refine ⟨⟨W, H, A, c, L, vv, V, rfl, ?_, ?_, hL, hV, hW, hH, hT, hX, ?_⟩, ((h6.set 0 (.int .i64 W)).set 1 (.int .i64 H)).set 2 (.slice A L.length c)⟩
  · exact (((h3.setCell_far (p := ⟨w0.heap.size, 0, none⟩) (by show w0.heap.size < n1; omega) _).setCell_far (p := ⟨w0.heap.size, 1, none⟩) (by show w0.heap.size < n1; omega) _).setCell_far (p := ⟨w0.heap.size, 2, none⟩) (by show w0.heap.size < n1; omega) _).rowB
  · exact (((h4.setCell_far (p := ⟨w0.heap.size, 0, none⟩) (by show w0.heap.size < kb + 1; omega) _).setCell_far (p := ⟨w0.heap.size, 1, none⟩) (by show w0.heap.size < kb + 1; omega) _).setCell_far (p := ⟨w0.heap.size, 2, none⟩) (by show w0.heap.size < kb + 1; omega) _).rowB
  · exact ((h2.setCell (p := ⟨w0.heap.size, 0, none⟩) (Nat.le_refl _) _).setCell (p := ⟨w0.heap.size, 1, none⟩) (Nat.le_refl _) _).setCell (p := ⟨w0.heap.size, 2, none⟩) (Nat.le_refl _) _

set_option maxHeartbeats 12800000 in
set_option maxRecDepth 100000 in
theorem DrawBestValue_c (v : Value) (C : List Int) (w : World) (h : Row byteE w v C) (hb : ∀ x ∈ C, 0 ≤ x ∧ x ≤ 255) : Calls Try.prog 16 #[v] w (DbOut w) := by
  obtain ⟨i0, hi0, hz0, hz1, hz2⟩ := info_parts int_info
  have HBA := hid ((Below.refl w.heap.size w).alloc (Nat.le_refl _) (.cells #[.int .i64 0, .int .i64 0, .slice none 0 0] 35))
  have HR := hid (h.below HBA.out)
  have HQ := hid (Blk.new w #[.int .i64 0, .int .i64 0, .slice none 0 0] 35)
  have HB := hid hb
  clear h hb
  go_enter Try.func16, Try.ntmps16
  go_wp2_with fail
  refine (newReader_c w.heap.size _ C _ HR.out (by simp) HB.out).mono ?_
  rintro e w1 ⟨rfl, hR, hb, hs⟩
  rw [World.size_alloc] at hR hs ⊢
  have HB1 := hid (HBA.out.trans (hb.mono (by simp)))
  have HQ1 := hid (HQ.out.go hb)
  have HR1 := hid hR
  clear hR hb HBA HR HQ
  go_wp2_with fail
  refine (anySheetWork_c w.heap.size (w.heap.size + 1) 0 _ HR1.out (by omega)).mono ?_
  rintro e w2 ⟨W, H, A1, c1, L, rfl, hL7, hW, hH, hT, hO, hR, hg⟩
  have hs2 : w1.heap.size ≤ w2.heap.size := hg.size
  have HT := hid hT
  obtain ⟨A', c', e0, hc1, hm1, -⟩ := hO.shape
  injection e0 with e0 e1 e2
  subst e0
  subst e2
  clear e1
  unfold maxLen at hm1
  have ZS0 := hid (show SdSt w (w.heap.size + 1) w1.heap.size w2.heap.size W H (.slice A1 L.length c1) L (.slice none 0 0) [] (0 + 100) (w2.alloc (.cells #[.int .i64 W, .int .i64 H, .slice A1 L.length c1] 35)) from
    ⟨hR.alloc _, (below_gr HB1.out hg HB1.out.size (by omega)).alloc (by have := HB1.out.size; omega) _, hO.alloc _, Own.nil_ _ _ _, Blk.new _ _ _, (HQ1.out.grown hg (by intro e; injection e with e; omega)).alloc _, ⟨by omega, hs, hs2⟩, fun q hq => (hO.lt q hq).2⟩)
  obtain ⟨kb, hkb⟩ : ∃ kb, kb = w2.heap.size := ⟨_, rfl⟩
  have ZS1 := hid (ZS0.out.alloc (.cells #[] 3))
  have ZO1 : Hid (Own intE 3 (kb + 1) ((w2.alloc (.cells #[.int .i64 W, .int .i64 H, .slice A1 L.length c1] 35)).alloc (.cells #[] 3)) (.slice (some ⟨kb + 1, 0, none⟩) 0 0) []) := by
    have := Own.lit0 intE (w2.alloc (.cells #[.int .i64 W, .int .i64 H, .slice A1 L.length c1] 35)) (kb + 1) 3 (by rw [hkb]; simp)
    rw [World.size_alloc, ← hkb] at this
    exact this
  rw [← hkb] at ZS0 ZS1
  have ZS2 := hid (show SdSt w (w.heap.size + 1) w1.heap.size kb W H (.slice A1 L.length c1) L (.slice (some ⟨kb + 1, 0, none⟩) 0 0) [] 100 _ from ⟨ZS1.out.1, ZS1.out.2.1, ZS1.out.2.2.1, ZO1.out, ZS1.out.2.2.2.2⟩)
  have HKB := hid hkb
  clear hT hO hR hg HB1 HQ1 HR1 ZS0 ZS1 ZO1 hkb
  obtain ⟨n1, hn1⟩ : ∃ n1, n1 = w1.heap.size := ⟨_, rfl⟩
  rw [← hn1] at ZS2
  obtain ⟨ra, hra⟩ : ∃ ra, ra = w.heap.size + 1 := ⟨_, rfl⟩
  rw [← hra] at ZS2
  have hwra : w.heap.size < ra := by omega
  have HRA := hid hra
  clear hra hn1
  go_wp2
  rw [← HRA.out, ← HKB.out]
  go_loopw [6, 7] (fun vv i wr => ∃ (k : Nat) (V : List Int), i = .int .i64 (k : Nat) ∧ k ≤ L.length ∧ V.length = k ∧ (∀ x ∈ V, 0 ≤ x ∧ x ≤ 100000) ∧ SdSt w ra n1 kb W H (.slice A1 L.length c1) L vv V (100 + 4 * (k : Int)) wr) (fun _ i _ => L.length - (intOf i).toNat)
  case atStart => exact ⟨0, [], rfl, by omega, rfl, by simp, ZS2.out⟩
  case round =>
    clear ZS2
    obtain ⟨k, V, rfl, hk, hVk, hX, hst⟩ := hrel
    have HST := hid hst
    have HX := hid hX
    have HVK := hid hVk
    have c_K := fun (o : Nat) => hst.2.2.2.2.1.cell o
    have f_K := fun (o : Nat) => hst.2.2.2.2.1.frz o
    have l_K := hst.2.2.2.2.1.lt
    clear hst hX hVk
    by_cases hkl : k < L.length
    · obtain ⟨g, cap, e3, hg1, hg2, hg3, hg4⟩ := HST.out.2.2.1.form (by omega)
      injection e3 with e3 e4 e5
      subst e3
      subst e5
      clear e4 hg1 hg2 hg3 hg4
      have hbd := HT.out _ (List.getElem_mem hkl)
      unfold bdP at hbd
      obtain ⟨p1, p2, p3, p4⟩ := hbd
      have hpr : 0 ≤ L[k].w * L[k].h ∧ L[k].w * L[k].h ≤ 90000 := ⟨Int.mul_nonneg p1 p3, by
        have := Int.mul_le_mul p2 p4 p3 (by omega : (0 : Int) ≤ 300)
        omega⟩
      have HS0 := hid (HST.out.s hkl)
      have HPR := hid hpr
      have HLn : Hid (V.length + 1 ≤ 4194304) := by rw [Hid, HVK.out]; omega
      have ZC := hid HST.out.draw
      obtain ⟨pr, hpre⟩ : ∃ pr, pr = L[k].w * L[k].h := ⟨_, rfl⟩
      have hprw : IntKind.i64.wrap (L[k].w * L[k].h) = pr := by rw [hpre]; exact IntWalk.i64_in _ (by omega)
      rw [← hpre] at hpr
      clear p1 p2 p3 p4 hpre HPR
      go_wp2
      clear c_K f_K l_K
      go_region_held3 (fun w' => w'.cell? ⟨kb, 2, none⟩ = some (.slice (some ⟨g, 0, none⟩) L.length c1) ∧ w'.cell? ⟨g, k * 4, none⟩ = some (.int .i64 L[k].w) ∧ w'.cell? ⟨g, k * 4 + 1, none⟩ = some (.int .i64 L[k].h)) (first | with_reducible exact ZC.out.s hkl | with_reducible exact (ZC.out.alloc _).s hkl | fail)
        (first | (go_at_call 22; (with_reducible refine (pick_c w.heap.size ra _ _ _ ZC.out.rd (by omega) (by omega) (by omega)).mono ?_); rintro e wq ⟨x, rfl, hp, hR, hg⟩; have hbx := bpk_bd hp 299 (by omega) (by omega); have hwx := w1_of hbx; have hwp := prx hpr hbx; replace ZC := hid (ZC.out.pick hR hg); have l2 := ZC.out.rl; clear hp hR hg) | (go_at_call 32; (with_reducible refine (one_c w.heap.size ra _ _ _ _ (ZC.out.alloc _).rd (row3 _ _ _ _) (ob_ne l2) (len3 _ _ _) (len3' _ _ _) (by omega)).mono ?_); rintro e wq ⟨y, rfl, hp, hR, hg⟩; have hby := mem3_bd (b := 100000) hp (by omega) (by omega) (by omega); replace ZC := hid ((ZC.out.alloc _).pick hR hg); clear hp hR hg) | (refine step_cat intE _ rfl (.tmp 20) (.tmp 46) _ rfl (kb + 1) 3 i0 _ 8 Try.underlying23 hi0 hz0 hz1 hz2 rfl (by omega) _ _ rfl (ZC.out.alloc _).ov _ _ _ rfl (row1 _ _) HLn.out (ZC.out.alloc _).bs _ rfl ?_; intro v5 w5 ho5 hg5 hat5; replace ZC := hid ((ZC.out.alloc _).push ho5 hg5); clear ho5 hg5 hat5) | fail)
      all_goals
        go_wp2
        refine ⟨⟨k + 1, _, ?_, ?_, ?_, ?_, ZC.out.up ?_⟩, ?_⟩
        · go_num
        · omega
        · rw [List.length_append, HVK.out]; rfl
        · intro z hz
          rcases List.mem_append.1 hz with hz | hz
          · exact HX.out z hz
          · simp only [List.mem_singleton] at hz
            subst hz
            exact hby
        · omega
        · simp [intOf]; omega
    · obtain ⟨Av, cv, rfl, hcv, hmv, hAv⟩ := HST.out.ov.shape
      have HAV := hid hAv
      unfold maxLen at hmv
      have HX7 : Hid (V.length ≤ 7) := by rw [Hid, HVK.out]; omega
      clear hAv
      by_cases hv0 : 0 < V.length
      · have d0 : decide (0 < V.length) = true := decide_eq_true hv0
        have hk7 : (k : Int) ≤ 7 := by omega
        go_wp2_with fail
        refine (pick_c w.heap.size ra 12 _ _ HST.out.rd (by omega) (by omega) (by omega)).mono ?_
        rintro e w4 ⟨x, rfl, hp, hR, hg⟩
        have HS4 := hid (HST.out.pick hR hg)
        clear hp hR hg c_K f_K l_K
        by_cases hx0 : x = 0
        · have e1 : (x == 0) = true := by simpa using hx0
          clear hx0
          have ZL := hid (lit_row w4 w4.heap.size rfl #[.int .i64 0, .int .i64 1001] [0, 1001] 2 rfl rfl (by simp [maxLen]))
          have HS5 := hid (HS4.out.alloc (.cells #[.int .i64 0, .int .i64 1001] 3))
          have hrl := HS4.out.rl
          go_wp2_with fail
          refine (one_c w.heap.size ra _ [0, 1001] _ _ HS5.out.rd ZL.out (by simp [Value.ownBlock]; omega) (by simp) (by simp) (by omega)).mono ?_
          rintro e w5 ⟨y, rfl, hp, hR, hg⟩
          have hy : 0 ≤ y ∧ y ≤ 100000 := by simp at hp; omega
          have HS6 := hid (HS5.out.pick hR hg)
          clear hp hR hg ZL
          obtain ⟨g, rfl, hg1, hg2⟩ := HAV.out hv0
          have hcl := HS6.out.ov.own_int rfl 0 hv0
          have hfr := HS6.out.ov.frozen rfl 0
          have hgl : g < w5.heap.size := (HS6.out.ov.lt g rfl).2
          obtain ⟨ho7, hg7⟩ := HS6.out.ov.store1 rfl 0 y (.int .i64 y) rfl rfl
          have HS7 := hid (show SdSt w ra n1 kb W H (.slice A1 L.length c1) L (.slice (some ⟨g, 0, none⟩) V.length cv) (V.set 0 y) _ _ from HS6.out.push ho7 hg7)
          have HX2 : Hid (∀ x ∈ V.set 0 y, 0 ≤ x ∧ x ≤ 100000) := fun x hx => by
            rcases List.mem_or_eq_of_mem_set hx with h1 | rfl
            · exact HX.out x h1
            · exact hy
          obtain ⟨hEND, hBLK⟩ := db_end HS7.out hL7 (by rw [List.length_set]; exact HX7.out) hW hH HT.out HX2.out
          have HEND := hid hEND
          have HBLK := hid hBLK
          have c_K := fun (o : Nat) => HS7.out.2.2.2.2.1.cell o
          have f_K := fun (o : Nat) => HS7.out.2.2.2.2.1.frz o
          have l_K := HS6.out.bs
          have c_6 := fun (o : Nat) => HS6.out.2.2.2.2.1.cell o
          have f_6 := fun (o : Nat) => HS6.out.2.2.2.2.1.frz o
          have c_Q := fun (o : Nat) => HS6.out.2.2.2.2.2.1.cell o
          have f_Q := fun (o : Nat) => HS6.out.2.2.2.2.2.1.frz o
          have l_Q := HS6.out.2.2.2.2.2.1.lt
          have hgk : kb + 1 ≤ g := (HS6.out.ov.lt g rfl).1
          have hkw : w.heap.size < kb := by have := HS6.out.2.2.2.2.2.2.1; omega
          clear hEND hBLK ho7 hg7
          go_wp2
          obtain ⟨WF, hWF⟩ : ∃ Z : World, Z = ((((w5.setCell ⟨g, 0, none⟩ (.int .i64 y)).setCell ⟨w.heap.size, 0, none⟩ (.int .i64 W)).setCell ⟨w.heap.size, 1, none⟩ (.int .i64 H)).setCell ⟨w.heap.size, 2, none⟩ (.slice A1 L.length c1)) := ⟨_, rfl⟩
          rw [← hWF] at HEND HBLK ⊢
          have c_F := fun (o : Nat) => HBLK.out.cell o
          clear hWF
          exact bodyPost_ret (v := .tuple #[.agg #[.int .i64 W, .int .i64 H, .slice A1 L.length c1], .slice (some ⟨g, 0, none⟩) V.length cv]) (by simp [results, Try.results16, go_sem, c_F]) rfl HEND.out
        · have e1 : (x == 0) = false := by simpa using hx0
          clear hx0
          obtain ⟨hEND, hBLK⟩ := db_end HS4.out hL7 HX7.out hW hH HT.out HX.out
          have HEND := hid hEND
          have HBLK := hid hBLK
          have c_K := fun (o : Nat) => HS4.out.2.2.2.2.1.cell o
          have f_K := fun (o : Nat) => HS4.out.2.2.2.2.1.frz o
          have l_K := HS4.out.bs
          have c_Q := fun (o : Nat) => HS4.out.2.2.2.2.2.1.cell o
          have f_Q := fun (o : Nat) => HS4.out.2.2.2.2.2.1.frz o
          have l_Q := HS4.out.2.2.2.2.2.1.lt
          clear hEND hBLK
          go_wp2
          obtain ⟨WF, hWF⟩ : ∃ Z : World, Z = (((w4.setCell ⟨w.heap.size, 0, none⟩ (.int .i64 W)).setCell ⟨w.heap.size, 1, none⟩ (.int .i64 H)).setCell ⟨w.heap.size, 2, none⟩ (.slice A1 L.length c1)) := ⟨_, rfl⟩
          rw [← hWF] at HEND HBLK ⊢
          have c_F := fun (o : Nat) => HBLK.out.cell o
          clear hWF
          exact bodyPost_ret (v := .tuple #[.agg #[.int .i64 W, .int .i64 H, .slice A1 L.length c1], .slice Av V.length cv]) (by simp [results, Try.results16, go_sem, c_F]) rfl HEND.out
      · have d0 : decide (0 < V.length) = false := decide_eq_false hv0
        obtain ⟨hEND, hBLK⟩ := db_end HST.out hL7 HX7.out hW hH HT.out HX.out
        have HEND := hid hEND
        have HBLK := hid hBLK
        have c_Q := fun (o : Nat) => HST.out.2.2.2.2.2.1.cell o
        have f_Q := fun (o : Nat) => HST.out.2.2.2.2.2.1.frz o
        have l_Q := HST.out.2.2.2.2.2.1.lt
        clear hEND hBLK
        go_wp2
        obtain ⟨WF, hWF⟩ : ∃ Z : World, Z = (((wr.setCell ⟨w.heap.size, 0, none⟩ (.int .i64 W)).setCell ⟨w.heap.size, 1, none⟩ (.int .i64 H)).setCell ⟨w.heap.size, 2, none⟩ (.slice A1 L.length c1)) := ⟨_, rfl⟩
        rw [← hWF] at HEND HBLK ⊢
        have c_F := fun (o : Nat) => HBLK.out.cell o
        clear hWF
        exact bodyPost_ret (v := .tuple #[.agg #[.int .i64 W, .int .i64 H, .slice A1 L.length c1], .slice Av V.length cv]) (by simp [results, Try.results16, go_sem, c_F]) rfl HEND.out

end Go.Proofs.Ytkckaooimffdpaa
