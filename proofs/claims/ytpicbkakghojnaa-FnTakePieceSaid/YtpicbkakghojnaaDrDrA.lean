/-
  Contracts: what the generators of the reference draw for laws over pieces (written by a program of mine).
-/
import Derived.Test.YtpicbkakghojnaaDrDraw
namespace Go.Proofs.Ytpicbkakghojnaa
set_option linter.unusedSimpArgs false
set_option linter.unusedVariables false
open Go.RowKit

/-- A piece that was drawn, and what else. -/
def DrPc1 (N : Nat) (w w' : World) (p : Pc) (s : Ps) : Prop := s.same p ∧ tP 4 p ∧ Own boxE 33 N w' s.kv p.f ∧ Below N w w'

set_option maxHeartbeats 3200000 in
set_option maxRecDepth 100000 in
theorem DrawTurnPiece_c (v : Value) (L : List Int) (w : World) (h : Row byteE w v L) (hb : ∀ x ∈ L, 0 ≤ x ∧ x ≤ 255) : Calls Try.prog 44 #[v] w fun e w' => ∃ (p : Pc) (s : Ps), e = .returned (.agg #[.int .i64 s.l, .int .i64 s.w, .int .i64 s.h, .slice s.ka s.kn s.kc]) ∧ DrPc1 w.heap.size w w' p s := by
  have HA := hid ((Below.refl w.heap.size w).alloc (Nat.le_refl _) (.cells #[.int .i64 0, .int .i64 0, .int .i64 0, .slice none 0 0] 31))
  have HR0 := hid (h.below HA.out)
  have HB := hid hb
  have HQ := hid (Blk.new w #[.int .i64 0, .int .i64 0, .int .i64 0, .slice none 0 0] 31)
  clear h hb
  go_enter Try.func44, Try.ntmps44
  go_wp2_with fail
  refine (newReader_c w.heap.size v L _ HR0.out (by simp) HB.out).mono ?_
  rintro e w1 ⟨rfl, hR, hb, hlt⟩
  simp only [World.size_alloc] at hR hlt ⊢
  have HB1 := hid (HA.out.trans (hb.mono (by simp)))
  have HQ1 := hid (HQ.out.go hb)
  have HRd := hid hR
  clear hR hb
  go_wp2_with fail
  refine (anyPiece_c w.heap.size (w.heap.size + 1) 0 _ HRd.out (by omega)).mono ?_
  rintro e w2 ⟨q, s, rfl, hs, hq, ho, hR, hg⟩
  have k := HQ1.out.grown hg (fun e => by injection e with e; omega)
  have c_q := fun (o : Nat) => k.cell o
  have f_q := fun (o : Nat) => k.frz o
  have l_q := k.lt
  have HO := hid ho
  have HS := hid hs
  have HT := hid hq
  have HB2 := hid (below_gr HB1.out hg (by omega) (by omega))
  clear hs hq ho hR hg k
  go_wp2
  refine bodyPost_ret (v := .agg #[.int .i64 s.l, .int .i64 s.w, .int .i64 s.h, .slice s.ka s.kn s.kc]) (by simp [results, Try.results44, go_sem, c_q]) rfl ⟨q, s, rfl, HS.out, HT.out, own_res4 HO.out (by omega) _ _ _ _ (by omega), ?_⟩
  exact ((((HB2.out.setCell (by simp) _).setCell (by simp) _).setCell (by simp) _).setCell (by simp) _)

set_option maxHeartbeats 6400000 in
set_option maxRecDepth 100000 in
theorem DrawFirstClear_c (v : Value) (L : List Int) (w : World) (h : Row byteE w v L) (hb : ∀ x ∈ L, 0 ≤ x ∧ x ≤ 255) : Calls Try.prog 40 #[v] w fun e w' => ∃ (p : Pc) (s : Ps) (x y : Int), e = .returned (.tuple #[.agg #[.int .i64 s.l, .int .i64 s.w, .int .i64 s.h, .slice s.ka s.kn s.kc], .int .i64 x, .int .i64 y]) ∧ (0 ≤ x ∧ x ≤ 300) ∧ (0 ≤ y ∧ y ≤ 300) ∧ DrPc1 w.heap.size w w' p s := by
  have HA := hid ((Below.refl w.heap.size w).alloc (Nat.le_refl _) (.cells #[.int .i64 0, .int .i64 0, .int .i64 0, .slice none 0 0] 31))
  have HR0 := hid (h.below HA.out)
  have HB := hid hb
  have HQ := hid (Blk.new w #[.int .i64 0, .int .i64 0, .int .i64 0, .slice none 0 0] 31)
  clear h hb
  go_enter Try.func40, Try.ntmps40
  go_wp2_with fail
  refine (newReader_c w.heap.size v L _ HR0.out (by simp) HB.out).mono ?_
  rintro e w1 ⟨rfl, hR, hb, hlt⟩
  simp only [World.size_alloc] at hR hlt ⊢
  have HB1 := hid (HA.out.trans (hb.mono (by simp)))
  have HQ1 := hid (HQ.out.go hb)
  have HRd := hid hR
  clear hR hb
  go_wp2_with fail
  refine (anyPiece_c w.heap.size (w.heap.size + 1) 0 _ HRd.out (by omega)).mono ?_
  rintro e w2 ⟨q, s, rfl, hs, hq, ho, hR, hg⟩
  have k := HQ1.out.grown hg (fun e => by injection e with e; omega)
  have HQ2 := hid k
  have HO := hid (ho.base_le (base' := w.heap.size + 2) (by omega))
  have HS := hid hs
  have HT := hid hq
  have HB2 := hid (below_gr HB1.out hg (by omega) (by omega))
  have HR1 := hid hR
  have hs2 := hg.size
  have HGr := hid (World.grownBy.refl w2 (some (w.heap.size + 1)))
  clear hs hq ho hR hg k
  go_wp2_with fail
  refine (pick_c w.heap.size (w.heap.size + 1) (8) _ _ HR1.out (by omega) (by omega) (by omega)).mono ?_
  rintro e w3 ⟨x1, rfl, hp, hR, hg⟩
  have hx1 := pk_bd hp 7 (by omega) (by omega)
  clear hp
  have HR11 := hid hR
  have HG11 := hid (grown_trans HGr.out hg)
  have Hq_11 := hid (HQ2.out.grown hg (fun e => by injection e with e; omega))
  have Of_11 := hid (HO.out.kept hg (own_na HO.out (by omega)))
  have hs11 := hg.size
  (try simp only [World.size_alloc, World.size_setCell] at hs11)
  clear hR hg
  try clear c_q f_q l_q
  have c_q := fun (o : Nat) => Hq_11.out.cell o
  have f_q := fun (o : Nat) => Hq_11.out.frz o
  have l_q := Hq_11.out.lt
  have ZL := hid (lit_row (w3) (w3.heap.size) (by simp) #[.int .i64 (1 + x1), .int .i64 4, .int .i64 0, .int .i64 201, .int .i64 12] [1 + x1, 4, 0, 201, 12] 5 rfl rfl (by simp [maxLen]))
  have HR12 := hid (HR11.out.alloc (.cells #[.int .i64 (1 + x1), .int .i64 4, .int .i64 0, .int .i64 201, .int .i64 12] 3))
  have HG12 := hid (gr_alloc HG11.out (.cells #[.int .i64 (1 + x1), .int .i64 4, .int .i64 0, .int .i64 201, .int .i64 12] 3))
  have Hq_12 := hid (Hq_11.out.alloc (.cells #[.int .i64 (1 + x1), .int .i64 4, .int .i64 0, .int .i64 201, .int .i64 12] 3))
  have Of_12 := hid (Of_11.out.alloc (.cells #[.int .i64 (1 + x1), .int .i64 4, .int .i64 0, .int .i64 201, .int .i64 12] 3))
  go_wp2_with fail
  refine (one_c w.heap.size (w.heap.size + 1) _ [1 + x1, 4, 0, 201, 12] _ _ HR12.out ZL.out (by simp [Value.ownBlock]; omega) (by simp) (by simp) (by omega)).mono ?_
  rintro e w4 ⟨x2, rfl, hp, hR, hg⟩
  have hx2 : 0 ≤ x2 ∧ x2 ≤ 300 := by simp at hp; omega
  clear hp ZL
  have HR13 := hid hR
  have HG13 := hid (grown_trans HG12.out hg)
  have Hq_13 := hid (Hq_12.out.grown hg (fun e => by injection e with e; omega))
  have Of_13 := hid (Of_12.out.kept hg (own_na Of_12.out (by omega)))
  have hs13 := hg.size
  (try simp only [World.size_alloc, World.size_setCell] at hs13)
  clear hR hg
  try clear c_q f_q l_q
  have c_q := fun (o : Nat) => Hq_13.out.cell o
  have f_q := fun (o : Nat) => Hq_13.out.frz o
  have l_q := Hq_13.out.lt
  go_wp2_with fail
  refine (pick_c w.heap.size (w.heap.size + 1) (8) _ _ HR13.out (by omega) (by omega) (by omega)).mono ?_
  rintro e w5 ⟨x3, rfl, hp, hR, hg⟩
  have hx3 := pk_bd hp 7 (by omega) (by omega)
  clear hp
  have HR14 := hid hR
  have HG14 := hid (grown_trans HG13.out hg)
  have Hq_14 := hid (Hq_13.out.grown hg (fun e => by injection e with e; omega))
  have Of_14 := hid (Of_13.out.kept hg (own_na Of_13.out (by omega)))
  have hs14 := hg.size
  (try simp only [World.size_alloc, World.size_setCell] at hs14)
  clear hR hg
  try clear c_q f_q l_q
  have c_q := fun (o : Nat) => Hq_14.out.cell o
  have f_q := fun (o : Nat) => Hq_14.out.frz o
  have l_q := Hq_14.out.lt
  have ZL := hid (lit_row (w5) (w5.heap.size) (by simp) #[.int .i64 (1 + x3), .int .i64 4, .int .i64 0, .int .i64 10] [1 + x3, 4, 0, 10] 4 rfl rfl (by simp [maxLen]))
  have HR15 := hid (HR14.out.alloc (.cells #[.int .i64 (1 + x3), .int .i64 4, .int .i64 0, .int .i64 10] 3))
  have HG15 := hid (gr_alloc HG14.out (.cells #[.int .i64 (1 + x3), .int .i64 4, .int .i64 0, .int .i64 10] 3))
  have Hq_15 := hid (Hq_14.out.alloc (.cells #[.int .i64 (1 + x3), .int .i64 4, .int .i64 0, .int .i64 10] 3))
  have Of_15 := hid (Of_14.out.alloc (.cells #[.int .i64 (1 + x3), .int .i64 4, .int .i64 0, .int .i64 10] 3))
  go_wp2_with fail
  refine (one_c w.heap.size (w.heap.size + 1) _ [1 + x3, 4, 0, 10] _ _ HR15.out ZL.out (by simp [Value.ownBlock]; omega) (by simp) (by simp) (by omega)).mono ?_
  rintro e w6 ⟨x4, rfl, hp, hR, hg⟩
  have hx4 : 0 ≤ x4 ∧ x4 ≤ 300 := by simp at hp; omega
  clear hp ZL
  have HR16 := hid hR
  have HG16 := hid (grown_trans HG15.out hg)
  have Hq_16 := hid (Hq_15.out.grown hg (fun e => by injection e with e; omega))
  have Of_16 := hid (Of_15.out.kept hg (own_na Of_15.out (by omega)))
  have hs16 := hg.size
  (try simp only [World.size_alloc, World.size_setCell] at hs16)
  clear hR hg
  try clear c_q f_q l_q
  have c_q := fun (o : Nat) => Hq_16.out.cell o
  have f_q := fun (o : Nat) => Hq_16.out.frz o
  have l_q := Hq_16.out.lt
  have HB3 := hid (below_gr HB2.out HG16.out (by omega) (by omega))
  go_wp2
  refine bodyPost_ret (v := .tuple #[.agg #[.int .i64 s.l, .int .i64 s.w, .int .i64 s.h, .slice s.ka s.kn s.kc], .int .i64 x2, .int .i64 x4]) (by simp [results, Try.results40, go_sem, c_q]) rfl ⟨q, s, x2, x4, rfl, by omega, by omega, HS.out, HT.out, own_res4 Of_16.out (by omega) _ _ _ _ (by omega), ?_⟩
  exact ((((HB3.out.setCell (by simp) _).setCell (by simp) _).setCell (by simp) _).setCell (by simp) _)

end Go.Proofs.Ytpicbkakghojnaa
