/-
  Contracts: boxes drawn by the generators of the reference (written by a program of mine).
-/
import Derived.Test.YtafcohmneeabbaaRead
import Derived.Test.YtafcohmneeabbaaBox
namespace Go.Proofs.Ytafcohmneeabbaa
set_option linter.unusedSimpArgs false
set_option linter.unusedVariables false
open Go.RowKit

theorem pk_bd {n x : Int} (h : Pk n x) (b : Int) (hb : n ≤ b + 1) (h0 : 0 ≤ b) : 0 ≤ x ∧ x ≤ b := by
  obtain ⟨h1, h2⟩ := h; omega
theorem own_na {α : Type} {E : Enc α} {e : TypeId} {base a : Nat} {w : World} {v : Value} {L : List α} (h : Own E e base w v L) (ha : a < base) : v.ownBlock = none ∨ v.ownBlock ≠ some a := by
  cases hv : v.ownBlock with
  | none => exact .inl rfl
  | some k => exact .inr (fun e => by injection e with e; have := (h.lt k hv).1; omega)
/-- What a call answers that draws a box. -/
def BoxOut (B a : Nat) (m : Int) (Q : Bx → Prop) (w : World) (e : Ending) (w' : World) : Prop := ∃ b : Bx, e = .returned (.agg #[.int .i64 b.x, .int .i64 b.y, .int .i64 b.w, .int .i64 b.h]) ∧ Q b ∧ Rd B w' a m ∧ w.grownBy w' (some a)
def smB (b : Bx) : Prop := (0 ≤ b.x ∧ b.x ≤ 1000) ∧ (0 ≤ b.y ∧ b.y ≤ 1000) ∧ (1 ≤ b.w ∧ b.w ≤ 1001) ∧ (1 ≤ b.h ∧ b.h ≤ 1001)

set_option maxHeartbeats 3200000 in
set_option maxRecDepth 100000 in
theorem someBox_c (B a : Nat) (sw sh m : Int) (w : World) (h : Rd B w a m) (hm : m ≤ 900000) (hw0 : -1 ≤ sw) (hw1 : sw ≤ 1000) (hh0 : -1 ≤ sh) (hh1 : sh ≤ 1000) : Calls Try.prog 64 #[.pointer (some ⟨a, 0, none⟩), .int .i64 sw, .int .i64 sh] w (BoxOut B a (m + 4) smB w) := by
  have HR0 := hid h
  have HG0 := hid (World.grownBy.refl w (some a))
  have hla := h.lt
  have hlo := h.lo
  clear h
  go_enter Try.func64, Try.ntmps64
  have HR1 := hid (HR0.out.alloc (.cells #[.int .i64 0, .int .i64 0, .int .i64 0, .int .i64 0] 53))
  have HG1 := hid (gr_alloc HG0.out (.cells #[.int .i64 0, .int .i64 0, .int .i64 0, .int .i64 0] 53))
  have HQ_1 := hid (show Blk (w.alloc (.cells #[.int .i64 0, .int .i64 0, .int .i64 0, .int .i64 0] 53)) (w.heap.size) #[.int .i64 0, .int .i64 0, .int .i64 0, .int .i64 0] 53 by have := Blk.new w #[.int .i64 0, .int .i64 0, .int .i64 0, .int .i64 0] 53; simpa using this)
  go_wp2_with fail
  refine (pick_c B a (sw) _ _ HR1.out (by omega) (by omega) (by omega)).mono ?_
  rintro e w1 ⟨x1, rfl, hp, hR, hg⟩
  have hx1 := pk_bd hp 1000 (by omega) (by omega)
  clear hp
  have HR2 := hid hR
  have HG2 := hid (grown_trans HG1.out hg)
  have HQ_2 := hid (HQ_1.out.grown hg (fun e => by injection e with e; omega))
  have hs2 := hg.size
  (try simp only [World.size_alloc, World.size_setCell] at hs2)
  clear hR hg
  try clear c_Q f_Q l_Q
  have c_Q := fun (o : Nat) => HQ_2.out.cell o
  have f_Q := fun (o : Nat) => HQ_2.out.frz o
  have l_Q := HQ_2.out.lt
  go_wp2_with fail
  refine (pick_c B a (sh) _ _ HR2.out (by omega) (by omega) (by omega)).mono ?_
  rintro e w2 ⟨x2, rfl, hp, hR, hg⟩
  have hx2 := pk_bd hp 1000 (by omega) (by omega)
  clear hp
  have HR3 := hid hR
  have HG3 := hid (grown_trans HG2.out hg)
  have HQ_3 := hid (HQ_2.out.grown hg (fun e => by injection e with e; omega))
  have hs3 := hg.size
  (try simp only [World.size_alloc, World.size_setCell] at hs3)
  clear hR hg
  try clear c_Q f_Q l_Q
  have c_Q := fun (o : Nat) => HQ_3.out.cell o
  have f_Q := fun (o : Nat) => HQ_3.out.frz o
  have l_Q := HQ_3.out.lt
  have HR4 := hid (HR3.out.alloc (.cells #[.int .i64 0, .int .i64 0, .int .i64 (1 + x1), .int .i64 (1 + x2)] 53))
  have HG4 := hid (gr_alloc HG3.out (.cells #[.int .i64 0, .int .i64 0, .int .i64 (1 + x1), .int .i64 (1 + x2)] 53))
  have HQ_4 := hid (HQ_3.out.alloc (.cells #[.int .i64 0, .int .i64 0, .int .i64 (1 + x1), .int .i64 (1 + x2)] 53))
  have Hb_4 := hid (show Blk (w2.alloc (.cells #[.int .i64 0, .int .i64 0, .int .i64 (1 + x1), .int .i64 (1 + x2)] 53)) (w2.heap.size) #[.int .i64 0, .int .i64 0, .int .i64 (1 + x1), .int .i64 (1 + x2)] 53 by have := Blk.new w2 #[.int .i64 0, .int .i64 0, .int .i64 (1 + x1), .int .i64 (1 + x2)] 53; simpa using this)
  go_wp2_with fail
  refine (pick_c B a (sw - (1 + x1) + 1) _ _ HR4.out (by omega) (by omega) (by omega)).mono ?_
  rintro e w3 ⟨x3, rfl, hp, hR, hg⟩
  have hx3 := pk_bd hp 1000 (by omega) (by omega)
  clear hp
  have HR5 := hid hR
  have HG5 := hid (grown_trans HG4.out hg)
  have HQ_5 := hid (HQ_4.out.grown hg (fun e => by injection e with e; omega))
  have Hb_5 := hid (Hb_4.out.grown hg (fun e => by injection e with e; omega))
  have hs5 := hg.size
  (try simp only [World.size_alloc, World.size_setCell] at hs5)
  clear hR hg
  try clear c_Q f_Q l_Q
  have c_Q := fun (o : Nat) => HQ_5.out.cell o
  have f_Q := fun (o : Nat) => HQ_5.out.frz o
  have l_Q := HQ_5.out.lt
  try clear c_b f_b l_b
  have c_b := fun (o : Nat) => Hb_5.out.cell o
  have f_b := fun (o : Nat) => Hb_5.out.frz o
  have l_b := Hb_5.out.lt
  have HR6 := hid (HR5.out.set (q := w2.heap.size) (by omega) (by omega) 0 (.int .i64 x3))
  have HG6 := hid (gr_set (q := w2.heap.size) HG5.out (by omega) 0 (.int .i64 x3))
  have HQ_6 := hid (HQ_5.out.setO (p := ⟨w2.heap.size, 0, none⟩) (by simp; omega) (.int .i64 x3))
  have Hb_6 := hid (Hb_5.out.set 0 (.int .i64 x3))
  have Hb_6n := hid (show Blk _ (w2.heap.size) #[.int .i64 x3, .int .i64 0, .int .i64 (1 + x1), .int .i64 (1 + x2)] 53 by have := Hb_6.out; simpa using this)
  go_wp2_with fail
  refine (pick_c B a (sh - (1 + x2) + 1) _ _ HR6.out (by omega) (by omega) (by omega)).mono ?_
  rintro e w4 ⟨x4, rfl, hp, hR, hg⟩
  have hx4 := pk_bd hp 1000 (by omega) (by omega)
  clear hp
  have HR7 := hid hR
  have HG7 := hid (grown_trans HG6.out hg)
  have HQ_7 := hid (HQ_6.out.grown hg (fun e => by injection e with e; omega))
  have Hb_7 := hid (Hb_6n.out.grown hg (fun e => by injection e with e; omega))
  have hs7 := hg.size
  (try simp only [World.size_alloc, World.size_setCell] at hs7)
  clear hR hg
  try clear c_Q f_Q l_Q
  have c_Q := fun (o : Nat) => HQ_7.out.cell o
  have f_Q := fun (o : Nat) => HQ_7.out.frz o
  have l_Q := HQ_7.out.lt
  try clear c_b f_b l_b
  have c_b := fun (o : Nat) => Hb_7.out.cell o
  have f_b := fun (o : Nat) => Hb_7.out.frz o
  have l_b := Hb_7.out.lt
  have HR8 := hid (HR7.out.set (q := w2.heap.size) (by omega) (by omega) 1 (.int .i64 x4))
  have HG8 := hid (gr_set (q := w2.heap.size) HG7.out (by omega) 1 (.int .i64 x4))
  have HQ_8 := hid (HQ_7.out.setO (p := ⟨w2.heap.size, 1, none⟩) (by simp; omega) (.int .i64 x4))
  have Hb_8 := hid (Hb_7.out.set 1 (.int .i64 x4))
  have Hb_8n := hid (show Blk _ (w2.heap.size) #[.int .i64 x3, .int .i64 x4, .int .i64 (1 + x1), .int .i64 (1 + x2)] 53 by have := Hb_8.out; simpa using this)
  go_wp2
  have HR9 := hid (HR8.out.set (q := w.heap.size) (by omega) (by omega) 0 (.int .i64 x3))
  have HG9 := hid (gr_set (q := w.heap.size) HG8.out (by omega) 0 (.int .i64 x3))
  have HQ_9 := hid (HQ_8.out.set 0 (.int .i64 x3))
  have Hb_9 := hid (Hb_8n.out.setO (p := ⟨w.heap.size, 0, none⟩) (by simp; omega) (.int .i64 x3))
  have HQ_9n := hid (show Blk _ (w.heap.size) #[.int .i64 x3, .int .i64 0, .int .i64 0, .int .i64 0] 53 by have := HQ_9.out; simpa using this)
  have HR10 := hid (HR9.out.set (q := w.heap.size) (by omega) (by omega) 1 (.int .i64 x4))
  have HG10 := hid (gr_set (q := w.heap.size) HG9.out (by omega) 1 (.int .i64 x4))
  have HQ_10 := hid (HQ_9n.out.set 1 (.int .i64 x4))
  have Hb_10 := hid (Hb_9.out.setO (p := ⟨w.heap.size, 1, none⟩) (by simp; omega) (.int .i64 x4))
  have HQ_10n := hid (show Blk _ (w.heap.size) #[.int .i64 x3, .int .i64 x4, .int .i64 0, .int .i64 0] 53 by have := HQ_10.out; simpa using this)
  have HR11 := hid (HR10.out.set (q := w.heap.size) (by omega) (by omega) 2 (.int .i64 (1 + x1)))
  have HG11 := hid (gr_set (q := w.heap.size) HG10.out (by omega) 2 (.int .i64 (1 + x1)))
  have HQ_11 := hid (HQ_10n.out.set 2 (.int .i64 (1 + x1)))
  have Hb_11 := hid (Hb_10.out.setO (p := ⟨w.heap.size, 2, none⟩) (by simp; omega) (.int .i64 (1 + x1)))
  have HQ_11n := hid (show Blk _ (w.heap.size) #[.int .i64 x3, .int .i64 x4, .int .i64 (1 + x1), .int .i64 0] 53 by have := HQ_11.out; simpa using this)
  have HR12 := hid (HR11.out.set (q := w.heap.size) (by omega) (by omega) 3 (.int .i64 (1 + x2)))
  have HG12 := hid (gr_set (q := w.heap.size) HG11.out (by omega) 3 (.int .i64 (1 + x2)))
  have HQ_12 := hid (HQ_11n.out.set 3 (.int .i64 (1 + x2)))
  have Hb_12 := hid (Hb_11.out.setO (p := ⟨w.heap.size, 3, none⟩) (by simp; omega) (.int .i64 (1 + x2)))
  have HQ_12n := hid (show Blk _ (w.heap.size) #[.int .i64 x3, .int .i64 x4, .int .i64 (1 + x1), .int .i64 (1 + x2)] 53 by have := HQ_12.out; simpa using this)
  refine bodyPost_ret (v := .agg #[.int .i64 x3, .int .i64 x4, .int .i64 (1 + x1), .int .i64 (1 + x2)]) (by simp [results, Try.results64, go_sem, c_Q]) rfl ⟨⟨x3, x4, 1 + x1, 1 + x2⟩, rfl, by unfold smB; simp only; omega, HR12.out.up (by omega), HG12.out⟩

/-- Sides and places are small numbers. -/
def tB (b : Bx) : Prop := (-2000 ≤ b.x ∧ b.x ≤ 2000) ∧ (-2000 ≤ b.y ∧ b.y ≤ 2000) ∧ (-2000 ≤ b.w ∧ b.w ≤ 2000) ∧ (-2000 ≤ b.h ∧ b.h ≤ 2000)

set_option maxHeartbeats 3200000 in
set_option maxRecDepth 100000 in
theorem anyBox_c (B a : Nat) (m : Int) (w : World) (h : Rd B w a m) (hm : m ≤ 800000) : Calls Try.prog 65 #[.pointer (some ⟨a, 0, none⟩)] w (BoxOut B a (m + 8) tB w) := by
  have HR0 := hid h
  have HG0 := hid (World.grownBy.refl w (some a))
  have hla := h.lt
  have hlo := h.lo
  clear h
  go_enter Try.func65, Try.ntmps65
  have HR1 := hid (HR0.out.alloc (.cells #[.int .i64 0, .int .i64 0, .int .i64 0, .int .i64 0] 53))
  have HG1 := hid (gr_alloc HG0.out (.cells #[.int .i64 0, .int .i64 0, .int .i64 0, .int .i64 0] 53))
  have HQ_1 := hid (show Blk (w.alloc (.cells #[.int .i64 0, .int .i64 0, .int .i64 0, .int .i64 0] 53)) (w.heap.size) #[.int .i64 0, .int .i64 0, .int .i64 0, .int .i64 0] 53 by have := Blk.new w #[.int .i64 0, .int .i64 0, .int .i64 0, .int .i64 0] 53; simpa using this)
  have ZL := hid (lit_row (w.alloc (.cells #[.int .i64 0, .int .i64 0, .int .i64 0, .int .i64 0] 53)) (w.heap.size + 1) (by simp) #[.int .i64 10, .int .i64 20, .int .i64 6, .int .i64 200] [10, 20, 6, 200] 4 rfl rfl (by simp [maxLen]))
  have HR2 := hid (HR1.out.alloc (.cells #[.int .i64 10, .int .i64 20, .int .i64 6, .int .i64 200] 3))
  have HG2 := hid (gr_alloc HG1.out (.cells #[.int .i64 10, .int .i64 20, .int .i64 6, .int .i64 200] 3))
  have HQ_2 := hid (HQ_1.out.alloc (.cells #[.int .i64 10, .int .i64 20, .int .i64 6, .int .i64 200] 3))
  go_wp2_with fail
  refine (one_c B a _ [10, 20, 6, 200] _ _ HR2.out ZL.out (by simp [Value.ownBlock]; omega) (by simp) (by simp) (by omega)).mono ?_
  rintro e w1 ⟨x1, rfl, hp, hR, hg⟩
  have hx1 : 6 ≤ x1 ∧ x1 ≤ 200 := by simp at hp; omega
  clear hp ZL
  have HR3 := hid hR
  have HG3 := hid (grown_trans HG2.out hg)
  have HQ_3 := hid (HQ_2.out.grown hg (fun e => by injection e with e; omega))
  have hs3 := hg.size
  (try simp only [World.size_alloc, World.size_setCell] at hs3)
  clear hR hg
  try clear c_Q f_Q l_Q
  have c_Q := fun (o : Nat) => HQ_3.out.cell o
  have f_Q := fun (o : Nat) => HQ_3.out.frz o
  have l_Q := HQ_3.out.lt
  have ZL := hid (lit_row (w1) (w1.heap.size) (by simp) #[.int .i64 10, .int .i64 20, .int .i64 6, .int .i64 200] [10, 20, 6, 200] 4 rfl rfl (by simp [maxLen]))
  have HR4 := hid (HR3.out.alloc (.cells #[.int .i64 10, .int .i64 20, .int .i64 6, .int .i64 200] 3))
  have HG4 := hid (gr_alloc HG3.out (.cells #[.int .i64 10, .int .i64 20, .int .i64 6, .int .i64 200] 3))
  have HQ_4 := hid (HQ_3.out.alloc (.cells #[.int .i64 10, .int .i64 20, .int .i64 6, .int .i64 200] 3))
  go_wp2_with fail
  refine (one_c B a _ [10, 20, 6, 200] _ _ HR4.out ZL.out (by simp [Value.ownBlock]; omega) (by simp) (by simp) (by omega)).mono ?_
  rintro e w2 ⟨x2, rfl, hp, hR, hg⟩
  have hx2 : 6 ≤ x2 ∧ x2 ≤ 200 := by simp at hp; omega
  clear hp ZL
  have HR5 := hid hR
  have HG5 := hid (grown_trans HG4.out hg)
  have HQ_5 := hid (HQ_4.out.grown hg (fun e => by injection e with e; omega))
  have hs5 := hg.size
  (try simp only [World.size_alloc, World.size_setCell] at hs5)
  clear hR hg
  try clear c_Q f_Q l_Q
  have c_Q := fun (o : Nat) => HQ_5.out.cell o
  have f_Q := fun (o : Nat) => HQ_5.out.frz o
  have l_Q := HQ_5.out.lt
  go_wp2_with fail
  refine (someBox_c B a x1 x2 _ _ HR5.out (by omega) (by omega) (by omega) (by omega) (by omega)).mono ?_
  rintro e w3 ⟨b1, rfl, hq, hR, hg⟩
  obtain ⟨⟨q1, q2⟩, ⟨q3, q4⟩, ⟨q5, q6⟩, q7, q8⟩ := hq
  have HR6 := hid hR
  have HG6 := hid (grown_trans HG5.out hg)
  have HQ_6 := hid (HQ_5.out.grown hg (fun e => by injection e with e; omega))
  have hs6 := hg.size
  (try simp only [World.size_alloc, World.size_setCell] at hs6)
  clear hR hg
  try clear c_Q f_Q l_Q
  have c_Q := fun (o : Nat) => HQ_6.out.cell o
  have f_Q := fun (o : Nat) => HQ_6.out.frz o
  have l_Q := HQ_6.out.lt
  have HR7 := hid (HR6.out.alloc (.cells #[.int .i64 b1.x, .int .i64 b1.y, .int .i64 b1.w, .int .i64 b1.h] 53))
  have HG7 := hid (gr_alloc HG6.out (.cells #[.int .i64 b1.x, .int .i64 b1.y, .int .i64 b1.w, .int .i64 b1.h] 53))
  have HQ_7 := hid (HQ_6.out.alloc (.cells #[.int .i64 b1.x, .int .i64 b1.y, .int .i64 b1.w, .int .i64 b1.h] 53))
  have Hb_7 := hid (show Blk (w3.alloc (.cells #[.int .i64 b1.x, .int .i64 b1.y, .int .i64 b1.w, .int .i64 b1.h] 53)) (w3.heap.size) #[.int .i64 b1.x, .int .i64 b1.y, .int .i64 b1.w, .int .i64 b1.h] 53 by have := Blk.new w3 #[.int .i64 b1.x, .int .i64 b1.y, .int .i64 b1.w, .int .i64 b1.h] 53; simpa using this)
  go_wp2_with fail
  refine (pick_c B a (16) _ _ HR7.out (by omega) (by omega) (by omega)).mono ?_
  rintro e w4 ⟨x3, rfl, hp, hR, hg⟩
  have hx3 := pk_bd hp 1000 (by omega) (by omega)
  clear hp
  have HR8 := hid hR
  have HG8 := hid (grown_trans HG7.out hg)
  have HQ_8 := hid (HQ_7.out.grown hg (fun e => by injection e with e; omega))
  have Hb_8 := hid (Hb_7.out.grown hg (fun e => by injection e with e; omega))
  have hs8 := hg.size
  (try simp only [World.size_alloc, World.size_setCell] at hs8)
  clear hR hg
  try clear c_Q f_Q l_Q
  have c_Q := fun (o : Nat) => HQ_8.out.cell o
  have f_Q := fun (o : Nat) => HQ_8.out.frz o
  have l_Q := HQ_8.out.lt
  try clear c_b f_b l_b
  have c_b := fun (o : Nat) => Hb_8.out.cell o
  have f_b := fun (o : Nat) => Hb_8.out.frz o
  have l_b := Hb_8.out.lt
  have hcase : ((x3 == 0) = true) ∨ ((x3 == 0) = false ∧ (x3 == 1) = true) ∨ ((x3 == 0) = false ∧ (x3 == 1) = false) := by simp only [beq_iff_eq, beq_eq_false_iff_ne]; omega
  rcases hcase with e0 | ⟨e0, e1⟩ | ⟨e0, e1⟩
  · have ZL := hid (lit_row (w4) (w4.heap.size) (by simp) #[.int .i64 0, .int .i64 201, .int .i64 (-1)] [0, 201, -1] 3 rfl rfl (by simp [maxLen]))
    have HR9 := hid (HR8.out.alloc (.cells #[.int .i64 0, .int .i64 201, .int .i64 (-1)] 3))
    have HG9 := hid (gr_alloc HG8.out (.cells #[.int .i64 0, .int .i64 201, .int .i64 (-1)] 3))
    have HQ_9 := hid (HQ_8.out.alloc (.cells #[.int .i64 0, .int .i64 201, .int .i64 (-1)] 3))
    have Hb_9 := hid (Hb_8.out.alloc (.cells #[.int .i64 0, .int .i64 201, .int .i64 (-1)] 3))
    go_wp2_with fail
    refine (one_c B a _ [0, 201, -1] _ _ HR9.out ZL.out (by simp [Value.ownBlock]; omega) (by simp) (by simp) (by omega)).mono ?_
    rintro e w5 ⟨x4, rfl, hp, hR, hg⟩
    have hx4 : -1 ≤ x4 ∧ x4 ≤ 201 := by simp at hp; omega
    clear hp ZL
    have HR10 := hid hR
    have HG10 := hid (grown_trans HG9.out hg)
    have HQ_10 := hid (HQ_9.out.grown hg (fun e => by injection e with e; omega))
    have Hb_10 := hid (Hb_9.out.grown hg (fun e => by injection e with e; omega))
    have hs10 := hg.size
    (try simp only [World.size_alloc, World.size_setCell] at hs10)
    clear hR hg
    try clear c_Q f_Q l_Q
    have c_Q := fun (o : Nat) => HQ_10.out.cell o
    have f_Q := fun (o : Nat) => HQ_10.out.frz o
    have l_Q := HQ_10.out.lt
    try clear c_b f_b l_b
    have c_b := fun (o : Nat) => Hb_10.out.cell o
    have f_b := fun (o : Nat) => Hb_10.out.frz o
    have l_b := Hb_10.out.lt
    have HR11 := hid (HR10.out.set (q := w3.heap.size) (by omega) (by omega) 2 (.int .i64 x4))
    have HG11 := hid (gr_set (q := w3.heap.size) HG10.out (by omega) 2 (.int .i64 x4))
    have HQ_11 := hid (HQ_10.out.setO (p := ⟨w3.heap.size, 2, none⟩) (by simp; omega) (.int .i64 x4))
    have Hb_11 := hid (Hb_10.out.set 2 (.int .i64 x4))
    have Hb_11n := hid (show Blk _ (w3.heap.size) #[.int .i64 b1.x, .int .i64 b1.y, .int .i64 x4, .int .i64 b1.h] 53 by have := Hb_11.out; simpa using this)
    go_wp2
    have HR12 := hid (HR11.out.set (q := w.heap.size) (by omega) (by omega) 0 (.int .i64 b1.x))
    have HG12 := hid (gr_set (q := w.heap.size) HG11.out (by omega) 0 (.int .i64 b1.x))
    have HQ_12 := hid (HQ_11.out.set 0 (.int .i64 b1.x))
    have Hb_12 := hid (Hb_11n.out.setO (p := ⟨w.heap.size, 0, none⟩) (by simp; omega) (.int .i64 b1.x))
    have HQ_12n := hid (show Blk _ (w.heap.size) #[.int .i64 b1.x, .int .i64 0, .int .i64 0, .int .i64 0] 53 by have := HQ_12.out; simpa using this)
    have HR13 := hid (HR12.out.set (q := w.heap.size) (by omega) (by omega) 1 (.int .i64 b1.y))
    have HG13 := hid (gr_set (q := w.heap.size) HG12.out (by omega) 1 (.int .i64 b1.y))
    have HQ_13 := hid (HQ_12n.out.set 1 (.int .i64 b1.y))
    have Hb_13 := hid (Hb_12.out.setO (p := ⟨w.heap.size, 1, none⟩) (by simp; omega) (.int .i64 b1.y))
    have HQ_13n := hid (show Blk _ (w.heap.size) #[.int .i64 b1.x, .int .i64 b1.y, .int .i64 0, .int .i64 0] 53 by have := HQ_13.out; simpa using this)
    have HR14 := hid (HR13.out.set (q := w.heap.size) (by omega) (by omega) 2 (.int .i64 x4))
    have HG14 := hid (gr_set (q := w.heap.size) HG13.out (by omega) 2 (.int .i64 x4))
    have HQ_14 := hid (HQ_13n.out.set 2 (.int .i64 x4))
    have Hb_14 := hid (Hb_13.out.setO (p := ⟨w.heap.size, 2, none⟩) (by simp; omega) (.int .i64 x4))
    have HQ_14n := hid (show Blk _ (w.heap.size) #[.int .i64 b1.x, .int .i64 b1.y, .int .i64 x4, .int .i64 0] 53 by have := HQ_14.out; simpa using this)
    have HR15 := hid (HR14.out.set (q := w.heap.size) (by omega) (by omega) 3 (.int .i64 b1.h))
    have HG15 := hid (gr_set (q := w.heap.size) HG14.out (by omega) 3 (.int .i64 b1.h))
    have HQ_15 := hid (HQ_14n.out.set 3 (.int .i64 b1.h))
    have Hb_15 := hid (Hb_14.out.setO (p := ⟨w.heap.size, 3, none⟩) (by simp; omega) (.int .i64 b1.h))
    have HQ_15n := hid (show Blk _ (w.heap.size) #[.int .i64 b1.x, .int .i64 b1.y, .int .i64 x4, .int .i64 b1.h] 53 by have := HQ_15.out; simpa using this)
    refine bodyPost_ret (v := .agg #[.int .i64 b1.x, .int .i64 b1.y, .int .i64 x4, .int .i64 b1.h]) (by simp [results, Try.results65, go_sem, c_Q]) rfl ⟨⟨b1.x, b1.y, x4, b1.h⟩, rfl, by unfold tB; simp only; omega, HR15.out.up (by omega), HG15.out⟩
  · have ZL := hid (lit_row (w4) (w4.heap.size) (by simp) #[.int .i64 (-1), .int .i64 200] [-1, 200] 2 rfl rfl (by simp [maxLen]))
    have HR9 := hid (HR8.out.alloc (.cells #[.int .i64 (-1), .int .i64 200] 3))
    have HG9 := hid (gr_alloc HG8.out (.cells #[.int .i64 (-1), .int .i64 200] 3))
    have HQ_9 := hid (HQ_8.out.alloc (.cells #[.int .i64 (-1), .int .i64 200] 3))
    have Hb_9 := hid (Hb_8.out.alloc (.cells #[.int .i64 (-1), .int .i64 200] 3))
    go_wp2_with fail
    refine (one_c B a _ [-1, 200] _ _ HR9.out ZL.out (by simp [Value.ownBlock]; omega) (by simp) (by simp) (by omega)).mono ?_
    rintro e w5 ⟨x4, rfl, hp, hR, hg⟩
    have hx4 : -1 ≤ x4 ∧ x4 ≤ 200 := by simp at hp; omega
    clear hp ZL
    have HR10 := hid hR
    have HG10 := hid (grown_trans HG9.out hg)
    have HQ_10 := hid (HQ_9.out.grown hg (fun e => by injection e with e; omega))
    have Hb_10 := hid (Hb_9.out.grown hg (fun e => by injection e with e; omega))
    have hs10 := hg.size
    (try simp only [World.size_alloc, World.size_setCell] at hs10)
    clear hR hg
    try clear c_Q f_Q l_Q
    have c_Q := fun (o : Nat) => HQ_10.out.cell o
    have f_Q := fun (o : Nat) => HQ_10.out.frz o
    have l_Q := HQ_10.out.lt
    try clear c_b f_b l_b
    have c_b := fun (o : Nat) => Hb_10.out.cell o
    have f_b := fun (o : Nat) => Hb_10.out.frz o
    have l_b := Hb_10.out.lt
    have HR11 := hid (HR10.out.set (q := w3.heap.size) (by omega) (by omega) 0 (.int .i64 x4))
    have HG11 := hid (gr_set (q := w3.heap.size) HG10.out (by omega) 0 (.int .i64 x4))
    have HQ_11 := hid (HQ_10.out.setO (p := ⟨w3.heap.size, 0, none⟩) (by simp; omega) (.int .i64 x4))
    have Hb_11 := hid (Hb_10.out.set 0 (.int .i64 x4))
    have Hb_11n := hid (show Blk _ (w3.heap.size) #[.int .i64 x4, .int .i64 b1.y, .int .i64 b1.w, .int .i64 b1.h] 53 by have := Hb_11.out; simpa using this)
    go_wp2
    have HR12 := hid (HR11.out.set (q := w.heap.size) (by omega) (by omega) 0 (.int .i64 x4))
    have HG12 := hid (gr_set (q := w.heap.size) HG11.out (by omega) 0 (.int .i64 x4))
    have HQ_12 := hid (HQ_11.out.set 0 (.int .i64 x4))
    have Hb_12 := hid (Hb_11n.out.setO (p := ⟨w.heap.size, 0, none⟩) (by simp; omega) (.int .i64 x4))
    have HQ_12n := hid (show Blk _ (w.heap.size) #[.int .i64 x4, .int .i64 0, .int .i64 0, .int .i64 0] 53 by have := HQ_12.out; simpa using this)
    have HR13 := hid (HR12.out.set (q := w.heap.size) (by omega) (by omega) 1 (.int .i64 b1.y))
    have HG13 := hid (gr_set (q := w.heap.size) HG12.out (by omega) 1 (.int .i64 b1.y))
    have HQ_13 := hid (HQ_12n.out.set 1 (.int .i64 b1.y))
    have Hb_13 := hid (Hb_12.out.setO (p := ⟨w.heap.size, 1, none⟩) (by simp; omega) (.int .i64 b1.y))
    have HQ_13n := hid (show Blk _ (w.heap.size) #[.int .i64 x4, .int .i64 b1.y, .int .i64 0, .int .i64 0] 53 by have := HQ_13.out; simpa using this)
    have HR14 := hid (HR13.out.set (q := w.heap.size) (by omega) (by omega) 2 (.int .i64 b1.w))
    have HG14 := hid (gr_set (q := w.heap.size) HG13.out (by omega) 2 (.int .i64 b1.w))
    have HQ_14 := hid (HQ_13n.out.set 2 (.int .i64 b1.w))
    have Hb_14 := hid (Hb_13.out.setO (p := ⟨w.heap.size, 2, none⟩) (by simp; omega) (.int .i64 b1.w))
    have HQ_14n := hid (show Blk _ (w.heap.size) #[.int .i64 x4, .int .i64 b1.y, .int .i64 b1.w, .int .i64 0] 53 by have := HQ_14.out; simpa using this)
    have HR15 := hid (HR14.out.set (q := w.heap.size) (by omega) (by omega) 3 (.int .i64 b1.h))
    have HG15 := hid (gr_set (q := w.heap.size) HG14.out (by omega) 3 (.int .i64 b1.h))
    have HQ_15 := hid (HQ_14n.out.set 3 (.int .i64 b1.h))
    have Hb_15 := hid (Hb_14.out.setO (p := ⟨w.heap.size, 3, none⟩) (by simp; omega) (.int .i64 b1.h))
    have HQ_15n := hid (show Blk _ (w.heap.size) #[.int .i64 x4, .int .i64 b1.y, .int .i64 b1.w, .int .i64 b1.h] 53 by have := HQ_15.out; simpa using this)
    refine bodyPost_ret (v := .agg #[.int .i64 x4, .int .i64 b1.y, .int .i64 b1.w, .int .i64 b1.h]) (by simp [results, Try.results65, go_sem, c_Q]) rfl ⟨⟨x4, b1.y, b1.w, b1.h⟩, rfl, by unfold tB; simp only; omega, HR15.out.up (by omega), HG15.out⟩
  · go_wp2
    have HR9 := hid (HR8.out.set (q := w.heap.size) (by omega) (by omega) 0 (.int .i64 b1.x))
    have HG9 := hid (gr_set (q := w.heap.size) HG8.out (by omega) 0 (.int .i64 b1.x))
    have HQ_9 := hid (HQ_8.out.set 0 (.int .i64 b1.x))
    have Hb_9 := hid (Hb_8.out.setO (p := ⟨w.heap.size, 0, none⟩) (by simp; omega) (.int .i64 b1.x))
    have HQ_9n := hid (show Blk _ (w.heap.size) #[.int .i64 b1.x, .int .i64 0, .int .i64 0, .int .i64 0] 53 by have := HQ_9.out; simpa using this)
    have HR10 := hid (HR9.out.set (q := w.heap.size) (by omega) (by omega) 1 (.int .i64 b1.y))
    have HG10 := hid (gr_set (q := w.heap.size) HG9.out (by omega) 1 (.int .i64 b1.y))
    have HQ_10 := hid (HQ_9n.out.set 1 (.int .i64 b1.y))
    have Hb_10 := hid (Hb_9.out.setO (p := ⟨w.heap.size, 1, none⟩) (by simp; omega) (.int .i64 b1.y))
    have HQ_10n := hid (show Blk _ (w.heap.size) #[.int .i64 b1.x, .int .i64 b1.y, .int .i64 0, .int .i64 0] 53 by have := HQ_10.out; simpa using this)
    have HR11 := hid (HR10.out.set (q := w.heap.size) (by omega) (by omega) 2 (.int .i64 b1.w))
    have HG11 := hid (gr_set (q := w.heap.size) HG10.out (by omega) 2 (.int .i64 b1.w))
    have HQ_11 := hid (HQ_10n.out.set 2 (.int .i64 b1.w))
    have Hb_11 := hid (Hb_10.out.setO (p := ⟨w.heap.size, 2, none⟩) (by simp; omega) (.int .i64 b1.w))
    have HQ_11n := hid (show Blk _ (w.heap.size) #[.int .i64 b1.x, .int .i64 b1.y, .int .i64 b1.w, .int .i64 0] 53 by have := HQ_11.out; simpa using this)
    have HR12 := hid (HR11.out.set (q := w.heap.size) (by omega) (by omega) 3 (.int .i64 b1.h))
    have HG12 := hid (gr_set (q := w.heap.size) HG11.out (by omega) 3 (.int .i64 b1.h))
    have HQ_12 := hid (HQ_11n.out.set 3 (.int .i64 b1.h))
    have Hb_12 := hid (Hb_11.out.setO (p := ⟨w.heap.size, 3, none⟩) (by simp; omega) (.int .i64 b1.h))
    have HQ_12n := hid (show Blk _ (w.heap.size) #[.int .i64 b1.x, .int .i64 b1.y, .int .i64 b1.w, .int .i64 b1.h] 53 by have := HQ_12.out; simpa using this)
    refine bodyPost_ret (v := .agg #[.int .i64 b1.x, .int .i64 b1.y, .int .i64 b1.w, .int .i64 b1.h]) (by simp [results, Try.results65, go_sem, c_Q]) rfl ⟨⟨b1.x, b1.y, b1.w, b1.h⟩, rfl, by unfold tB; simp only; omega, HR12.out.up (by omega), HG12.out⟩

end Go.Proofs.Ytafcohmneeabbaa
