/-
  Contracts: what the generators of the reference draw for laws over pieces and boxes (written by a program of mine).
-/
import Derived.Test.YtpicbkakghojnaaDrDrA
namespace Go.Proofs.Ytpicbkakghojnaa
set_option linter.unusedSimpArgs false
set_option linter.unusedVariables false
open Go.RowKit

/-- Between the draws of a piece and a box. -/
def DrSt (a : Nat) (m : Int) (q5 : Nat) (w : World) (s : Ps) (F : List Bx) (cs2 cs3 : Array Value) (X : World) : Prop :=
  Rd w.heap.size X a m ∧ Below w.heap.size w X ∧ Blk X w.heap.size cs2 31 ∧ Blk X (w.heap.size + 1) cs3 33 ∧ Blk X q5 #[.int .i64 s.l, .int .i64 s.w, .int .i64 s.h, .slice s.ka s.kn s.kc] 31 ∧ Own boxE 33 (w.heap.size + 2) X s.kv F ∧ w.heap.size + 2 ≤ a ∧ w.heap.size + 2 ≤ q5 ∧ q5 ≠ a ∧ s.kv.ownBlock ≠ some a
section
variable {a q5 : Nat} {m m' : Int} {w X X' : World} {s : Ps} {F : List Bx} {cs2 cs3 : Array Value}
theorem DrSt.call (h : DrSt a m q5 w s F cs2 cs3 X) (hR : Rd w.heap.size X' a m') (hg : X.grownBy X' (some a)) : DrSt a m' q5 w s F cs2 cs3 X' := by
  obtain ⟨h1, h2, h3, h4, h5, h6, h7, h8, h9, h10⟩ := h
  exact ⟨hR, below_gr h2 hg (by have := h3.lt; omega) (by omega), h3.grown hg (fun e => by injection e with e; omega), h4.grown hg (fun e => by injection e with e; omega), h5.grown hg (fun e => by injection e with e; omega), h6.kept hg (.inr h10), h7, h8, h9, h10⟩
theorem DrSt.alloc (h : DrSt a m q5 w s F cs2 cs3 X) (o : Obj) : DrSt a m q5 w s F cs2 cs3 (X.alloc o) := by
  obtain ⟨h1, h2, h3, h4, h5, h6, h7⟩ := h
  exact ⟨h1.alloc o, h2.alloc (by have := h3.lt; omega) o, h3.alloc o, h4.alloc o, h5.alloc o, h6.alloc o, h7⟩
theorem DrSt.drew (h : DrSt a m q5 w s F cs2 cs3 X) : DrSt a m q5 w s F cs2 cs3 X.drew := by
  obtain ⟨h1, h2, h3, h4, h5, h6, h7⟩ := h
  exact ⟨h1.draw 1, h2.drew, h3.draw1, h4.draw1, h5.draw1, h6.dr (Dr.refl _).one, h7⟩
theorem DrSt.set2 (h : DrSt a m q5 w s F #[.int .i64 0, .int .i64 0, .int .i64 0, .slice none 0 0] cs3 X) : DrSt a m q5 w s F #[.int .i64 s.l, .int .i64 s.w, .int .i64 s.h, .slice s.ka s.kn s.kc] cs3 ((((X.setCell ⟨w.heap.size, 0, none⟩ (.int .i64 s.l)).setCell ⟨w.heap.size, 1, none⟩ (.int .i64 s.w)).setCell ⟨w.heap.size, 2, none⟩ (.int .i64 s.h)).setCell ⟨w.heap.size, 3, none⟩ (.slice s.ka s.kn s.kc)) := by
  obtain ⟨h1, h2, h3, h4, h5, h6, h7, h8, h9, h10⟩ := h
  have e := (((h3.set 0 (.int .i64 s.l)).set 1 (.int .i64 s.w)).set 2 (.int .i64 s.h)).set 3 (.slice s.ka s.kn s.kc)
  exact ⟨(((h1.set (Nat.le_refl _) (by omega) 0 _).set (Nat.le_refl _) (by omega) 1 _).set (Nat.le_refl _) (by omega) 2 _).set (Nat.le_refl _) (by omega) 3 _,
    (((h2.setCell (Nat.le_refl _) _).setCell (Nat.le_refl _) _).setCell (Nat.le_refl _) _).setCell (Nat.le_refl _) _, by simpa using e,
    (((h4.setO (p := ⟨w.heap.size, 0, none⟩) (by simp) _).setO (p := ⟨w.heap.size, 1, none⟩) (by simp) _).setO (p := ⟨w.heap.size, 2, none⟩) (by simp) _).setO (p := ⟨w.heap.size, 3, none⟩) (by simp) _,
    (((h5.setO (p := ⟨w.heap.size, 0, none⟩) (by simp; omega) _).setO (p := ⟨w.heap.size, 1, none⟩) (by simp; omega) _).setO (p := ⟨w.heap.size, 2, none⟩) (by simp; omega) _).setO (p := ⟨w.heap.size, 3, none⟩) (by simp; omega) _,
    own_res4 h6 (by omega) _ _ _ _ (Nat.le_refl _), h7, h8, h9, h10⟩
theorem DrSt.set3 (h : DrSt a m q5 w s F cs2 #[.int .i64 0, .int .i64 0, .int .i64 0, .int .i64 0] X) (b : Bx) : DrSt a m q5 w s F cs2 #[.int .i64 b.x, .int .i64 b.y, .int .i64 b.w, .int .i64 b.h] ((((X.setCell ⟨w.heap.size + 1, 0, none⟩ (.int .i64 b.x)).setCell ⟨w.heap.size + 1, 1, none⟩ (.int .i64 b.y)).setCell ⟨w.heap.size + 1, 2, none⟩ (.int .i64 b.w)).setCell ⟨w.heap.size + 1, 3, none⟩ (.int .i64 b.h)) := by
  obtain ⟨h1, h2, h3, h4, h5, h6, h7, h8, h9, h10⟩ := h
  have e := (((h4.set 0 (.int .i64 b.x)).set 1 (.int .i64 b.y)).set 2 (.int .i64 b.w)).set 3 (.int .i64 b.h)
  exact ⟨(((h1.set (Nat.le_succ _) (by omega) 0 _).set (Nat.le_succ _) (by omega) 1 _).set (Nat.le_succ _) (by omega) 2 _).set (Nat.le_succ _) (by omega) 3 _,
    (((h2.setCell (Nat.le_succ _) _).setCell (Nat.le_succ _) _).setCell (Nat.le_succ _) _).setCell (Nat.le_succ _) _,
    (((h3.setO (p := ⟨w.heap.size + 1, 0, none⟩) (by simp) _).setO (p := ⟨w.heap.size + 1, 1, none⟩) (by simp) _).setO (p := ⟨w.heap.size + 1, 2, none⟩) (by simp) _).setO (p := ⟨w.heap.size + 1, 3, none⟩) (by simp) _, by simpa using e,
    (((h5.setO (p := ⟨w.heap.size + 1, 0, none⟩) (by simp; omega) _).setO (p := ⟨w.heap.size + 1, 1, none⟩) (by simp; omega) _).setO (p := ⟨w.heap.size + 1, 2, none⟩) (by simp; omega) _).setO (p := ⟨w.heap.size + 1, 3, none⟩) (by simp; omega) _,
    own_res4 h6 (by omega) _ _ _ _ (Nat.le_refl _), h7, h8, h9, h10⟩
theorem lit_row1 {X' wq : World} {a' : Nat} (cs : Array Value) (L : List Int) (n : Nat) (hn : n = L.length) (hcs : cs.toList = intE.flat L) (hm : n ≤ maxLen) (ha : a' < X'.heap.size) (hg : (X'.alloc (.cells cs 3)).drew.grownBy wq (some a')) : Row intE wq (.slice (some ⟨X'.heap.size, 0, none⟩) n n) L := by
  have h := (Own.lit intE X' X'.heap.size 3 cs L n hn hcs (Nat.le_refl _) hm).dr (Dr.refl _).one
  exact (h.kept hg (own_na h ha)).rowB
theorem DrSt.rd (h : DrSt a m q5 w s F cs2 cs3 X) : Rd w.heap.size X a m := h.1
theorem DrSt.pvr {p : Pc} (h : DrSt a m q5 w s p.f cs2 cs3 X) (hs : s.same p) : PvR X.heap.size X p s := ⟨hs, h.2.2.2.2.2.1.rowB⟩
theorem DrSt.keep (h : DrSt a m q5 w s F cs2 cs3 X) (o : Nat) : X.cell? ⟨q5, o, none⟩ = (#[.int .i64 s.l, .int .i64 s.w, .int .i64 s.h, .slice s.ka s.kn s.kc] : Array Value)[o]? := h.2.2.2.2.1.cell o
def DrPB (w : World) (e : Ending) (w' : World) : Prop := ∃ (p : Pc) (s : Ps) (b : Bx), e = .returned (.tuple #[.agg #[.int .i64 s.l, .int .i64 s.w, .int .i64 s.h, .slice s.ka s.kn s.kc], .agg #[.int .i64 b.x, .int .i64 b.y, .int .i64 b.w, .int .i64 b.h]]) ∧ tB b ∧ DrPc1 w.heap.size w w' p s
theorem DrSt.fin {p : Pc} (h : DrSt a m q5 w s p.f cs2 cs3 X) (hs : s.same p) (ht : tP 4 p) : DrPc1 w.heap.size w X p s := ⟨hs, ht, h.2.2.2.2.2.1.base_le (by omega), h.2.1⟩
end

set_option maxHeartbeats 12800000 in
set_option maxRecDepth 100000 in
theorem DrawClearAt_c (v : Value) (L : List Int) (w : World) (h : Row byteE w v L) (hb : ∀ x ∈ L, 0 ≤ x ∧ x ≤ 255) : Calls Try.prog 36 #[v] w (DrPB w) := by
  have HA := hid (((Below.refl w.heap.size w).alloc (Nat.le_refl _) (.cells #[.int .i64 0, .int .i64 0, .int .i64 0, .slice none 0 0] 31)).alloc (by simp) (.cells #[.int .i64 0, .int .i64 0, .int .i64 0, .int .i64 0] 33))
  have HR0 := hid (h.below HA.out)
  have HB := hid hb
  have HQ := hid ((Blk.new w #[.int .i64 0, .int .i64 0, .int .i64 0, .slice none 0 0] 31).alloc (.cells #[.int .i64 0, .int .i64 0, .int .i64 0, .int .i64 0] 33))
  have HQ3 := hid (show Blk ((w.alloc (.cells #[.int .i64 0, .int .i64 0, .int .i64 0, .slice none 0 0] 31)).alloc (.cells #[.int .i64 0, .int .i64 0, .int .i64 0, .int .i64 0] 33)) (w.heap.size + 1) #[.int .i64 0, .int .i64 0, .int .i64 0, .int .i64 0] 33 by
    have := Blk.new (w.alloc (.cells #[.int .i64 0, .int .i64 0, .int .i64 0, .slice none 0 0] 31)) #[.int .i64 0, .int .i64 0, .int .i64 0, .int .i64 0] 33
    rw [World.size_alloc] at this
    exact this)
  clear h hb
  go_enter Try.func36, Try.ntmps36
  go_wp2_with fail
  refine (newReader_c w.heap.size v L _ HR0.out (by simp; omega) HB.out).mono ?_
  rintro e w1 ⟨rfl, hR, hb, hlt⟩
  simp only [World.size_alloc] at hR hlt ⊢
  have HB1 := hid (HA.out.trans (hb.mono (by simp; omega)))
  have HQ1 := hid (HQ.out.go hb)
  have HQ31 := hid (HQ3.out.go hb)
  have HRd := hid hR
  clear hR hb
  go_wp2_with fail
  refine (anyPiece_c w.heap.size (w.heap.size + 1 + 1) 0 _ HRd.out (by omega)).mono ?_
  rintro e w2 ⟨q, s, rfl, hs, hq, ho, hR, hg⟩
  have HS := hid hs
  have HT := hid hq
  have hsz := hg.size
  have ZS0 : Hid (DrSt (w.heap.size + 1 + 1) (0 + 24) w2.heap.size w s q.f #[.int .i64 0, .int .i64 0, .int .i64 0, .slice none 0 0] #[.int .i64 0, .int .i64 0, .int .i64 0, .int .i64 0] (w2.alloc (.cells #[.int .i64 s.l, .int .i64 s.w, .int .i64 s.h, .slice s.ka s.kn s.kc] 31))) :=
    ⟨hR.alloc _, (below_gr HB1.out hg (by omega) (by omega)).alloc (by omega) _, (HQ1.out.grown hg (fun e => by injection e with e; omega)).alloc _, (HQ31.out.grown hg (fun e => by injection e with e; omega)).alloc _, Blk.new _ _ _, (ho.alloc _).base_le (by omega), by omega, by omega, by omega, fun e => by have := (ho.lt _ e).1; omega⟩
  clear hs hq ho hR hg
  go_upto_region 3 with (fail)
  obtain ⟨X, hX⟩ : ∃ X, X = w2.alloc (.cells #[.int .i64 s.l, .int .i64 s.w, .int .i64 s.h, .slice s.ka s.kn s.kc] 31) := ⟨_, rfl⟩
  rw [← hX] at ZS0
  rw [← hX]
  clear hX
  have ZS := hid ZS0.out.drew
  have c_5 := fun (o : Nat) => ZS0.out.keep o
  have l_a := ZS0.out.1.lt
  have l_5 := ZS0.out.2.2.2.2.1.lt
  have c_2 := fun (o : Nat) => ZS0.out.2.2.1.cell o
  have f_2 := fun (o : Nat) => ZS0.out.2.2.1.frz o
  have l_2 := ZS0.out.2.2.1.lt
  have c_3 := fun (o : Nat) => ZS0.out.2.2.2.1.cell o
  have f_3 := fun (o : Nat) => ZS0.out.2.2.2.1.frz o
  have l_3 := ZS0.out.2.2.2.1.lt
  go_region_held3 (fun w' => ∀ o : Nat, w'.cell? ⟨w2.heap.size, o, none⟩ = (#[.int .i64 s.l, .int .i64 s.w, .int .i64 s.h, .slice s.ka s.kn s.kc] : Array Value)[o]?) (first | with_reducible exact fun o => (ZS.out).keep o | with_reducible exact fun o => (ZS0.out).keep o | with_reducible exact fun o => (ZS0.out.set2).keep o | with_reducible exact fun o => (ZS0.out.set2.drew).keep o | with_reducible exact fun o => (ZS.out.set2).keep o | with_reducible exact fun o => (ZS.out.set3 b).keep o | with_reducible exact fun o => ((ZS.out.set2).set3 b).keep o | with_reducible exact fun o => ((ZS.out.set3 b).set2).keep o)
    (first | (go_at_call 72; (first | ((with_reducible refine (boxIn_c w.heap.size (w.heap.size + 1 + 1) q s _ _ ((ZS.out)).rd (by omega) (((ZS.out)).pvr HS.out) (tP_I64 HT.out)).mono ?_); rintro e wq ⟨b, rfl, hqb, hR, hg⟩; replace ZS := hid ((ZS.out).call hR hg); have HQB := hid hqb; clear hqb; (clear hR hg); (try clear c_2 f_2 l_2); (try clear c_3 f_3 l_3); (have c_5 := (fun (o : Nat) => ZS.out.keep o)); (have c_2 := (fun (o : Nat) => ZS.out.2.2.1.cell o)); (have f_2 := (fun (o : Nat) => ZS.out.2.2.1.frz o)); (have l_2 := ZS.out.2.2.1.lt); (have c_3 := (fun (o : Nat) => ZS.out.2.2.2.1.cell o)); (have f_3 := (fun (o : Nat) => ZS.out.2.2.2.1.frz o)); (have l_3 := ZS.out.2.2.2.1.lt)) | ((with_reducible refine (boxIn_c w.heap.size (w.heap.size + 1 + 1) q s _ _ ((ZS.out.set2)).rd (by omega) (((ZS.out.set2)).pvr HS.out) (tP_I64 HT.out)).mono ?_); rintro e wq ⟨b, rfl, hqb, hR, hg⟩; replace ZS := hid ((ZS.out.set2).call hR hg); have HQB := hid hqb; clear hqb; (clear hR hg); (try clear c_2 f_2 l_2); (try clear c_3 f_3 l_3); (have c_5 := (fun (o : Nat) => ZS.out.keep o)); (have c_2 := (fun (o : Nat) => ZS.out.2.2.1.cell o)); (have f_2 := (fun (o : Nat) => ZS.out.2.2.1.frz o)); (have l_2 := ZS.out.2.2.1.lt); (have c_3 := (fun (o : Nat) => ZS.out.2.2.2.1.cell o)); (have f_3 := (fun (o : Nat) => ZS.out.2.2.2.1.frz o)); (have l_3 := ZS.out.2.2.2.1.lt)) | ((with_reducible refine (boxIn_c w.heap.size (w.heap.size + 1 + 1) q s _ _ ((ZS0.out.set2.drew)).rd (by omega) (((ZS0.out.set2.drew)).pvr HS.out) (tP_I64 HT.out)).mono ?_); rintro e wq ⟨b, rfl, hqb, hR, hg⟩; replace ZS := hid ((ZS0.out.set2.drew).call hR hg); have HQB := hid hqb; clear hqb; (clear hR hg); (try clear c_2 f_2 l_2); (try clear c_3 f_3 l_3); (have c_5 := (fun (o : Nat) => ZS.out.keep o)); (have c_2 := (fun (o : Nat) => ZS.out.2.2.1.cell o)); (have f_2 := (fun (o : Nat) => ZS.out.2.2.1.frz o)); (have l_2 := ZS.out.2.2.1.lt); (have c_3 := (fun (o : Nat) => ZS.out.2.2.2.1.cell o)); (have f_3 := (fun (o : Nat) => ZS.out.2.2.2.1.frz o)); (have l_3 := ZS.out.2.2.2.1.lt)))))
  all_goals
    go_wp2
    exact bodyPost_ret (v := .tuple #[.agg #[.int .i64 s.l, .int .i64 s.w, .int .i64 s.h, .slice s.ka s.kn s.kc], .agg #[.int .i64 b.x, .int .i64 b.y, .int .i64 b.w, .int .i64 b.h]]) (by simp [results, Try.results36, go_sem, c_2, c_3]) rfl ⟨q, s, b, rfl, HQB.out, ((ZS.out.set2).set3 b).fin HS.out HT.out⟩

def DrPBL (w : World) (e : Ending) (w' : World) : Prop := ∃ (p : Pc) (s : Ps) (b : Bx) (l : Int), e = .returned (.tuple #[.agg #[.int .i64 s.l, .int .i64 s.w, .int .i64 s.h, .slice s.ka s.kn s.kc], .agg #[.int .i64 b.x, .int .i64 b.y, .int .i64 b.w, .int .i64 b.h], .int .i64 l]) ∧ tB b ∧ (0 ≤ l ∧ l ≤ 10000) ∧ DrPc1 w.heap.size w w' p s

set_option maxHeartbeats 12800000 in
set_option maxRecDepth 100000 in
theorem DrawCutOut_c (v : Value) (L : List Int) (w : World) (h : Row byteE w v L) (hb : ∀ x ∈ L, 0 ≤ x ∧ x ≤ 255) : Calls Try.prog 42 #[v] w (DrPBL w) := by
  have HA := hid (((Below.refl w.heap.size w).alloc (Nat.le_refl _) (.cells #[.int .i64 0, .int .i64 0, .int .i64 0, .slice none 0 0] 31)).alloc (by simp) (.cells #[.int .i64 0, .int .i64 0, .int .i64 0, .int .i64 0] 33))
  have HR0 := hid (h.below HA.out)
  have HB := hid hb
  have HQ := hid ((Blk.new w #[.int .i64 0, .int .i64 0, .int .i64 0, .slice none 0 0] 31).alloc (.cells #[.int .i64 0, .int .i64 0, .int .i64 0, .int .i64 0] 33))
  have HQ3 := hid (show Blk ((w.alloc (.cells #[.int .i64 0, .int .i64 0, .int .i64 0, .slice none 0 0] 31)).alloc (.cells #[.int .i64 0, .int .i64 0, .int .i64 0, .int .i64 0] 33)) (w.heap.size + 1) #[.int .i64 0, .int .i64 0, .int .i64 0, .int .i64 0] 33 by
    have := Blk.new (w.alloc (.cells #[.int .i64 0, .int .i64 0, .int .i64 0, .slice none 0 0] 31)) #[.int .i64 0, .int .i64 0, .int .i64 0, .int .i64 0] 33
    rw [World.size_alloc] at this
    exact this)
  clear h hb
  go_enter Try.func42, Try.ntmps42
  go_wp2_with fail
  refine (newReader_c w.heap.size v L _ HR0.out (by simp; omega) HB.out).mono ?_
  rintro e w1 ⟨rfl, hR, hb, hlt⟩
  simp only [World.size_alloc] at hR hlt ⊢
  have HB1 := hid (HA.out.trans (hb.mono (by simp; omega)))
  have HQ1 := hid (HQ.out.go hb)
  have HQ31 := hid (HQ3.out.go hb)
  have HRd := hid hR
  clear hR hb
  go_wp2_with fail
  refine (anyPiece_c w.heap.size (w.heap.size + 1 + 1) 0 _ HRd.out (by omega)).mono ?_
  rintro e w2 ⟨q, s, rfl, hs, hq, ho, hR, hg⟩
  have HS := hid hs
  have HT := hid hq
  have hsz := hg.size
  have ZS0 : Hid (DrSt (w.heap.size + 1 + 1) (0 + 24) w2.heap.size w s q.f #[.int .i64 0, .int .i64 0, .int .i64 0, .slice none 0 0] #[.int .i64 0, .int .i64 0, .int .i64 0, .int .i64 0] (w2.alloc (.cells #[.int .i64 s.l, .int .i64 s.w, .int .i64 s.h, .slice s.ka s.kn s.kc] 31))) :=
    ⟨hR.alloc _, (below_gr HB1.out hg (by omega) (by omega)).alloc (by omega) _, (HQ1.out.grown hg (fun e => by injection e with e; omega)).alloc _, (HQ31.out.grown hg (fun e => by injection e with e; omega)).alloc _, Blk.new _ _ _, (ho.alloc _).base_le (by omega), by omega, by omega, by omega, fun e => by have := (ho.lt _ e).1; omega⟩
  clear hs hq ho hR hg
  go_upto_region 3 with (fail)
  obtain ⟨X, hX⟩ : ∃ X, X = w2.alloc (.cells #[.int .i64 s.l, .int .i64 s.w, .int .i64 s.h, .slice s.ka s.kn s.kc] 31) := ⟨_, rfl⟩
  rw [← hX] at ZS0
  rw [← hX]
  clear hX
  have ZS := hid ZS0.out.drew
  have c_5 := fun (o : Nat) => ZS0.out.keep o
  have l_a := ZS0.out.1.lt
  have l_5 := ZS0.out.2.2.2.2.1.lt
  have c_2 := fun (o : Nat) => ZS0.out.2.2.1.cell o
  have f_2 := fun (o : Nat) => ZS0.out.2.2.1.frz o
  have l_2 := ZS0.out.2.2.1.lt
  have c_3 := fun (o : Nat) => ZS0.out.2.2.2.1.cell o
  have f_3 := fun (o : Nat) => ZS0.out.2.2.2.1.frz o
  have l_3 := ZS0.out.2.2.2.1.lt
  go_region_held3 (fun w' => ∀ o : Nat, w'.cell? ⟨w2.heap.size, o, none⟩ = (#[.int .i64 s.l, .int .i64 s.w, .int .i64 s.h, .slice s.ka s.kn s.kc] : Array Value)[o]?) (first | with_reducible exact fun o => (ZS.out).keep o | with_reducible exact fun o => (ZS0.out).keep o | with_reducible exact fun o => (ZS0.out.set2).keep o | with_reducible exact fun o => (ZS0.out.set2.drew).keep o | with_reducible exact fun o => ((ZS0.out.alloc _).drew).keep o | with_reducible exact fun o => (ZS.out.set2).keep o | with_reducible exact fun o => (ZS.out.alloc _).keep o | with_reducible exact fun o => (ZS.out.set3 b).keep o | with_reducible exact fun o => ((ZS.out.set2).set3 b).keep o | with_reducible exact fun o => ((ZS.out.set3 b).set2).keep o)
    (first | (go_at_call 72; (first | ((with_reducible refine (boxIn_c w.heap.size (w.heap.size + 1 + 1) q s _ _ ((ZS.out)).rd (by omega) (((ZS.out)).pvr HS.out) (tP_I64 HT.out)).mono ?_); rintro e wq ⟨b, rfl, hqb, hR, hg⟩; replace ZS := hid ((ZS.out).call hR hg); have HQB := hid hqb; clear hqb; (have l_w := ZS.out.rd.lt); (clear hR hg); (try clear c_2 f_2 l_2); (try clear c_3 f_3 l_3); (have c_5 := (fun (o : Nat) => ZS.out.keep o)); (have c_2 := (fun (o : Nat) => ZS.out.2.2.1.cell o)); (have f_2 := (fun (o : Nat) => ZS.out.2.2.1.frz o)); (have l_2 := ZS.out.2.2.1.lt); (have c_3 := (fun (o : Nat) => ZS.out.2.2.2.1.cell o)); (have f_3 := (fun (o : Nat) => ZS.out.2.2.2.1.frz o)); (have l_3 := ZS.out.2.2.2.1.lt)) | ((with_reducible refine (boxIn_c w.heap.size (w.heap.size + 1 + 1) q s _ _ (((ZS0.out.alloc (.cells #[.int .i64 5, .int .i64 1, .int .i64 9999, .int .i64 0, .int .i64 10000] 3)).drew)).rd (by omega) ((((ZS0.out.alloc (.cells #[.int .i64 5, .int .i64 1, .int .i64 9999, .int .i64 0, .int .i64 10000] 3)).drew)).pvr HS.out) (tP_I64 HT.out)).mono ?_); rintro e wq ⟨b, rfl, hqb, hR, hg⟩; replace ZS := hid (((ZS0.out.alloc (.cells #[.int .i64 5, .int .i64 1, .int .i64 9999, .int .i64 0, .int .i64 10000] 3)).drew).call hR hg); have HQB := hid hqb; clear hqb; (have l_w := ZS.out.rd.lt); (have ZL := hid (lit_row1 #[.int .i64 5, .int .i64 1, .int .i64 9999, .int .i64 0, .int .i64 10000] [5, 1, 9999, 0, 10000] 5 rfl rfl (by simp [maxLen]) (by omega) hg)); (clear hR hg); (try clear c_2 f_2 l_2); (try clear c_3 f_3 l_3); (have c_5 := (fun (o : Nat) => ZS.out.keep o)); (have c_2 := (fun (o : Nat) => ZS.out.2.2.1.cell o)); (have f_2 := (fun (o : Nat) => ZS.out.2.2.1.frz o)); (have l_2 := ZS.out.2.2.1.lt); (have c_3 := (fun (o : Nat) => ZS.out.2.2.2.1.cell o)); (have f_3 := (fun (o : Nat) => ZS.out.2.2.2.1.frz o)); (have l_3 := ZS.out.2.2.2.1.lt)))) | (go_at_call 73; (first | ((with_reducible refine (one_c w.heap.size (w.heap.size + 1 + 1) _ [5, 1, 9999, 0, 10000] _ _ (ZS.out.alloc (.cells #[.int .i64 5, .int .i64 1, .int .i64 9999, .int .i64 0, .int .i64 10000] 3)).rd (lit_row wq wq.heap.size rfl #[.int .i64 5, .int .i64 1, .int .i64 9999, .int .i64 0, .int .i64 10000] [5, 1, 9999, 0, 10000] 5 rfl rfl (by simp [maxLen])) (by simp [Value.ownBlock]; omega) (by simp) (by simp) (by omega)).mono ?_); rintro e wq2 ⟨l, rfl, hl, hR, hg⟩; (have hlb : 0 ≤ l ∧ l ≤ 10000 := (by simp at hl; omega)); (clear hl); replace ZS := hid ((ZS.out.alloc (.cells #[.int .i64 5, .int .i64 1, .int .i64 9999, .int .i64 0, .int .i64 10000] 3)).call hR hg); (clear hR hg); (try clear c_2 f_2 l_2); (try clear c_3 f_3 l_3); (have c_5 := (fun (o : Nat) => ZS.out.keep o)); (have c_2 := (fun (o : Nat) => ZS.out.2.2.1.cell o)); (have f_2 := (fun (o : Nat) => ZS.out.2.2.1.frz o)); (have l_2 := ZS.out.2.2.1.lt); (have c_3 := (fun (o : Nat) => ZS.out.2.2.2.1.cell o)); (have f_3 := (fun (o : Nat) => ZS.out.2.2.2.1.frz o)); (have l_3 := ZS.out.2.2.2.1.lt)) | ((with_reducible refine (one_c w.heap.size (w.heap.size + 1 + 1) _ [5, 1, 9999, 0, 10000] _ _ (ZS.out).rd ZL.out (by simp [Value.ownBlock]; omega) (by simp) (by simp) (by omega)).mono ?_); rintro e wq2 ⟨l, rfl, hl, hR, hg⟩; (have hlb : 0 ≤ l ∧ l ≤ 10000 := (by simp at hl; omega)); (clear hl); replace ZS := hid ((ZS.out).call hR hg); (clear hR hg); (try clear c_2 f_2 l_2); (try clear c_3 f_3 l_3); (have c_5 := (fun (o : Nat) => ZS.out.keep o)); (have c_2 := (fun (o : Nat) => ZS.out.2.2.1.cell o)); (have f_2 := (fun (o : Nat) => ZS.out.2.2.1.frz o)); (have l_2 := ZS.out.2.2.1.lt); (have c_3 := (fun (o : Nat) => ZS.out.2.2.2.1.cell o)); (have f_3 := (fun (o : Nat) => ZS.out.2.2.2.1.frz o)); (have l_3 := ZS.out.2.2.2.1.lt)))))
  all_goals
    go_wp2
    exact bodyPost_ret (v := .tuple #[.agg #[.int .i64 s.l, .int .i64 s.w, .int .i64 s.h, .slice s.ka s.kn s.kc], .agg #[.int .i64 b.x, .int .i64 b.y, .int .i64 b.w, .int .i64 b.h], .int .i64 l]) (by simp [results, Try.results42, go_sem, c_2, c_3]) rfl ⟨q, s, b, l, rfl, HQB.out, hlb, ((ZS.out.set2).set3 b).fin HS.out HT.out⟩

end Go.Proofs.Ytpicbkakghojnaa
