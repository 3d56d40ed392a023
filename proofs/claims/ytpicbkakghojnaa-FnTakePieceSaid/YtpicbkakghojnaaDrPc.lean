/-
  Contracts: pieces drawn by the generators of the reference.
-/
import Derived.Test.YtpicbkakghojnaaDrBox
import Derived.Test.YtpicbkakghojnaaTurnPc
namespace Go.Proofs.Ytpicbkakghojnaa
set_option linter.unusedSimpArgs false
set_option linter.unusedVariables false
open Go.RowKit

/-- A piece that is being drawn: its cells in block g, its flaws owned behind the result's block. -/
def pcG (B a : Nat) (m : Int) (g : Nat) (l pw ph : Int) (w wr : World) (v : Value) (M : List Bx) : Prop :=
  Rd B wr a m ∧ w.grownBy wr (some a) ∧ Blk wr w.heap.size #[.int .i64 0, .int .i64 0, .int .i64 0, .slice none 0 0] 31 ∧ Blk wr g #[.int .i64 l, .int .i64 pw, .int .i64 ph, v] 31 ∧ Own boxE 33 (w.heap.size + 1) wr v M ∧ v.ownBlock ≠ some g ∧ w.heap.size < g ∧ a < w.heap.size ∧ B ≤ a
section
variable {B a g : Nat} {m m' : Int} {l pw ph : Int} {w wr w' : World} {v v' : Value} {M M' : List Bx}
theorem pcG.call (h : pcG B a m g l pw ph w wr v M) (hR : Rd B w' a m') (hg : wr.grownBy w' (some a)) : pcG B a m' g l pw ph w w' v M := by
  obtain ⟨h1, h2, h3, h4, h5, h6, h7, h8, h9⟩ := h
  exact ⟨hR, grown_trans h2 hg, h3.grown hg (fun e => by injection e with e; omega), h4.grown hg (fun e => by injection e with e; omega), h5.kept hg (own_na h5 (by omega)), h6, h7, h8, h9⟩
theorem pcG.alloc (h : pcG B a m g l pw ph w wr v M) (o : Obj) : pcG B a m g l pw ph w (wr.alloc o) v M := by
  obtain ⟨h1, h2, h3, h4, h5, h6⟩ := h
  exact ⟨h1.alloc o, gr_alloc h2 o, h3.alloc o, h4.alloc o, h5.alloc o, h6⟩
theorem pcG.up (h : pcG B a m g l pw ph w wr v M) (hm : m ≤ m') : pcG B a m' g l pw ph w wr v M := ⟨h.1.up hm, h.2⟩
theorem pcG.blkG (h : pcG B a m g l pw ph w wr v M) (hg : wr.grownBy w' v.ownBlock) : Blk w' g #[.int .i64 l, .int .i64 pw, .int .i64 ph, v] 31 := h.2.2.2.1.grown hg (fun e => h.2.2.2.2.2.1 e.symm)
theorem pcG.push {n : Nat} (h : pcG B a m g l pw ph w wr v M) (ho : Own boxE 33 (w.heap.size + 1) w' v' M') (hg : wr.grownBy w' v.ownBlock) (hat : v'.ownBlock = v.ownBlock ∨ v'.ownBlock = some n) (hn : g < n) :
    pcG B a m g l pw ph w (w'.setCell ⟨g, 3, none⟩ v') v' M' := by
  have hk := h.blkG hg
  obtain ⟨h1, h2, h3, h4, h5, h6, h7, h8, h9⟩ := h
  have hne : v'.ownBlock ≠ some g := by
    rcases hat with e | e
    · rw [e]; exact h6
    · rw [e]; intro e'; injection e'; omega
  have hr : ∀ k, v.ownBlock = some k → w.heap.size + 1 ≤ k := fun k hk => (h5.lt k hk).1
  exact ⟨(h1.grown hg (fun k hk => by have := hr k hk; omega)).set (by omega) (by omega) 3 v', gr_set (gr_step h2 hg (fun k hk => .inr (by have := hr k hk; omega))) (by omega) 3 v',
    (h3.grown hg (fun e => by have := hr _ e.symm; omega)).setO (p := ⟨g, 3, none⟩) (by simp; omega) v', by have := hk.set 3 v'; simpa using this, ho.setCell_ne (p := ⟨g, 3, none⟩) hne v', hne, h7, h8, h9⟩
theorem pcG.set (h : pcG B a m g l pw ph w wr v M) (i : Nat) (u : Value) (l' pw' ph' : Int) (hc : (#[Value.int .i64 l, .int .i64 pw, .int .i64 ph, v] : Array Value).setIfInBounds i u = #[.int .i64 l', .int .i64 pw', .int .i64 ph', v]) : pcG B a m g l' pw' ph' w (wr.setCell ⟨g, i, none⟩ u) v M := by
  obtain ⟨h1, h2, h3, h4, h5, h6, h7, h8, h9⟩ := h
  exact ⟨h1.set (by omega) (by omega) i u, gr_set h2 (by omega) i u, h3.setO (p := ⟨g, i, none⟩) (by simp; omega) u, by have := h4.set i u; rw [hc] at this; exact this, h5.setCell_ne (p := ⟨g, i, none⟩) h6 u, h6, h7, h8, h9⟩
end
/-- What a call answers that draws a piece. -/
def PcDraw (B a : Nat) (m : Int) (Q : Pc → Prop) (w : World) (e : Ending) (w' : World) : Prop := ∃ (p : Pc) (s : Ps), e = .returned (.agg #[.int .i64 s.l, .int .i64 s.w, .int .i64 s.h, .slice s.ka s.kn s.kc]) ∧ s.same p ∧ Q p ∧ Own boxE 33 (w.heap.size + 1) w' s.kv p.f ∧ Rd B w' a m ∧ w.grownBy w' (some a)
def tP (n : Nat) (p : Pc) : Prop := (-20000 ≤ p.l ∧ p.l ≤ 20000) ∧ (-2000 ≤ p.w ∧ p.w ≤ 2000) ∧ (-2000 ≤ p.h ∧ p.h ≤ 2000) ∧ p.f.length ≤ n
theorem ite_min3 (x : Int) : ∃ z, (if 3 < x then 3 else x) = z := ⟨_, rfl⟩
theorem pcG.done {B a g : Nat} {m : Int} {l pw ph : Int} {w wr : World} {v : Value} {M : List Bx} (h : pcG B a m g l pw ph w wr v M) (Q : Pc → Prop) (hQ : Q ⟨l, pw, ph, M⟩) :
    ∃ A c, v = .slice A M.length c ∧ PcDraw B a m Q w (.returned (.agg #[.int .i64 l, .int .i64 pw, .int .i64 ph, v])) ((((wr.setCell ⟨w.heap.size, 0, none⟩ (.int .i64 l)).setCell ⟨w.heap.size, 1, none⟩ (.int .i64 pw)).setCell ⟨w.heap.size, 2, none⟩ (.int .i64 ph)).setCell ⟨w.heap.size, 3, none⟩ v) := by
  obtain ⟨h1, h2, h3, h4, h5, h6, h7, h8, h9⟩ := h
  obtain ⟨A, c, rfl, -⟩ := h5.shape
  refine ⟨A, c, rfl, ⟨l, pw, ph, M⟩, ⟨l, pw, ph, A, M.length, c⟩, rfl, ⟨rfl, rfl, rfl⟩, hQ, own_res4 h5 (Nat.lt_succ_self _) _ _ _ _ (Nat.le_refl _), ?_, ?_⟩
  · exact (((h1.set (by omega) (by omega) 0 _).set (by omega) (by omega) 1 _).set (by omega) (by omega) 2 _).set (by omega) (by omega) 3 _
  · exact gr_set (gr_set (gr_set (gr_set h2 (Nat.le_refl _) 0 _) (Nat.le_refl _) 1 _) (Nat.le_refl _) 2 _) (Nat.le_refl _) 3 _

-- printed --
set_option maxHeartbeats 6400000 in
set_option maxRecDepth 100000 in
theorem somePiece_c (B a : Nat) (l m : Int) (w : World) (h : Rd B w a m) (hm : m ≤ 700000) (hl0 : -20000 ≤ l) (hl1 : l ≤ 20000) : Calls Try.prog 84 #[.pointer (some ⟨a, 0, none⟩), .int .i64 l] w (PcDraw B a (m + 20) (tP 3) w) := by
  obtain ⟨i0, hi0, hz0, hz1, hz2⟩ := info_parts box_info
  have HR0 := hid h
  have HG0 := hid (World.grownBy.refl w (some a))
  have hla := h.lt
  have hlo := h.lo
  clear h
  go_enter Try.func84, Try.ntmps84
  have HR1 := hid (HR0.out.alloc (.cells #[.int .i64 0, .int .i64 0, .int .i64 0, .slice none 0 0] 31))
  have HG1 := hid (gr_alloc HG0.out (.cells #[.int .i64 0, .int .i64 0, .int .i64 0, .slice none 0 0] 31))
  have HQ_1 := hid (show Blk (w.alloc (.cells #[.int .i64 0, .int .i64 0, .int .i64 0, .slice none 0 0] 31)) (w.heap.size) #[.int .i64 0, .int .i64 0, .int .i64 0, .slice none 0 0] 31 by have := Blk.new w #[.int .i64 0, .int .i64 0, .int .i64 0, .slice none 0 0] 31; simpa using this)
  have ZL := hid (lit_row (w.alloc (.cells #[.int .i64 0, .int .i64 0, .int .i64 0, .slice none 0 0] 31)) (w.heap.size + 1) (by simp) #[.int .i64 12, .int .i64 20, .int .i64 8, .int .i64 6, .int .i64 30] [12, 20, 8, 6, 30] 5 rfl rfl (by simp [maxLen]))
  have HR2 := hid (HR1.out.alloc (.cells #[.int .i64 12, .int .i64 20, .int .i64 8, .int .i64 6, .int .i64 30] 3))
  have HG2 := hid (gr_alloc HG1.out (.cells #[.int .i64 12, .int .i64 20, .int .i64 8, .int .i64 6, .int .i64 30] 3))
  have HQ_2 := hid (HQ_1.out.alloc (.cells #[.int .i64 12, .int .i64 20, .int .i64 8, .int .i64 6, .int .i64 30] 3))
  go_wp2_with fail
  refine (one_c B a _ [12, 20, 8, 6, 30] _ _ HR2.out ZL.out (by simp [Value.ownBlock]; omega) (by simp) (by simp) (by omega)).mono ?_
  rintro e w1 ⟨x1, rfl, hp, hR, hg⟩
  have hx1 : 6 ≤ x1 ∧ x1 ≤ 30 := by simp at hp; omega
  clear hp ZL
  have HR3 := hid hR
  have HG3 := hid (grown_trans HG2.out hg)
  have HQ_3 := hid (HQ_2.out.grown hg (fun e => by injection e with e; omega))
  have hs3 := hg.size
  (try simp only [World.size_alloc, World.size_setCell] at hs3)
  clear hR hg
  try clear c_Q f_Q l_Q
  have c_Q := fun (o : Nat) => HQ_3.out.cell o
  have f_Q := fun (o : Nat) => HQ_3.out.frz o
  have l_Q := HQ_3.out.lt
  have ZL := hid (lit_row (w1) (w1.heap.size) (by simp) #[.int .i64 10, .int .i64 16, .int .i64 8, .int .i64 6, .int .i64 24] [10, 16, 8, 6, 24] 5 rfl rfl (by simp [maxLen]))
  have HR4 := hid (HR3.out.alloc (.cells #[.int .i64 10, .int .i64 16, .int .i64 8, .int .i64 6, .int .i64 24] 3))
  have HG4 := hid (gr_alloc HG3.out (.cells #[.int .i64 10, .int .i64 16, .int .i64 8, .int .i64 6, .int .i64 24] 3))
  have HQ_4 := hid (HQ_3.out.alloc (.cells #[.int .i64 10, .int .i64 16, .int .i64 8, .int .i64 6, .int .i64 24] 3))
  go_wp2_with fail
  refine (one_c B a _ [10, 16, 8, 6, 24] _ _ HR4.out ZL.out (by simp [Value.ownBlock]; omega) (by simp) (by simp) (by omega)).mono ?_
  rintro e w2 ⟨x2, rfl, hp, hR, hg⟩
  have hx2 : 6 ≤ x2 ∧ x2 ≤ 24 := by simp at hp; omega
  clear hp ZL
  have HR5 := hid hR
  have HG5 := hid (grown_trans HG4.out hg)
  have HQ_5 := hid (HQ_4.out.grown hg (fun e => by injection e with e; omega))
  have hs5 := hg.size
  (try simp only [World.size_alloc, World.size_setCell] at hs5)
  clear hR hg
  try clear c_Q f_Q l_Q
  have c_Q := fun (o : Nat) => HQ_5.out.cell o
  have f_Q := fun (o : Nat) => HQ_5.out.frz o
  have l_Q := HQ_5.out.lt
  have HR6 := hid (HR5.out.alloc (.cells #[.int .i64 l, .int .i64 x1, .int .i64 x2, .slice none 0 0] 31))
  have HG6 := hid (gr_alloc HG5.out (.cells #[.int .i64 l, .int .i64 x1, .int .i64 x2, .slice none 0 0] 31))
  have HQ_6 := hid (HQ_5.out.alloc (.cells #[.int .i64 l, .int .i64 x1, .int .i64 x2, .slice none 0 0] 31))
  have Hp_6 := hid (show Blk (w2.alloc (.cells #[.int .i64 l, .int .i64 x1, .int .i64 x2, .slice none 0 0] 31)) (w2.heap.size) #[.int .i64 l, .int .i64 x1, .int .i64 x2, .slice none 0 0] 31 by have := Blk.new w2 #[.int .i64 l, .int .i64 x1, .int .i64 x2, .slice none 0 0] 31; simpa using this)
  have ZL := hid (lit_row (w2.alloc (.cells #[.int .i64 l, .int .i64 x1, .int .i64 x2, .slice none 0 0] 31)) (w2.heap.size + 1) (by simp) #[.int .i64 0, .int .i64 1, .int .i64 2, .int .i64 3, .int .i64 0] [0, 1, 2, 3, 0] 5 rfl rfl (by simp [maxLen]))
  have HR7 := hid (HR6.out.alloc (.cells #[.int .i64 0, .int .i64 1, .int .i64 2, .int .i64 3, .int .i64 0] 3))
  have HG7 := hid (gr_alloc HG6.out (.cells #[.int .i64 0, .int .i64 1, .int .i64 2, .int .i64 3, .int .i64 0] 3))
  have HQ_7 := hid (HQ_6.out.alloc (.cells #[.int .i64 0, .int .i64 1, .int .i64 2, .int .i64 3, .int .i64 0] 3))
  have Hp_7 := hid (Hp_6.out.alloc (.cells #[.int .i64 0, .int .i64 1, .int .i64 2, .int .i64 3, .int .i64 0] 3))
  go_wp2_with fail
  refine (one_c B a _ [0, 1, 2, 3, 0] _ _ HR7.out ZL.out (by simp [Value.ownBlock]; omega) (by simp) (by simp) (by omega)).mono ?_
  rintro e w3 ⟨x3, rfl, hp, hR, hg⟩
  have hx3 : 0 ≤ x3 ∧ x3 ≤ 3 := by simp at hp; omega
  clear hp ZL
  have HR8 := hid hR
  have HG8 := hid (grown_trans HG7.out hg)
  have HQ_8 := hid (HQ_7.out.grown hg (fun e => by injection e with e; omega))
  have Hp_8 := hid (Hp_7.out.grown hg (fun e => by injection e with e; omega))
  have hs8 := hg.size
  (try simp only [World.size_alloc, World.size_setCell] at hs8)
  clear hR hg
  try clear c_Q f_Q l_Q
  have c_Q := fun (o : Nat) => HQ_8.out.cell o
  have f_Q := fun (o : Nat) => HQ_8.out.frz o
  have l_Q := HQ_8.out.lt
  try clear c_p f_p l_p
  have c_p := fun (o : Nat) => Hp_8.out.cell o
  have f_p := fun (o : Nat) => Hp_8.out.frz o
  have l_p := Hp_8.out.lt
  have HST : Hid (pcG B a (m + 3) (w2.heap.size) l x1 x2 w w3 (.slice none 0 0) []) :=
    ⟨HR8.out.up (by omega), HG8.out, HQ_8.out, Hp_8.out, Own.nil_ _ _ _, by simp [Value.ownBlock], by omega, hla, hlo⟩
  clear c_p c_Q f_p f_Q
  go_wp2
  go_loopw [6] (fun i wr => ∃ k : Int, ∃ v : Value, ∃ M : List Bx, i = .int .i64 k ∧ 0 ≤ k ∧ k ≤ 3 ∧ (M.length : Int) ≤ 3 - k ∧ pcG B a (m + 3 + 4 * (3 - k)) (w2.heap.size) l x1 x2 w wr v M) (fun i _ => (intOf i).toNat)
  case atStart => exact ⟨x3, _, _, rfl, by omega, by omega, by simp; omega, HST.out.up (by omega)⟩
  case round =>
    obtain ⟨k, v, M, rfl, hk0, hk1, hMl, hst⟩ := hrel
    have HST1 := hid hst
    obtain ⟨r1, r2, r3, r4, r5, -⟩ := id hst
    have c_p := fun (o : Nat) => r4.cell o
    have l_p := r4.lt
    have l_a := r1.lt
    have HRd := hid r1
    clear hst r1 r2 r4 HST
    by_cases hk : 0 < k
    · clear r3 r5
      go_wp2_with fail
      refine (someBox_c B a x1 x2 _ _ HRd.out (by omega) (by omega) (by omega) (by omega) (by omega)).mono ?_
      rintro e w5 ⟨b1, rfl, hq, hR, hg⟩
      obtain ⟨⟨q1, q2⟩, ⟨q3, q4⟩, ⟨q5, q6⟩, q7, q8⟩ := hq
      obtain ⟨mw, ew⟩ := ite_min3 b1.w
      obtain ⟨mh, eh⟩ := ite_min3 b1.h
      have HST2 := hid (HST1.out.call hR hg)
      have HST3 := hid (HST2.out.alloc (.cells #[.int .i64 b1.x, .int .i64 b1.y, .int .i64 mw, .int .i64 mh] 33))
      have r4 := HST2.out.2.2.2.1
      have c_p2 := fun (o : Nat) => r4.cell o
      have f_p2 := fun (o : Nat) => r4.frz o
      have l_p2 := r4.lt
      obtain ⟨L2, hL2⟩ : ∃ L : List Bx, L = M ++ [⟨b1.x, b1.y, mw, mh⟩] := ⟨_, rfl⟩
      have HL2 := hid hL2
      have hs5 := hg.size
      clear hL2 hR hg r4 c_p
      go_wp2_with (at_builtin; refine wpList_pushN boxE _ rfl (.tmp 38) (.tmp 40) _ rfl (w.heap.size + 1) 33 i0 _ 32 Try.underlying29 hi0 hz0 hz1 hz2 rfl (by omega) _ _ rfl HST3.out.2.2.2.2.1 _ ⟨b1.x, b1.y, mw, mh⟩ _ rfl rfl (by simp) (by omega) (by simp; omega) L2 HL2.out ?_)
      intro v' w' ho' hg' hat'
      obtain ⟨A', cap', rfl, -⟩ := ho'.shape
      have HST4 := hid (HST3.out.push ho' hg' hat' (by first | omega | (simp; omega)))
      have hkw := HST3.out.blkG hg'
      have hcw := fun (o : Nat) => hkw.cell o
      have hfw := fun (o : Nat) => hkw.frz o
      have hll : (L2.length : Int) = M.length + 1 := by rw [HL2.out]; simp
      have HLL := hid hll
      clear ho' hg' hat' hkw hll
      go_wp2
      exact ⟨⟨k - 1, _, L2, rfl, by omega, by omega, by have := HLL.out; omega, HST4.out.up (by omega)⟩, by simp [intOf]; omega⟩
    · obtain ⟨A, cap, rfl, hdone⟩ := (HST1.out.up (m' := m + 20) (by omega)).done (tP 3) ⟨⟨hl0, hl1⟩, ⟨by simp only; omega, by simp only; omega⟩, ⟨by simp only; omega, by simp only; omega⟩, by simp only; omega⟩
      have HD := hid hdone
      have c_Q := fun (o : Nat) => r3.cell o
      have f_Q := fun (o : Nat) => r3.frz o
      have l_Q := r3.lt
      clear hdone r3 r5
      go_wp2
      exact bodyPost_ret (v := .agg #[.int .i64 l, .int .i64 x1, .int .i64 x2, .slice A M.length cap]) (by simp [results, Try.results84, go_sem, c_Q]) rfl HD.out

end Go.Proofs.Ytpicbkakghojnaa
