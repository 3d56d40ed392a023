/-
  Contracts: pieces drawn by the generators of the reference, any, and boxes in them (written by a program of mine).
-/
import Derived.Test.YtpicbkakghojnaaDrPc
namespace Go.Proofs.Ytpicbkakghojnaa
set_option linter.unusedSimpArgs false
set_option linter.unusedVariables false
open Go.RowKit

set_option maxHeartbeats 6400000 in
set_option maxRecDepth 100000 in
theorem anyPiece_c (B a : Nat) (m : Int) (w : World) (h : Rd B w a m) (hm : m ≤ 600000) : Calls Try.prog 71 #[.pointer (some ⟨a, 0, none⟩)] w (PcDraw B a (m + 24) (tP 4) w) := by
  obtain ⟨i0, hi0, hz0, hz1, hz2⟩ := info_parts box_info
  have HR0 := hid h
  have HG0 := hid (World.grownBy.refl w (some a))
  have hla := h.lt
  have hlo := h.lo
  clear h
  go_enter Try.func71, Try.ntmps71
  have HR1 := hid (HR0.out.alloc (.cells #[.int .i64 0, .int .i64 0, .int .i64 0, .slice none 0 0] 31))
  have HG1 := hid (gr_alloc HG0.out (.cells #[.int .i64 0, .int .i64 0, .int .i64 0, .slice none 0 0] 31))
  have HQ_1 := hid (show Blk (w.alloc (.cells #[.int .i64 0, .int .i64 0, .int .i64 0, .slice none 0 0] 31)) (w.heap.size) #[.int .i64 0, .int .i64 0, .int .i64 0, .slice none 0 0] 31 by have := Blk.new w #[.int .i64 0, .int .i64 0, .int .i64 0, .slice none 0 0] 31; simpa using this)
  go_wp2_with fail
  refine (pick_c B a (30) _ _ HR1.out (by omega) (by omega) (by omega)).mono ?_
  rintro e w1 ⟨x0, rfl, hp, hR, hg⟩
  have hx0 := pk_bd hp 29 (by omega) (by omega)
  clear hp
  have HR2 := hid hR
  have HG2 := hid (grown_trans HG1.out hg)
  have HQ_2 := hid (HQ_1.out.grown hg (fun e => by injection e with e; omega))
  have hs2 := hg.size
  (try simp only [World.size_alloc, World.size_setCell] at hs2)
  clear hR hg
  try clear c_Q f_Q l_Q
  have c_Q := fun (o : Nat) => HQ_2.out.cell o
  have f_Q := fun (o : Nat) => HQ_2.out.frz o
  have l_Q := HQ_2.out.lt
  go_wp2_with fail
  refine (somePiece_c B a (1 + x0) _ _ HR2.out (by omega) (by omega) (by omega)).mono ?_
  rintro e w2 ⟨p1, s1, rfl, ⟨e1, e2, e3⟩, hq, ho, hR, hg⟩
  obtain ⟨pl, pw, ph, pf⟩ := p1
  obtain ⟨sl, sw, sh, ka, kn, kc⟩ := s1
  simp only at e1 e2 e3
  subst e1 e2 e3
  obtain ⟨⟨q1, q2⟩, ⟨q3, q4⟩, ⟨q5, q6⟩, q7⟩ := hq
  simp only at q1 q2 q3 q4 q5 q6 q7 ho
  obtain ⟨A0, c0, e0, -⟩ := ho.shape
  simp only [Ps.kv, Value.slice.injEq] at e0 ho
  obtain ⟨rfl, rfl, rfl⟩ := e0
  have hown := hid ho
  clear ho
  have HR3 := hid hR
  have HG3 := hid (grown_trans HG2.out hg)
  have HQ_3 := hid (HQ_2.out.grown hg (fun e => by injection e with e; omega))
  have hs3 := hg.size
  (try simp only [World.size_alloc, World.size_setCell] at hs3)
  clear hR hg
  try clear c_Q f_Q l_Q
  have c_Q := fun (o : Nat) => HQ_3.out.cell o
  have f_Q := fun (o : Nat) => HQ_3.out.frz o
  have l_Q := HQ_3.out.lt
  have HR4 := hid (HR3.out.alloc (.cells #[.int .i64 sl, .int .i64 sw, .int .i64 sh, .slice ka pf.length kc] 31))
  have HG4 := hid (gr_alloc HG3.out (.cells #[.int .i64 sl, .int .i64 sw, .int .i64 sh, .slice ka pf.length kc] 31))
  have HQ_4 := hid (HQ_3.out.alloc (.cells #[.int .i64 sl, .int .i64 sw, .int .i64 sh, .slice ka pf.length kc] 31))
  have Hp_4 := hid (show Blk (w2.alloc (.cells #[.int .i64 sl, .int .i64 sw, .int .i64 sh, .slice ka pf.length kc] 31)) (w2.heap.size) #[.int .i64 sl, .int .i64 sw, .int .i64 sh, .slice ka pf.length kc] 31 by have := Blk.new w2 #[.int .i64 sl, .int .i64 sw, .int .i64 sh, .slice ka pf.length kc] 31; simpa using this)
  have HST : Hid (pcG B a (m + 21) (w2.heap.size) sl sw sh w (w2.alloc (.cells #[.int .i64 sl, .int .i64 sw, .int .i64 sh, .slice ka pf.length kc] 31)) (.slice ka pf.length kc) pf) :=
    ⟨HR4.out.up (by omega), HG4.out, HQ_4.out, Hp_4.out, (hown.out.alloc _).base_le (by omega), fun e => by have := (hown.out.lt _ e).2; omega, by omega, hla, hlo⟩
  go_wp2_with fail
  refine (pick_c B a 16 _ _ HR4.out (by omega) (by omega) (by omega)).mono ?_
  rintro e w6 ⟨x, rfl, hp, hR, hg⟩
  have hx := pk_bd hp 15 (by omega) (by omega)
  have HST1 := hid ((HST.out.call hR hg).up (m' := m + 22) (by omega))
  obtain ⟨r1, r2, r3, r4, r5, -⟩ := id HST1.out
  have hs6 := hg.size
  have HRd := hid r1
  clear hp hR hg HST r1 r2 c_Q f_Q l_Q
  have hcase : ((x == 0) = true) ∨ ((x == 0) = false ∧ (x == 1) = true) ∨ ((x == 0) = false ∧ (x == 1) = false ∧ (x == 2) = true) ∨ ((x == 0) = false ∧ (x == 1) = false ∧ (x == 2) = false) := by simp only [beq_iff_eq, beq_eq_false_iff_ne]; omega
  rcases hcase with e0 | ⟨e0, e1⟩ | ⟨e0, e1, e2⟩ | ⟨e0, e1, e2⟩
  · have ZL := hid (lit_row w6 w6.heap.size rfl #[.int .i64 0, .int .i64 10000] [0, 10000] 2 rfl rfl (by simp [maxLen]))
    have c_p := fun (o : Nat) => r4.cell o
    have f_p := fun (o : Nat) => r4.frz o
    have l_p := r4.lt
    have l_a := HRd.out.lt
    clear r3 r4 r5
    go_wp2_with fail
    refine (one_c B a _ [0, 10000] _ _ (HRd.out.alloc _) ZL.out (by simp [Value.ownBlock]; omega) (by simp) (by simp) (by omega)).mono ?_
    rintro e w7 ⟨y, rfl, hp, hR, hg⟩
    have hy : 0 ≤ y ∧ y ≤ 10000 := by simp at hp; omega
    have HST2 := hid (((HST1.out.alloc _).call hR hg))
    have HST3 := hid (HST2.out.set 0 (.int .i64 y) y sw sh (by rfl))
    have r4 := HST2.out.2.2.2.1
    clear hp hR hg c_p f_p
    have c_p2 := fun (o : Nat) => r4.cell o
    have f_p2 := fun (o : Nat) => r4.frz o
    have l_p2 := r4.lt
    clear r4
    obtain ⟨A, cap, eA, hdone⟩ := (HST3.out.up (m' := m + 24) (by omega)).done (tP 4) ⟨⟨by simp only; omega, by simp only; omega⟩, ⟨by simp only; omega, by simp only; omega⟩, ⟨by simp only; omega, by simp only; omega⟩, by simp only; omega⟩
    have HD := hid hdone
    have r3 := HST3.out.2.2.1
    have r4 := HST3.out.2.2.2.1
    have c_Q := fun (o : Nat) => r3.cell o
    have f_Q := fun (o : Nat) => r3.frz o
    have c_p := fun (o : Nat) => r4.cell o
    have l_Q := r3.lt
    have l_p := r4.lt
    clear hdone r3 r4 eA
    go_wp2
    exact bodyPost_ret (v := .agg #[.int .i64 y, .int .i64 sw, .int .i64 sh, .slice ka pf.length kc]) (by simp [results, Try.results71, go_sem, c_Q]) rfl HD.out
  · have ZL := hid (lit_row w6 w6.heap.size rfl #[.int .i64 0, .int .i64 1, .int .i64 201] [0, 1, 201] 3 rfl rfl (by simp [maxLen]))
    have c_p := fun (o : Nat) => r4.cell o
    have f_p := fun (o : Nat) => r4.frz o
    have l_p := r4.lt
    have l_a := HRd.out.lt
    clear r3 r4 r5
    go_wp2_with fail
    refine (one_c B a _ [0, 1, 201] _ _ (HRd.out.alloc _) ZL.out (by simp [Value.ownBlock]; omega) (by simp) (by simp) (by omega)).mono ?_
    rintro e w7 ⟨y, rfl, hp, hR, hg⟩
    have hy : 0 ≤ y ∧ y ≤ 201 := by simp at hp; omega
    have HST2 := hid (((HST1.out.alloc _).call hR hg))
    have HST3 := hid (HST2.out.set 1 (.int .i64 y) sl y sh (by rfl))
    have r4 := HST2.out.2.2.2.1
    clear hp hR hg c_p f_p
    have c_p2 := fun (o : Nat) => r4.cell o
    have f_p2 := fun (o : Nat) => r4.frz o
    have l_p2 := r4.lt
    clear r4
    obtain ⟨A, cap, eA, hdone⟩ := (HST3.out.up (m' := m + 24) (by omega)).done (tP 4) ⟨⟨by simp only; omega, by simp only; omega⟩, ⟨by simp only; omega, by simp only; omega⟩, ⟨by simp only; omega, by simp only; omega⟩, by simp only; omega⟩
    have HD := hid hdone
    have r3 := HST3.out.2.2.1
    have r4 := HST3.out.2.2.2.1
    have c_Q := fun (o : Nat) => r3.cell o
    have f_Q := fun (o : Nat) => r3.frz o
    have c_p := fun (o : Nat) => r4.cell o
    have l_Q := r3.lt
    have l_p := r4.lt
    clear hdone r3 r4 eA
    go_wp2
    exact bodyPost_ret (v := .agg #[.int .i64 sl, .int .i64 y, .int .i64 sh, .slice ka pf.length kc]) (by simp [results, Try.results71, go_sem, c_Q]) rfl HD.out
  · obtain ⟨L2, hL2⟩ : ∃ L : List Bx, L = pf ++ [⟨sw, 0, 1, 1⟩] := ⟨_, rfl⟩
    have HL2 := hid hL2
    have c_p := fun (o : Nat) => r4.cell o
    have f_p := fun (o : Nat) => r4.frz o
    have l_p := r4.lt
    clear hL2 r3 r4
    go_wp2_with (at_builtin; refine wpList_pushN boxE _ rfl (.tmp 26) (.tmp 30) _ rfl (w.heap.size + 1) 33 i0 _ 32 Try.underlying29 hi0 hz0 hz1 hz2 rfl (by omega) _ _ rfl r5 _ ⟨sw, 0, 1, 1⟩ _ rfl rfl (by first | rfl | simp) (by omega) (by omega) L2 HL2.out ?_)
    intro v' w' ho' hg' hat'
    obtain ⟨A', cap', rfl, -⟩ := ho'.shape
    have HST3 := hid (HST1.out.push ho' hg' hat' (by first | omega | (simp; omega)))
    have hkw := HST1.out.blkG hg'
    have hcw := fun (o : Nat) => hkw.cell o
    have hfw := fun (o : Nat) => hkw.frz o
    have hll : L2.length ≤ 4 := by rw [HL2.out]; simp; omega
    clear ho' hg' hat' hkw r5 c_p f_p l_p
    obtain ⟨A, cap, eA, hdone⟩ := (HST3.out.up (m' := m + 24) (by omega)).done (tP 4) ⟨⟨by simp only; omega, by simp only; omega⟩, ⟨by simp only; omega, by simp only; omega⟩, ⟨by simp only; omega, by simp only; omega⟩, by simp only; omega⟩
    have HD := hid hdone
    have r3 := HST3.out.2.2.1
    have r4 := HST3.out.2.2.2.1
    have c_Q := fun (o : Nat) => r3.cell o
    have f_Q := fun (o : Nat) => r3.frz o
    have c_p := fun (o : Nat) => r4.cell o
    have l_Q := r3.lt
    have l_p := r4.lt
    clear hdone r3 r4 eA
    go_wp2
    exact bodyPost_ret (v := .agg #[.int .i64 sl, .int .i64 sw, .int .i64 sh, .slice A' L2.length cap']) (by simp [results, Try.results71, go_sem, c_Q]) rfl HD.out
  · clear r3 r4 r5
    obtain ⟨A, cap, eA, hdone⟩ := (HST1.out.up (m' := m + 24) (by omega)).done (tP 4) ⟨⟨by simp only; omega, by simp only; omega⟩, ⟨by simp only; omega, by simp only; omega⟩, ⟨by simp only; omega, by simp only; omega⟩, by simp only; omega⟩
    have HD := hid hdone
    have r3 := HST1.out.2.2.1
    have r4 := HST1.out.2.2.2.1
    have c_Q := fun (o : Nat) => r3.cell o
    have f_Q := fun (o : Nat) => r3.frz o
    have c_p := fun (o : Nat) => r4.cell o
    have l_Q := r3.lt
    have l_p := r4.lt
    clear hdone r3 r4 eA
    go_wp2
    exact bodyPost_ret (v := .agg #[.int .i64 sl, .int .i64 sw, .int .i64 sh, .slice ka pf.length kc]) (by simp [results, Try.results71, go_sem, c_Q]) rfl HD.out

end Go.Proofs.Ytpicbkakghojnaa
