/-
  Contracts: a stock without a piece (the reference's); a stock with a piece more (the program's) (written by a program of mine).
-/
import Derived.Test.YtpicbkakghojnaaStkO
namespace Go.Proofs.Ytpicbkakghojnaa
set_option linter.unusedSimpArgs false
set_option linter.unusedVariables false
open Go.RowKit


set_option maxHeartbeats 3200000 in
set_option maxRecDepth 100000 in
theorem without_c (v : Value) (L : List Pc) (j : Nat) (w : World) (h : StR w.heap.size w v L) (hn : L.length ≤ 4194304) (hf : ∀ p ∈ L, p.f.length ≤ 4194304) (hj : j < L.length) : Calls Try.prog 82 #[v, .int .i64 j] w fun e w' => (∃ v', e = .returned v' ∧ OSt w.heap.size w' v' (L.eraseIdx j)) ∧ Below w.heap.size w w' := by
  obtain ⟨A1, c1, rfl, hc1, hm1⟩ := h.form
  unfold maxLen at hm1
  obtain ⟨i0, hi0, hz0, hz1, hz2⟩ := info_parts piece_info
  have HF := hid hf
  clear hf
  go_enter Try.func82, Try.ntmps82
  go_wp2
  go_loopw [5, 6] (fun o i wr => ∃ k : Nat, i = .int .i64 k ∧ k ≤ L.length ∧ OSt w.heap.size wr o ((L.take k).eraseIdx j) ∧ Below w.heap.size w wr) (fun _ i _ => L.length - (intOf i).toNat)
  case atStart => exact ⟨0, rfl, by omega, by simpa using OSt.lit0 w (Nat.le_refl _), (Below.refl _ _).alloc (Nat.le_refl _) _⟩
  case round =>
    obtain ⟨k, rfl, hk, hst, hb⟩ := hrel
    by_cases hlt : k < L.length
    · by_cases hkj : k = j
      · have hne : ((k : Int) != (j : Int)) = false := by simp [hkj]
        have he : (L.take (k + 1)).eraseIdx j = (L.take k).eraseIdx j := by rw [← hkj]; exact erase_take_at hlt
        have HE := hid he
        have HST := hid hst
        have HB := hid hb
        clear hst hb he hkj
        go_wp2
        exact ⟨⟨k + 1, by go_num, by omega, by rw [HE.out]; exact HST.out, HB.out⟩, by simp [intOf]; omega⟩
      · have hne : ((k : Int) != (j : Int)) = true := by simp; omega
        obtain ⟨b1, o1, s, rfl, hb1, hps, x0, x1, x2, x3⟩ := (h.go hb).at_ k hlt
        have HB := hid hb
        have HP := hid hps
        have HST := hid hst
        have HE := hid (erase_take (j := j) hlt hkj)
        have HLL : Hid (((L.take k).eraseIdx j).length ≤ 4194304) := by
          have := List.length_eraseIdx_le (L.take k) j
          rw [Hid]; simp at this; omega
        clear h hb hps hst hkj
        go_wp2_with fail
        refine (scopyPiece_c L[k] s _ HP.out (HF.out _ (List.getElem_mem hlt))).mono ?_
        rintro e w2 ⟨⟨tA, rfl, hs2, ho2⟩, hb⟩
        have hst2 := HST.out.below hb
        have HBA := hid (HB.out.trans (hb.mono HB.out.size))
        (try rw [World.size_alloc] at ho2)
        have HDJ := hid (dj_lt (fun j hj => by have := (HST.out.own_lt j hj).2; first | exact this | (simp at this; omega)) ho2)
        have HO2 := hid (ho2.base_le (base' := w.heap.size) (by have := HB.out.size; first | omega | (simp at this; omega)))
        have HS2 := hid hs2
        obtain ⟨S, hS, hown, hpo, hd⟩ := hst2
        have HSL := hid hS
        have HOW := hid hown
        have HPO := hid hpo
        have HD := hid hd
        obtain ⟨S2, hS2⟩ : ∃ M : List Ps, M = S ++ [tA] := ⟨_, rfl⟩
        have HS2' := hid hS2
        have HSl : Hid (S.length ≤ 4194304) := by rw [Hid, HSL.out]; exact HLL.out
        clear hb ho2 hs2 hS hown hpo hd hS2
        go_wp2_with (at_builtin; refine wpList_pushN psE _ rfl (.tmp 17) (.tmp 23) _ rfl w.heap.size 31 i0 _ 48 Try.underlying44 hi0 hz0 hz1 hz2 rfl (by omega) _ _ rfl HOW.out _ tA _ rfl rfl rfl HSl.out HBA.out.size S2 HS2'.out ?_)
        intro vA' wA' ho' hg' hat'
        rw [HS2'.out] at ho'
        have HNA := hid (ost_push HSL.out HPO.out HD.out ho' hg' hat' (by omega) HS2.out HO2.out HDJ.out)
        have HCA := hid (HBA.out.grown hg' HBA.out.size (fun q hq => (HOW.out.lt q hq).1))
        clear ho' hg' hat' HSL HOW HPO HD HSl HS2' HO2 HS2 HDJ
        go_wp2
        exact ⟨⟨k + 1, by go_num, by omega, by rw [HE.out]; exact HNA.out, HCA.out⟩, by simp [intOf]; omega⟩
    · have e : L.take k = L := List.take_of_length_le (by omega)
      rw [e] at hst
      have HST := hid hst
      have HB := hid hb
      clear e hst hb
      go_wp2
      go_ret
      exact ⟨⟨_, rfl, HST.out⟩, HB.out⟩


/-- A stock with a piece more, where its label is to lie. -/
def adL (p : Pc) : Bool → List Pc → List Pc
  | ad, [] => if ad then [] else [p]
  | ad, e :: es => if ad = false ∧ p.l < e.l then p :: e :: adL p true es else e :: adL p ad es
theorem adL_ins {p e : Pc} {es : List Pc} (h : p.l < e.l) : adL p false (e :: es) = p :: e :: adL p true es := by rw [adL, if_pos ⟨rfl, h⟩]
theorem adL_f {p e : Pc} {es : List Pc} (h : ¬ p.l < e.l) : adL p false (e :: es) = e :: adL p false es := by rw [adL, if_neg (fun x => h x.2)]
theorem adL_t {p e : Pc} {es : List Pc} : adL p true (e :: es) = e :: adL p true es := by rw [adL, if_neg (fun x => by cases x.1)]

set_option maxHeartbeats 6400000 in
set_option maxRecDepth 100000 in
theorem AddPiece_c (v : Value) (L : List Pc) (p : Pc) (s : Ps) (w : World) (h : StR w.heap.size w v L) (hp : PvR w.heap.size w p s) (hvs : VS L) (hvp : VP p) (h20 : L.length < 20) (hno : placeP (labs L) p.l = -1) : Calls Try.prog 50 #[v, .agg #[.int .i64 s.l, .int .i64 s.w, .int .i64 s.h, .slice s.ka s.kn s.kc]] w fun e w' => (∃ v', e = .returned (.tuple #[v', .bool true]) ∧ OSt w.heap.size w' v' (adL p false L)) ∧ Below w.heap.size w w' := by
  obtain ⟨A1, c1, rfl, hc1, hm1⟩ := h.form
  unfold maxLen at hm1
  obtain ⟨i0, hi0, hz0, hz1, hz2⟩ := info_parts piece_info
  have HF : Hid (∀ q ∈ L, q.f.length ≤ 4194304) := fun q hq => Nat.le_trans (hvs.2.1 q hq).2.2.2.1 (by omega)
  have HFp : Hid (p.f.length ≤ 4194304) := Nat.le_trans hvp.2.2.2.1 (by omega)
  have HB0 := hid (below_ps (l := s.l) (x := s.w) (y := s.h) (ka := s.ka) (kn := s.kn) (kc := s.kc) (ty := 31) w)
  have HK := hid (Blk.new w #[.int .i64 s.l, .int .i64 s.w, .int .i64 s.h, .slice s.ka s.kn s.kc] 31)
  have HP := hid (fun w1 (hb : Below w.heap.size w w1) => hp.go hb)
  have HL := hid (fun w1 (hb : Below w.heap.size w w1) => h.go hb)
  have HVS := hid (vsB_iff.2 hvs)
  have HVP := hid (vpB_iff.2 hvp)
  have HNO := hid hno
  have HSP := hid hp.1
  have d20 : ((L.length : Int) == 20) = false := by rw [beq_eq_false_iff_ne]; omega
  have HR : Hid (([] : List Pc) ++ adL p false (L.drop 0) = adL p false L) := by simp [Hid]
  clear h hp hvs hvp hno
  go_enter Try.func50, Try.ntmps50
  go_wp2_with fail
  refine (ValidStock_c _ L _ (HL.out _ HB0.out)).mono ?_
  rintro e w1 ⟨rfl, hb⟩
  rw [HVS.out]
  have HB1 := hid (HB0.out.trans (hb.mono HB0.out.size))
  have HK1 := hid (HK.out.go hb)
  have k1 := HK1.out
  have c_p := fun (o : Nat) => k1.cell o
  have l_p := k1.lt
  clear hb k1
  go_wp2_with fail
  refine (ValidPiece_c p s _ (HP.out _ HB1.out)).mono ?_
  rintro e w2 ⟨rfl, hb⟩
  rw [HVP.out]
  have HB2 := hid (HB1.out.trans (hb.mono HB1.out.size))
  have HK2 := hid (HK1.out.go hb)
  have k1 := HK2.out
  have c_p := fun (o : Nat) => k1.cell o
  have l_p := k1.lt
  clear hb k1
  go_wp2_with fail
  refine (findLabel_c _ L s.l _ (HL.out _ HB2.out)).mono ?_
  rintro e w3 ⟨rfl, hb⟩
  rw [HSP.out.1, HNO.out]
  have HB3 := hid (HB2.out.trans (hb.mono HB2.out.size))
  have HK3 := hid (HK2.out.go hb)
  clear hb c_p
  go_wp2
  go_loopw [6, 7, 32] (fun o a i wr => ∃ k : Nat, ∃ ad : Bool, ∃ M : List Pc, i = .int .i64 k ∧ a = .bool ad ∧ k ≤ L.length ∧ M.length ≤ k + ad.toNat ∧ OSt (w.heap.size + 1) wr o M ∧ M ++ adL p ad (L.drop k) = adL p false L ∧ Blk wr w.heap.size #[.int .i64 s.l, .int .i64 s.w, .int .i64 s.h, .slice s.ka s.kn s.kc] 31 ∧ Below w.heap.size w wr) (fun _ _ i _ => L.length - (intOf i).toNat)
  case atStart => exact ⟨0, false, [], rfl, rfl, by omega, by simp, OSt.nil_ _ _, HR.out, HK3.out, HB3.out⟩
  case round =>
    obtain ⟨k, ad, M, rfl, rfl, hk, hML, hst, heq, hkp, hb⟩ := hrel
    have HST := hid hst
    have HB := hid hb
    have HKp := hid hkp
    have HEQ := hid heq
    have c_p := fun (o : Nat) => hkp.cell o
    have l_p := hkp.lt
    clear hst hb hkp heq
    by_cases hlt : k < L.length
    · obtain ⟨b1, o1, t, rfl, hb1, hpt, y0, y1, y2, y3⟩ := (HL.out _ (Below.refl _ _)).at_ k hlt
      have x0 := (HB.out.cell (p := ⟨b1, o1 + k * 4, none⟩) hb1).trans y0
      have x1 := (HB.out.cell (p := ⟨b1, o1 + k * 4 + 1, none⟩) hb1).trans y1
      have x2 := (HB.out.cell (p := ⟨b1, o1 + k * 4 + 2, none⟩) hb1).trans y2
      have x3 := (HB.out.cell (p := ⟨b1, o1 + k * 4 + 3, none⟩) hb1).trans y3
      have b1l : b1 < wr.heap.size := by have := HB.out.size; omega
      have HPt := hid (fun X (hb : Below w.heap.size w X) => hpt.go hb)
      have HGt := hid hpt.1.1
      have hdr : L.drop k = L[k] :: L.drop (k + 1) := List.drop_eq_getElem_cons hlt
      have HDR := hid hdr
      have HKe := hid (Blk.new wr #[.int .i64 t.l, .int .i64 t.w, .int .i64 t.h, .slice t.ka t.kn t.kc] 31)
      have HKpa := hid (HKp.out.alloc (.cells #[.int .i64 t.l, .int .i64 t.w, .int .i64 t.h, .slice t.ka t.kn t.kc] 31))
      have HSTa := hid (HST.out.below (below_ps (l := t.l) (x := t.w) (y := t.h) (ka := t.ka) (kn := t.kn) (kc := t.kc) (ty := 31) wr))
      have HBa := hid (HB.out.alloc HB.out.size (.cells #[.int .i64 t.l, .int .i64 t.w, .int .i64 t.h, .slice t.ka t.kn t.kc] 31))
      have l_p2 : w.heap.size < wr.heap.size + 1 := by omega
      clear hpt hdr y0 y1 y2 y3
      have hML2 : M.length ≤ k + 1 := by cases ad <;> simp at hML <;> omega
      cases ad with
      | true =>
        have HE2 : Hid ((M ++ [L[k]]) ++ adL p true (L.drop (k + 1)) = adL p false L) := by rw [Hid, ← HEQ.out, HDR.out, adL_t, List.append_assoc]; rfl
        go_wp2_with fail
        refine (copyPiece_c L[k] t _ (HPt.out _ HBa.out) (HF.out _ (List.getElem_mem hlt))).mono ?_
        rintro e w5 ⟨⟨tA, rfl, hs2, ho2⟩, hb⟩
        have hst2 := HSTa.out.below hb
        have HBA := hid (HBa.out.trans (hb.mono HBa.out.size))
        (try rw [World.size_alloc] at ho2)
        have HDJ := hid (dj_lt (fun j hj => by have := (HSTa.out.own_lt j hj).2; first | exact this | (simp at this; omega)) ho2)
        have HO2 := hid (ho2.base_le (base' := (w.heap.size + 1)) (by first | omega | (simp; omega)))
        have HS2 := hid hs2
        obtain ⟨S, hS, hown, hpo, hd⟩ := hst2
        have HSL := hid hS
        have HOW := hid hown
        have HPO := hid hpo
        have HD := hid hd
        obtain ⟨S2, hS2⟩ : ∃ M : List Ps, M = S ++ [tA] := ⟨_, rfl⟩
        have HS2' := hid hS2
        have HSl : Hid (S.length ≤ 4194304) := by rw [Hid, HSL.out]; first | omega | (simp; omega)
        have HKA := hid (HKpa.out.go hb)
        clear hb ho2 hs2 hS hown hpo hd hS2
        go_wp2_with (at_builtin; refine wpList_pushN psE _ rfl (.tmp 50) (.tmp 53) _ rfl (w.heap.size + 1) 31 i0 _ 48 Try.underlying44 hi0 hz0 hz1 hz2 rfl (by omega) _ _ rfl HOW.out _ tA _ rfl rfl rfl HSl.out (by have := HKA.out.lt; omega) S2 HS2'.out ?_)
        intro vA' wA' ho' hg' hat'
        rw [HS2'.out] at ho'
        have HNA := hid (ost_push HSL.out HPO.out HD.out ho' hg' hat' (by omega) HS2.out HO2.out HDJ.out)
        have HCA := hid (HBA.out.grown hg' HBA.out.size (fun q hq => Nat.le_of_succ_le (HOW.out.lt q hq).1))
        have HKB := hid (HKA.out.grown hg' (fun e => by have := (HST.out.own_lt _ e.symm).1; omega))
        clear ho' hg' hat' HSL HOW HPO HD HSl HS2' HO2 HS2 HDJ
        go_wp2
        exact ⟨⟨k + 1, true, M ++ [L[k]], by go_num, rfl, by omega, by simp; omega, HNA.out, HE2.out, HKB.out, HCA.out⟩, by simp [intOf]; omega⟩
      | false =>
        simp only [Bool.toNat_false, Nat.add_zero] at hML
        by_cases hle : s.l < t.l
        · have hd : decide (s.l < t.l) = true := by simpa using hle
          have HE2 : Hid ((M ++ [p] ++ [L[k]]) ++ adL p true (L.drop (k + 1)) = adL p false L) := by
            rw [Hid, ← HEQ.out, HDR.out, adL_ins (by rw [← HGt.out, ← HSP.out.1]; exact hle)]; simp
          clear hle
          go_wp2_with fail
          refine (copyPiece_c p s _ (HP.out _ HBa.out) HFp.out).mono ?_
          rintro e w5 ⟨⟨tA, rfl, hs2, ho2⟩, hb⟩
          have hst2 := HSTa.out.below hb
          have HBA := hid (HBa.out.trans (hb.mono HBa.out.size))
          (try rw [World.size_alloc] at ho2)
          have HDJ := hid (dj_lt (fun j hj => by have := (HSTa.out.own_lt j hj).2; first | exact this | (simp at this; omega)) ho2)
          have HO2 := hid (ho2.base_le (base' := (w.heap.size + 1)) (by first | omega | (simp; omega)))
          have HS2 := hid hs2
          obtain ⟨S, hS, hown, hpo, hd⟩ := hst2
          have HSL := hid hS
          have HOW := hid hown
          have HPO := hid hpo
          have HD := hid hd
          obtain ⟨S2, hS2⟩ : ∃ M : List Ps, M = S ++ [tA] := ⟨_, rfl⟩
          have HS2' := hid hS2
          have HSl : Hid (S.length ≤ 4194304) := by rw [Hid, HSL.out]; first | omega | (simp; omega)
          have HKA := hid (HKpa.out.go hb)
          have HKeA := hid (HKe.out.go hb)
          clear hb ho2 hs2 hS hown hpo hd hS2
          go_wp2_with (at_builtin; refine wpList_pushN psE _ rfl (.tmp 45) (.tmp 48) _ rfl (w.heap.size + 1) 31 i0 _ 48 Try.underlying44 hi0 hz0 hz1 hz2 rfl (by omega) _ _ rfl HOW.out _ tA _ rfl rfl rfl HSl.out (by have := HKA.out.lt; omega) S2 HS2'.out ?_)
          intro vA' wA' ho' hg' hat'
          rw [HS2'.out] at ho'
          have HNA := hid (ost_push HSL.out HPO.out HD.out ho' hg' hat' (by omega) HS2.out HO2.out HDJ.out)
          have HCA := hid (HBA.out.grown hg' HBA.out.size (fun q hq => Nat.le_of_succ_le (HOW.out.lt q hq).1))
          have HKB := hid (HKA.out.grown hg' (fun e => by have := (HST.out.own_lt _ e.symm).1; omega))
          have hke := HKeA.out.grown hg' (fun e => by have := (HST.out.own_lt _ e.symm).2; omega)
          have c_e := fun (o : Nat) => hke.cell o
          have l_e := hke.lt
          clear ho' hg' hat' HSL HOW HPO HD HSl HS2' HO2 HS2 HDJ
          go_wp2_with fail
          refine (copyPiece_c L[k] t _ (HPt.out _ HCA.out) (HF.out _ (List.getElem_mem hlt))).mono ?_
          rintro e w6 ⟨⟨tB, rfl, hs2, ho2⟩, hb⟩
          have hst2 := HNA.out.below hb
          have HBB := hid (HCA.out.trans (hb.mono HCA.out.size))
          (try rw [World.size_alloc] at ho2)
          have HDJ := hid (dj_lt (fun j hj => by have := (HNA.out.own_lt j hj).2; first | exact this | (simp at this; omega)) ho2)
          have HO2 := hid (ho2.base_le (base' := (w.heap.size + 1)) (by first | omega | (simp; omega)))
          have HS2 := hid hs2
          obtain ⟨S, hS, hown, hpo, hd⟩ := hst2
          have HSL := hid hS
          have HOW := hid hown
          have HPO := hid hpo
          have HD := hid hd
          obtain ⟨S2, hS2⟩ : ∃ M : List Ps, M = S ++ [tB] := ⟨_, rfl⟩
          have HS2' := hid hS2
          have HSl : Hid (S.length ≤ 4194304) := by rw [Hid, HSL.out]; first | omega | (simp; omega)
          have HKC := hid (HKB.out.go hb)
          clear hb ho2 hs2 hS hown hpo hd hS2
          go_wp2_with (at_builtin; refine wpList_pushN psE _ rfl (.tmp 50) (.tmp 53) _ rfl (w.heap.size + 1) 31 i0 _ 48 Try.underlying44 hi0 hz0 hz1 hz2 rfl (by omega) _ _ rfl HOW.out _ tB _ rfl rfl rfl HSl.out (by have := HKC.out.lt; omega) S2 HS2'.out ?_)
          intro vB' wB' ho' hg' hat'
          rw [HS2'.out] at ho'
          have HNB := hid (ost_push HSL.out HPO.out HD.out ho' hg' hat' (by omega) HS2.out HO2.out HDJ.out)
          have HCB := hid (HBB.out.grown hg' HBB.out.size (fun q hq => Nat.le_of_succ_le (HOW.out.lt q hq).1))
          have HKD := hid (HKC.out.grown hg' (fun e => by have := (HNA.out.own_lt _ e.symm).1; omega))
          clear ho' hg' hat' HSL HOW HPO HD HSl HS2' HO2 HS2 HDJ
          go_wp2
          exact ⟨⟨k + 1, true, M ++ [p] ++ [L[k]], by go_num, rfl, by omega, by simp; omega, HNB.out, HE2.out, HKD.out, HCB.out⟩, by simp [intOf]; omega⟩
        · have hd : decide (s.l < t.l) = false := by simpa using hle
          have HE2 : Hid ((M ++ [L[k]]) ++ adL p false (L.drop (k + 1)) = adL p false L) := by
            rw [Hid, ← HEQ.out, HDR.out, adL_f (by rw [← HGt.out, ← HSP.out.1]; exact hle)]; simp
          clear hle
          go_wp2_with fail
          refine (copyPiece_c L[k] t _ (HPt.out _ HBa.out) (HF.out _ (List.getElem_mem hlt))).mono ?_
          rintro e w5 ⟨⟨tA, rfl, hs2, ho2⟩, hb⟩
          have hst2 := HSTa.out.below hb
          have HBA := hid (HBa.out.trans (hb.mono HBa.out.size))
          (try rw [World.size_alloc] at ho2)
          have HDJ := hid (dj_lt (fun j hj => by have := (HSTa.out.own_lt j hj).2; first | exact this | (simp at this; omega)) ho2)
          have HO2 := hid (ho2.base_le (base' := (w.heap.size + 1)) (by first | omega | (simp; omega)))
          have HS2 := hid hs2
          obtain ⟨S, hS, hown, hpo, hd⟩ := hst2
          have HSL := hid hS
          have HOW := hid hown
          have HPO := hid hpo
          have HD := hid hd
          obtain ⟨S2, hS2⟩ : ∃ M : List Ps, M = S ++ [tA] := ⟨_, rfl⟩
          have HS2' := hid hS2
          have HSl : Hid (S.length ≤ 4194304) := by rw [Hid, HSL.out]; first | omega | (simp; omega)
          have HKA := hid (HKpa.out.go hb)
          clear hb ho2 hs2 hS hown hpo hd hS2
          go_wp2_with (at_builtin; refine wpList_pushN psE _ rfl (.tmp 50) (.tmp 53) _ rfl (w.heap.size + 1) 31 i0 _ 48 Try.underlying44 hi0 hz0 hz1 hz2 rfl (by omega) _ _ rfl HOW.out _ tA _ rfl rfl rfl HSl.out (by have := HKA.out.lt; omega) S2 HS2'.out ?_)
          intro vA' wA' ho' hg' hat'
          rw [HS2'.out] at ho'
          have HNA := hid (ost_push HSL.out HPO.out HD.out ho' hg' hat' (by omega) HS2.out HO2.out HDJ.out)
          have HCA := hid (HBA.out.grown hg' HBA.out.size (fun q hq => Nat.le_of_succ_le (HOW.out.lt q hq).1))
          have HKB := hid (HKA.out.grown hg' (fun e => by have := (HST.out.own_lt _ e.symm).1; omega))
          clear ho' hg' hat' HSL HOW HPO HD HSl HS2' HO2 HS2 HDJ
          go_wp2
          exact ⟨⟨k + 1, false, M ++ [L[k]], by go_num, rfl, by omega, by simp; omega, HNA.out, HE2.out, HKB.out, HCA.out⟩, by simp [intOf]; omega⟩
    · have hdr : L.drop k = [] := List.drop_eq_nil_of_le (by omega)
      rw [hdr] at HEQ
      clear hdr
      have hML2 : M.length ≤ k + 1 := by cases ad <;> simp at hML <;> omega
      cases ad with
      | true =>
        have HE2 : Hid (M = adL p false L) := by rw [Hid, ← HEQ.out]; simp [adL]
        go_wp2
        go_ret2
        exact ⟨⟨_, rfl, by rw [← HE2.out]; exact HST.out.base_le (Nat.le_succ _)⟩, HB.out⟩
      | false =>
        have HE2 : Hid (M ++ [p] = adL p false L) := by rw [Hid, ← HEQ.out]; simp [adL]
        go_wp2_with fail
        refine (copyPiece_c p s _ (HP.out _ HB.out) HFp.out).mono ?_
        rintro e w5 ⟨⟨tA, rfl, hs2, ho2⟩, hb⟩
        have hst2 := HST.out.below hb
        have HBA := hid (HB.out.trans (hb.mono HB.out.size))
        (try rw [World.size_alloc] at ho2)
        have HDJ := hid (dj_lt (fun j hj => by have := (HST.out.own_lt j hj).2; first | exact this | (simp at this; omega)) ho2)
        have HO2 := hid (ho2.base_le (base' := (w.heap.size + 1)) (by first | omega | (simp; omega)))
        have HS2 := hid hs2
        obtain ⟨S, hS, hown, hpo, hd⟩ := hst2
        have HSL := hid hS
        have HOW := hid hown
        have HPO := hid hpo
        have HD := hid hd
        obtain ⟨S2, hS2⟩ : ∃ M : List Ps, M = S ++ [tA] := ⟨_, rfl⟩
        have HS2' := hid hS2
        have HSl : Hid (S.length ≤ 4194304) := by rw [Hid, HSL.out]; first | omega | (simp; omega)
        have HKA := hid (HKp.out.go hb)
        clear hb ho2 hs2 hS hown hpo hd hS2
        go_wp2_with (at_builtin; refine wpList_pushN psE _ rfl (.tmp 58) (.tmp 61) _ rfl (w.heap.size + 1) 31 i0 _ 48 Try.underlying44 hi0 hz0 hz1 hz2 rfl (by omega) _ _ rfl HOW.out _ tA _ rfl rfl rfl HSl.out (by have := HKA.out.lt; omega) S2 HS2'.out ?_)
        intro vA' wA' ho' hg' hat'
        rw [HS2'.out] at ho'
        have HNA := hid (ost_push HSL.out HPO.out HD.out ho' hg' hat' (by omega) HS2.out HO2.out HDJ.out)
        have HCA := hid (HBA.out.grown hg' HBA.out.size (fun q hq => Nat.le_of_succ_le (HOW.out.lt q hq).1))
        clear ho' hg' hat' HSL HOW HPO HD HSl HS2' HO2 HS2 HDJ
        go_wp2
        go_ret2
        exact ⟨⟨_, rfl, by rw [← HE2.out]; exact HNA.out.base_le (Nat.le_succ _)⟩, HCA.out⟩

end Go.Proofs.Ytpicbkakghojnaa
