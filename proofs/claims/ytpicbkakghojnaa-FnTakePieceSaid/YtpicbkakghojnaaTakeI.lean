/-
  Contracts: a piece taken out of a stock, by the program.
-/
import Derived.Test.YtpicbkakghojnaaTake
import Derived.Test.YtpicbkakghojnaaCat
namespace Go.Proofs.Ytpicbkakghojnaa
set_option linter.unusedSimpArgs false
set_option linter.unusedVariables false
open Go.RowKit

theorem ost_cat {base n : Nat} {w w' : World} {v1 v' : Value} {L1 L2 : List Pc} {S1 S2 : List Ps} (hS1 : S1.length = L1.length) (hS2 : S2.length = L2.length) (hp1 : PsO base w L1 S1) (hp2 : PsO base w L2 S2) (hd1 : ∀ s ∈ S1, Dj v1 s.kv) (hd2 : ∀ s ∈ S2, Dj v1 s.kv)
    (ho : Own psE 31 base w' v' (S1 ++ S2)) (hg : w.grownBy w' v1.ownBlock) (hat : v'.ownBlock = v1.ownBlock ∨ v'.ownBlock = some n) (hn : w.heap.size ≤ n) : OSt base w' v' (L1 ++ L2) := by
  have hnew : ∀ (u : Ps) (F : List Bx), Own boxE 33 base w u.kv F → Dj v1 u.kv → Dj v' u.kv := fun u F hu hdu k hk e => by
    rcases hat with h | h
    · rw [h] at hk; exact hdu k hk e
    · rw [h] at hk; injection hk with hk; have := (hu.lt k e).2; omega
  have q1 := hp1.grownV hS1 hg (fun u hu => (hd1 u hu).symm.kept)
  have q2 := hp2.grownV hS2 hg (fun u hu => (hd2 u hu).symm.kept)
  refine ⟨S1 ++ S2, by simp [hS1, hS2], ho, fun k h1 h2 => ?_, fun u hu => ?_⟩
  · by_cases hk : k < S1.length
    · have hk2 : k < L1.length := by omega
      rw [List.getElem_append_left hk, List.getElem_append_left hk2]
      exact q1 k hk hk2
    · have hk2 : ¬ k < L1.length := by omega
      rw [List.getElem_append_right (by omega), List.getElem_append_right (by omega)]
      simp only [hS1]
      exact q2 (k - L1.length) (by simp at h1; omega) (by simp at h2; omega)
  · rcases List.mem_append.1 hu with hu | hu
    · obtain ⟨k, hk, rfl⟩ := List.getElem_of_mem hu
      exact hnew _ _ (hp1 k hk (by omega)).2 (hd1 _ (List.getElem_mem hk))
    · obtain ⟨k, hk, rfl⟩ := List.getElem_of_mem hu
      exact hnew _ _ (hp2 k hk (by omega)).2 (hd2 _ (List.getElem_mem hk))

theorem StR.take {B : Nat} {w : World} {A : Option Addr} {n c : Nat} {L : List Pc} (h : StR B w (.slice A n c) L) (k : Nat) (hk : k ≤ n) : StR B w (.slice A k c) (L.take k) := by
  obtain ⟨S, h1, h2, h3⟩ := h
  refine ⟨S.take k, h1.take k hk, by simp [h2], fun i i1 i2 => ?_⟩
  rw [List.getElem_take, List.getElem_take]
  exact h3 i _ _
theorem RowB.dropR {α : Type} {E : Enc α} {B : Nat} {w : World} {b off n c : Nat} {L : List α} (h : RowB E B w (.slice (some ⟨b, off, none⟩) n c) L) (k : Nat) (hk : k ≤ n) : RowB E B w (.slice (some ⟨b, off + k * E.sz, none⟩) (n - k) (c - k)) (L.drop k) := by
  obtain ⟨A', c', h0, h1, h2, h3⟩ := h
  injection h0 with hA hn hc
  subst hn; subst hc
  have hl : (L.drop k).length = L.length - k := by simp
  refine ⟨_, c - k, by rw [hl], by rw [hl]; omega, by omega, fun h0 => ?_⟩
  obtain ⟨b', off', e, hb, hc⟩ := h3 (by rw [hl] at h0; omega)
  rw [← hA] at e
  injection e with e
  injection e with e1 e2
  subst e1 e2
  refine ⟨b, _, rfl, hb, fun j u hu => ?_⟩
  rw [← E.flat_drop, List.getElem?_drop] at hu
  rw [Nat.add_assoc]
  exact hc _ u hu
theorem StR.dropR {B : Nat} {w : World} {b off n c : Nat} {L : List Pc} (h : StR B w (.slice (some ⟨b, off, none⟩) n c) L) (k : Nat) (hk : k ≤ n) : StR B w (.slice (some ⟨b, off + k * 4, none⟩) (n - k) (c - k)) (L.drop k) := by
  obtain ⟨S, h1, h2, h3⟩ := h
  refine ⟨S.drop k, h1.dropR k hk, by simp [h2], fun i i1 i2 => ?_⟩
  rw [List.getElem_drop, List.getElem_drop]
  exact h3 (k + i) _ _
theorem StR.empty (B : Nat) (w : World) (A : Option Addr) (c : Nat) (hc : c ≤ maxLen) : StR B w (.slice A 0 c) [] := ⟨[], ⟨A, c, rfl, by simp, hc, fun h => by simp at h⟩, rfl, fun k h1 => by simp at h1⟩

set_option maxHeartbeats 6400000 in
set_option maxRecDepth 100000 in
theorem TakePiece_t (v : Value) (L : List Pc) (x : Int) (j : Nat) (w : World) (h : StR w.heap.size w v L) (hvs : VS L) (hj : j < L.length) (hp : placeP (labs L) x = j) : Calls Try.prog 47 #[v, .int .i64 x] w fun e w' => TkT L j hj e w' ∧ Below w.heap.size w w' := by
  have hn : L.length ≤ 20 := hvs.1
  have HF : Hid (∀ q ∈ L, q.f.length ≤ 4194304) := fun q hq => Nat.le_trans (hvs.2.1 q hq).2.2.2.1 (by omega)
  have HB0 := hid ((Below.refl w.heap.size w).alloc (Nat.le_refl _) (.cells #[.int .i64 0, .int .i64 0, .int .i64 0, .slice none 0 0] 31))
  have HK := hid (Blk.new w #[.int .i64 0, .int .i64 0, .int .i64 0, .slice none 0 0] 31)
  have HL := hid (fun w1 (hb : Below w.heap.size w w1) => h.go hb)
  have HVS := hid (vsB_iff.2 hvs)
  have HP := hid hp
  obtain ⟨A1, c1, rfl, hc1, hm1⟩ := h.form
  unfold maxLen at hm1
  obtain ⟨b1, o1, s, rfl, hb1, hps, y0, y1, y2, y3⟩ := h.at_ j hj
  have HPs := hid (fun X (hb : Below w.heap.size w X) => hps.go hb)
  have Y := hid (And.intro y0 (And.intro y1 (And.intro y2 y3)))
  obtain ⟨i0, hi0, hz0, hz1, hz2⟩ := info_parts piece_info
  have HER := hid (List.eraseIdx_eq_take_drop_succ L j)
  have HT1 := hid (fun w1 (hb : Below w.heap.size w w1) => (HL.out w1 hb).take j (by omega))
  have hf1 : ∀ q ∈ L.take j, q.f.length ≤ 4194304 := fun q hq => HF.out q (List.mem_of_mem_take hq)
  have hf2 : ∀ q ∈ L.drop (j + 1), q.f.length ≤ 4194304 := fun q hq => HF.out q (List.mem_of_mem_drop hq)
  have HF1 := hid hf1
  have HF2 := hid hf2
  have hl1 : (L.take j).length ≤ 4194304 := by simp; omega
  have hl2 : (L.drop (j + 1)).length ≤ 4194304 := by simp; omega
  have HL1 := hid hl1
  have HL2 := hid hl2
  clear h hvs hp hps y0 y1 y2 y3 hf1 hf2 hl1 hl2
  have hjc : (j : Int) ≤ (c1 : Int) := by omega
  have hjn : (j : Int) + 1 ≤ (L.length : Int) := by omega
  have hw1 : IntKind.i64.wrap ((j : Int) + 1) = (j : Int) + 1 := IntWalk.i64_in _ (by omega)
  have hj0 : (0 : Int) ≤ (j : Int) + 1 := by omega
  have htn : ((j : Int) + 1).toNat = j + 1 := by omega
  by_cases hcap : c1 = j + 1
  · subst hcap
    have hz0' : L.length - (j + 1) = 0 := by omega
    have hdn : L.drop (j + 1) = [] := List.drop_eq_nil_of_le (by omega)
    have HT2 : Hid (∀ w1, Below w.heap.size w w1 → StR w1.heap.size w1 (.slice (some ⟨b1, o1, none⟩) 0 0) (L.drop (j + 1))) := fun w1 _ => by
      rw [hdn]
      exact StR.empty _ _ _ _ (by simp [maxLen])
    clear hz0' hdn
    have hjc2 : (j : Int) ≤ (j : Int) + 1 := by omega
    have hjc3 : j ≤ j + 1 := by omega
    go_enter Try.func47, Try.ntmps47
    go_wp2_with fail
    refine (ValidStock_c _ L _ (HL.out _ HB0.out)).mono ?_
    rintro e w1 ⟨rfl, hb⟩
    rw [HVS.out]
    have HB1 := hid (HB0.out.trans (hb.mono HB0.out.size))
    have HK1 := hid (HK.out.go hb)
    clear hb
    go_wp2_with fail
    refine (findLabel_c _ L x _ (HL.out _ HB1.out)).mono ?_
    rintro e w2 ⟨rfl, hb⟩
    rw [HP.out]
    have HB2 := hid (HB1.out.trans (hb.mono HB1.out.size))
    have HK2 := hid (HK1.out.go hb)
    clear hb
    go_wp2
    have ZB := hid HB2.out.drew
    have ZK := hid HK2.out.draw1
    have ZQl := hid ZK.out.lt
    have ZBs := hid ZB.out.size
    go_region_held3 (fun _ => True) (exact trivial)
      (first | (go_at_call 80; (first | ((with_reducible refine (copyStock_c _ (L.take j) _ (HT1.out _ ZB.out) HL1.out HF1.out).mono ?_); rintro e wa ⟨⟨va, rfl, hsta⟩, hb⟩; (have O1 := hid hsta); (have hza := hb.size); replace ZK := hid (ZK.out.go hb); replace ZB := hid (ZB.out.trans (hb.mono ZB.out.size)); (clear hb hsta)) | ((with_reducible refine (copyStock_c _ (L.drop (j + 1)) _ (HT2.out _ ZB.out) HL2.out HF2.out).mono ?_); rintro e wb ⟨⟨vb, rfl, hstb⟩, hb⟩; obtain ⟨S1, s11, s12, s13, s14⟩ := O1.out.below hb; obtain ⟨S2, s21, s22, s23, s24⟩ := hstb; (have T11 := hid s11); (have T12 := hid s12); (have T13 := hid s13); (have T14 := hid s14); (have T21 := hid s21); (have T22 := hid s22); (have T23 := hid (s23.base_le hza)); (have TD := hid (fun (u : Ps) (hu : u ∈ S2) => by obtain ⟨k, hk, rfl⟩ := List.getElem_of_mem hu; exact dj_lt (fun q hq => (O1.out.own_lt q hq).2) (s23 k hk (by omega)).2 : ∀ u ∈ S2, Dj va u.kv)); (have hzb := hb.size); (have TL : Hid (S1.length + S2.length ≤ 4194304) := (by rw [Hid, s11, s21]; simp; omega)); replace ZK := hid (ZK.out.go hb); replace ZB := hid (ZB.out.trans (hb.mono ZB.out.size)); (clear hb s11 s12 s13 s14 s21 s22 s23 s24)))) | (refine step_cat psE _ rfl (.tmp 22) (.tmp 27) _ rfl w2.drew.heap.size 31 i0 _ 48 Try.underlying44 hi0 hz0 hz1 hz2 rfl (by omega) _ _ rfl T12.out _ _ _ rfl T22.out.rowB TL.out (Nat.le_trans hza hzb) (S1 ++ S2) rfl ?_; intro v' w' ho' hg' hat'; (have HN := hid (ost_cat T11.out T21.out T13.out T23.out T14.out TD.out ho' hg' hat' (Nat.le_refl _))); (have HBw := hid (ZB.out.grown hg' ZB.out.size (fun q hq => Nat.le_trans ZBs.out ((T12.out.lt q hq).1)))); (have HKw := hid (ZK.out.grown hg' (fun e => by have := (T12.out.lt _ e.symm).1; have := ZQl.out; omega))); (clear ho' hg' hat')))
    rw [← HER.out] at HN
    have x0 := (HBw.out.cell (p := ⟨b1, o1 + j * 4, none⟩) hb1).trans Y.out.1
    have x1 := (HBw.out.cell (p := ⟨b1, o1 + j * 4 + 1, none⟩) hb1).trans Y.out.2.1
    have x2 := (HBw.out.cell (p := ⟨b1, o1 + j * 4 + 2, none⟩) hb1).trans Y.out.2.2.1
    have x3 := (HBw.out.cell (p := ⟨b1, o1 + j * 4 + 3, none⟩) hb1).trans Y.out.2.2.2
    have b1l : b1 < w'.heap.size := by have := HBw.out.size; omega
    go_wp2_with fail
    refine (copyPiece_c L[j] s _ (HPs.out _ HBw.out) (HF.out _ (List.getElem_mem hj))).mono ?_
    rintro e w5 ⟨⟨s2, rfl, hs2, ho2⟩, hb⟩
    have HB5 := hid (HBw.out.trans (hb.mono HBw.out.size))
    have k5 := HKw.out.go hb
    have c_q := fun (o : Nat) => k5.cell o
    have f_q := fun (o : Nat) => k5.frz o
    have l_q5 := k5.lt
    have l_qw := HKw.out.lt
    have HS2 := hid hs2
    have HO2 := hid ho2
    have HST := hid (HN.out.below hb)
    clear hb hs2 ho2 k5 x0 x1 x2 x3
    go_wp2
    refine bodyPost_ret (v := .tuple #[.agg #[.int .i64 s2.l, .int .i64 s2.w, .int .i64 s2.h, .slice s2.ka s2.kn s2.kc], v', .bool true]) (by simp [results, Try.results47, go_sem, c_q]) rfl ⟨⟨s2, v', rfl, ?_, ?_⟩, ?_⟩
    · exact pvr_res4 ⟨HS2.out, HO2.out.rowB⟩ (fun e => by have := (HO2.out.lt _ e).1; omega) _ _ _ _
    · have l_q4 := ZQl.out
      have hst2 : OSt w2.drew.heap.size ((((w5.setCell ⟨w.heap.size, 0, none⟩ (.int .i64 s2.l)).setCell ⟨w.heap.size, 1, none⟩ (.int .i64 s2.w)).setCell ⟨w.heap.size, 2, none⟩ (.int .i64 s2.h)).setCell ⟨w.heap.size, 3, none⟩ (.slice s2.ka s2.kn s2.kc)) v' (L.eraseIdx j) :=
        ((((HST.out.gr (grown_setCell _ ⟨w.heap.size, 0, none⟩ _) l_q4).gr (grown_setCell _ ⟨w.heap.size, 1, none⟩ _) l_q4).gr (grown_setCell _ ⟨w.heap.size, 2, none⟩ _) l_q4).gr (grown_setCell _ ⟨w.heap.size, 3, none⟩ _) l_q4)
      exact hst2.read
    · exact ((((HB5.out.setCell (by simp <;> omega) _).setCell (by simp <;> omega) _).setCell (by simp <;> omega) _).setCell (by simp <;> omega) _)
  · have HT2 := hid (fun w1 (hb : Below w.heap.size w w1) => (HL.out w1 hb).dropR (j + 1) (by omega))
    go_enter Try.func47, Try.ntmps47
    go_wp2_with fail
    refine (ValidStock_c _ L _ (HL.out _ HB0.out)).mono ?_
    rintro e w1 ⟨rfl, hb⟩
    rw [HVS.out]
    have HB1 := hid (HB0.out.trans (hb.mono HB0.out.size))
    have HK1 := hid (HK.out.go hb)
    clear hb
    go_wp2_with fail
    refine (findLabel_c _ L x _ (HL.out _ HB1.out)).mono ?_
    rintro e w2 ⟨rfl, hb⟩
    rw [HP.out]
    have HB2 := hid (HB1.out.trans (hb.mono HB1.out.size))
    have HK2 := hid (HK1.out.go hb)
    clear hb
    go_wp2
    have ZB := hid HB2.out.drew
    have ZK := hid HK2.out.draw1
    have ZQl := hid ZK.out.lt
    have ZBs := hid ZB.out.size
    go_region_held3 (fun _ => True) (exact trivial)
      (first | (go_at_call 80; (first | ((with_reducible refine (copyStock_c _ (L.take j) _ (HT1.out _ ZB.out) HL1.out HF1.out).mono ?_); rintro e wa ⟨⟨va, rfl, hsta⟩, hb⟩; (have O1 := hid hsta); (have hza := hb.size); replace ZK := hid (ZK.out.go hb); replace ZB := hid (ZB.out.trans (hb.mono ZB.out.size)); (clear hb hsta)) | ((with_reducible refine (copyStock_c _ (L.drop (j + 1)) _ (HT2.out _ ZB.out) HL2.out HF2.out).mono ?_); rintro e wb ⟨⟨vb, rfl, hstb⟩, hb⟩; obtain ⟨S1, s11, s12, s13, s14⟩ := O1.out.below hb; obtain ⟨S2, s21, s22, s23, s24⟩ := hstb; (have T11 := hid s11); (have T12 := hid s12); (have T13 := hid s13); (have T14 := hid s14); (have T21 := hid s21); (have T22 := hid s22); (have T23 := hid (s23.base_le hza)); (have TD := hid (fun (u : Ps) (hu : u ∈ S2) => by obtain ⟨k, hk, rfl⟩ := List.getElem_of_mem hu; exact dj_lt (fun q hq => (O1.out.own_lt q hq).2) (s23 k hk (by omega)).2 : ∀ u ∈ S2, Dj va u.kv)); (have hzb := hb.size); (have TL : Hid (S1.length + S2.length ≤ 4194304) := (by rw [Hid, s11, s21]; simp; omega)); replace ZK := hid (ZK.out.go hb); replace ZB := hid (ZB.out.trans (hb.mono ZB.out.size)); (clear hb s11 s12 s13 s14 s21 s22 s23 s24)))) | (refine step_cat psE _ rfl (.tmp 22) (.tmp 27) _ rfl w2.drew.heap.size 31 i0 _ 48 Try.underlying44 hi0 hz0 hz1 hz2 rfl (by omega) _ _ rfl T12.out _ _ _ rfl T22.out.rowB TL.out (Nat.le_trans hza hzb) (S1 ++ S2) rfl ?_; intro v' w' ho' hg' hat'; (have HN := hid (ost_cat T11.out T21.out T13.out T23.out T14.out TD.out ho' hg' hat' (Nat.le_refl _))); (have HBw := hid (ZB.out.grown hg' ZB.out.size (fun q hq => Nat.le_trans ZBs.out ((T12.out.lt q hq).1)))); (have HKw := hid (ZK.out.grown hg' (fun e => by have := (T12.out.lt _ e.symm).1; have := ZQl.out; omega))); (clear ho' hg' hat')))
    rw [← HER.out] at HN
    have x0 := (HBw.out.cell (p := ⟨b1, o1 + j * 4, none⟩) hb1).trans Y.out.1
    have x1 := (HBw.out.cell (p := ⟨b1, o1 + j * 4 + 1, none⟩) hb1).trans Y.out.2.1
    have x2 := (HBw.out.cell (p := ⟨b1, o1 + j * 4 + 2, none⟩) hb1).trans Y.out.2.2.1
    have x3 := (HBw.out.cell (p := ⟨b1, o1 + j * 4 + 3, none⟩) hb1).trans Y.out.2.2.2
    have b1l : b1 < w'.heap.size := by have := HBw.out.size; omega
    go_wp2_with fail
    refine (copyPiece_c L[j] s _ (HPs.out _ HBw.out) (HF.out _ (List.getElem_mem hj))).mono ?_
    rintro e w5 ⟨⟨s2, rfl, hs2, ho2⟩, hb⟩
    have HB5 := hid (HBw.out.trans (hb.mono HBw.out.size))
    have k5 := HKw.out.go hb
    have c_q := fun (o : Nat) => k5.cell o
    have f_q := fun (o : Nat) => k5.frz o
    have l_q5 := k5.lt
    have l_qw := HKw.out.lt
    have HS2 := hid hs2
    have HO2 := hid ho2
    have HST := hid (HN.out.below hb)
    clear hb hs2 ho2 k5 x0 x1 x2 x3
    go_wp2
    refine bodyPost_ret (v := .tuple #[.agg #[.int .i64 s2.l, .int .i64 s2.w, .int .i64 s2.h, .slice s2.ka s2.kn s2.kc], v', .bool true]) (by simp [results, Try.results47, go_sem, c_q]) rfl ⟨⟨s2, v', rfl, ?_, ?_⟩, ?_⟩
    · exact pvr_res4 ⟨HS2.out, HO2.out.rowB⟩ (fun e => by have := (HO2.out.lt _ e).1; omega) _ _ _ _
    · have l_q4 := ZQl.out
      have hst2 : OSt w2.drew.heap.size ((((w5.setCell ⟨w.heap.size, 0, none⟩ (.int .i64 s2.l)).setCell ⟨w.heap.size, 1, none⟩ (.int .i64 s2.w)).setCell ⟨w.heap.size, 2, none⟩ (.int .i64 s2.h)).setCell ⟨w.heap.size, 3, none⟩ (.slice s2.ka s2.kn s2.kc)) v' (L.eraseIdx j) :=
        ((((HST.out.gr (grown_setCell _ ⟨w.heap.size, 0, none⟩ _) l_q4).gr (grown_setCell _ ⟨w.heap.size, 1, none⟩ _) l_q4).gr (grown_setCell _ ⟨w.heap.size, 2, none⟩ _) l_q4).gr (grown_setCell _ ⟨w.heap.size, 3, none⟩ _) l_q4)
      exact hst2.read
    · exact ((((HB5.out.setCell (by simp <;> omega) _).setCell (by simp <;> omega) _).setCell (by simp <;> omega) _).setCell (by simp <;> omega) _)

set_option maxHeartbeats 6400000 in
set_option maxRecDepth 100000 in
theorem TakePiece_f (v : Value) (L : List Pc) (x : Int) (w : World) (h : StR w.heap.size w v L) (hf : ¬ (VS L ∧ 0 ≤ placeP (labs L) x)) : Calls Try.prog 47 #[v, .int .i64 x] w fun e w' => e = .returned (.tuple #[.agg #[.int .i64 0, .int .i64 0, .int .i64 0, .slice none 0 0], .slice none 0 0, .bool false]) ∧ Below w.heap.size w w' := by
  have HB0 := hid ((Below.refl w.heap.size w).alloc (Nat.le_refl _) (.cells #[.int .i64 0, .int .i64 0, .int .i64 0, .slice none 0 0] 31))
  have HK := hid (Blk.new w #[.int .i64 0, .int .i64 0, .int .i64 0, .slice none 0 0] 31)
  have HL := hid (fun w1 (hb : Below w.heap.size w w1) => h.go hb)
  have hbd := placeP_bd (labs L) x
  cases hv : vsB L with
  | false =>
    have HV := hid hv
    clear hv h hf hbd
    go_enter Try.func47, Try.ntmps47
    go_wp2_with fail
    refine (ValidStock_c _ L _ (HL.out _ HB0.out)).mono ?_
    rintro e w1 ⟨rfl, hb⟩
    rw [HV.out]
    have HB1 := hid (HB0.out.trans (hb.mono HB0.out.size))
    have k1 := HK.out.go hb
    have c_q := fun (o : Nat) => k1.cell o
    have f_q := fun (o : Nat) => k1.frz o
    have l_q := k1.lt
    clear hb k1
    go_wp2
    refine bodyPost_ret (v := .tuple #[.agg #[.int .i64 0, .int .i64 0, .int .i64 0, .slice none 0 0], .slice none 0 0, .bool false]) (by simp [results, Try.results47, go_sem, c_q]) rfl ⟨rfl, ?_⟩
    exact ((((HB1.out.setCell (by simp <;> omega) _).setCell (by simp <;> omega) _).setCell (by simp <;> omega) _).setCell (by simp <;> omega) _)
  | true =>
    have HV := hid hv
    have hx : placeP (labs L) x = -1 := by
      have h1 : ¬ 0 ≤ placeP (labs L) x := fun h2 => hf ⟨vsB_iff.1 hv, h2⟩
      omega
    have HX := hid hx
    clear hv h hf hbd hx
    go_enter Try.func47, Try.ntmps47
    go_wp2_with fail
    refine (ValidStock_c _ L _ (HL.out _ HB0.out)).mono ?_
    rintro e w1 ⟨rfl, hb⟩
    rw [HV.out]
    have HB1 := hid (HB0.out.trans (hb.mono HB0.out.size))
    have HK1 := hid (HK.out.go hb)
    clear hb
    go_wp2_with fail
    refine (findLabel_c _ L x _ (HL.out _ HB1.out)).mono ?_
    rintro e w2 ⟨rfl, hb⟩
    rw [HX.out]
    have HB2 := hid (HB1.out.trans (hb.mono HB1.out.size))
    have k1 := HK1.out.go hb
    have c_q := fun (o : Nat) => k1.cell o
    have f_q := fun (o : Nat) => k1.frz o
    have l_q := k1.lt
    clear hb k1
    go_wp2
    refine bodyPost_ret (v := .tuple #[.agg #[.int .i64 0, .int .i64 0, .int .i64 0, .slice none 0 0], .slice none 0 0, .bool false]) (by simp [results, Try.results47, go_sem, c_q]) rfl ⟨rfl, ?_⟩
    exact ((((HB2.out.setCell (by simp <;> omega) _).setCell (by simp <;> omega) _).setCell (by simp <;> omega) _).setCell (by simp <;> omega) _)

end Go.Proofs.Ytpicbkakghojnaa
