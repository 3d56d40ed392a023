/-
  Contracts: boxes drawn for ApartBoxes; are boxes apart, by the reference; boxes that are apart have as many points as their areas together.
-/
import Derived.Test.YtafcohmneeabbaaWaste
import Derived.Test.YtafcohmneeabbaaDrBoxes
import Derived.Test.YtafcohmneeabbaaBoxQ
import Derived.Test.YtafcohmneeabbaaLawBox
namespace Go.Proofs.Ytafcohmneeabbaa
set_option linter.unusedSimpArgs false
set_option linter.unusedVariables false
open Go.RowKit

set_option maxHeartbeats 3200000 in
set_option maxRecDepth 100000 in
theorem DrawApartBoxes_c (v : Value) (L : List Int) (w : World) (h : Row byteE w v L) (hb : ∀ x ∈ L, 0 ≤ x ∧ x ≤ 255) : Calls Try.prog 9 #[v] w (BxsOut w) := by
  have HR := hid h
  have HB := hid hb
  clear h hb
  go_enter Try.func9, Try.ntmps9
  go_wp2_with fail
  refine (newReader_c w.heap.size _ L _ HR.out (Nat.le_refl _) HB.out).mono ?_
  rintro e w1 ⟨rfl, hR, hb, hs⟩
  have HB1 := hid hb
  have HR1 := hid hR
  clear hR hb
  go_wp2_with fail
  refine (pick_c w.heap.size w.heap.size 2 0 _ HR1.out (by omega) (by omega) (by omega)).mono ?_
  rintro e w2 ⟨x, rfl, hp, hR, hg⟩
  have HB2 := hid (below_gr HB1.out hg HB1.out.size (Nat.le_refl _))
  have HR2 := hid hR
  clear hp hR hg
  by_cases hx : x = 0
  · have d1 : (x == 0) = true := by simpa using hx
    clear hx
    go_wp2_with fail
    refine (workPlan_c w.heap.size w.heap.size _ _ HR2.out (by omega)).mono ?_
    rintro e w3 ⟨s, pl, W, H, pA, pn, pc, rfl, k1, k2, k3, k4, k5, k6⟩
    have HB3 := hid (below_gr HB2.out k6 HB2.out.size (Nat.le_refl _))
    have hbb := (((Below.refl w3.heap.size w3).alloc (Nat.le_refl _) (.cells #[.int .i64 W, .int .i64 H, .slice pA pn pc] 47)).alloc (by simp) (.cells #[.int .i64 s.o, .int .i64 s.a, .int .i64 s.p, .bool s.t, .slice s.ka s.kn s.kc] 30))
    obtain ⟨k0, t, hw, hok, hcu⟩ := k1
    have HT := hid ((PR.tr (p := pl) (s := s) ⟨k0, FQ.fr (B := w3.heap.size) (fun q hq => hq.2) k2⟩ hw).go hbb)
    have HOK := hid hok
    have hcc : cuts t ≤ 15 := by omega
    have HKB := hid (show Blk ((w3.alloc (.cells #[.int .i64 W, .int .i64 H, .slice pA pn pc] 47)).alloc (.cells #[.int .i64 s.o, .int .i64 s.a, .int .i64 s.p, .bool s.t, .slice s.ka s.kn s.kc] 30)) w3.heap.size #[.int .i64 W, .int .i64 H, .slice pA pn pc] 47 from (Blk.new w3 _ _).alloc _)
    have HPB := hid (show Blk ((w3.alloc (.cells #[.int .i64 W, .int .i64 H, .slice pA pn pc] 47)).alloc (.cells #[.int .i64 s.o, .int .i64 s.a, .int .i64 s.p, .bool s.t, .slice s.ka s.kn s.kc] 30)) (w3.heap.size + 1) #[.int .i64 s.o, .int .i64 s.a, .int .i64 s.p, .bool s.t, .slice s.ka s.kn s.kc] 30 by have := Blk.new (w3.alloc (.cells #[.int .i64 W, .int .i64 H, .slice pA pn pc] 47)) #[.int .i64 s.o, .int .i64 s.a, .int .i64 s.p, .bool s.t, .slice s.ka s.kn s.kc] 30; simpa using this)
    have HB4 := hid (HB3.out.trans (hbb.mono HB3.out.size))
    clear k0 k2 k5 k6 hw hok hcu hbb
    have c_K := fun (o : Nat) => HKB.out.cell o
    have l_K := HKB.out.lt
    have c_P := fun (o : Nat) => HPB.out.cell o
    have l_P := HPB.out.lt
    go_wp2_with fail
    refine (wastesOf_c W H pA pn pc t s _ HT.out HOK.out hcc k3 k4).mono ?_
    rintro e w4 ⟨v4, M, rfl, hr, hb⟩
    have HRM := hid hr
    have HB5 := hid (HB4.out.trans (hb.mono HB4.out.size))
    clear hr hb
    go_wp2
    go_ret
    exact ⟨_, M, rfl, HRM.out, HB5.out⟩
  · have d1 : (x == 0) = false := by simpa using hx
    clear hx
    go_wp2_with fail
    refine (anyBoxes_c w.heap.size w.heap.size _ _ HR2.out (by omega)).mono ?_
    rintro e w3 ⟨v3, M, rfl, hl, ht, ho, hne, hR, hg⟩
    have HB3 := hid (below_gr HB2.out hg HB2.out.size (Nat.le_refl _))
    have HRM := hid ho.rowB
    clear ho hR hg ht
    go_wp2
    go_ret
    exact ⟨_, M, rfl, HRM.out, HB3.out⟩

theorem apart_at {L : List Bx} {i k : Nat} (hi : i < L.length) (hk : k < i) (h : mtB L[i] L[k] = true) : ¬ Apart L := fun ha => by have := ha i k hi hk; rw [h] at this; cases this

set_option maxHeartbeats 6400000 in
set_option maxRecDepth 100000 in
theorem sapart_c (v : Value) (L : List Bx) (w : World) (h : Row boxE w v L) (hV : VBs L) : Calls Try.prog 42 #[v] w fun e w' => e = .returned (.bool (decide (Apart L))) ∧ Below w.heap.size w w' := by
  obtain ⟨A1, c1, rfl, hc1, hm1⟩ := h.form
  unfold maxLen at hm1
  have HH := hid h
  have HV := hid hV
  clear h hV
  go_enter Try.func42, Try.ntmps42
  go_wp2
  go_loopw [3] (fun i wr => ∃ k : Nat, i = .int .i64 k ∧ k ≤ L.length ∧ (∀ i j, (hi : i < L.length) → (hj : j < i) → i < k → mtB L[i] (L[j]'(by omega)) = false) ∧ Below w.heap.size w wr) (fun i _ => L.length - (intOf i).toNat)
  case atStart => exact ⟨0, rfl, by omega, fun i j _ _ h => by omega, Below.refl _ _⟩
  case round =>
    obtain ⟨wo, rfl⟩ : ∃ wo : World, wo = wr := ⟨_, rfl⟩
    obtain ⟨i, rfl, hi, hno, hb⟩ := hrel
    have HNO := hid hno
    have HBo := hid hb
    clear hno hb
    by_cases hlt : i < L.length
    · have VI := hid (HV.out.2 _ (List.getElem_mem hlt))
      go_wp2
      go_loopw [4] (fun j wr => ∃ k : Nat, j = .int .i64 k ∧ k ≤ i ∧ (∀ j, (hj : j < i) → j < k → mtB L[i] (L[j]'(by omega)) = false) ∧ Below w.heap.size w wr) (fun j _ => i - (intOf j).toNat)
      case atStart => exact ⟨0, rfl, by omega, fun j _ h => by omega, HBo.out⟩
      case round =>
        obtain ⟨k, rfl, hk, hnk, hb⟩ := hrel
        have HNK := hid hnk
        have HBr := hid hb
        have hbz := hb.size
        clear hnk
        by_cases hlk : k < i
        · have hkL : k < L.length := by omega
          have VK := hid (HV.out.2 _ (List.getElem_mem hkL))
          obtain ⟨b1, o1, rfl, hb1, hx⟩ := row_boxs (HH.out.go hb) (by omega)
          obtain ⟨x0, x1, x2, x3⟩ := hx i hlt
          obtain ⟨y0, y1, y2, y3⟩ := hx k hkL
          clear hx hb
          cases hm : mtB L[i] L[k] with
          | true =>
              have HM := hid hm
              have HF : Hid (decide (Apart L) = false) := decide_eq_false (apart_at hlt hlk hm)
              clear hm
              go_wp2
              have ZK := hid ((Below.refl _ _).drew : Below wr.heap.size wr wr.drew)
              go_region_held3 (fun w' => ∀ b o, b < wr.heap.size → w'.cell? ⟨b, o, none⟩ = wr.cell? ⟨b, o, none⟩) (first | with_reducible exact fun b o h => ZK.out.cell (p := ⟨b, o, none⟩) h | with_reducible exact fun b o h => (ZK.out.alloc ZK.out.size _).cell (p := ⟨b, o, none⟩) h | with_reducible exact fun b o h => (((Below.refl _ _).alloc (Nat.le_refl _) _).drew).cell (p := ⟨b, o, none⟩) h | with_reducible exact fun b o h => ((((ZK.out.setCell (Nat.le_refl _) _).setCell (Nat.le_refl _) _).setCell (Nat.le_refl _) _).setCell (Nat.le_refl _) _).cell (p := ⟨b, o, none⟩) h)
                (first | (go_at_call 68; ((with_reducible refine (smeetOf_t L[i] L[k] _ VI.out VK.out HM.out).mono ?_); rintro e wq ⟨rfl, hb⟩; obtain ⟨hc2, hf2, hs2⟩ := bcell hb; (try have hz2 : wr.heap.size < wq.heap.size := (by simp at hs2; omega)); (first | with_reducible replace ZK := hid (ZK.out.trans (hb.mono ZK.out.size)) | with_reducible replace ZK := hid ((((Below.refl wr.heap.size wr).alloc (Nat.le_refl _) _).drew).trans (hb.mono (((Below.refl wr.heap.size wr).alloc (Nat.le_refl _) _).drew).size))); clear hb hs2)) | fail)
              all_goals
                go_wp2
                go_ret
                first | exact ⟨ret_bool HF.out.symm, HBr.out.trans ((((((ZK.out.setCell (Nat.le_refl _) _).setCell (Nat.le_refl _) _).setCell (Nat.le_refl _) _).setCell (Nat.le_refl _) _)).mono hbz)⟩ | exact ⟨ret_bool HF.out.symm, HBr.out.trans ((ZK.out.alloc ZK.out.size _).mono hbz)⟩ | fail
          | false =>
              have HM := hid hm
              have HNK2 : Hid (∀ j, (hj : j < i) → j < k + 1 → mtB L[i] (L[j]'(by omega)) = false) := fun j hj hj2 => by
                by_cases e : j = k
                · subst e; exact hm
                · exact HNK.out j hj (by omega)
              clear hm
              go_wp2
              have ZK := hid ((Below.refl _ _).drew : Below wr.heap.size wr wr.drew)
              go_region_held3 (fun w' => ∀ b o, b < wr.heap.size → w'.cell? ⟨b, o, none⟩ = wr.cell? ⟨b, o, none⟩) (first | with_reducible exact fun b o h => ZK.out.cell (p := ⟨b, o, none⟩) h | with_reducible exact fun b o h => (ZK.out.alloc ZK.out.size _).cell (p := ⟨b, o, none⟩) h | with_reducible exact fun b o h => (((Below.refl _ _).alloc (Nat.le_refl _) _).drew).cell (p := ⟨b, o, none⟩) h | with_reducible exact fun b o h => ((((ZK.out.setCell (Nat.le_refl _) _).setCell (Nat.le_refl _) _).setCell (Nat.le_refl _) _).setCell (Nat.le_refl _) _).cell (p := ⟨b, o, none⟩) h)
                (first | (go_at_call 68; ((with_reducible refine (smeetOf_f L[i] L[k] _ VI.out VK.out HM.out).mono ?_); rintro e wq ⟨rfl, hb⟩; obtain ⟨hc2, hf2, hs2⟩ := bcell hb; (try have hz2 : wr.heap.size < wq.heap.size := (by simp at hs2; omega)); (first | with_reducible replace ZK := hid (ZK.out.trans (hb.mono ZK.out.size)) | with_reducible replace ZK := hid ((((Below.refl wr.heap.size wr).alloc (Nat.le_refl _) _).drew).trans (hb.mono (((Below.refl wr.heap.size wr).alloc (Nat.le_refl _) _).drew).size))); clear hb hs2)) | fail)
              all_goals
                go_wp2
                first | exact ⟨⟨k + 1, by go_num, by omega, HNK2.out, HBr.out.trans ((((((ZK.out.setCell (Nat.le_refl _) _).setCell (Nat.le_refl _) _).setCell (Nat.le_refl _) _).setCell (Nat.le_refl _) _)).mono hbz)⟩, by simp [intOf]; omega⟩ | exact ⟨⟨k + 1, by go_num, by omega, HNK2.out, HBr.out.trans ((ZK.out.alloc ZK.out.size _).mono hbz)⟩, by simp [intOf]; omega⟩ | fail
        · have HNO2 : Hid (∀ i' j, (hi : i' < L.length) → (hj : j < i') → i' < i + 1 → mtB L[i'] (L[j]'(by omega)) = false) := fun i' j h1 h2 h3 => by
            by_cases e : i' = i
            · subst e; exact HNK.out j h2 (by omega)
            · exact HNO.out i' j h1 h2 (by omega)
          clear hb
          go_wp2
          exact ⟨⟨i + 1, by go_num, by omega, HNO2.out, HBr.out⟩, by simp [intOf]; omega⟩
    · have HT : Hid (decide (Apart L) = true) := decide_eq_true (fun i' j h1 h2 => HNO.out i' j h1 h2 (by omega))
      go_wp2
      go_ret
      exact ⟨ret_bool HT.out.symm, HBo.out⟩

set_option maxHeartbeats 1600000 in
theorem sApartBoxes_c (v : Value) (L : List Bx) (w : World) (h : Row boxE w v L) : Calls Try.prog 11 #[v] w fun e w' => e = .returned (.bool (apB L)) ∧ Below w.heap.size w w' := by
  obtain ⟨A1, c1, rfl, hc1, hm1⟩ := h.form
  have HH := hid h
  clear h
  go_enter Try.func11, Try.ntmps11
  go_wp2_with fail
  refine (svalidBoxes_c _ L _ HH.out).mono ?_
  rintro e w1 ⟨rfl, hb⟩
  have HB := hid hb
  have HH1 := hid (HH.out.go hb)
  clear hb
  cases hv : vbsB L with
  | false =>
    have HE := hid (apB_f hv)
    clear hv
    go_wp2
    go_ret
    exact ⟨ret_bool HE.out.symm, HB.out⟩
  | true =>
    have HV := hid (vbsB_iff.1 hv)
    have HE : Hid (apB L = decide (Apart L)) := by simp [Hid, apB, hv]
    clear hv
    go_wp2_with fail
    refine (sapart_c _ L _ HH1.out HV.out).mono ?_
    rintro e w2 ⟨rfl, hb⟩
    have HB2 := hid (HB.out.trans (hb.mono HB.out.size))
    clear hb
    go_wp2
    go_ret
    exact ⟨ret_bool HE.out.symm, HB2.out⟩

end Go.Proofs.Ytafcohmneeabbaa
