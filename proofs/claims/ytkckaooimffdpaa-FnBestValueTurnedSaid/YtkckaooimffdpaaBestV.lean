/-
  Contract: the greatest value, by the program.
-/
import Derived.Test.YtkckaooimffdpaaTabI
namespace Go.Proofs.Ytkckaooimffdpaa
set_option linter.unusedSimpArgs false
set_option linter.unusedVariables false
open Go.RowKit

def bvOut (x y : Int) (f : List Pn) (V : List Int) : Int := if obB x y f V = true then bv (lfW f V) x.toNat y.toNat else -1
theorem bvOut_t {x y : Int} {f : List Pn} {V : List Int} (h : obB x y f V = true) : bvOut x y f V = bv (lfW f V) x.toNat y.toNat := by unfold bvOut; rw [if_pos h]
theorem bvOut_f {x y : Int} {f : List Pn} {V : List Int} (h : obB x y f V = false) : bvOut x y f V = -1 := by unfold bvOut; rw [if_neg (by rw [h]; decide)]

set_option maxHeartbeats 12800000 in
set_option maxRecDepth 100000 in
theorem BestValue_c (x y : Int) (f : List Pn) (A : Option Addr) (c : Nat) (v : Value) (V : List Int) (w : World) (h : Row paneE w (.slice A f.length c) f) (h' : Row intE w v V) : Calls Try.prog 17 #[.agg #[.int .i64 x, .int .i64 y, .slice A f.length c], v] w fun e w' => e = .returned (.int .i64 (bvOut x y f V)) ∧ Below w.heap.size w w' := by
  have HBA := hid ((Below.refl w.heap.size w).alloc (Nat.le_refl _) (.cells #[.int .i64 x, .int .i64 y, .slice A f.length c] 35))
  have HF1 := hid (h.go HBA.out)
  have HV1 := hid (h'.go HBA.out)
  have HK1 := hid (Blk.new w #[.int .i64 x, .int .i64 y, .slice A f.length c] 35)
  obtain ⟨Z, hZL, hZ⟩ := tab_zero
  have HZL := hid hZL
  clear h h' hZL
  go_enter Try.func17, Try.ntmps17
  go_wp2_with fail
  refine (bestTold_c x y f A c v V _ HF1.out HV1.out).mono ?_
  rintro e w2 ⟨rfl, hb⟩
  have HB2 := hid (HBA.out.trans (hb.mono HBA.out.size))
  have HF2 := hid (HF1.out.go hb)
  have HV2 := hid (HV1.out.go hb)
  have HK2 := hid (HK1.out.go hb)
  clear hb
  cases hob : obB x y f V with
  | false =>
    have HE := hid (bvOut_f hob)
    clear hob
    go_wp2
    go_ret
    exact ⟨ret_int HE.out.symm, HB2.out⟩
  | true =>
    have HE := hid (bvOut_t hob)
    have hok := obB_iff.1 hob
    have HOK := hid hok
    obtain ⟨⟨hx, hy, -, -⟩, hx2, hy2, -, hl, hV⟩ := hok
    obtain ⟨x, rfl⟩ : ∃ n : Nat, x = n := ⟨x.toNat, by omega⟩
    obtain ⟨y, rfl⟩ : ∃ n : Nat, y = n := ⟨y.toNat, by omega⟩
    have hx1 : 1 ≤ x ∧ x ≤ 16 := by omega
    have hy1 : 1 ≤ y ∧ y ≤ 16 := by omega
    clear hob
    have c_K := fun (o : Nat) => HK2.out.cell o
    have f_K := fun (o : Nat) => HK2.out.frz o
    have l_K := HK2.out.lt
    go_wp2_with fail
    refine (valuesOf_c x y f A c v V _ HF2.out HV2.out hl hV hx1 hy1).mono ?_
    rintro e w3 ⟨C, rfl, hC, hb⟩
    have HB3 := hid (HB2.out.trans (hb.mono HB2.out.size))
    have HK3 := hid (HK2.out.go hb)
    have HLF : Hid (∀ i j, 0 ≤ lfW f V i j ∧ lfW f V i j ≤ 1000) := fun i j => lfk_bd _ _ hV _ (Nat.le_refl _)
    obtain ⟨T, hT⟩ : ∃ T, T = tabT (lfW f V) y x (y + 1) := ⟨_, rfl⟩
    rw [← hT] at hC
    have HSZ : Hid (T.length = 289) := by rw [Hid, hT]; exact tabT_len _ _ _ _
    obtain rfl : C = (intE.flat T).toArray := by rw [← hC]
    have HA : Hid (Own intE 57 w3.heap.size (w3.alloc (.cells Z 57)) (.slice (some ⟨w3.heap.size, 0, none⟩) 289 289) (List.replicate 289 0)) := Own.lit intE w3 w3.heap.size 57 Z _ 289 List.length_replicate.symm HZL.out (Nat.le_refl _) (by simp [maxLen])
    have HTH := hid (show (w3.alloc (.cells Z 57)).there w3.heap.size 0 (intE.flat T).toArray.size by
      have := HA.out.thereInt List.length_replicate.symm
      rw [List.length_replicate] at this
      show (w3.alloc (.cells Z 57)).there w3.heap.size 0 (intE.flat T).length
      rw [flat_int_len, HSZ.out]
      exact this)
    have HONE := hid (all_oneCell_toArray (cs := intE.flat T) (fun v hv => intE.flat_one_cell T v hv))
    have HI2 := hid (show (Try.prog.info? 57).map (·.size) = some (intE.flat T).toArray.size by show _ = some (intE.flat T).length; rw [flat_int_len, HSZ.out]; exact tab_size)
    have HGR := hid (ownsRow_setCells (intE.flat T) _ 0 (w3.alloc (.cells Z 57)) HA.out).2
    have HBF := hid ((HB3.out.alloc HB3.out.size (.cells Z 57)).grown HGR.out (by have := HB3.out.size; simp; omega) (fun z hz => by injection hz with hz; have := HB3.out.size; omega))
    have HRF := hid (World.rangeAt_setCells_same (w3.alloc (.cells Z 57)) w3.heap.size 0 (intE.flat T) HTH.out)
    have HKF := hid ((HK3.out.alloc (.cells Z 57)).grown HGR.out (by intro e; injection e with e; have := HK3.out.lt; omega))
    have HT := hid hT
    clear hb hC hT c_K f_K l_K
    go_wp2_with (first | (refine wpList_store_mid rfl 57 (.tmp 5) (.tmp 12) rfl w3.heap.size 0 (intE.flat T).toArray rfl rfl HTH.out HI2.out HONE.out ?_) | fail)
    obtain ⟨WF, hWF⟩ : ∃ Z' : World, Z' = (w3.alloc (.cells Z 57)).setCells w3.heap.size 0 (intE.flat T) := ⟨_, rfl⟩
    rw [← hWF] at HRF HBF HKF ⊢
    have hlF : w3.heap.size < WF.heap.size := by
      have := HGR.out.size
      rw [← hWF] at this
      simp at this
      omega
    have x1 : WF.cell? ⟨w3.heap.size, x * 17 + y, none⟩ = some (.int .i64 (bv (lfW f V) x y)) := by
      have hq : x * 17 + y < (tabT (lfW f V) y x (y + 1)).length := by rw [tabT_len]; omega
      have h1 := HRF.out (x * 17 + y) (.int .i64 (bv (lfW f V) x y)) (by
        have := intE.flat_at T (x * 17 + y) 0 (by rw [HSZ.out]; omega) (by decide)
        rw [show (x * 17 + y) * intE.sz + 0 = x * 17 + y from by show (x * 17 + y) * 1 + 0 = _; omega] at this
        rw [this]
        have h2 : T[x * 17 + y]'(by rw [HSZ.out]; omega) = bv (lfW f V) x y := by
          have h3 := HT.out
          subst h3
          rw [tabT_ij _ _ _ _ (by omega) (by omega), cellT_done (by omega) (by omega) (by omega) (by omega)]
        rw [h2]
        rfl)
      rw [Nat.zero_add] at h1
      exact h1
    have c_K := fun (o : Nat) => HKF.out.cell o
    have f_K := fun (o : Nat) => HKF.out.frz o
    have l_K := HKF.out.lt
    have hbb := bv_bd HLF.out (w := x) (h := y) (by omega)
    obtain ⟨z, hz⟩ : ∃ z, z = bv (lfW f V) x y := ⟨_, rfl⟩
    have HZ : Hid (bvOut x y f V = z) := by rw [Hid, HE.out, hz]; rfl
    rw [← hz] at x1 hbb
    clear hWF HRF HTH HGR HA HONE HI2 hz
    simp only [Act.put]
    go_wp2
    go_quiet (fail)
    go_wp2
    go_ret
    exact ⟨ret_int HZ.out.symm, HBF.out.trans (below_draws _ _ _)⟩

end Go.Proofs.Ytkckaooimffdpaa
