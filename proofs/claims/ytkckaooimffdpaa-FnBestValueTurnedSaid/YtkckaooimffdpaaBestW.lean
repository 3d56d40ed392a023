/-
  Contract: the greatest value, by the reference.
-/
import Derived.Test.YtkckaooimffdpaaTabS
import Derived.Deep.RegionHeld3
namespace Go.Proofs.Ytkckaooimffdpaa
set_option linter.unusedSimpArgs false
set_option linter.unusedVariables false
open Go.RowKit

abbrev SbOut (x y : Nat) (z : Int) (w : World) (e : Ending) (w' : World) : Prop := ∃ ob g cap, e = .returned (.slice (some ⟨ob, 0, none⟩) (x + 1) cap) ∧ w'.cell? ⟨ob, x, none⟩ = some (.slice (some ⟨g, 0, none⟩) (y + 1) (y + 1)) ∧ w'.cell? ⟨g, y, none⟩ = some (.int .i64 z) ∧ (x + 1 ≤ cap ∧ cap ≤ 2 ^ 63 - 1) ∧ (ob < w'.heap.size ∧ g < w'.heap.size) ∧ Below w.heap.size w w'
theorem svalueTable_b (x y : Nat) (f : List Pn) (A : Option Addr) (c : Nat) (v : Value) (V : List Int) (w : World) (h : Row paneE w (.slice A f.length c) f) (h' : Row intE w v V) (hl : V.length = f.length) (hV : okV V) (hx : 1 ≤ x ∧ x ≤ 16) (hy : 1 ≤ y ∧ y ≤ 16) : Calls Try.prog 38 #[.agg #[.int .i64 (x : Nat), .int .i64 (y : Nat), .slice A f.length c], v] w (SbOut x y (bv (lfW f V) x y) w) := by
  refine (svalueTable_c x y f A c v V w h h' hl hV hx hy).mono ?_
  rintro e w' ⟨ov, G, rfl, hst, hGl⟩
  obtain ⟨ob, cap, rfl, h1, h2, h3⟩ := hst.form (by omega)
  obtain ⟨g, -, hg, k1, kk⟩ := hst.at_ (fun i => rowT_len _ _ _ _ i) (i := x) (by omega) rfl
  have x1 := (kk y (by omega)).1
  rw [rowT_getD (by omega) (by omega) (by omega) (by omega)] at x1
  rw [hGl] at h2 ⊢
  exact ⟨ob, g, cap, rfl, k1, x1, ⟨h2, h3⟩, ⟨h1, hg⟩, hst.2.2.2.2.2⟩

set_option maxHeartbeats 12800000 in
set_option maxRecDepth 100000 in
theorem sBestValue_c (x y : Int) (f : List Pn) (A : Option Addr) (c : Nat) (v : Value) (V : List Int) (w : World) (h : Row paneE w (.slice A f.length c) f) (h' : Row intE w v V) (hn : f.length ≤ 4194304) : Calls Try.prog 18 #[.agg #[.int .i64 x, .int .i64 y, .slice A f.length c], v] w fun e w' => e = .returned (.int .i64 (bvOut x y f V)) ∧ Below w.heap.size w w' := by
  have HBA := hid ((Below.refl w.heap.size w).alloc (Nat.le_refl _) (.cells #[.int .i64 x, .int .i64 y, .slice A f.length c] 35))
  have HF1 := hid (h.go HBA.out)
  have HV1 := hid (h'.go HBA.out)
  have HK1 := hid (Blk.new w #[.int .i64 x, .int .i64 y, .slice A f.length c] 35)
  clear h h'
  go_enter Try.func18, Try.ntmps18
  go_wp2_with fail
  refine (svalidValues_c x y f A c v V _ HF1.out HV1.out hn).mono ?_
  rintro e w2 ⟨rfl, hb⟩
  have HB2 := hid (HBA.out.trans (hb.mono HBA.out.size))
  have HF2 := hid (HF1.out.go hb)
  have HV2 := hid (HV1.out.go hb)
  have HK2 := hid (HK1.out.go hb)
  clear hb
  cases hob : obB x y f V with
  | false =>
    have HE := hid (bvOut_f hob)
    clear hob
    go_wp2
    go_ret
    exact ⟨ret_int HE.out.symm, HB2.out⟩
  | true =>
    have HE := hid (bvOut_t hob)
    have hok := obB_iff.1 hob
    obtain ⟨⟨hx, hy, -, -⟩, hx2, hy2, -, hl, hV⟩ := hok
    obtain ⟨x, rfl⟩ : ∃ n : Nat, x = n := ⟨x.toNat, by omega⟩
    obtain ⟨y, rfl⟩ : ∃ n : Nat, y = n := ⟨y.toNat, by omega⟩
    have hx1 : 1 ≤ x ∧ x ≤ 16 := by omega
    have hy1 : 1 ≤ y ∧ y ≤ 16 := by omega
    have HTC := hid (svalueTable_b x y f A c v V w2.drew (HF2.out.drR (Dr.refl _).one) (HV2.out.drR (Dr.refl _).one) hl hV hx1 hy1)
    obtain ⟨z, hz⟩ : ∃ z, z = bv (lfW f V) x y := ⟨_, rfl⟩
    have HZ : Hid (bvOut x y f V = z) := by rw [Hid, HE.out, hz]; rfl
    rw [← hz] at HTC
    have c_K := fun (o : Nat) => HK2.out.cell o
    have c_D := fun (o : Nat) => HK2.out.draw1.cell o
    have l_K := HK2.out.lt
    have ZK := hid ((Below.refl _ _).drew : Below w2.heap.size w2 w2.drew)
    have ZL : Hid (w.heap.size < w2.heap.size) := l_K
    have hx17 : x < x + 1 := by omega
    have hy17 : y < y + 1 := by omega
    clear hob hz hl hV HE
    go_wp2
    go_region_with
      (first | (go_at_call 38; (with_reducible refine HTC.out.mono ?_); rintro e wa ⟨ob, g, cap, rfl, k1, k2, ⟨k3, k4⟩, ⟨k5, k6⟩, hb⟩; replace ZK := hid (ZK.out.trans hb); have c_W := fun (o : Nat) => (ZK.out.cell (p := ⟨w.heap.size, o, none⟩) ZL.out).trans (HK2.out.cell o); clear hb) | fail)
    all_goals
      go_wp2
      go_ret
      exact ⟨ret_int HZ.out.symm, HB2.out.trans (ZK.out.mono HB2.out.size)⟩

end Go.Proofs.Ytkckaooimffdpaa
