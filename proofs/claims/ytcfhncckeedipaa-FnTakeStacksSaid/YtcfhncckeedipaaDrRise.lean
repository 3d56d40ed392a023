/-
  Contracts: orders drawn for the laws of turns; StacksFor.
-/
import Derived.Test.YtcfhncckeedipaaDrTurnB
import Derived.Test.YtcfhncckeedipaaLong
import Derived.Test.YtcfhncckeedipaaLongS
import Derived.Test.YtcfhncckeedipaaLawInts
import Derived.Test.YtcfhncckeedipaaRiseQ
namespace Go.Proofs.Ytcfhncckeedipaa
set_option linter.unusedSimpArgs false
set_option linter.unusedVariables false
open Go.RowKit

def TnDr (w : World) (e : Ending) (w' : World) : Prop := ∃ (v : Value) (L : List Int), e = .returned v ∧ Row intE w' v L ∧ L.length ≤ 14 ∧ (∀ x ∈ L, -1 ≤ x ∧ x ≤ 24) ∧ Below w.heap.size w w'

set_option maxHeartbeats 3200000 in
set_option maxRecDepth 100000 in
theorem DrawLongestRise_c (v : Value) (L : List Int) (w : World) (h : Row byteE w v L) (hb : ∀ x ∈ L, 0 ≤ x ∧ x ≤ 255) : Calls Try.prog 27 #[v] w (TnDr w) := by
  have HR0 := hid h
  have HB := hid hb
  clear h hb
  go_enter Try.func27, Try.ntmps27
  go_wp2_with fail
  refine (newReader_c w.heap.size v L _ HR0.out (Nat.le_refl _) HB.out).mono ?_
  rintro e w1 ⟨rfl, hR, hb, hlt⟩
  have HB1 := hid hb
  have HRd := hid hR
  clear hR hb
  go_wp2_with fail
  refine (anyTurn_c w.heap.size w.heap.size 0 _ HRd.out (by omega)).mono ?_
  rintro e w2 ⟨u, M, rfl, hl, hT, hst, hn, hR, hg⟩
  have HB2 := hid (below_gr HB1.out hg HB1.out.size (Nat.le_refl _))
  have HS := hid hst.rowB
  clear hst hR hg hn
  go_wp2
  go_ret
  exact ⟨_, M, rfl, HS.out, hl, hT, HB2.out⟩

set_option maxHeartbeats 3200000 in
set_option maxRecDepth 100000 in
theorem DrawPutStacks_c (v : Value) (L : List Int) (w : World) (h : Row byteE w v L) (hb : ∀ x ∈ L, 0 ≤ x ∧ x ≤ 255) : Calls Try.prog 33 #[v] w (TnDr w) := by
  have HR0 := hid h
  have HB := hid hb
  clear h hb
  go_enter Try.func33, Try.ntmps33
  go_wp2_with fail
  refine (newReader_c w.heap.size v L _ HR0.out (Nat.le_refl _) HB.out).mono ?_
  rintro e w1 ⟨rfl, hR, hb, hlt⟩
  have HB1 := hid hb
  have HRd := hid hR
  clear hR hb
  go_wp2_with fail
  refine (anyTurn_c w.heap.size w.heap.size 0 _ HRd.out (by omega)).mono ?_
  rintro e w2 ⟨u, M, rfl, hl, hT, hst, hn, hR, hg⟩
  have HB2 := hid (below_gr HB1.out hg HB1.out.size (Nat.le_refl _))
  have HS := hid hst.rowB
  clear hst hR hg hn
  go_wp2
  go_ret
  exact ⟨_, M, rfl, HS.out, hl, hT, HB2.out⟩

def stacksN (L : List Int) : Int := if vtB L = true then ((riseOut L).length : Int) else -1
theorem stacksN_t {L : List Int} (h : vtB L = true) : stacksN L = (riseOut L).length := by simp [stacksN, h]
theorem stacksN_f {L : List Int} (h : vtB L = false) : stacksN L = -1 := by simp [stacksN, h]

set_option maxHeartbeats 3200000 in
set_option maxRecDepth 100000 in
theorem StacksFor_c (v : Value) (L : List Int) (w : World) (h : Row intE w v L) : Calls Try.prog 24 #[v] w fun e w' => e = .returned (.int .i64 (stacksN L)) ∧ Below w.heap.size w w' := by
  have H0 := hid h
  clear h
  go_enter Try.func24, Try.ntmps24
  go_wp2_with fail
  refine (ValidTurn_c _ L _ H0.out).mono ?_
  rintro e w1 ⟨rfl, hb⟩
  have H1 := hid (H0.out.go hb)
  have HB1 := hid hb
  clear hb
  cases hv : vtB L with
  | false =>
    have HS := hid (stacksN_f hv)
    clear hv
    go_wp2
    go_ret
    exact ⟨ret_int HS.out.symm, HB1.out⟩
  | true =>
    have HS := hid (stacksN_t hv)
    clear hv
    go_wp2_with fail
    refine (LongestRise_c _ L _ H1.out).mono ?_
    rintro e w2 ⟨r, rfl, ho, hb⟩
    obtain ⟨A2, c2, rfl, hc2, hm2⟩ := ho.rowB.form
    have HB2 := hid (HB1.out.trans (hb.mono HB1.out.size))
    clear ho hb
    go_wp2
    go_ret
    exact ⟨ret_int HS.out.symm, HB2.out⟩

end Go.Proofs.Ytcfhncckeedipaa
