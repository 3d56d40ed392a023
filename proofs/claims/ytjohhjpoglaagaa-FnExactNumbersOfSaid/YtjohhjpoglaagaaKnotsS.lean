/-
  Contracts: NumbersOf of the reference; AboveOf, by both.
-/
import Derived.Test.YtjohhjpoglaagaaKnotsI
namespace Go.Proofs.Ytjohhjpoglaagaa
set_option linter.unusedSimpArgs false
set_option linter.unusedVariables false
open Go.RowKit

theorem numOut_some {p : Pl} {t : Tr} (h : wf p = some t) (hn : (nodes t : Int) ≤ 255) : numOut p = nums t 0 := by rw [numOut, knOut_some h hn]; rfl
theorem numOut_neg {p : Pl} (h : psz p < 0) : numOut p = [] := by rw [numOut, knOut_neg h]; rfl

set_option maxHeartbeats 1600000 in
theorem sNumbersOf_c {n : Nat} {p : Pl} {s : Sh} {w : World} (h : PR w.heap.size w n p s) : Calls Try.prog 30 #[.agg #[.int .i64 s.o, .int .i64 s.a, .int .i64 s.p, .bool s.t, .slice s.ka s.kn s.kc]] w fun e w' => ∃ v, e = .returned v ∧ Own intE 3 w.heap.size w' v (numOut p) ∧ Below w.heap.size w w' := by
  have HB0 := hid (below_pl (o := s.o) (a := s.a) (p := s.p) (t := s.t) (ka := s.ka) (kn := s.kn) (kc := s.kc) (ty := 29) w)
  have HP := hid h
  clear h
  by_cases hneg : psz p < 0
  · have HV := hid (numOut_neg hneg)
    go_enter Try.func30, Try.ntmps30
    go_wp2_with fail
    refine (splanSize_c (n := n) (p := p) (s := s) (HP.out.go HB0.out)).mono ?_
    rintro e w1 ⟨rfl, hb⟩
    have HB1 := hid (HB0.out.trans (hb.mono HB0.out.size))
    clear hb
    go_wp2
    go_ret
    exact ⟨.slice none 0 0, rfl, by rw [HV.out]; exact Own.nil_ _ _ _, HB1.out⟩
  · obtain ⟨t, hw, -, hn⟩ := cp_tree (p := p) (room := 255) (by unfold psz at hneg; omega)
    have HV := hid (numOut_some hw hn)
    have HT := hid (sinner_c t (by omega))
    have HR := hid (HP.out.tr hw)
    clear hw
    go_enter Try.func30, Try.ntmps30
    go_wp2_with fail
    refine (splanSize_c (n := n) (p := p) (s := s) (HP.out.go HB0.out)).mono ?_
    rintro e w1 ⟨rfl, hb⟩
    have HB1 := hid (HB0.out.trans (hb.mono HB0.out.size))
    obtain ⟨hcc, hf, hsz⟩ := bcell hb
    clear hb hf
    go_wp2_with fail
    refine (HT.out s 0 _ (HR.out.go HB1.out) (by omega) (by omega)).mono ?_
    rintro e w2 ⟨v2, rfl, ho, hb⟩
    have HO := hid ho
    have HB2 := hid (HB1.out.trans (hb.mono HB1.out.size))
    clear ho hb hcc
    go_wp2
    go_ret
    exact ⟨v2, rfl, by rw [HV.out]; exact HO.out.base_le HB1.out.size, HB2.out⟩

end Go.Proofs.Ytjohhjpoglaagaa
