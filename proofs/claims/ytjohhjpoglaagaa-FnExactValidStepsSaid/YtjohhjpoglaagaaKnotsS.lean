/-
  Contracts: NumbersOf of the reference; AboveOf, by both.
-/
import Derived.Test.YtjohhjpoglaagaaKnotsI
import Derived.Deep.RegionHeld3
namespace Go.Proofs.Ytjohhjpoglaagaa
set_option linter.unusedSimpArgs false
set_option linter.unusedVariables false
open Go.RowKit

theorem numOut_some {p : Pl} {t : Tr} (h : wf p = some t) (hn : (nodes t : Int) ≤ 255) : numOut p = nums t 0 := by rw [numOut, knOut_some h hn]; rfl
theorem numOut_neg {p : Pl} (h : psz p < 0) : numOut p = [] := by rw [numOut, knOut_neg h]; rfl

set_option maxHeartbeats 1600000 in
theorem sNumbersOf_c {n : Nat} {p : Pl} {s : Sh} {w : World} (h : PR w.heap.size w n p s) : Calls Try.prog 30 #[.agg #[.int .i64 s.o, .int .i64 s.a, .int .i64 s.p, .bool s.t, .slice s.ka s.kn s.kc]] w fun e w' => ∃ v, e = .returned v ∧ Own intE 3 w.heap.size w' v (numOut p) ∧ Below w.heap.size w w' := by
  have HB0 := hid (below_pl (o := s.o) (a := s.a) (p := s.p) (t := s.t) (ka := s.ka) (kn := s.kn) (kc := s.kc) (ty := 29) w)
  have HP := hid h
  clear h
  by_cases hneg : psz p < 0
  · have HV := hid (numOut_neg hneg)
    go_enter Try.func30, Try.ntmps30
    go_wp2_with fail
    refine (splanSize_c (n := n) (p := p) (s := s) (HP.out.go HB0.out)).mono ?_
    rintro e w1 ⟨rfl, hb⟩
    have HB1 := hid (HB0.out.trans (hb.mono HB0.out.size))
    clear hb
    go_wp2
    go_ret
    exact ⟨.slice none 0 0, rfl, by rw [HV.out]; exact Own.nil_ _ _ _, HB1.out⟩
  · obtain ⟨t, hw, -, hn⟩ := cp_tree (p := p) (room := 255) (by unfold psz at hneg; omega)
    have HV := hid (numOut_some hw hn)
    have HT := hid (sinner_c t (by omega))
    have HR := hid (HP.out.tr hw)
    clear hw
    go_enter Try.func30, Try.ntmps30
    go_wp2_with fail
    refine (splanSize_c (n := n) (p := p) (s := s) (HP.out.go HB0.out)).mono ?_
    rintro e w1 ⟨rfl, hb⟩
    have HB1 := hid (HB0.out.trans (hb.mono HB0.out.size))
    obtain ⟨hcc, hf, hsz⟩ := bcell hb
    clear hb hf
    go_wp2_with fail
    refine (HT.out s 0 _ (HR.out.go HB1.out) (by omega) (by omega)).mono ?_
    rintro e w2 ⟨v2, rfl, ho, hb⟩
    have HO := hid ho
    have HB2 := hid (HB1.out.trans (hb.mono HB1.out.size))
    clear ho hb hcc
    go_wp2
    go_ret
    exact ⟨v2, rfl, by rw [HV.out]; exact HO.out.base_le HB1.out.size, HB2.out⟩

set_option maxHeartbeats 1600000 in
theorem placeIn_c (v : Value) (L : List Int) (x : Int) (w : World) (h : Row intE w v L) : Calls Try.prog 61 #[v, .int .i64 x] w fun e w' => e = .returned (.int .i64 (place L x)) ∧ Dr w w' := by
  obtain ⟨A1, c1, rfl, hc1, hm1⟩ := h.form
  unfold maxLen at hm1
  go_enter Try.func61, Try.ntmps61
  go_wp2
  go_loopw [5] (fun i wr => ∃ k : Nat, i = .int .i64 k ∧ k ≤ L.length ∧ (∀ y ∈ L.take k, y ≠ x) ∧ Dr w wr) (fun i _ => L.length - (intOf i).toNat)
  case atStart => exact ⟨0, rfl, by omega, by simp, Dr.refl _⟩
  case round =>
    obtain ⟨k, rfl, hk, hno, hd⟩ := hrel
    have HNO := hid hno
    have HD := hid hd
    by_cases hlt : k < L.length
    · obtain ⟨b1, o1, rfl, -, hx⟩ := row_cells1 (h.dr hd) (by omega)
      have hx0 := hx k hlt
      clear hx hno hd
      by_cases he : L[k] = x
      · have HV := hid (place_at hlt he HNO.out)
        have he' : (L[k] == x) = true := by simpa using he
        clear he
        go_wp2
        go_ret
        exact ⟨ret_int HV.out.symm, HD.out⟩
      · have he' : (L[k] == x) = false := by simpa using he
        have HN2 := hid (take_ne hlt he HNO.out)
        clear he
        go_wp2
        exact ⟨⟨k + 1, by go_num, by omega, HN2.out, HD.out⟩, by simp [intOf]; omega⟩
    · have HV : Hid (place L x = -1) := place_none (by rw [List.take_of_length_le (by omega)] at hno; exact hno)
      clear hno hd
      go_wp2
      go_ret
      exact ⟨ret_int HV.out.symm, HD.out⟩
theorem placeIn_k (v : Value) (L : List Int) (x : Int) (k : Nat) (hk : place L x = k) (w : World) (h : Row intE w v L) : Calls Try.prog 61 #[v, .int .i64 x] w fun e w' => e = .returned (.int .i64 (k : Int)) ∧ Dr w w' := by
  have := placeIn_c v L x w h
  rwa [hk] at this

/-- The number of the cut above the cut x, -2 if there is no such cut. -/
def abOut (p : Pl) (x : Int) : Int := match (knOut p)[(place (numOut p) x).toNat]? with
  | some y => if place (numOut p) x < 0 then -2 else y.a
  | none => -2
theorem abOut_neg {p : Pl} {x : Int} (h : place (numOut p) x < 0) : abOut p x = -2 := by
  unfold abOut
  split
  · rw [if_pos h]
  · rfl
theorem abOut_pos {p : Pl} {x : Int} {k : Nat} (h : place (numOut p) x = k) (hk : k < (knOut p).length) : abOut p x = (knOut p)[k].a := by
  unfold abOut
  rw [h, Int.toNat_natCast, List.getElem?_eq_getElem hk]
  simp only
  rw [if_neg (by omega)]

set_option maxHeartbeats 1600000 in
theorem AboveOf_c {n : Nat} {p : Pl} {s : Sh} {x : Int} {w : World} (h : PR w.heap.size w n p s) : Calls Try.prog 29 #[.agg #[.int .i64 s.o, .int .i64 s.a, .int .i64 s.p, .bool s.t, .slice s.ka s.kn s.kc], .int .i64 x] w fun e w' => e = .returned (.int .i64 (abOut p x)) ∧ Below w.heap.size w w' := by
  have HB0 := hid (below_pl (o := s.o) (a := s.a) (p := s.p) (t := s.t) (ka := s.ka) (kn := s.kn) (kc := s.kc) (ty := 29) w)
  have HP := hid h
  clear h
  go_enter Try.func29, Try.ntmps29
  go_wp2_with fail
  refine (knotsOf_c (n := n) (p := p) (s := s) (HP.out.go HB0.out)).mono ?_
  rintro e w1 ⟨v1, rfl, ho, hb⟩
  have HB1 := hid (HB0.out.trans (hb.mono HB0.out.size))
  have HR1 := hid ho.rowB
  clear hb ho
  go_wp2_with fail
  refine (findKnot_c _ (knOut p) x _ HR1.out).mono ?_
  rintro e w2 ⟨rfl, hb⟩
  have HB2 := hid (HB1.out.trans (hb.mono HB1.out.size))
  have HR2 := hid (HR1.out.go hb)
  clear hb
  by_cases hneg : place (numOut p) x < 0
  · have HV := hid (abOut_neg hneg)
    have hneg' : place ((knOut p).map (·.n)) x < 0 := hneg
    clear hneg
    go_wp2
    go_ret
    exact ⟨ret_int HV.out.symm, HB2.out⟩
  · obtain ⟨k, hk, e1, -⟩ := place_get (L := numOut p) (x := x) (by omega)
    have hk' : k < (knOut p).length := by simpa [numOut] using hk
    have HV := hid (abOut_pos e1 hk')
    obtain ⟨A1, c1, rfl, hc1, hm1⟩ := HR2.out.form
    unfold maxLen at hm1
    obtain ⟨b1, o1, rfl, -, hx⟩ := row_kns HR2.out (by omega)
    obtain ⟨hx0, hx1⟩ := hx k hk'
    have e2 : place ((knOut p).map (·.n)) x = k := e1
    rw [e2]
    clear hx e1 e2 hneg hk
    go_wp2
    go_ret
    exact ⟨ret_int HV.out.symm, HB2.out⟩

theorem abvs_at {p : Pl} {t : Tr} (h : wf p = some t) (hn : (nodes t : Int) ≤ 255) (k : Nat) (hk : k < (knOut p).length) (hk2 : k < (abvs t 0 (-1)).length) : (abvs t 0 (-1))[k] = (knOut p)[k].a := by
  simp only [abvs, knOut_some h hn, List.getElem_map]

theorem own_cell {w : World} {e : TypeId} {base g n cap : Nat} {L : List Int} (h : Own intE e base w (.slice (some ⟨g, 0, none⟩) n cap) L) (k : Nat) (hk : k < L.length) (hn : n = L.length) {x : Int} (hx : L[k] = x) : w.cell? ⟨g, k, none⟩ = some (.int .i64 x) := by
  rw [← hx]; exact h.own_int hn k hk

set_option maxHeartbeats 3200000 in
theorem sAboveOf_c {n : Nat} {p : Pl} {s : Sh} {x : Int} {w : World} (h : PR w.heap.size w n p s) : Calls Try.prog 28 #[.agg #[.int .i64 s.o, .int .i64 s.a, .int .i64 s.p, .bool s.t, .slice s.ka s.kn s.kc], .int .i64 x] w fun e w' => e = .returned (.int .i64 (abOut p x)) ∧ Below w.heap.size w w' := by
  have HB0 := hid (below_pl (o := s.o) (a := s.a) (p := s.p) (t := s.t) (ka := s.ka) (kn := s.kn) (kc := s.kc) (ty := 29) w)
  have HP := hid h
  clear h
  by_cases hneg : psz p < 0
  · have HV : Hid (abOut p x = -2) := abOut_neg (by rw [numOut_neg hneg]; simp [place])
    go_enter Try.func28, Try.ntmps28
    go_wp2_with fail
    refine (splanSize_c (n := n) (p := p) (s := s) (HP.out.go HB0.out)).mono ?_
    rintro e w1 ⟨rfl, hb⟩
    have HB1 := hid (HB0.out.trans (hb.mono HB0.out.size))
    clear hb
    go_wp2
    go_ret
    exact ⟨ret_int HV.out.symm, HB1.out⟩
  · obtain ⟨t, hw, -, hn⟩ := cp_tree (p := p) (room := 255) (by unfold psz at hneg; omega)
    have HNM := hid (numOut_some hw hn)
    have HT := hid (sinner_c t (by omega))
    have HA := hid (saboves_c t (by omega))
    have HR := hid (HP.out.tr hw)
    have HAT := hid (abvs_at hw hn)
    by_cases hpl : place (numOut p) x < 0
    · have HV := hid (abOut_neg hpl)
      rw [HNM.out] at hpl
      clear hw
      go_enter Try.func28, Try.ntmps28
      go_wp2_with fail
      refine (splanSize_c (n := n) (p := p) (s := s) (HP.out.go HB0.out)).mono ?_
      rintro e w1 ⟨rfl, hb⟩
      have HB1 := hid (HB0.out.trans (hb.mono HB0.out.size))
      obtain ⟨hcc, hf, hsz⟩ := bcell hb
      clear hb hf
      go_wp2_with fail
      refine (HT.out s 0 _ (HR.out.go HB1.out) (by omega) (by omega)).mono ?_
      rintro e w2 ⟨v2, rfl, ho, hb⟩
      have HO := hid ho
      have HB2 := hid (HB1.out.trans (hb.mono HB1.out.size))
      clear ho hb hcc
      go_wp2_with fail
      refine (placeIn_c _ _ x _ HO.out.rowB).mono ?_
      rintro e w3 ⟨rfl, hd⟩
      have HD := hid hd
      clear hd
      go_wp2
      go_ret
      exact ⟨ret_int HV.out.symm, HB2.out.trans (HD.out.below _)⟩
    · obtain ⟨k, hk, e1, -⟩ := place_get (L := numOut p) (x := x) (by omega)
      have hk' : k < (knOut p).length := by simpa [numOut] using hk
      have HV := hid (abOut_pos e1 hk')
      rw [HNM.out] at e1
      have HPK := hid e1
      have hkl : k < (abvs t 0 (-1)).length := by rw [abvs_len]; have := kn_len t 0 (-1); rw [knOut_some hw hn, this] at hk'; exact hk'
      have hX := HAT.out k hk' hkl
      obtain ⟨X, hXX⟩ : ∃ X, X = (knOut p)[k].a := ⟨_, rfl⟩
      rw [← hXX] at hX
      have HX := hid hX
      have HXX := hid hXX
      clear hw e1 hpl hk hX hXX
      go_enter Try.func28, Try.ntmps28
      go_wp2_with fail
      refine (splanSize_c (n := n) (p := p) (s := s) (HP.out.go HB0.out)).mono ?_
      rintro e w1 ⟨rfl, hb⟩
      have HB1 := hid (HB0.out.trans (hb.mono HB0.out.size))
      obtain ⟨hcc, hf, hsz⟩ := bcell hb
      have q1 : w.heap.size < w1.heap.size := by simp at hsz; omega
      clear hb hf
      go_wp2_with fail
      refine (HT.out s 0 _ (HR.out.go HB1.out) (by omega) (by omega)).mono ?_
      rintro e w2 ⟨v2, rfl, ho, hb⟩
      have HO := hid ho
      have HB2 := hid (HB1.out.trans (hb.mono HB1.out.size))
      obtain ⟨hc2, hf2, hs2⟩ := bcell hb
      clear ho hb hf2
      go_wp2_with fail
      refine (placeIn_k _ _ x k HPK.out _ HO.out.rowB).mono ?_
      rintro e w3 ⟨rfl, hd⟩
      have HB3 := hid (HB2.out.trans (hd.below _))
      have hc3 := fun (o : Nat) => hd.cell ⟨w.heap.size, o, none⟩
      have q2 : w.heap.size < w2.heap.size := by omega
      have q3 : w.heap.size < w3.heap.size := by have := hd.size; omega
      clear hd
      go_wp2
      have ZK := hid ((Below.refl _ _).drew : Below w3.heap.size w3 w3.drew)
      have hdc : ∀ o : Nat, w3.drew.cell? ⟨w.heap.size, o, none⟩ = w3.cell? ⟨w.heap.size, o, none⟩ := fun _ => rfl
      go_region_with
        (first | (go_at_call 63; ((with_reducible refine (HA.out s 0 (-1) _ (HR.out.go (HB3.out.trans (ZK.out.mono HB3.out.size))) (by omega) (by omega) (by omega) (by omega)).mono ?_); rintro e wa ⟨va, rfl, ho, hb⟩; replace ZK := hid (ZK.out.trans (hb.mono ZK.out.size)); have hcb := fun (o : Nat) => ZK.out.cell (p := ⟨w.heap.size, o, none⟩) q3; (try replace ZN := hid (ZN.out.below hb)); obtain ⟨g, cap, rfl, hg1, hg2, hg3, hg4⟩ := ho.form (by omega); have ZA := hid ho; have hcl := own_cell ZA.out k hkl rfl HX.out; unfold maxLen at hg4; clear ho hb)) | (go_at_call 62; ((with_reducible refine (HT.out s 0 _ (HR.out.go (HB3.out.trans (ZK.out.mono HB3.out.size))) (by omega) (by omega)).mono ?_); rintro e wn ⟨vn, rfl, ho, hb⟩; replace ZK := hid (ZK.out.trans (hb.mono ZK.out.size)); have hcb := fun (o : Nat) => ZK.out.cell (p := ⟨w.heap.size, o, none⟩) q3; (try (replace ZA := hid (ZA.out.below hb); have hcl := own_cell ZA.out k hkl rfl HX.out)); have ZN := hid ho; clear ho hb)) | (go_at_call 61; ((with_reducible refine (placeIn_k _ _ x k HPK.out _ ZN.out.rowB).mono ?_); rintro e wp ⟨rfl, hd⟩; replace ZK := hid (ZK.out.trans (hd.below _)); have hcb := fun (o : Nat) => ZK.out.cell (p := ⟨w.heap.size, o, none⟩) q3; (try (replace ZA := hid (ZA.out.dr hd); have hcl := own_cell ZA.out k hkl rfl HX.out)); replace ZN := hid (ZN.out.dr hd); clear hd)))
      all_goals
        go_wp2
        go_ret
        exact ⟨ret_int (by rw [HV.out, ← HXX.out]), HB3.out.trans (ZK.out.mono HB3.out.size)⟩

end Go.Proofs.Ytjohhjpoglaagaa
