/-
  Contracts: valid steps, by the reference and by the program.
-/
import Derived.Test.YtjohhjpoglaagaaKnotsS
import Derived.Deep.QuietTactic
import Derived.BigQuiet
namespace Go.Proofs.Ytjohhjpoglaagaa
set_option linter.unusedSimpArgs false
set_option linter.unusedVariables false
open Go.RowKit

/-- May the cut x be made behind the cuts D? -/
def stepB (K : List Kn) (D : List Int) (x : Int) : Bool :=
  if place (K.map (·.n)) x < 0 then false else
    match K[(place (K.map (·.n)) x).toNat]? with
    | some y => !decide (x ∈ D) && (decide (y.a < 0) || decide (y.a ∈ D))
    | none => false
def okFrom (K : List Kn) : List Int → List Int → Bool
  | _, [] => true
  | D, x :: R => stepB K D x && okFrom K (D ++ [x]) R
def vsB (K : List Kn) (S : List Int) : Bool := decide (S.length = K.length) && okFrom K [] S
def vsOut (p : Pl) (S : List Int) : Bool := okB p && vsB (knOut p) S
theorem stepB_neg {K : List Kn} {D : List Int} {x : Int} (h : place (K.map (·.n)) x < 0) : stepB K D x = false := by rw [stepB, if_pos h]
theorem stepB_at {K : List Kn} {D : List Int} {x : Int} {j : Nat} (h : place (K.map (·.n)) x = j) (hj : j < K.length) : stepB K D x = (!decide (x ∈ D) && (decide (K[j].a < 0) || decide (K[j].a ∈ D))) := by
  rw [stepB, if_neg (by omega), h, Int.toNat_natCast, List.getElem?_eq_getElem hj]
theorem okFrom_step {K : List Kn} {S : List Int} {k : Nat} (hk : k < S.length) : okFrom K (S.take k) (S.drop k) = (stepB K (S.take k) S[k] && okFrom K (S.take (k + 1)) (S.drop (k + 1))) := by
  rw [List.drop_eq_getElem_cons hk, okFrom, List.take_succ_eq_append_getElem hk]
theorem okFrom_end {K : List Kn} {S : List Int} {k : Nat} (hk : S.length ≤ k) : okFrom K (S.take k) (S.drop k) = true := by rw [List.drop_of_length_le hk, okFrom]

/-- The numbers of the cuts lie in i .. i + nodes - 1, those above them there or at the one given. -/
theorem kn_range : ∀ (t : Tr) (i up : Int), ∀ y ∈ kn t i up, i ≤ y.n ∧ y.n < i + nodes t ∧ (y.a = up ∨ (i ≤ y.a ∧ y.a < i + nodes t))
  | .leaf _ _ _, _, _, y, h => by simp [kn] at h
  | .cut _ _ l r, i, up, y, h => by
    have p1 := nodes_pos l
    have p2 := nodes_pos r
    rw [kn] at h
    simp only [nodes]
    rcases List.mem_cons.1 h with rfl | h
    · exact ⟨by simp, by simp only; omega, .inl rfl⟩
    · rcases List.mem_append.1 h with h | h
      · have := kn_range l _ _ y h; omega
      · have := kn_range r _ _ y h; omega
theorem knOut_range (p : Pl) (y : Kn) (h : y ∈ knOut p) : 0 ≤ y.n ∧ y.n < 255 ∧ -1 ≤ y.a ∧ y.a < 255 := by
  unfold knOut at h
  cases hw : wf p with
  | none => rw [hw] at h; simp at h
  | some t =>
    rw [hw] at h
    simp only at h
    by_cases hn : (nodes t : Int) ≤ 255
    · rw [if_pos hn] at h
      have := kn_range t 0 (-1) y h
      omega
    · rw [if_neg hn] at h; simp at h

theorem placeIn_s {B : Nat} (v : Value) (L : List Int) (x : Int) (w : World) (h : RowB intE B w v L) : Calls Try.prog 61 #[v, .int .i64 x] w fun e w' => e = .returned (.int .i64 (place L x)) ∧ w' = w := by
  obtain ⟨A1, c1, rfl, hc1, hm1⟩ := h.form
  unfold maxLen at hm1
  go_enter Try.func61, Try.ntmps61
  go_wp2
  go_loop [5] (fun i => ∃ k : Nat, i = .int .i64 k ∧ k ≤ L.length ∧ (∀ y ∈ L.take k, y ≠ x)) (fun i => L.length - (intOf i).toNat)
  case atStart => exact ⟨0, rfl, by omega, by simp⟩
  case round =>
    obtain ⟨k, rfl, hk, hno⟩ := hrel
    have HNO := hid hno
    by_cases hlt : k < L.length
    · obtain ⟨b1, o1, rfl, -, hx⟩ := row_cells1 h (by omega)
      have hx0 := hx k hlt
      clear hx hno
      by_cases he : L[k] = x
      · have HV := hid (place_at hlt he HNO.out)
        have he' : (L[k] == x) = true := by simpa using he
        clear he
        go_wp2
        go_ret
        exact ⟨ret_int HV.out.symm, rfl⟩
      · have he' : (L[k] == x) = false := by simpa using he
        have HN2 := hid (take_ne hlt he HNO.out)
        clear he
        go_wp2
        go_round
        case rel => exact ⟨k + 1, by go_num, by omega, HN2.out⟩
        case measure => simp [intOf]; omega
    · have HV : Hid (place L x = -1) := place_none (by rw [List.take_of_length_le (by omega)] at hno; exact hno)
      clear hno
      go_wp2
      go_ret
      exact ⟨ret_int HV.out.symm, rfl⟩

set_option maxHeartbeats 6400000 in
set_option maxRecDepth 100000 in
theorem svalidSteps_c {t : Tr} {s : Sh} {v : Value} {S : List Int} {w : World} (h : TR w.heap.size w t s) (hn : nodes t ≤ 255) (hs : Row intE w v S) :
    Calls Try.prog 70 #[.agg #[.int .i64 s.o, .int .i64 s.a, .int .i64 s.p, .bool s.t, .slice s.ka s.kn s.kc], v] w fun e w' => e = .returned (.bool (vsB (kn t 0 (-1)) S)) ∧ Below w.heap.size w w' := by
  have HB0 := hid (below_pl (o := s.o) (a := s.a) (p := s.p) (t := s.t) (ka := s.ka) (kn := s.kn) (kc := s.kc) (ty := 29) w)
  obtain ⟨A1, c1, rfl, hc1, hm1⟩ := hs.form
  unfold maxLen at hm1
  have HR := hid h
  have HS0 := hid hs
  have HI := hid (sinner_c t hn)
  have HA := hid (saboves_c t hn)
  obtain ⟨K, hK⟩ : ∃ K, K = kn t 0 (-1) := ⟨_, rfl⟩
  have hN : nums t 0 = K.map (·.n) := by rw [hK]; rfl
  have hA : abvs t 0 (-1) = K.map (·.a) := by rw [hK]; rfl
  have hnl : (nums t 0).length = K.length := by rw [hN, List.length_map]
  rw [← hK]
  have HN := hid hN
  have HAA := hid hA
  have HNL := hid hnl
  clear h hs hK hN hA hnl
  go_enter Try.func70, Try.ntmps70
  go_wp2_with fail
  refine (HI.out s 0 _ (HR.out.go HB0.out) (by omega) (by omega)).mono ?_
  rintro e w1 ⟨vn, rfl, hon, hb⟩
  rw [HN.out] at hon
  have HB1 := hid (HB0.out.trans (hb.mono HB0.out.size))
  have HON := hid hon
  obtain ⟨hc1', hf1, hs1⟩ := bcell hb
  clear hb hon hf1
  go_wp2_with fail
  refine (HA.out s 0 (-1) _ (HR.out.go HB1.out) (by omega) (by omega) (by omega) (by omega)).mono ?_
  rintro e w2 ⟨va, rfl, hoa, hb⟩
  rw [HAA.out] at hoa
  have HB2 := hid (HB1.out.trans (hb.mono HB1.out.size))
  have HON2 := hid (HON.out.below hb)
  have HOA2 := hid hoa
  have hshape := (HON.out.below hb).rowB.form
  have hshape2 := hoa.rowB.form
  obtain ⟨An, cn, rfl, hcn, hmn⟩ := hshape
  obtain ⟨Aa, ca, rfl, hca, hma⟩ := hshape2
  unfold maxLen at hmn hma
  have hlm : (K.map (·.n)).length = K.length := List.length_map _
  have hla : (K.map (·.a)).length = K.length := List.length_map _
  rw [hlm] at hcn HON2 HON ⊢
  rw [hla] at hca HOA2 ⊢
  have HLM := hid hlm
  have HLA := hid hla
  have HRN := hid HON2.out.rowB
  have HRA := hid HOA2.out.rowB
  have HRS := hid (HS0.out.go HB2.out)
  clear hb hoa hlm hla hc1'
  by_cases hlen : S.length = K.length
  · have hlb : ((S.length : Int) != (K.length : Int)) = false := by simp [hlen]
    have HLEN := hid hlen
    have HV : Hid (vsB K S = okFrom K (S.take 0) (S.drop 0)) := by rw [Hid, vsB, hlen]; simp
    clear hlen
    go_wp2
    go_loopw [7] (fun i wr => ∃ k : Nat, i = .int .i64 k ∧ k ≤ S.length ∧ vsB K S = okFrom K (S.take k) (S.drop k) ∧ Dr w2 wr) (fun i _ => S.length - (intOf i).toNat)
    case atStart => exact ⟨0, rfl, by omega, HV.out, Dr.refl _⟩
    case round =>
      obtain ⟨k, rfl, hk, hv, hd⟩ := hrel
      have HVK := hid hv
      have HD := hid hd
      by_cases hlt : k < S.length
      · have HRSr := hid (HRS.out.dr hd)
        obtain ⟨b1, o1, rfl, -, hx⟩ := row_cells1 HRSr.out (by omega)
        have hx0 := hx k hlt
        have HTK := hid (HRSr.out.take k hk)
        have HST := hid (okFrom_step (K := K) hlt)
        obtain ⟨x, hxx⟩ : ∃ x, x = S[k] := ⟨_, rfl⟩
        rw [← hxx] at hx0 HST
        clear hx hv hxx
        by_cases hneg : place (K.map (·.n)) x < 0
        · have HF : Hid (vsB K S = false) := by rw [Hid, HVK.out, HST.out, stepB_neg hneg]; rfl
          clear hd
          go_wp2_with fail
          refine (placeIn_s _ _ x _ (HRN.out.dr HD.out)).mono ?_
          rintro e w3 ⟨rfl, rfl⟩
          go_wp2
          go_quiet (fail)
          go_wp2
          go_ret
          exact ⟨ret_bool HF.out.symm, HB2.out.trans ((HD.out.step _).below _)⟩
        · obtain ⟨j, hj, e1, e2⟩ := place_get (L := K.map (·.n)) (x := x) (by omega)
          have hjK : j < K.length := by simpa using hj
          have HPJ := hid e1
          have HSA := hid (stepB_at (D := S.take k) e1 hjK)
          obtain ⟨ba, oa, rfl, -, hxa⟩ := row_cells1 (HRA.out.dr hd) (by omega)
          have hxa0 := hxa j (by simpa using hjK)
          rw [List.getElem_map] at hxa0
          obtain ⟨up, hup⟩ : ∃ up, up = K[j].a := ⟨_, rfl⟩
          rw [← hup] at hxa0 HSA
          have dj : decide ((j : Int) < 0) = false := by rw [decide_eq_false_iff_not]; omega
          clear hxa e1 e2 hj hneg hup hd
          by_cases hmem : x ∈ S.take k
          · have HF : Hid (vsB K S = false) := by rw [Hid, HVK.out, HST.out, HSA.out]; simp [hmem]
            have hp := place_mem.2 hmem
            have dp : decide (0 ≤ place (S.take k) x) = true := by simpa using hp
            clear hmem
            go_wp2_with fail
            refine (placeIn_s _ _ x _ (HRN.out.dr HD.out)).mono ?_
            rintro e w3 ⟨rfl, rfl⟩
            rw [HPJ.out]
            go_wp2
            go_quiet ((go_at_call 61; exact Calls.quiet_of_same (placeIn_s _ (S.take k) x _ (HTK.out.dr ⟨_, rfl⟩))))
            go_wp2
            go_ret
            exact ⟨ret_bool HF.out.symm, HB2.out.trans ((HD.out.step _).below _)⟩
          · have hp : place (S.take k) x < 0 := by
              have := place_mem (L := S.take k) (x := x)
              have h2 : ¬ 0 ≤ place (S.take k) x := fun h => hmem (this.1 h)
              omega
            have hcase : (up < 0 ∧ stepB K (S.take k) x = true) ∨ (0 ≤ up ∧ 0 ≤ place (S.take k) up ∧ stepB K (S.take k) x = true) ∨ (0 ≤ up ∧ place (S.take k) up < 0 ∧ stepB K (S.take k) x = false) := by
              rw [HSA.out]
              by_cases h1 : up < 0
              · exact .inl ⟨h1, by simp [hmem, h1]⟩
              · by_cases h2 : up ∈ S.take k
                · exact .inr (.inl ⟨by omega, place_mem.2 h2, by simp [hmem, h2]⟩)
                · refine .inr (.inr ⟨by omega, ?_, by simp [h1, h2]⟩)
                  have := place_mem (L := S.take k) (x := up)
                  have h3 : ¬ 0 ≤ place (S.take k) up := fun h => h2 (this.1 h)
                  omega
            have dp : decide (0 ≤ place (S.take k) x) = false := by rw [decide_eq_false_iff_not]; omega
            clear hmem
            rcases hcase with ⟨u1, hst⟩ | ⟨u1, u2, hst⟩ | ⟨u1, u2, hst⟩
            · have HNX : Hid (vsB K S = okFrom K (S.take (k + 1)) (S.drop (k + 1))) := by rw [Hid, HVK.out, HST.out, hst, Bool.true_and]
              have du : decide (0 ≤ up) = false := by rw [decide_eq_false_iff_not]; omega
              clear hst
              go_wp2_with fail
              refine (placeIn_s _ _ x _ (HRN.out.dr HD.out)).mono ?_
              rintro e w3 ⟨rfl, rfl⟩
              rw [HPJ.out]
              go_wp2
              go_quiet ((go_at_call 61; exact Calls.quiet_of_same (placeIn_s _ (S.take k) x _ (HTK.out.dr ⟨_, rfl⟩))))
              go_wp2
              exact ⟨⟨k + 1, by go_num, by omega, HNX.out, HD.out.step _⟩, by simp [intOf]; omega⟩
            · have HNX : Hid (vsB K S = okFrom K (S.take (k + 1)) (S.drop (k + 1))) := by rw [Hid, HVK.out, HST.out, hst, Bool.true_and]
              have du : decide (0 ≤ up) = true := by simpa using u1
              have dq : decide (place (S.take k) up < 0) = false := by rw [decide_eq_false_iff_not]; omega
              clear hst
              go_wp2_with fail
              refine (placeIn_s _ _ x _ (HRN.out.dr HD.out)).mono ?_
              rintro e w3 ⟨rfl, rfl⟩
              rw [HPJ.out]
              go_wp2
              go_quiet ((go_at_call 61; exact Calls.quiet_of_same (placeIn_s _ (S.take k) _ _ (HTK.out.dr ⟨_, rfl⟩))))
              go_wp2
              exact ⟨⟨k + 1, by go_num, by omega, HNX.out, HD.out.step _⟩, by simp [intOf]; omega⟩
            · have HF : Hid (vsB K S = false) := by rw [Hid, HVK.out, HST.out, hst]; rfl
              have du : decide (0 ≤ up) = true := by simpa using u1
              have dq : decide (place (S.take k) up < 0) = true := by simpa using u2
              clear hst
              go_wp2_with fail
              refine (placeIn_s _ _ x _ (HRN.out.dr HD.out)).mono ?_
              rintro e w3 ⟨rfl, rfl⟩
              rw [HPJ.out]
              go_wp2
              go_quiet ((go_at_call 61; exact Calls.quiet_of_same (placeIn_s _ (S.take k) _ _ (HTK.out.dr ⟨_, rfl⟩))))
              go_wp2
              go_ret
              exact ⟨ret_bool HF.out.symm, HB2.out.trans ((HD.out.step _).below _)⟩
      · have HF : Hid (vsB K S = true) := by rw [Hid, hv, okFrom_end (by omega)]
        clear hv hd
        go_wp2
        go_ret
        exact ⟨ret_bool HF.out.symm, HB2.out.trans (HD.out.below _)⟩
  · have hlb : ((S.length : Int) != (K.length : Int)) = true := by simp; omega
    have HF : Hid (vsB K S = false) := by rw [Hid, vsB]; simp [hlen]
    clear hlen
    go_wp2
    go_ret
    exact ⟨ret_bool HF.out.symm, HB2.out⟩

end Go.Proofs.Ytjohhjpoglaagaa
