/-
  Contracts: valid steps, by the program.
-/
import Derived.Test.YtjohhjpoglaagaaVSteps
namespace Go.Proofs.Ytjohhjpoglaagaa
set_option linter.unusedSimpArgs false
set_option linter.unusedVariables false
open Go.RowKit

/-- Which cuts were made. -/
def md (D : List Int) : List Bool := (List.range 255).map fun (x : Nat) => decide ((x : Int) ∈ D)
theorem md_len (D : List Int) : (md D).length = 255 := by simp [md]
theorem md_at (D : List Int) (x : Nat) (h : x < (md D).length) : (md D)[x] = decide ((x : Int) ∈ D) := by simp [md]
theorem md_nil : md [] = List.replicate 255 false := by
  apply List.ext_getElem
  · rw [md_len, List.length_replicate]
  · intro n h1 h2; rw [md_at, List.getElem_replicate]; simp
theorem md_set (D : List Int) (x : Nat) : (md D).set x true = md (D ++ [(x : Int)]) := by
  apply List.ext_getElem
  · simp [md]
  · intro n h1 h2
    rw [List.getElem_set, md_at, md_at]
    by_cases e : x = n
    · rw [if_pos e]; simp [e]
    · rw [if_neg e]
      have : ((n : Int) ∈ D ++ [(x : Int)]) ↔ (n : Int) ∈ D := by simp; omega
      rw [decide_eq_decide]; exact this.symm

theorem Own.own_bool {w : World} {e : TypeId} {base g n cap : Nat} {L : List Bool} (h : Own boolE e base w (.slice (some ⟨g, 0, none⟩) n cap) L) (hn : n = L.length) (k : Nat) (hk : k < L.length) : w.cell? ⟨g, k, none⟩ = some (.bool L[k]) := by
  have := h.cellAt hn k 0 hk (by decide)
  simpa [boolE] using this

theorem arr255_info : (Try.prog.info? 82).map (fun i => i.zero) = some (some (.agg (Array.replicate 255 (.bool false)))) := by kernel_rfl

theorem arr255_zero : ∃ Z : Array Value, Z.toList = boolE.flat (md []) ∧ ∀ w : World, (zeroValue 82).run Try.prog w = .ok (.agg Z) w := by
  obtain ⟨i, hi, hz⟩ : ∃ i, Try.prog.info? 82 = some i ∧ i.zero = some (.agg (Array.replicate 255 (.bool false))) := by
    have h := arr255_info
    cases h2 : Try.prog.info? 82 with
    | none => rw [h2] at h; cases h
    | some i => rw [h2] at h; simp only [Option.map_some, Option.some.injEq] at h; exact ⟨i, rfl, h⟩
  obtain ⟨Z, hZ⟩ : ∃ Z, Z = Array.replicate 255 (Value.bool false) := ⟨_, rfl⟩
  rw [← hZ] at hz
  refine ⟨Z, ?_, fun w => ?_⟩
  · rw [hZ, md_nil]
    have : ∀ n, boolE.flat (List.replicate n false) = List.replicate n (Value.bool false) := by
      intro n
      induction n with
      | zero => rfl
      | succ n ih => rw [List.replicate_succ, Enc.flat_cons, ih]; rfl
    rw [this, Array.toList_replicate]
  · simp [zeroValue, typeInfo, hi, hz]

set_option maxHeartbeats 6400000 in
set_option maxRecDepth 100000 in
theorem beginsOrder_c {v1 v2 : Value} {K : List Kn} {S : List Int} {w : World} (h1 : Row knE w v1 K) (h2 : Row intE w v2 S) (hK : ∀ y ∈ K, 0 ≤ y.n ∧ y.n < 255 ∧ -1 ≤ y.a ∧ y.a < 255) :
    Calls Try.prog 71 #[v1, v2] w fun e w' => e = .returned (.bool (okFrom K [] S)) ∧ Below w.heap.size w w' := by
  obtain ⟨A1, c1, rfl, hc1, hm1⟩ := h1.form
  obtain ⟨A2, c2, rfl, hc2, hm2⟩ := h2.form
  unfold maxLen at hm1 hm2
  obtain ⟨Z, hZL, hZ⟩ := arr255_zero
  have HZL := hid hZL
  have H1 := hid h1
  have H2 := hid h2
  have HK := hid hK
  clear hZL h1 h2 hK
  go_enter Try.func71, Try.ntmps71
  go_wp2
  have HO0 : Hid (Own boolE 82 w.heap.size (w.alloc (.cells Z 82)) (.slice (some ⟨w.heap.size, 0, none⟩) 255 255) (md (S.take 0))) :=
    Own.lit boolE w w.heap.size 82 Z _ 255 (md_len _).symm HZL.out (Nat.le_refl _) (by simp [maxLen])
  go_loopw [12] (fun i wr => ∃ k : Nat, i = .int .i64 k ∧ k ≤ S.length ∧ okFrom K [] S = okFrom K (S.take k) (S.drop k) ∧ Below w.heap.size w wr ∧ Own boolE 82 w.heap.size wr (.slice (some ⟨w.heap.size, 0, none⟩) 255 255) (md (S.take k))) (fun i _ => S.length - (intOf i).toNat)
  case atStart => exact ⟨0, rfl, by omega, rfl, (Below.refl _ _).alloc (Nat.le_refl _) _, HO0.out⟩
  case round =>
    obtain ⟨k, rfl, hk, hv, hb, ho⟩ := hrel
    have HVK := hid hv
    have HB := hid hb
    have HO := hid ho
    by_cases hlt : k < S.length
    · obtain ⟨b1, o1, rfl, -, hx⟩ := row_cells1 (H2.out.below hb) (by omega)
      have hx0 := hx k hlt
      have HST := hid (okFrom_step (K := K) hlt)
      have HTS := hid (List.take_succ_eq_append_getElem hlt)
      obtain ⟨x, hxx⟩ : ∃ x, x = S[k] := ⟨_, rfl⟩
      rw [← hxx] at hx0 HST HTS
      clear hx hv hxx hb ho
      go_wp2_with fail
      refine (findKnot_c _ K x _ (H1.out.go HB.out)).mono ?_
      rintro e w3 ⟨rfl, hb3⟩
      have HB3 := hid (HB.out.trans (hb3.mono HB.out.size))
      have HO3 := hid (HO.out.below hb3)
      clear hb3
      by_cases hneg : place (K.map (·.n)) x < 0
      · have HF : Hid (okFrom K [] S = false) := by rw [Hid, HVK.out, HST.out, stepB_neg hneg]; rfl
        have dj : decide (place (K.map (·.n)) x < 0) = true := by simpa using hneg
        clear hneg
        go_wp2
        go_ret
        exact ⟨ret_bool HF.out.symm, HB3.out⟩
      · obtain ⟨j, hj, e1, e2⟩ := place_get (L := K.map (·.n)) (x := x) (by omega)
        have hjK : j < K.length := by simpa using hj
        have HPJ := hid e1
        have HSA := hid (stepB_at (D := S.take k) e1 hjK)
        have hr := HK.out K[j] (List.getElem_mem hjK)
        obtain ⟨b2, o2, rfl, -, hxa⟩ := row_kns (H1.out.below HB3.out) (by omega)
        obtain ⟨-, hxa1⟩ := hxa j hjK
        obtain ⟨up, hup⟩ : ∃ up, up = K[j].a := ⟨_, rfl⟩
        rw [← hup] at hxa1 HSA hr
        rw [List.getElem_map] at e2
        rw [e2] at hr
        obtain ⟨r1, r2, r3, r4⟩ := hr
        obtain ⟨xn, rfl⟩ : ∃ xn : Nat, x = xn := ⟨x.toNat, by omega⟩
        have hx255 : xn < 255 := by omega
        have hcell := HO3.out.own_bool (md_len _).symm xn (by rw [md_len]; exact hx255)
        rw [md_at] at hcell
        have hfr := HO3.out.frozen (md_len _).symm xn
        obtain ⟨ho4, hg4⟩ := HO3.out.store1 rfl xn true (.bool true) rfl (md_len _).symm
        rw [md_set, ← HTS.out] at ho4
        have HO4 := hid ho4
        have HB4 := hid (HB3.out.setCell (p := ⟨w.heap.size, xn, none⟩) (by simp) (.bool true))
        have dj : decide ((j : Int) < 0) = false := by rw [decide_eq_false_iff_not]; omega
        rw [HPJ.out]
        clear hxa e1 e2 hj hneg hup ho4 hg4
        by_cases hmem : (xn : Int) ∈ S.take k
        · have HF : Hid (okFrom K [] S = false) := by rw [Hid, HVK.out, HST.out, HSA.out]; simp [hmem]
          have hd : decide ((xn : Int) ∈ S.take k) = true := by simpa using hmem
          rw [hd] at hcell
          clear hmem hd
          go_wp2
          go_ret
          exact ⟨ret_bool HF.out.symm, HB3.out⟩
        · have hd : decide ((xn : Int) ∈ S.take k) = false := by simpa using hmem
          rw [hd] at hcell
          by_cases hu : up < 0
          · have HNX : Hid (okFrom K [] S = okFrom K (S.take (k + 1)) (S.drop (k + 1))) := by rw [Hid, HVK.out, HST.out, HSA.out]; simp [hmem, hu]
            have du : decide (0 ≤ up) = false := by rw [decide_eq_false_iff_not]; omega
            clear hmem hd
            go_wp2
            exact ⟨⟨k + 1, by go_num, by omega, HNX.out, HB4.out, HO4.out⟩, by simp [intOf]; omega⟩
          · obtain ⟨un, rfl⟩ : ∃ un : Nat, up = un := ⟨up.toNat, by omega⟩
            have hu255 : un < 255 := by omega
            have hcu := HO3.out.own_bool (md_len _).symm un (by rw [md_len]; exact hu255)
            rw [md_at] at hcu
            have du : decide (0 ≤ (un : Int)) = true := by simp
            by_cases hum : (un : Int) ∈ S.take k
            · have HNX : Hid (okFrom K [] S = okFrom K (S.take (k + 1)) (S.drop (k + 1))) := by rw [Hid, HVK.out, HST.out, HSA.out]; simp [hmem, hum]
              have hd2 : decide ((un : Int) ∈ S.take k) = true := by simpa using hum
              rw [hd2] at hcu
              clear hmem hd hd2 hum hu
              go_wp2
              exact ⟨⟨k + 1, by go_num, by omega, HNX.out, HB4.out, HO4.out⟩, by simp [intOf]; omega⟩
            · have HF : Hid (okFrom K [] S = false) := by rw [Hid, HVK.out, HST.out, HSA.out]; simp [hum]; omega
              have hd2 : decide ((un : Int) ∈ S.take k) = false := by simpa using hum
              rw [hd2] at hcu
              clear hmem hd hd2 hum hu
              go_wp2
              go_ret
              exact ⟨ret_bool HF.out.symm, HB3.out⟩
    · have HF : Hid (okFrom K [] S = true) := by rw [Hid, hv, okFrom_end (by omega)]
      clear hv ho
      go_wp2
      go_ret
      exact ⟨ret_bool HF.out.symm, hb⟩

theorem vsOut_neg {p : Pl} {S : List Int} (h : psz p < 0) : vsOut p S = false := by
  have : okB p = false := by simp [okB]; omega
  rw [vsOut, this]; rfl
theorem vsOut_pos {p : Pl} {S : List Int} (h : ¬ psz p < 0) : vsOut p S = vsB (knOut p) S := by
  have : okB p = true := by simp [okB]; omega
  rw [vsOut, this]; rfl

set_option maxHeartbeats 1600000 in
theorem ValidSteps_c {n : Nat} {p : Pl} {s : Sh} {v : Value} {S : List Int} {w : World} (h : PR w.heap.size w n p s) (hs : Row intE w v S) : Calls Try.prog 43 #[.agg #[.int .i64 s.o, .int .i64 s.a, .int .i64 s.p, .bool s.t, .slice s.ka s.kn s.kc], v] w fun e w' => e = .returned (.bool (vsOut p S)) ∧ Below w.heap.size w w' := by
  have HB0 := hid (below_pl (o := s.o) (a := s.a) (p := s.p) (t := s.t) (ka := s.ka) (kn := s.kn) (kc := s.kc) (ty := 29) w)
  have HP := hid h
  have HS := hid hs
  obtain ⟨A1, c1, rfl, hc1, hm1⟩ := hs.form
  unfold maxLen at hm1
  have HKR := hid (knOut_range p)
  have hkl := knOut_len p
  obtain ⟨K, hK⟩ : ∃ K, K = knOut p := ⟨_, rfl⟩
  rw [← hK] at hkl HKR
  have HK := hid hK
  clear h hs hK
  by_cases hneg : psz p < 0
  · have HV := hid (vsOut_neg (S := S) hneg)
    have HE : Hid (okB p = false) := by simp [Hid, okB]; omega
    go_enter Try.func43, Try.ntmps43
    go_wp2_with fail
    refine (knotsOf_c (n := n) (p := p) (s := s) (HP.out.go HB0.out)).mono ?_
    rintro e w1 ⟨v1, rfl, ho, hb⟩
    rw [HE.out]
    have HB1 := hid (HB0.out.trans (hb.mono HB0.out.size))
    clear hb ho
    go_wp2
    go_ret
    exact ⟨ret_bool HV.out.symm, HB1.out⟩
  · have HV : Hid (vsOut p S = vsB K S) := by rw [Hid, vsOut_pos hneg, HK.out]
    have HE : Hid (okB p = true) := by simp [Hid, okB]; omega
    go_enter Try.func43, Try.ntmps43
    go_wp2_with fail
    refine (knotsOf_c (n := n) (p := p) (s := s) (HP.out.go HB0.out)).mono ?_
    rintro e w1 ⟨v1, rfl, ho, hb⟩
    rw [HE.out]
    rw [← HK.out] at ho
    have HB1 := hid (HB0.out.trans (hb.mono HB0.out.size))
    obtain ⟨A2, c2, rfl, hc2, hm2⟩ := ho.rowB.form
    unfold maxLen at hm2
    have HR1 := hid ho.rowB
    have HS1 := hid (HS.out.go HB1.out)
    clear hb ho
    by_cases hlen : S.length = K.length
    · have hlb : ((S.length : Int) == (K.length : Int)) = true := by simp [hlen]
      have HV2 : Hid (vsB K S = okFrom K [] S) := by rw [Hid, vsB]; simp [hlen]
      clear hlen
      go_wp2_with fail
      refine (beginsOrder_c HR1.out HS1.out HKR.out).mono ?_
      rintro e w2 ⟨rfl, hb⟩
      have HB2 := hid (HB1.out.trans (hb.mono HB1.out.size))
      clear hb
      go_wp2
      go_ret
      exact ⟨ret_bool (by rw [HV.out, HV2.out]), HB2.out⟩
    · have hlb : ((S.length : Int) == (K.length : Int)) = false := by simp; omega
      have HV2 : Hid (vsB K S = false) := by rw [Hid, vsB]; simp [hlen]
      clear hlen
      go_wp2
      go_ret
      exact ⟨ret_bool (by rw [HV.out, HV2.out]), HB1.out⟩

set_option maxHeartbeats 1600000 in
theorem sValidSteps_c {n : Nat} {p : Pl} {s : Sh} {v : Value} {S : List Int} {w : World} (h : PR w.heap.size w n p s) (hs : Row intE w v S) : Calls Try.prog 41 #[.agg #[.int .i64 s.o, .int .i64 s.a, .int .i64 s.p, .bool s.t, .slice s.ka s.kn s.kc], v] w fun e w' => e = .returned (.bool (vsOut p S)) ∧ Below w.heap.size w w' := by
  have HB0 := hid (below_pl (o := s.o) (a := s.a) (p := s.p) (t := s.t) (ka := s.ka) (kn := s.kn) (kc := s.kc) (ty := 29) w)
  have HP := hid h
  have HS := hid hs
  clear h hs
  by_cases hneg : psz p < 0
  · have HV := hid (vsOut_neg (S := S) hneg)
    go_enter Try.func41, Try.ntmps41
    go_wp2_with fail
    refine (splanSize_c (n := n) (p := p) (s := s) (HP.out.go HB0.out)).mono ?_
    rintro e w1 ⟨rfl, hb⟩
    have HB1 := hid (HB0.out.trans (hb.mono HB0.out.size))
    clear hb
    go_wp2
    go_ret
    exact ⟨ret_bool HV.out.symm, HB1.out⟩
  · obtain ⟨t, hw, hps, hn⟩ := cp_tree (p := p) (room := 255) (by unfold psz at hneg; omega)
    have HV : Hid (vsOut p S = vsB (kn t 0 (-1)) S) := by rw [Hid, vsOut_pos hneg, knOut_some hw hn]
    have hpos : 0 < psz p := by unfold psz; rw [hps]; have := nodes_pos t; omega
    have HR := hid (HP.out.tr hw)
    have hn' : nodes t ≤ 255 := by omega
    clear hw hps hn hneg
    go_enter Try.func41, Try.ntmps41
    go_wp2_with fail
    refine (splanSize_c (n := n) (p := p) (s := s) (HP.out.go HB0.out)).mono ?_
    rintro e w1 ⟨rfl, hb⟩
    have HB1 := hid (HB0.out.trans (hb.mono HB0.out.size))
    obtain ⟨hcc, hf, hsz⟩ := bcell hb
    clear hb hf
    go_wp2_with fail
    refine (svalidSteps_c (HR.out.go HB1.out) hn' (HS.out.go HB1.out)).mono ?_
    rintro e w2 ⟨rfl, hb⟩
    have HB2 := hid (HB1.out.trans (hb.mono HB1.out.size))
    clear hb hcc
    go_wp2
    go_ret
    exact ⟨ret_bool HV.out.symm, HB2.out⟩

end Go.Proofs.Ytjohhjpoglaagaa
