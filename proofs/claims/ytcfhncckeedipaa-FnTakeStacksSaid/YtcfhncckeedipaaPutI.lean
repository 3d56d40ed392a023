/-
  Contracts: PutStacks, by the program and by the reference: the loops (written by a program of mine).
-/
import Derived.Test.YtcfhncckeedipaaPut
import Derived.Test.YtcfhncckeedipaaLawInts
import Derived.Test.YtcfhncckeedipaaCat
import Derived.Test.YtcfhncckeedipaaRead
namespace Go.Proofs.Ytcfhncckeedipaa
set_option linter.unusedSimpArgs false
set_option linter.unusedVariables false
open Go.RowKit

/-- Two slices that are owned have different blocks. -/
def Dq (v u : Value) : Prop := ∀ k, v.ownBlock = some k → u.ownBlock ≠ some k
theorem Dq.symm {v u : Value} (h : Dq v u) : Dq u v := fun k h1 h2 => h k h2 h1
theorem Dq.kept {v u : Value} (h : Dq v u) : v.ownBlock = none ∨ v.ownBlock ≠ u.ownBlock := by
  cases hv : v.ownBlock with
  | none => exact .inl rfl
  | some k => exact .inr (fun e => h k hv e.symm)
theorem dq_new {v v' u : Value} {w : World} {base n : Nat} {e : TypeId} {T : List Int} (hu : Own intE e base w u T) (hd : Dq v u) (hat : v'.ownBlock = v.ownBlock ∨ v'.ownBlock = some n) (hn : w.heap.size ≤ n) : Dq v' u := by
  intro k hk e
  rcases hat with h | h
  · exact hd k (h ▸ hk) e
  · rw [h] at hk
    injection hk with hk
    have := (hu.lt k e).2
    omega
theorem put_set {T : List Int} {r : Nat} {x : Int} (h : r = T.length) : (T ++ [x]).set r x = T ++ [x] := by
  subst h
  rw [List.set_append_right _ _ (Nat.le_refl _), Nat.sub_self]
  rfl
theorem put_set0 {T : List Int} {r : Nat} {x y : Int} (h : r = T.length) : (T ++ [y]).set r x = T ++ [x] := by
  subst h
  rw [List.set_append_right _ _ (Nat.le_refl _), Nat.sub_self]
  rfl
def putOut (L : List Int) : List Int := if vtB L = true then putL L else []
theorem putOut_t {L : List Int} (h : vtB L = true) : putOut L = putL L := by simp [putOut, h]
theorem putOut_f {L : List Int} (h : vtB L = false) : putOut L = [] := by simp [putOut, h]


set_option maxHeartbeats 6400000 in
set_option maxRecDepth 100000 in
theorem PutStacks_c (v : Value) (L : List Int) (w : World) (h : Row intE w v L) : Calls Try.prog 26 #[v] w (PutRes w.heap.size (putOut L) w) := by
  obtain ⟨i0, hi0, hz0, hz1, hz2⟩ := info_parts int_info
  have HH0 := hid h
  obtain ⟨A1, c1, rfl, hc1, hm1⟩ := h.form
  unfold maxLen at hm1
  have HHw := hid h
  clear h
  go_enter Try.func26, Try.ntmps26
  go_wp2_with fail
  refine (ValidTurn_c _ L _ HH0.out).mono ?_
  rintro e w1 ⟨rfl, hb⟩
  have HB := hid hb
  have HH := hid (HH0.out.go hb)
  clear hb HH0
  cases hv : vtB L with
  | false =>
    have HE := hid (putOut_f hv)
    clear hv
    go_wp2
    go_ret
    exact ⟨_, rfl, by rw [HE.out]; exact Own.nil_ _ _ _, HB.out⟩
  | true =>
    have HE := hid (putOut_t hv)
    have HV := hid (vtB_iff.1 hv)
    have hL24 := HV.out.1
    clear hv
    go_wp2
    go_loopw [3, 4, 13] (fun s t i wr => ∃ k : Nat, i = .int .i64 k ∧ k ≤ L.length ∧ Own intE 3 w.heap.size wr s ((putL L).take k) ∧ Own intE 3 w.heap.size wr t (topsTo L k) ∧ Dq s t ∧ Below w.heap.size w wr) (fun _ _ i _ => L.length - (intOf i).toNat)
    case atStart => exact ⟨0, rfl, by omega, by simpa using Own.nil_ _ _ _, by simpa [topsTo] using Own.nil_ _ _ _, fun k hk => by simp [Value.ownBlock] at hk, HB.out⟩
    case round =>
      obtain ⟨k, rfl, hk, hs, ht, hd, hb⟩ := hrel
      have HS := hid hs
      have HT := hid ht
      have HD := hid hd
      have HBr := hid hb
      have hszr := hb.size
      have HHr := hid (HHw.out.below hb)
      clear hs ht hd hb
      by_cases hlt : k < L.length
      · obtain ⟨r, hr0, hrl, hlow, hup, hnext⟩ := tops_next HV.out k hlt
        obtain ⟨T, hT⟩ : ∃ T, T = topsTo L k := ⟨_, rfl⟩
        rw [← hT] at HT hrl hlow hup hnext
        have hTl : T.length ≤ k := by rw [hT]; exact tops_len HV.out k hk
        have HF : Hid (Fst T L[k] r) := ⟨hrl, fun s hs hsr => by have := hlow s hs hsr; omega, hup⟩
        have HP := hid (take_put hlt hr0)
        have HN := hid hnext
        have hLn : Hid (((putL L).take k).length ≤ 4194304) := by rw [Hid, List.length_take]; omega
        have hTn : Hid (T.length ≤ 4194304) := by rw [Hid]; omega
        clear hT hr0 hlow hup hnext
        obtain ⟨b1, o1, rfl, hb1, hx⟩ := row_cells1 (HHr.out) (by omega)
        have hx' := hx k hlt
        have HX1 := hid ((Below.refl wr.heap.size wr).alloc (Nat.le_refl _) (.cells #[.int .i64 L[k]] 3))
        have HT1 := hid (HT.out.below HX1.out)
        have HS1 := hid (HS.out.below HX1.out)
        have hnum : Hid ((wr.alloc (.cells #[.int .i64 L[k]] 3)).cell? ⟨wr.heap.size, 0, none⟩ = some (.int .i64 L[k])) := (Blk.new wr #[.int .i64 L[k]] 3).cell 0
        clear hx
        go_wp2_with fail
        refine (indexBig_c _ T L[k] r ⟨wr.heap.size, 0, none⟩ _ HT1.out.rowB hnum.out HF.out).mono ?_
        rintro e w2 ⟨rfl, rfl⟩
        by_cases hrT : r < T.length
        · have hfv : fstV T r = r := by simp [fstV, hrT]
          obtain ⟨g, cap, e5, hg1, hg2, hcap, -⟩ := HT.out.form (by omega)
          subst e5
          have hgne : g ≠ wr.heap.size := by omega
          have HN2 : Hid (topsTo L (k + 1) = T.set r L[k]) := by rw [Hid, HN.out, if_pos hrT]
          rw [hfv]
          clear hfv
          have hd0 : decide ((r : Int) < 0) = false := decide_eq_false (by omega)
          have hcl := HT.out.own_int rfl r hrT
          have hfr := HT.out.frozen rfl r
          obtain ⟨ho2, hg2'⟩ := HT.out.store1 rfl r L[k] (.int .i64 L[k]) rfl rfl
          have HS2 := hid ((HS.out.kept hg2' HD.out.kept).alloc (.cells #[.int .i64 L[k]] 3))
          have HT2 := hid (ho2.alloc (.cells #[.int .i64 L[k]] 3))
          have HB2 := hid ((HBr.out.setCell (p := ⟨g, r, none⟩) hg1 (.int .i64 L[k])).alloc (by simp; omega) (.cells #[.int .i64 L[k]] 3))
          clear ho2 hg2'
          have HD2 := hid HD.out
          obtain ⟨L2, hL2⟩ : ∃ Z : List Int, Z = (putL L).take k ++ [(r : Int)] := ⟨_, rfl⟩
          have HL2 := hid hL2
          clear hL2
          go_wp2_with (at_builtin; refine wpList_pushN intE _ rfl (.tmp 32) (.tmp 34) _ rfl w.heap.size 3 i0 _ 8 Try.underlying24 hi0 hz0 hz1 hz2 rfl (by omega) _ _ rfl HS2.out _ (r : Int) _ rfl rfl (by simp) hLn.out HB2.out.size L2 HL2.out ?_)
          intro v5 w5 ho5 hg5 hat5
          have HT5 := hid (HT2.out.kept hg5 HD2.out.symm.kept)
          have HD5 := hid (dq_new HT2.out HD2.out hat5 (by simp))
          have HB5 := hid (HB2.out.grown hg5 HB2.out.size (fun q hq => (HS2.out.lt q hq).1))
          have HS5 := hid (show Own intE 3 w.heap.size w5 v5 ((putL L).take (k + 1)) by rw [HP.out, ← HL2.out]; exact ho5)
          have HT6 := hid (show Own intE 3 w.heap.size w5 _ (topsTo L (k + 1)) by rw [HN2.out]; exact HT5.out)
          clear ho5 hg5 hat5
          go_wp2
          exact ⟨⟨k + 1, by go_num, by omega, HS5.out, HT6.out, HD5.out, HB5.out⟩, by simp [intOf]; omega⟩
        · have er : r = T.length := by omega
          subst er
          have hfv : fstV T T.length = -1 := by simp [fstV]
          rw [hfv]
          clear hfv
          have HN2 : Hid (topsTo L (k + 1) = T ++ [L[k]]) := by rw [Hid, HN.out, if_neg hrT]
          obtain ⟨T2, hT2⟩ : ∃ Z : List Int, Z = T ++ [L[k]] := ⟨_, rfl⟩
          have HT2e := hid hT2
          clear hT2
          obtain ⟨At, ct, hvt, hct, hmt, hgt⟩ := HT.out.shape
          subst hvt
          unfold maxLen at hmt
          have HGT := hid hgt
          clear hgt
          have hd0 : decide ((-1 : Int) < 0) = true := by decide
          go_wp2_with (at_builtin; refine wpList_pushN intE _ rfl (.tmp 24) (.tmp 26) _ rfl w.heap.size 3 i0 _ 8 Try.underlying24 hi0 hz0 hz1 hz2 rfl (by omega) _ _ rfl HT1.out _ L[k] _ rfl rfl (by simp) hTn.out (by simp; omega) T2 HT2e.out ?_)
          intro v2 w2 ho2 hg2 hat2
          have hnum2 : w2.cell? ⟨wr.heap.size, 0, none⟩ = some (.int .i64 L[k]) := hg2.cell hnum.out (fun e => Nat.lt_irrefl _ (HT.out.lt _ e.symm).2)
          have hl2 : T2.length = T.length + 1 := by rw [HT2e.out]; simp
          obtain ⟨g, cap, e5, hg1, hg3, hcap, hmc⟩ := ho2.form (by omega)
          have hHS2 := HS1.out.kept hg2 HD.out.kept
          have hD2 := dq_new HS1.out HD.out.symm hat2 (by simp)
          subst e5
          unfold maxLen at hmc
          rw [hl2] at hcap ho2 ⊢
          have hcl := ho2.own_int (by omega) T.length (by omega)
          have hfr := ho2.frozen (by omega) T.length
          obtain ⟨ho3, hg3'⟩ := ho2.store1 rfl T.length L[k] (.int .i64 L[k]) rfl (by omega)
          have HS2 := hid (hHS2.kept hg3' hD2.symm.kept)
          have HT2 := hid (show Own intE 3 w.heap.size _ _ (T ++ [L[k]]) by have h := ho3; rw [HT2e.out, put_set rfl] at h; exact h)
          have HB2 := hid (((HBr.out.trans (HX1.out.mono hszr)).grown hg2 (by simp; omega) (fun q hq => (HT.out.lt q hq).1)).setCell (p := ⟨g, T.length, none⟩) hg1 (.int .i64 L[k]))
          have HD2 := hid hD2.symm
          obtain ⟨L2, hL2⟩ : ∃ Z : List Int, Z = (putL L).take k ++ [(T.length : Int)] := ⟨_, rfl⟩
          have HL2 := hid hL2
          clear hL2
          go_wp2_with (at_builtin; refine wpList_pushN intE _ rfl (.tmp 32) (.tmp 34) _ rfl w.heap.size 3 i0 _ 8 Try.underlying24 hi0 hz0 hz1 hz2 rfl (by omega) _ _ rfl HS2.out _ (T.length : Int) _ rfl rfl (by simp) hLn.out HB2.out.size L2 HL2.out ?_)
          intro v5 w5 ho5 hg5 hat5
          have HT5 := hid (HT2.out.kept hg5 HD2.out.symm.kept)
          have HD5 := hid (dq_new HT2.out HD2.out hat5 (by simp))
          have HB5 := hid (HB2.out.grown hg5 HB2.out.size (fun q hq => (HS2.out.lt q hq).1))
          have HS5 := hid (show Own intE 3 w.heap.size w5 v5 ((putL L).take (k + 1)) by rw [HP.out, ← HL2.out]; exact ho5)
          have HT6 := hid (show Own intE 3 w.heap.size w5 _ (topsTo L (k + 1)) by rw [HN2.out]; exact HT5.out)
          clear ho5 hg5 hat5
          go_wp2
          exact ⟨⟨k + 1, by go_num, by omega, HS5.out, HT6.out, HD5.out, HB5.out⟩, by simp [intOf]; omega⟩
      · have e : k = L.length := by omega
        have HF := hid (show Own intE 3 w.heap.size wr _ (putOut L) by have := HS.out; rw [List.take_of_length_le (by rw [putL_len]; omega)] at this; rw [HE.out]; exact this)
        clear e
        go_wp2
        go_ret
        exact ⟨_, rfl, HF.out, HBr.out⟩


set_option maxHeartbeats 6400000 in
set_option maxRecDepth 100000 in
theorem sputStacks_c (v : Value) (L : List Int) (w : World) (h : Row intE w v L) (hv : VT L) : Calls Try.prog 63 #[v] w (PutRes w.heap.size (putL L) w) := by
  obtain ⟨i0, hi0, hz0, hz1, hz2⟩ := info_parts int_info
  have HHw := hid h
  obtain ⟨A1, c1, rfl, hc1, hm1⟩ := h.form
  unfold maxLen at hm1
  have HV := hid hv
  have hL24 := hv.1
  clear h hv
  have HS0 := hid (Own.lit0 intE (w.alloc (.cells #[] 3)) w.heap.size 3 (by simp))
  have HT0 := hid ((Own.lit0 intE w w.heap.size 3 (Nat.le_refl _)).alloc (.cells #[] 3))
  have HB0 := hid (((Below.refl w.heap.size w).alloc (Nat.le_refl _) (.cells #[] 3)).alloc (by simp) (.cells #[] 3))
  go_enter Try.func63, Try.ntmps63
  go_wp2
  go_loopw [3, 4, 5] (fun t s i wr => ∃ k : Nat, i = .int .i64 k ∧ k ≤ L.length ∧ Own intE 3 w.heap.size wr s ((putL L).take k) ∧ Own intE 3 w.heap.size wr t (topsTo L k) ∧ Dq s t ∧ Below w.heap.size w wr) (fun _ _ i _ => L.length - (intOf i).toNat)
  case atStart => exact ⟨0, rfl, by omega, by simpa using HS0.out, by simpa [topsTo] using HT0.out, fun k hk => by simp [Value.ownBlock] at hk ⊢; omega, HB0.out⟩
  case round =>
    obtain ⟨k, rfl, hk, hs, ht, hd, hb⟩ := hrel
    have HS := hid hs
    have HT := hid ht
    have HD := hid hd
    have HBr := hid hb
    have hszr := hb.size
    have HHr := hid (HHw.out.below hb)
    clear hs ht hd hb HS0 HT0 HB0
    by_cases hlt : k < L.length
    · obtain ⟨r, hr0, hrl, hlow, hup, hnext⟩ := tops_next HV.out k hlt
      obtain ⟨T, hT⟩ : ∃ T, T = topsTo L k := ⟨_, rfl⟩
      rw [← hT] at HT hrl hlow hup hnext
      have hTl : T.length ≤ k := by rw [hT]; exact tops_len HV.out k hk
      have HLOW := hid hlow
      have HUP := hid hup
      have HP := hid (take_put hlt hr0)
      have HN := hid hnext
      have hLn : Hid (((putL L).take k).length ≤ 4194304) := by rw [Hid, List.length_take]; omega
      have hTn : Hid (T.length ≤ 4194304) := by rw [Hid]; omega
      clear hT hr0 hlow hup hnext
      obtain ⟨b1, o1, rfl, hb1, hx⟩ := row_cells1 (HHr.out) (by omega)
      have HX := hid (hx k hlt)
      obtain ⟨At, ct, hvt, hct, hmt, hgt⟩ := HT.out.shape
      subst hvt
      unfold maxLen at hmt
      have HGT := hid hgt
      clear hx hgt
      go_wp2
      go_loopw [6] (fun i wi => ∃ q : Nat, i = .int .i64 q ∧ q ≤ r ∧ Dr wr wi) (fun i _ => r - (intOf i).toNat)
      case atStart => exact ⟨0, rfl, by omega, Dr.refl _⟩
      case round =>
        obtain ⟨q, rfl, hq, hd⟩ := hrel
        have HDR := hid hd
        have hxk := (hd.cell _).trans HX.out
        clear hd
        by_cases hqT : q < T.length
        · obtain ⟨g, rfl, hg1, hg2⟩ := HGT.out (by omega)
          have hcl := (HDR.out.cell _).trans (HT.out.own_int rfl q hqT)
          have hqb : decide (q < T.length) = true := decide_eq_true hqT
          by_cases hqr : q < r
          · have hlw := HLOW.out q hqT hqr
            have t2 : decide (T[q] < L[k]) = true := decide_eq_true hlw
            clear hlw
            go_wp2
            go_quiet (fail)
            go_wp2
            exact ⟨⟨q + 1, by go_num, by omega, HDR.out.step _⟩, by simp [intOf]; omega⟩
          · have er : q = r := by omega
            subst er
            have hlw := HUP.out hqT
            have t2 : decide (T[q] < L[k]) = false := decide_eq_false (by omega)
            have t3 : ((q : Int) == (T.length : Int)) = false := by rw [beq_eq_false_iff_ne]; omega
            have HN2 : Hid (topsTo L (k + 1) = T.set q L[k]) := by rw [Hid, HN.out, if_pos hqT]
            clear hlw hqr
            go_wp2
            go_quiet (fail)
            rename_i nq
            have HD9 := hid (HDR.out.step nq)
            have HTd := hid (HT.out.dr HD9.out)
            have HSd := hid (HS.out.dr HD9.out)
            have HBd := hid (HBr.out.trans (HD9.out.below _))
            have hszd := HBd.out.size
            have hcl2 := HTd.out.own_int rfl q hqT
            have hfr2 := HTd.out.frozen rfl q
            have hx2 := (HD9.out.cell _).trans HX.out
            obtain ⟨ho2, hg2'⟩ := HTd.out.store1 rfl q L[k] (.int .i64 L[k]) rfl rfl
            have HS2 := hid (HSd.out.kept hg2' HD.out.kept)
            have HT2 := hid ho2
            have HB2 := hid (HBd.out.setCell (p := ⟨g, q, none⟩) hg1 (.int .i64 L[k]))
            have HD2 := hid HD.out
            clear ho2 hg2' hcl
            obtain ⟨L2, hL2⟩ : ∃ Z : List Int, Z = (putL L).take k ++ [(q : Int)] := ⟨_, rfl⟩
            have HL2 := hid hL2
            clear hL2
            go_wp2_with (at_builtin; refine wpList_pushN intE _ rfl (.tmp 46) (.tmp 48) _ rfl w.heap.size 3 i0 _ 8 Try.underlying24 hi0 hz0 hz1 hz2 rfl (by omega) _ _ rfl HS2.out _ (q : Int) _ rfl rfl (by simp) hLn.out HB2.out.size L2 HL2.out ?_)
            intro v5 w5 ho5 hg5 hat5
            have HT5 := hid (HT2.out.kept hg5 HD2.out.symm.kept)
            have HD5 := hid (dq_new HT2.out HD2.out hat5 (by simp))
            have HB5 := hid (HB2.out.grown hg5 HB2.out.size (fun q hq => (HS2.out.lt q hq).1))
            have HS5 := hid (show Own intE 3 w.heap.size w5 v5 ((putL L).take (k + 1)) by rw [HP.out, ← HL2.out]; exact ho5)
            have HT6 := hid (show Own intE 3 w.heap.size w5 _ (topsTo L (k + 1)) by rw [HN2.out]; exact HT5.out)
            clear ho5 hg5 hat5
            go_wp2
            exact ⟨⟨k + 1, by go_num, by omega, HS5.out, HT6.out, HD5.out, HB5.out⟩, by simp [intOf]; omega⟩
        · have er : r = T.length := by omega
          have eq : q = T.length := by omega
          subst er
          subst eq
          have t1 : decide (T.length < T.length) = false := by simp
          have t3 : ((T.length : Int) == (T.length : Int)) = true := by simp
          have HN2 : Hid (topsTo L (k + 1) = T ++ [L[k]]) := by rw [Hid, HN.out, if_neg hqT]
          clear hqT hq hrl
          go_wp2
          go_quiet (fail)
          rename_i nq
          have HD9 := hid (HDR.out.step nq)
          have HTd := hid (HT.out.dr HD9.out)
          have HSd := hid (HS.out.dr HD9.out)
          have HBd := hid (HBr.out.trans (HD9.out.below _))
          have hszd := HBd.out.size
          obtain ⟨T2, hT2⟩ : ∃ Z : List Int, Z = T ++ [0] := ⟨_, rfl⟩
          have HT2e := hid hT2
          clear hT2
          go_wp2_with (at_builtin; refine wpList_pushN intE _ rfl (.tmp 36) (.tmp 37) _ rfl w.heap.size 3 i0 _ 8 Try.underlying24 hi0 hz0 hz1 hz2 rfl (by omega) _ _ rfl HTd.out _ (0 : Int) _ rfl rfl (by simp) hTn.out HBd.out.size T2 HT2e.out ?_)
          intro v2 w2 ho2 hg2 hat2
          have hl2 : T2.length = T.length + 1 := by rw [HT2e.out]; simp
          obtain ⟨g, cap, e5, hg1, hg3, hcap, hmc⟩ := ho2.form (by omega)
          have hHS2 := HSd.out.kept hg2 HD.out.kept
          have hD2 := dq_new HSd.out HD.out.symm hat2 (by simp)
          have hx2 := hg2.cell ((HD9.out.cell _).trans HX.out) (fun e => by have := (HTd.out.lt _ e.symm).1; simp at this; omega)
          subst e5
          unfold maxLen at hmc
          rw [hl2] at hcap ho2 ⊢
          have hcl := ho2.own_int (by omega) T.length (by omega)
          have hfr := ho2.frozen (by omega) T.length
          obtain ⟨ho3, hg3'⟩ := ho2.store1 rfl T.length L[k] (.int .i64 L[k]) rfl (by omega)
          have HS2 := hid (hHS2.kept hg3' hD2.symm.kept)
          have HT2 := hid (show Own intE 3 w.heap.size _ _ (T ++ [L[k]]) by have h := ho3; rw [HT2e.out, put_set0 rfl] at h; exact h)
          have HB2 := hid ((HBd.out.grown hg2 HBd.out.size (fun q hq => (HTd.out.lt q hq).1)).setCell (p := ⟨g, T.length, none⟩) hg1 (.int .i64 L[k]))
          have HD2 := hid hD2.symm
          obtain ⟨L2, hL2⟩ : ∃ Z : List Int, Z = (putL L).take k ++ [(T.length : Int)] := ⟨_, rfl⟩
          have HL2 := hid hL2
          clear hL2
          go_wp2_with (at_builtin; refine wpList_pushN intE _ rfl (.tmp 46) (.tmp 48) _ rfl w.heap.size 3 i0 _ 8 Try.underlying24 hi0 hz0 hz1 hz2 rfl (by omega) _ _ rfl HS2.out _ (T.length : Int) _ rfl rfl (by simp) hLn.out HB2.out.size L2 HL2.out ?_)
          intro v5 w5 ho5 hg5 hat5
          have HT5 := hid (HT2.out.kept hg5 HD2.out.symm.kept)
          have HD5 := hid (dq_new HT2.out HD2.out hat5 (by simp))
          have HB5 := hid (HB2.out.grown hg5 HB2.out.size (fun q hq => (HS2.out.lt q hq).1))
          have HS5 := hid (show Own intE 3 w.heap.size w5 v5 ((putL L).take (k + 1)) by rw [HP.out, ← HL2.out]; exact ho5)
          have HT6 := hid (show Own intE 3 w.heap.size w5 _ (topsTo L (k + 1)) by rw [HN2.out]; exact HT5.out)
          clear ho5 hg5 hat5
          go_wp2
          exact ⟨⟨k + 1, by go_num, by omega, HS5.out, HT6.out, HD5.out, HB5.out⟩, by simp [intOf]; omega⟩
    · have e : k = L.length := by omega
      have HF := hid (show Own intE 3 w.heap.size wr _ (putL L) by have := HS.out; rw [List.take_of_length_le (by rw [putL_len]; omega)] at this; exact this)
      clear e
      go_wp2
      go_ret
      exact ⟨_, rfl, HF.out, HBr.out⟩

set_option maxHeartbeats 3200000 in
set_option maxRecDepth 100000 in
theorem sPutStacks_c (v : Value) (L : List Int) (w : World) (h : Row intE w v L) : Calls Try.prog 34 #[v] w (PutRes w.heap.size (putOut L) w) := by
  have HH0 := hid h
  clear h
  go_enter Try.func34, Try.ntmps34
  go_wp2_with fail
  refine (validTurn_c _ L _ HH0.out).mono ?_
  rintro e w1 ⟨rfl, hd⟩
  have HD := hid hd
  have HH := hid (HH0.out.drR hd)
  clear hd HH0
  cases hv : vtB L with
  | false =>
    have HE := hid (putOut_f hv)
    clear hv
    go_wp2
    go_ret
    exact ⟨_, rfl, by rw [HE.out]; exact Own.nil_ _ _ _, HD.out.below _⟩
  | true =>
    have HE := hid (putOut_t hv)
    have HV := hid (vtB_iff.1 hv)
    clear hv
    go_wp2_with fail
    refine (sputStacks_c _ L _ HH.out HV.out).mono ?_
    rintro e w2 ⟨r, rfl, ho, hb⟩
    have HO := hid (ho.base_le (Nat.le_of_eq HD.out.size.symm))
    have HB := hid ((HD.out.below w.heap.size).trans (hb.mono (Nat.le_of_eq HD.out.size.symm)))
    clear ho hb
    go_wp2
    go_ret
    exact ⟨_, rfl, by rw [HE.out]; exact HO.out, HB.out⟩


end Go.Proofs.Ytcfhncckeedipaa
