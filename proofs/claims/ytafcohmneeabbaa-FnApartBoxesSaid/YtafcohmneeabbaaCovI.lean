/-
  Contract: CoverArea of the program.
-/
import Derived.Test.YtafcohmneeabbaaCov
import Derived.Test.YtafcohmneeabbaaCat
import Derived.Test.YtafcohmneeabbaaCovQ
namespace Go.Proofs.Ytafcohmneeabbaa
set_option linter.unusedSimpArgs false
set_option linter.unusedVariables false
open Go.RowKit

theorem Own.own_bool {w : World} {e : TypeId} {base g n cap : Nat} {L : List Bool} (h : Own boolE e base w (.slice (some ⟨g, 0, none⟩) n cap) L) (hn : n = L.length) (k : Nat) (hk : k < L.length) : w.cell? ⟨g, k, none⟩ = some (.bool L[k]) := by
  have := h.cellAt hn k 0 hk (by decide)
  simpa [boolE] using this

theorem arr_info : (Try.prog.info? 56).map (fun i => i.zero) = some (some (.agg (Array.replicate 200 (.bool false)))) := by kernel_rfl

theorem arr_zero : ∃ Z : Array Value, Z.toList = boolE.flat (rowF fun _ => false) ∧ ∀ w : World, (zeroValue 56).run Try.prog w = .ok (.agg Z) w := by
  obtain ⟨i, hi, hz⟩ : ∃ i, Try.prog.info? 56 = some i ∧ i.zero = some (.agg (Array.replicate 200 (.bool false))) := by
    have h := arr_info
    cases h2 : Try.prog.info? 56 with
    | none => rw [h2] at h; cases h
    | some i => rw [h2] at h; simp only [Option.map_some, Option.some.injEq] at h; exact ⟨i, rfl, h⟩
  obtain ⟨Z, hZ⟩ : ∃ Z, Z = Array.replicate 200 (Value.bool false) := ⟨_, rfl⟩
  rw [← hZ] at hz
  refine ⟨Z, ?_, fun w => ?_⟩
  · rw [hZ, rowF_false]
    have : ∀ n, boolE.flat (List.replicate n false) = List.replicate n (Value.bool false) := by
      intro n
      induction n with
      | zero => rfl
      | succ n ih => rw [List.replicate_succ, Enc.flat_cons, ih]; rfl
    rw [this, Array.toList_replicate]
  · simp [zeroValue, typeInfo, hi, hz]

set_option maxHeartbeats 800000 in
set_option maxRecDepth 100000 in
theorem CoverArea_y (v : Value) (L : List Bx) (w : World) (h : Row boxE w v L) (hV : VBs L) : Calls Try.prog 12 #[v] w fun e w' => e = .returned (.int .i64 (covN L)) ∧ Below w.heap.size w w' := by
  obtain ⟨A1, c1, rfl, hc1, hm1⟩ := h.form
  unfold maxLen at hm1
  obtain ⟨Z, hZL, hZ⟩ := arr_zero
  have HZL := hid hZL
  clear hZL
  have HV := hid (vbsB_iff.2 hV)
  have hl24 : L.length ≤ 24 := hV.1
  have HVV := hid hV.2
  clear hV
  go_enter Try.func12, Try.ntmps12
  go_wp2_with fail
  refine (validBoxes_c _ L _ h).mono ?_
  rintro e w1 ⟨rfl, hb1⟩
  rw [HV.out]
  have HR := hid (h.go hb1)
  have HB1 := hid hb1
  clear hb1 h
  go_wp2
  go_loopw [3, 12] (fun n i wr => ∃ y : Nat, i = .int .i64 y ∧ y ≤ 200 ∧ n = .int .i64 (rowsTo L y) ∧ Below w1.heap.size w1 wr) (fun _ i _ => 200 - (intOf i).toNat)
  case atStart => exact ⟨0, rfl, by omega, rfl, Below.refl _ _⟩
  case round =>
    obtain ⟨y, rfl, hy, rfl, hb⟩ := hrel
    by_cases hlt : y < 200
    · obtain ⟨wo, rfl⟩ : ∃ wo : World, wo = wr := ⟨_, rfl⟩
      have HB := hid hb
      have hyd : decide ((y : Int) < 200) = true := by simp; omega
      clear hb
      go_wp2
      have HO0 : Hid (Own boolE 56 wo.heap.size (wo.alloc (.cells Z 56)) (.slice (some ⟨wo.heap.size, 0, none⟩) 200 200) (rowF (rowA L y 0))) := by
        rw [Hid, rowF_congr (g := fun _ => false) (fun z _ => rowA_zero L y z)]
        exact Own.lit boolE wo wo.heap.size 56 Z _ 200 (rowF_len _).symm HZL.out (Nat.le_refl _) (by simp [maxLen])
      have HC0 : Hid (cnt (rowA L y 0) = 0) := by
        rw [Hid, cnt_congr (g := fun _ => false) (fun z _ => rowA_zero L y z)]
        exact sumN_zero 200
      have rb := rowsTo_bd L y
      obtain ⟨rb1, rb2⟩ := rb
      go_loopw [3, 17] (fun n i wm => ∃ j : Nat, i = .int .i64 j ∧ j ≤ L.length ∧ n = .int .i64 (rowsTo L y + cnt (rowA L y j)) ∧ Below wo.heap.size wo wm ∧ Own boolE 56 wo.heap.size wm (.slice (some ⟨wo.heap.size, 0, none⟩) 200 200) (rowF (rowA L y j))) (fun _ i _ => L.length - (intOf i).toNat)
      case atStart => exact ⟨0, rfl, by omega, by rw [HC0.out]; simp, (Below.refl _ _).alloc (Nat.le_refl _) _, HO0.out⟩
      case round =>
        obtain ⟨j, rfl, hj, rfl, hb, ho⟩ := hrel
        clear HO0 HC0
        by_cases hjl : j < L.length
        · obtain ⟨wm, rfl⟩ : ∃ wm : World, wm = wr := ⟨_, rfl⟩
          obtain ⟨b1, o1, rfl, hb1, hx⟩ := row_boxs ((HR.out.go HB.out).below hb) (by omega)
          obtain ⟨hx0, hx1, hx2, hx3⟩ := hx j hjl
          have hv := HVV.out _ (List.getElem_mem hjl)
          unfold VB at hv
          obtain ⟨v1, v2, v3, v4, v5, v6, v7, v8⟩ := hv
          have HBM := hid hb
          have HO := hid ho
          have hsz := hb.size
          clear hx hb ho
          by_cases hin : L[j].y ≤ (y : Int) ∧ (y : Int) < L[j].y + L[j].h
          · have HIN := hid hin
            obtain ⟨hin1, hin2⟩ := hin
            go_wp2
            obtain ⟨W1, hW1⟩ : ∃ W1, wm.alloc (.cells #[.int .i64 L[j].x, .int .i64 L[j].y, .int .i64 L[j].w, .int .i64 L[j].h] 53) = W1 := ⟨_, rfl⟩
            have k0 : W1.cell? ⟨wm.heap.size, 0, none⟩ = some (.int .i64 L[j].x) := by rw [← hW1, World.cell?_alloc_at _ _ _ _ rfl]; rfl
            have k2 : W1.cell? ⟨wm.heap.size, 2, none⟩ = some (.int .i64 L[j].w) := by rw [← hW1, World.cell?_alloc_at _ _ _ _ rfl]; rfl
            have HK0 := hid k0
            have HK2 := hid k2
            have HO1 : Hid (Own boolE 56 wo.heap.size W1 (.slice (some ⟨wo.heap.size, 0, none⟩) 200 200) (rowF (rowG L y j L[j].x L[j].x))) := by
              rw [Hid, ← hW1, rowF_congr (g := rowA L y j) (fun z _ => rowG_start L y j L[j].x z)]
              exact HO.out.alloc _
            have HB1 : Hid (Below wo.heap.size wo W1) := by rw [Hid, ← hW1]; exact HBM.out.alloc hsz _
            have HC1 : Hid (cnt (rowA L y j) = cnt (rowG L y j L[j].x L[j].x)) := (cnt_congr fun z _ => rowG_start L y j L[j].x z).symm
            have hne : wm.heap.size ≠ wo.heap.size := by have := (HO.out.lt wo.heap.size rfl).2; omega
            rw [hW1]
            clear hW1 k0 k2
            go_loopw [3, 8] (fun n x wi => ∃ q : Int, x = .int .i64 q ∧ L[j].x ≤ q ∧ q ≤ L[j].x + L[j].w ∧ n = .int .i64 (rowsTo L y + cnt (rowG L y j L[j].x q)) ∧ Own boolE 56 wo.heap.size wi (.slice (some ⟨wo.heap.size, 0, none⟩) 200 200) (rowF (rowG L y j L[j].x q)) ∧ W1.grownBy wi (some wo.heap.size)) (fun _ x _ => (L[j].x + L[j].w - intOf x).toNat)
            case atStart => exact ⟨_, rfl, by omega, by omega, by rw [HC1.out], HO1.out, World.grownBy.refl _ _⟩
            case round =>
              obtain ⟨q, rfl, hq1, hq2, rfl, ho, hg⟩ := hrel
              have c0 := hg.cell HK0.out (by simpa using hne)
              have c2 := hg.cell HK2.out (by simpa using hne)
              by_cases hql : q < L[j].x + L[j].w
              · obtain ⟨x, rfl⟩ : ∃ x : Nat, q = x := ⟨q.toNat, by omega⟩
                have hx200 : x < 200 := by omega
                have hcell := ho.own_bool (rowF_len _).symm x (by rw [rowF_len]; exact hx200)
                rw [rowF_at] at hcell
                have hfr := ho.frozen (rowF_len _).symm x
                have bd := cnt_bd (rowG L y j L[j].x x)
                obtain ⟨bd1, bd2⟩ := bd
                obtain ⟨ho2, hg2⟩ := ho.store1 rfl x true (.bool true) rfl (rowF_len _).symm
                have HG := hid hg
                have HO2 := hid ho2
                have HOO := hid ho
                have HG2 := hid (grown_trans hg hg2)
                clear ho hg ho2 hg2
                by_cases hm : rowG L y j L[j].x x x = true
                · have HS := hid (rowG_same L y j L[j].x x hq1 hm)
                  have HC : Hid (cnt (rowG L y j L[j].x (x + 1)) = cnt (rowG L y j L[j].x x)) := cnt_congr fun z _ => HS.out z
                  have HF : Hid (rowF (rowG L y j L[j].x (x + 1)) = rowF (rowG L y j L[j].x x)) := rowF_congr fun z _ => HS.out z
                  rw [hm] at hcell
                  clear hm
                  go_wp2
                  exact ⟨⟨(x : Int) + 1, rfl, by omega, by omega, by rw [HC.out], by rw [HF.out]; exact HOO.out, HG.out⟩, by simp [intOf]; omega⟩
                · have hm : rowG L y j L[j].x x x = false := by simpa using hm
                  have HC := hid (cnt_set _ _ x hx200 hm fun z _ => rowG_succ L y j L[j].x x hq1 z)
                  have HF := hid (rowF_set _ _ x fun z _ => rowG_succ L y j L[j].x x hq1 z)
                  rw [hm] at hcell
                  clear hm
                  go_wp2
                  exact ⟨⟨(x : Int) + 1, rfl, by omega, by omega, by rw [HC.out, Int.add_assoc], by rw [← HF.out]; exact HO2.out, HG2.out⟩, by simp [intOf]; omega⟩
              · have e : q = L[j].x + L[j].w := by omega
                subst e
                have HC : Hid (cnt (rowA L y (j + 1)) = cnt (rowG L y j L[j].x (L[j].x + L[j].w))) := cnt_congr fun z _ => rowA_in hjl HIN.out z
                have HF : Hid (rowF (rowA L y (j + 1)) = rowF (rowG L y j L[j].x (L[j].x + L[j].w))) := rowF_congr fun z _ => rowA_in hjl HIN.out z
                have HOO := hid ho
                have HBB := hid (HB1.out.grown hg HB1.out.size (fun k hk => by simp at hk; omega))
                clear ho hg
                go_wp2
                exact ⟨⟨j + 1, by go_num, by omega, by rw [HC.out], HBB.out, by rw [HF.out]; exact HOO.out⟩, by simp [intOf]; omega⟩
          · have HSK := hid (rowA_skip hjl hin)
            have HE : Hid (cnt (rowA L y (j + 1)) = cnt (rowA L y j)) := cnt_congr fun z _ => HSK.out z
            have HE2 : Hid (rowF (rowA L y (j + 1)) = rowF (rowA L y j)) := rowF_congr fun z _ => HSK.out z
            by_cases h1 : (y : Int) < L[j].y
            · clear hin
              go_wp2
              first
                | exact ⟨⟨j + 1, by go_num, by omega, by rw [HE.out], HBM.out.alloc hsz _, by rw [HE2.out]; exact HO.out.alloc _⟩, by simp [intOf]; omega⟩
                | (refine ⟨?_, ?_⟩
                   · (repeat apply Exists.intro)
                     exact ⟨⟨j + 1, by go_num, by omega, by rw [HE.out], HBM.out.alloc hsz _, by rw [HE2.out]; exact HO.out.alloc _⟩, rfl⟩
                   · simp [intOf]; omega)
            · have h2 : L[j].y + L[j].h ≤ (y : Int) := by omega
              have h3 : L[j].y ≤ (y : Int) := by omega
              clear hin h1
              go_wp2
              first
                | exact ⟨⟨j + 1, by go_num, by omega, by rw [HE.out], HBM.out.alloc hsz _, by rw [HE2.out]; exact HO.out.alloc _⟩, by simp [intOf]; omega⟩
                | (refine ⟨?_, ?_⟩
                   · (repeat apply Exists.intro)
                     exact ⟨⟨j + 1, by go_num, by omega, by rw [HE.out], HBM.out.alloc hsz _, by rw [HE2.out]; exact HO.out.alloc _⟩, rfl⟩
                   · simp [intOf]; omega)
        · have e : j = L.length := by omega
          have HE : Hid (rowsTo L (y + 1) = rowsTo L y + cnt (rowA L y j)) := by
            rw [Hid, rowsTo_succ, e, cnt_congr (f := rowA L y L.length) fun z _ => rowA_all L y z]
          have HB2 := hid (HB.out.trans (hb.mono HB.out.size))
          clear e hb ho
          go_wp2
          exact ⟨⟨y + 1, by go_num, by omega, by rw [HE.out], HB2.out⟩, by simp [intOf]; omega⟩
    · have e : y = 200 := by omega
      subst e
      have HBW := hid (HB1.out.trans (hb.mono HB1.out.size))
      clear hb
      go_wp2
      go_ret
      exact ⟨ret_int (rowsTo_all L), HBW.out⟩

set_option maxHeartbeats 800000 in
theorem CoverArea_c (v : Value) (L : List Bx) (w : World) (h : Row boxE w v L) : Calls Try.prog 12 #[v] w fun e w' => e = .returned (.int .i64 (covOut L)) ∧ Below w.heap.size w w' := by
  by_cases hv : VBs L
  · have e : covOut L = covN L := by rw [covOut, if_pos (vbsB_iff.2 hv)]
    rw [e]
    exact CoverArea_y v L w h hv
  · have HV := hid (vbsB_not.2 hv)
    have HO : Hid (covOut L = -1) := by rw [Hid, covOut, if_neg (by rw [HV.out]; simp)]
    clear hv
    go_enter Try.func12, Try.ntmps12
    go_wp2_with fail
    refine (validBoxes_c v L _ h).mono ?_
    rintro e w1 ⟨rfl, hb1⟩
    rw [HV.out]
    have HB := hid hb1
    clear hb1
    go_wp2
    go_ret
    exact ⟨ret_int HO.out.symm, HB.out⟩

end Go.Proofs.Ytafcohmneeabbaa
