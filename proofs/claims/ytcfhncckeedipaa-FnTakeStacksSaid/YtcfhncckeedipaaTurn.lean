/-
  Contracts: what tells whether a list of numbers is a turn (the program's and the reference's).
-/
import Derived.Test.YtcfhncckeedipaaInts
import Derived.Test.YtcfhncckeedipaaTurnP
import Derived.Test.YtcfhncckeedipaaRange
namespace Go.Proofs.Ytcfhncckeedipaa
set_option linter.unusedSimpArgs false
set_option linter.unusedVariables false
open Go.RowKit

theorem bool_info : (Try.prog.info? 4).map (fun i => (i.zero, i.size, i.bytes)) = some (some (.bool false), 1, 1) := by kernel_rfl

set_option maxHeartbeats 400000 in
theorem placeIn_c (v : Value) (L : List Int) (n : Int) (w : World) (h : Row intE w v L) : Calls Try.prog 74 #[v, .int .i64 n] w fun e w' => e = .returned (.int .i64 (placeL L n)) ∧ w' = w := by
  obtain ⟨A1, c1, rfl, hc1, hm1⟩ := h.form
  unfold maxLen at hm1
  go_enter Try.func74, Try.ntmps74
  go_wp2
  go_loop [5] (fun i => ∃ k : Nat, i = .int .i64 k ∧ k ≤ L.length ∧ n ∉ L.take k) (fun i => L.length - (intOf i).toNat)
  case atStart => exact ⟨0, rfl, by omega, by simp⟩
  case round =>
    obtain ⟨k, rfl, hk, hno⟩ := hrel
    by_cases hlt : k < L.length
    · obtain ⟨b1, o1, rfl, -, hx⟩ := row_cells1 h (by omega)
      have hx' := hx k hlt
      clear hx h
      by_cases he : L[k] = n
      · have hpl := placeL_at hlt hno he
        have HP := hid hpl
        have he' : (L[k] == n) = true := by simp [he]
        clear he hpl
        go_wp2
        go_ret
        exact ⟨ret_int HP.out.symm, rfl⟩
      · have he' : (L[k] == n) = false := by simp [he]
        have hn2 := not_mem_take_succ hlt hno he
        clear he hno
        go_wp2
        go_round
        case rel => exact ⟨k + 1, by go_num, by omega, hn2⟩
        case measure => simp [intOf]; omega
    · go_wp2
      go_ret
      rw [List.take_of_length_le (by omega)] at hno
      exact ⟨ret_int (placeL_of_not hno).symm, rfl⟩

set_option maxHeartbeats 800000 in
theorem validTurn_c (v : Value) (L : List Int) (w : World) (h : Row intE w v L) : Calls Try.prog 62 #[v] w fun e w' => e = .returned (.bool (vtB L)) ∧ Dr w w' := by
  obtain ⟨A1, c1, rfl, hc1, hm1⟩ := h.form
  unfold maxLen at hm1
  go_enter Try.func62, Try.ntmps62
  go_wp2
  go_loopw [3] (fun i wr => ∃ k : Nat, i = .int .i64 k ∧ k ≤ L.length ∧ okTo L L.length k ∧ Dr w wr) (fun i _ => L.length - (intOf i).toNat)
  case atStart => exact ⟨0, rfl, by omega, okTo_zero _ _, Dr.refl _⟩
  case round =>
    obtain ⟨k, rfl, hk, hok, hd⟩ := hrel
    by_cases hlt : k < L.length
    · obtain ⟨b1, o1, rfl, -, hx⟩ := row_cells1 (h.dr hd) (by omega)
      have hx' := hx k hlt
      have ht := (h.drR hd).take k hk
      have H := hid h
      have HD := hid hd
      have HOK := hid hok
      clear hx h hd hok
      by_cases hr : 0 ≤ L[k] ∧ L[k] ≤ (L.length : Int) - 1
      · obtain ⟨hr1, hr2⟩ := hr
        by_cases hm : L[k] ∈ L.take k
        · have hp := placeL_nonneg.2 hm
          have HF : Hid (false = vtB L) := by
            refine Eq.symm ?_
            rw [← Bool.not_eq_true, vtB_iff]
            exact fun hv => hv.2.not_dup k hlt hm
          clear hm
          have hw1 : IntKind.i64.wrap ((L.length : Int) - 1) = (L.length : Int) - 1 := IntWalk.i64_in _ (by omega)
          go_wp2
          go_quiet (first | (go_at_call 89; exact Calls.quiet_of_same (same_quiet (inRange_t _ _ _ _ hr1 hr2))) | (go_at_call 74; exact Calls.quiet_of_same (placeIn_c _ _ _ _ (ht.keep (fun _ _ => rfl)))))
          go_wp2
          go_ret
          exact ⟨ret_bool HF.out, HD.out.step _⟩
        · have hp : ¬ 0 ≤ placeL (L.take k) L[k] := fun h => hm (placeL_nonneg.1 h)
          have HK := hid (okTo_succ hlt HOK.out hr1 (by omega) hm)
          clear hm
          have hw1 : IntKind.i64.wrap ((L.length : Int) - 1) = (L.length : Int) - 1 := IntWalk.i64_in _ (by omega)
          go_wp2
          go_quiet (first | (go_at_call 89; exact Calls.quiet_of_same (same_quiet (inRange_t _ _ _ _ hr1 hr2))) | (go_at_call 74; exact Calls.quiet_of_same (placeIn_c _ _ _ _ (ht.keep (fun _ _ => rfl)))))
          clear hw1
          go_wp2
          refine ⟨⟨k + 1, by go_num, by omega, HK.out, HD.out.step _⟩, by simp [intOf]; omega⟩
      · have hr' : L[k] < 0 ∨ (L.length : Int) - 1 < L[k] := by omega
        have HF : Hid (false = vtB L) := by
          refine Eq.symm ?_
          rw [← Bool.not_eq_true, vtB_iff]
          intro hv
          have := hv.2.range k hlt
          omega
        have hw1 : IntKind.i64.wrap ((L.length : Int) - 1) = (L.length : Int) - 1 := IntWalk.i64_in _ (by omega)
        clear hr
        have HR := hid hr'
        clear hr'
        go_wp2
        go_quiet ((go_at_call 89; exact Calls.quiet_of_same (same_quiet (inRange_f _ _ _ _ HR.out))))
        go_wp2
        go_ret
        exact ⟨ret_bool HF.out, HD.out.step _⟩
    · by_cases h24 : L.length ≤ 24
      · have hv : VT L := ⟨h24, okTo_end rfl (by have e : k = L.length := by omega
                                                 rw [← e]; exact e ▸ hok)⟩
        have HV := hid (vtB_iff.2 hv)
        clear hv
        go_wp2
        go_ret
        refine ⟨ret_bool ?_, hd⟩
        rw [HV.out]; simp; omega
      · have HV : Hid (vtB L = false) := by
          rw [Hid, ← Bool.not_eq_true, vtB_iff]
          exact fun hv => h24 hv.1
        go_wp2
        go_ret
        refine ⟨ret_bool ?_, hd⟩
        rw [HV.out]; simp; omega

theorem Own.own_bool {w : World} {e : TypeId} {base g n cap : Nat} {L : List Bool} (h : Own boolE e base w (.slice (some ⟨g, 0, none⟩) n cap) L) (hn : n = L.length) (k : Nat) (hk : k < L.length) : w.cell? ⟨g, k, none⟩ = some (.bool L[k]) := by
  have := h.cellAt hn k 0 hk (by decide)
  simpa [boolE] using this

set_option maxHeartbeats 800000 in
theorem isOrder_c (v : Value) (L : List Int) (n : Nat) (w : World) (h : Row intE w v L) (hn : n ≤ 4194304) : Calls Try.prog 58 #[v, .int .i64 n] w fun e w' => e = .returned (.bool (ordB L n)) ∧ Below w.heap.size w w' := by
  obtain ⟨A1, c1, rfl, hc1, hm1⟩ := h.form
  unfold maxLen at hm1
  by_cases hl : L.length = n
  · have hlb : ((L.length : Int) != (n : Int)) = false := by simp [hl]
    have HL := hid hl
    clear hl
    obtain ⟨i0, hi0, hz0, hz1, hz2⟩ := info_parts bool_info
    go_enter Try.func58, Try.ntmps58
    go_wp2_with (at_make; refine wpList_mk boolE _ rfl _ _ 82 rfl w.heap.size 4 i0 _ false 1 Try.underlying82 hi0 hz0 hz1 hz2 rfl _ _ _ _ n rfl rfl rfl rfl hn (by omega) (Nat.le_refl _) ?_)
    intro w1 hown hgr hlt1
    have hb1 : Below w.heap.size w w1 := (Below.refl _ _).grown hgr (Nat.le_refl _) (by simp)
    have HO := hid hown
    have HB := hid hb1
    clear hown hgr hb1
    go_wp2
    go_loopw [16] (fun i wr => ∃ k : Nat, i = .int .i64 k ∧ k ≤ L.length ∧ okTo L n k ∧ Below w.heap.size w wr ∧ Own boolE 4 w.heap.size wr (.slice (some ⟨w.heap.size, 0, none⟩) n n) (seenTo L n k)) (fun i _ => L.length - (intOf i).toNat)
    case atStart => exact ⟨0, rfl, by omega, okTo_zero _ _, HB.out, by rw [seenTo_zero]; exact HO.out⟩
    case round =>
      obtain ⟨k, rfl, hk, hok, hb, ho⟩ := hrel
      by_cases hlt : k < L.length
      · obtain ⟨b1, o1, rfl, hlt1, hx⟩ := row_cells1 (h.below hb) (by omega)
        have hx' := hx k hlt
        have HH := hid h
        have HB := hid hb
        have HOK := hid hok
        clear hx h hb hok HO
        by_cases hr : 0 ≤ L[k] ∧ L[k] < n
        · obtain ⟨hr1, hr2⟩ := hr
          obtain ⟨m, hm⟩ : ∃ m : Nat, L[k] = m := ⟨L[k].toNat, by omega⟩
          have hmn : m < n := by omega
          have hsl := seenTo_len L n k
          have hcl := ho.own_bool (by omega) m (by omega)
          rw [seenTo_at, ← hm] at hcl
          have hfr := ho.frozen (by omega) m
          have hsz := HB.out.size
          rw [hm] at hx'
          by_cases hd : L[k] ∈ L.take k
          · have HF : Hid (false = ordB L n) := by
              refine Eq.symm ?_
              rw [← Bool.not_eq_true, ordB_iff]
              exact fun hv => hv.not_dup k hlt hd
            have hdd : decide (L[k] ∈ L.take k) = true := by simpa using hd
            rw [hdd] at hcl
            clear hd hm hr1 hr2 ho hsl hdd
            go_wp2
            go_ret
            exact ⟨ret_bool HF.out, HB.out⟩
          · have HK := hid (okTo_succ hlt HOK.out hr1 hr2 hd)
            have hdd : decide (L[k] ∈ L.take k) = false := by simpa using hd
            rw [hdd] at hcl
            obtain ⟨ho2, hg2⟩ := ho.store1 rfl m true (.bool true) rfl (by omega)
            rw [seenTo_set hlt hm] at ho2
            have HO2 := hid ho2
            clear hd hm hr1 hr2 ho hsl hdd ho2 hg2
            go_wp2
            refine ⟨⟨k + 1, by go_num, by omega, HK.out, HB.out.setCell (by simp) _, HO2.out⟩, by simp [intOf]; omega⟩
        · have HF : Hid (false = ordB L n) := by
            refine Eq.symm ?_
            rw [← Bool.not_eq_true, ordB_iff]
            intro hv
            have := hv.range k hlt
            omega
          by_cases h0 : L[k] < 0
          · clear hr
            go_wp2
            go_ret
            exact ⟨ret_bool HF.out, HB.out⟩
          · have h1 : (n : Int) ≤ L[k] := by omega
            have h2 : 0 ≤ L[k] := by omega
            clear hr h0
            go_wp2
            go_ret
            exact ⟨ret_bool HF.out, HB.out⟩
      · have e : k = n := by have := HL.out; omega
        have HV := hid (ordB_iff.2 (okTo_end HL.out (e ▸ hok)))
        clear e hok
        go_wp2
        go_ret
        exact ⟨ret_bool HV.out.symm, hb⟩
  · have hlb : ((L.length : Int) != (n : Int)) = true := by simp; omega
    have HF : Hid (false = ordB L n) := by
      refine Eq.symm ?_
      rw [← Bool.not_eq_true, ordB_iff]
      exact fun h => hl h.1
    clear hl
    go_enter Try.func58, Try.ntmps58
    go_wp2
    go_ret
    exact ⟨ret_bool HF.out, Below.refl _ _⟩

set_option maxHeartbeats 400000 in
theorem ValidTurn_c (v : Value) (L : List Int) (w : World) (h : Row intE w v L) : Calls Try.prog 30 #[v] w fun e w' => e = .returned (.bool (vtB L)) ∧ Below w.heap.size w w' := by
  obtain ⟨A1, c1, rfl, hc1, hm1⟩ := h.form
  unfold maxLen at hm1
  by_cases h24 : L.length ≤ 24
  · have e : ordB L L.length = vtB L := by
      rw [Bool.eq_iff_iff, ordB_iff, vtB_iff]
      exact ⟨fun h => ⟨h24, h⟩, fun h => h.2⟩
    have HE := hid e
    clear e
    go_enter Try.func30, Try.ntmps30
    go_wp2_with (go_at_call 58; refine (isOrder_c _ L L.length _ h (by omega)).mono ?_; rintro e w' ⟨rfl, hb⟩)
    go_ret
    exact ⟨ret_bool HE.out, hb⟩
  · have HF : Hid (vtB L = false) := by
      rw [Hid, ← Bool.not_eq_true, vtB_iff]
      exact fun h => h24 h.1
    have h25 : 24 < L.length := by omega
    clear h24
    go_enter Try.func30, Try.ntmps30
    go_wp2
    go_ret
    exact ⟨ret_bool HF.out.symm, Below.refl _ _⟩

end Go.Proofs.Ytcfhncckeedipaa
