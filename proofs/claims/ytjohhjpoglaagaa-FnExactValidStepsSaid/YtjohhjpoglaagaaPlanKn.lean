/-
  Contracts: the numbers of the cuts of a plan, and of the cuts above them, by the reference (written by a program of mine).
-/
import Derived.Test.YtjohhjpoglaagaaPlanLst
import Derived.Test.YtjohhjpoglaagaaCat
namespace Go.Proofs.Ytjohhjpoglaagaa
set_option linter.unusedSimpArgs false
set_option linter.unusedVariables false
open Go.RowKit

/-- A cut: its number, and that of the cut above it. -/
structure Kn where
  n : Int
  a : Int
def kn : Tr → Int → Int → List Kn
  | .leaf _ _ _, _, _ => []
  | .cut _ _ l r, i, up => ⟨i, up⟩ :: (kn l (i + 1) i ++ kn r (i + 1 + nodes l) i)
def nums (t : Tr) (i : Int) : List Int := (kn t i (-1)).map (·.n)
def abvs (t : Tr) (i up : Int) : List Int := (kn t i up).map (·.a)
theorem kn_len : ∀ (t : Tr) (i up : Int), (kn t i up).length = cuts t
  | .leaf _ _ _, _, _ => rfl
  | .cut _ _ l r, i, up => by rw [kn, cuts, List.length_cons, List.length_append, kn_len l, kn_len r]; omega
theorem kn_nums : ∀ (t : Tr) (i up up' : Int), (kn t i up).map (·.n) = (kn t i up').map (·.n)
  | .leaf _ _ _, _, _, _ => rfl
  | .cut _ _ l r, i, up, up' => by simp only [kn, List.map_cons, List.map_append]
theorem nums_leaf (o p : Int) (t : Bool) (i : Int) : nums (.leaf o p t) i = [] := rfl
theorem nums_cut (o a : Int) (l r : Tr) (i : Int) : nums (.cut o a l r) i = ([i] ++ nums l (i + 1)) ++ nums r (i + 1 + nodes l) := by
  unfold nums
  rw [kn, List.map_cons, List.map_append, kn_nums l _ i (-1), kn_nums r _ i (-1)]
  simp
theorem abvs_leaf (o p : Int) (t : Bool) (i up : Int) : abvs (.leaf o p t) i up = [] := rfl
theorem abvs_cut (o a : Int) (l r : Tr) (i up : Int) : abvs (.cut o a l r) i up = ([up] ++ abvs l (i + 1) i) ++ abvs r (i + 1 + nodes l) i := by
  unfold abvs
  rw [kn, List.map_cons, List.map_append]
  simp
theorem nums_len (t : Tr) (i : Int) : (nums t i).length = cuts t := by rw [nums, List.length_map, kn_len]
theorem abvs_len (t : Tr) (i up : Int) : (abvs t i up).length = cuts t := by rw [abvs, List.length_map, kn_len]

theorem splanSize_tr {t : Tr} {s : Sh} {w : World} (h : TR w.heap.size w t s) (hn : nodes t ≤ 255) : Calls Try.prog 48 #[.agg #[.int .i64 s.o, .int .i64 s.a, .int .i64 s.p, .bool s.t, .slice s.ka s.kn s.kc]] w fun e w' => e = .returned (.int .i64 (nodes t : Nat)) ∧ Below w.heap.size w w' := by
  obtain ⟨n, hp⟩ := h.pr
  have := splanSize_c hp
  rwa [h.psz hn] at this
theorem PlanSize_tr {t : Tr} {s : Sh} {w : World} (h : TR w.heap.size w t s) (hn : nodes t ≤ 255) : Calls Try.prog 23 #[.agg #[.int .i64 s.o, .int .i64 s.a, .int .i64 s.p, .bool s.t, .slice s.ka s.kn s.kc]] w fun e w' => e = .returned (.int .i64 (nodes t : Nat)) ∧ Below w.heap.size w w' := by
  obtain ⟨n, hp⟩ := h.pr
  have := PlanSize_c hp
  rwa [h.psz hn] at this

abbrev InS (t : Tr) : Prop := ∀ (s : Sh) (i : Int) (w : World), TR w.heap.size w t s → 0 ≤ i → i + nodes t ≤ 1000 →
  Calls Try.prog 62 #[.agg #[.int .i64 s.o, .int .i64 s.a, .int .i64 s.p, .bool s.t, .slice s.ka s.kn s.kc], .int .i64 i] w fun e w' => ∃ v, e = .returned v ∧ Own intE 3 w.heap.size w' v (nums t i) ∧ Below w.heap.size w w'

set_option maxHeartbeats 1600000 in
theorem sinner_leaf (o p : Int) (t : Bool) : InS (.leaf o p t) := by
  intro s i w h hi0 hi1
  have HB0 := hid (below_pl (o := s.o) (a := s.a) (p := s.p) (t := s.t) (ka := s.ka) (kn := s.kn) (kc := s.kc) (ty := 29) w)
  have HC := hid h.cutF
  clear h
  go_enter Try.func62, Try.ntmps62
  go_wp2_with fail
  refine (sisCut_f s HC.out _).mono ?_
  rintro e w1 ⟨rfl, hb⟩
  have HB1 := hid (HB0.out.trans (hb.mono HB0.out.size))
  clear hb
  go_wp2
  go_ret
  exact ⟨_, rfl, (Own.lit0 intE w1 w.heap.size 3 HB1.out.size), HB1.out.alloc HB1.out.size _⟩

set_option maxHeartbeats 6400000 in
theorem sinner_cut (o a : Int) (l r : Tr) (ihl : InS l) (ihr : InS r) (hn : nodes (.cut o a l r) ≤ 255) : InS (.cut o a l r) := by
  intro s i w h hi0 hi1
  have HC := hid h.cutT
  obtain ⟨h1, h2, h3, h4, -, sl, sr, hr, hl, hrr⟩ := h
  obtain ⟨so, sa, sp, st, ka, kn, kc⟩ := s
  simp only at h1 h2 h3 h4
  subst h1; subst h2; subst h3; subst h4
  obtain ⟨rfl, hkc, b1, o1, rfl, hb1, x0, x1, x2, x3, x4, y0, y1, y2, y3, y4⟩ := row_two hr
  have HB0 := hid (below_pl (o := so) (a := sa) (p := 0) (t := false) (ka := some ⟨b1, o1, none⟩) (kn := 2) (kc := kc) (ty := 29) w)
  have HL := hid (fun w1 (hb : Below w.heap.size w w1) => hl.go hb)
  have HR := hid (fun w1 (hb : Below w.heap.size w w1) => hrr.go hb)
  have HIL := hid ihl
  have HIR := hid ihr
  have hcs := hn
  simp only [nodes] at hcs hi1
  have np1 := nodes_pos l
  have np2 := nodes_pos r
  have HV : Hid (nums (.cut so sa l r) i = ([i] ++ (nums l (i + 1))) ++ (nums r (i + 1 + nodes l))) := nums_cut so sa l r i
  have hl1 : (nums l (i + 1)).length = cuts l := nums_len _ _
  have hl2 : (nums r (i + 1 + nodes l)).length = cuts r := nums_len _ _
  have hc1 := nodes_cuts l
  have hc2' := nodes_cuts r
  have hroom1 : [i].length + (nums l (i + 1)).length ≤ 4194304 := by rw [hl1]; simp; omega
  have hroom2 : ([i] ++ (nums l (i + 1))).length + (nums r (i + 1 + nodes l)).length ≤ 4194304 := by rw [List.length_append, hl1, hl2]; simp; omega
  have HR1 := hid hroom1
  have HR2 := hid hroom2
  obtain ⟨L1, hL1⟩ : ∃ L, L = [i] ++ (nums l (i + 1)) := ⟨_, rfl⟩
  obtain ⟨L2, hL2⟩ : ∃ L, L = ([i] ++ (nums l (i + 1))) ++ (nums r (i + 1 + nodes l)) := ⟨_, rfl⟩
  have HL1 := hid hL1
  have HL2 := hid hL2
  obtain ⟨i0, hj, hj0, hj1, hj2⟩ := info_parts int_info
  have hw1 : IntKind.i64.wrap (i + 1) = i + 1 := IntWalk.i64_in _ (by omega)
  have hw2 : IntKind.i64.wrap (i + 1 + nodes l) = i + 1 + nodes l := IntWalk.i64_in _ (by omega)
  clear hl hrr hr ihl ihr hl1 hl2 hc1 hc2' hroom1 hroom2 hL1 hL2
  go_enter Try.func62, Try.ntmps62
  go_wp2_with fail
  refine (sisCut_t ⟨so, sa, 0, false, some ⟨b1, o1, none⟩, 2, kc⟩ HC.out _).mono ?_
  rintro e w1 ⟨rfl, hb⟩
  have HB1 := hid (HB0.out.trans (hb.mono HB0.out.size))
  obtain ⟨hcc, hf, hsz⟩ := bcell hb
  have hz : w.heap.size < w1.heap.size := by simp at hsz; omega
  have hz1 : b1 < w1.heap.size := by omega
  have hz2 : b1 < w.heap.size + 1 := by omega
  clear hb hf
  go_wp2_with fail
  have HO1 := hid (Own.lit intE w1 (w.heap.size + 1) 3 #[.int .i64 i] [i] 1 rfl rfl hz (by simp [maxLen]))
  have HB1' := hid (HB1.out.alloc HB1.out.size (.cells #[.int .i64 i] 3))
  refine (HIL.out sl (i + 1) _ (HL.out _ HB1'.out) (by omega) (by omega)).mono ?_
  rintro e w2 ⟨vl, rfl, ho, hb⟩
  have HB2 := hid (HB1'.out.trans (hb.mono HB1'.out.size))
  have HO2 := hid (HO1.out.below hb)
  have HOL := hid ho
  have HNE : Hid (Below (w.heap.size + 1) w1 w2) := ((Below.refl _ _).alloc hz _).trans (hb.mono (by simp; omega))
  clear hb ho
  go_wp2_with (at_builtin; refine wpList_cat intE _ rfl (.tmp 11) (.tmp 18) _ rfl (w.heap.size + 1) 3 i0 _ 8 Try.underlying38 hj hj0 hj1 hj2 rfl (by omega) _ _ rfl HO2.out _ _ _ rfl HOL.out.rowB HR1.out (by have := HNE.out.size; omega) L1 HL1.out ?_)
  intro v3 w3 ho3 hg3 hat3
  have HO3 := hid ho3
  have HB3 := hid (HB2.out.grown hg3 HB2.out.size (fun q hq => by have := (HO2.out.lt q hq).1; omega))
  have HK3 := hid (HNE.out.grown hg3 (by have := HNE.out.size; omega) (fun q hq => by simp [Value.ownBlock] at hq; omega) : Below (w.heap.size + 1) w1 w3)
  have hc3 : ∀ b o, b < w.heap.size + 1 → w3.cell? ⟨b, o, none⟩ = w1.cell? ⟨b, o, none⟩ := fun b o h => HK3.out.cell (p := ⟨b, o, none⟩) h
  have hs3 : w.heap.size + 1 ≤ w3.heap.size := by have := HK3.out.size; omega
  clear ho3 hg3 hat3
  go_wp2
  have ZK := hid ((Below.refl _ _).drew : Below (w.heap.size + 1) w3 w3.drew)
  have ZB := hid (HB3.out.drew)
  have ZS := hid (show w.heap.size + 1 ≤ w3.drew.heap.size from hs3)
  have ZO := hid (HO3.out.dr (Dr.refl _).one)
  go_region_held3 (fun w' => ∀ b o, b < w.heap.size + 1 → w'.cell? ⟨b, o, none⟩ = w3.cell? ⟨b, o, none⟩) (exact fun b o h => ZK.out.cell (p := ⟨b, o, none⟩) h)
    (first | (go_at_call 48; ((with_reducible refine (splanSize_tr (t := l) (s := sl) (HL.out _ ZB.out) (by omega)).mono ?_); rintro e wq ⟨rfl, hb⟩; replace ZK := hid (ZK.out.trans (hb.mono ZS.out)); replace ZB := hid (ZB.out.trans (hb.mono ZB.out.size)); replace ZO := hid (ZO.out.below hb); replace ZS := hid (Nat.le_trans ZS.out hb.size); clear hb)) | (go_at_call 62; ((with_reducible refine (HIR.out sr (i + 1 + nodes l) _ (HR.out _ ZB.out) (by omega) (by omega)).mono ?_); rintro e wr ⟨vr, rfl, ho, hb⟩; replace ZK := hid (ZK.out.trans (hb.mono ZS.out)); replace ZB := hid (ZB.out.trans (hb.mono ZB.out.size)); replace ZO := hid (ZO.out.below hb); replace ZS := hid (Nat.le_trans ZS.out hb.size); have ZR := hid ho; clear hb ho)) | (refine step_cat intE _ rfl (.tmp 20) (.tmp 33) _ rfl (w.heap.size + 1) 3 i0 _ 8 Try.underlying38 hj hj0 hj1 hj2 rfl (by omega) _ _ rfl ZO.out _ _ _ rfl ZR.out.rowB (by rw [HL1.out]; exact HR2.out) ZS.out L2 (by rw [HL1.out]; exact HL2.out) ?_; intro v4 w4 ho4 hg4 hat4; have ZO4 := hid ho4; have ZB4 := hid (ZB.out.grown hg4 ZB.out.size (fun q hq => by have := (ZO.out.lt q hq).1; omega)); replace ZK := hid (ZK.out.grown hg4 ZS.out (fun q hq => (ZO.out.lt q hq).1)); clear ho4 hg4 hat4))
  all_goals
    go_wp2
    go_ret
    exact ⟨_, rfl, by rw [HV.out, ← HL2.out]; exact ZO4.out.base_le (by omega), ZB4.out⟩

theorem sinner_c : ∀ (t : Tr), nodes t ≤ 255 → InS t
  | .leaf o p t, _ => sinner_leaf o p t
  | .cut o a l r, h => sinner_cut o a l r (sinner_c l (by simp only [nodes] at h; omega)) (sinner_c r (by simp only [nodes] at h; omega)) h

abbrev AbS (t : Tr) : Prop := ∀ (s : Sh) (i up : Int) (w : World), TR w.heap.size w t s → 0 ≤ i → i + nodes t ≤ 1000 → -1 ≤ up → up ≤ 1000 →
  Calls Try.prog 63 #[.agg #[.int .i64 s.o, .int .i64 s.a, .int .i64 s.p, .bool s.t, .slice s.ka s.kn s.kc], .int .i64 i, .int .i64 up] w fun e w' => ∃ v, e = .returned v ∧ Own intE 3 w.heap.size w' v (abvs t i up) ∧ Below w.heap.size w w'

set_option maxHeartbeats 1600000 in
theorem saboves_leaf (o p : Int) (t : Bool) : AbS (.leaf o p t) := by
  intro s i up w h hi0 hi1 hu0 hu1
  have HB0 := hid (below_pl (o := s.o) (a := s.a) (p := s.p) (t := s.t) (ka := s.ka) (kn := s.kn) (kc := s.kc) (ty := 29) w)
  have HC := hid h.cutF
  clear h
  go_enter Try.func63, Try.ntmps63
  go_wp2_with fail
  refine (sisCut_f s HC.out _).mono ?_
  rintro e w1 ⟨rfl, hb⟩
  have HB1 := hid (HB0.out.trans (hb.mono HB0.out.size))
  clear hb
  go_wp2
  go_ret
  exact ⟨_, rfl, (Own.lit0 intE w1 w.heap.size 3 HB1.out.size), HB1.out.alloc HB1.out.size _⟩

set_option maxHeartbeats 6400000 in
theorem saboves_cut (o a : Int) (l r : Tr) (ihl : AbS l) (ihr : AbS r) (hn : nodes (.cut o a l r) ≤ 255) : AbS (.cut o a l r) := by
  intro s i up w h hi0 hi1 hu0 hu1
  have HC := hid h.cutT
  obtain ⟨h1, h2, h3, h4, -, sl, sr, hr, hl, hrr⟩ := h
  obtain ⟨so, sa, sp, st, ka, kn, kc⟩ := s
  simp only at h1 h2 h3 h4
  subst h1; subst h2; subst h3; subst h4
  obtain ⟨rfl, hkc, b1, o1, rfl, hb1, x0, x1, x2, x3, x4, y0, y1, y2, y3, y4⟩ := row_two hr
  have HB0 := hid (below_pl (o := so) (a := sa) (p := 0) (t := false) (ka := some ⟨b1, o1, none⟩) (kn := 2) (kc := kc) (ty := 29) w)
  have HL := hid (fun w1 (hb : Below w.heap.size w w1) => hl.go hb)
  have HR := hid (fun w1 (hb : Below w.heap.size w w1) => hrr.go hb)
  have HIL := hid ihl
  have HIR := hid ihr
  have hcs := hn
  simp only [nodes] at hcs hi1
  have np1 := nodes_pos l
  have np2 := nodes_pos r
  have HV : Hid (abvs (.cut so sa l r) i up = ([up] ++ (abvs l (i + 1) i)) ++ (abvs r (i + 1 + nodes l) i)) := abvs_cut so sa l r i up
  have hl1 : (abvs l (i + 1) i).length = cuts l := abvs_len _ _ _
  have hl2 : (abvs r (i + 1 + nodes l) i).length = cuts r := abvs_len _ _ _
  have hc1 := nodes_cuts l
  have hc2' := nodes_cuts r
  have hroom1 : [up].length + (abvs l (i + 1) i).length ≤ 4194304 := by rw [hl1]; simp; omega
  have hroom2 : ([up] ++ (abvs l (i + 1) i)).length + (abvs r (i + 1 + nodes l) i).length ≤ 4194304 := by rw [List.length_append, hl1, hl2]; simp; omega
  have HR1 := hid hroom1
  have HR2 := hid hroom2
  obtain ⟨L1, hL1⟩ : ∃ L, L = [up] ++ (abvs l (i + 1) i) := ⟨_, rfl⟩
  obtain ⟨L2, hL2⟩ : ∃ L, L = ([up] ++ (abvs l (i + 1) i)) ++ (abvs r (i + 1 + nodes l) i) := ⟨_, rfl⟩
  have HL1 := hid hL1
  have HL2 := hid hL2
  obtain ⟨i0, hj, hj0, hj1, hj2⟩ := info_parts int_info
  have hw1 : IntKind.i64.wrap (i + 1) = i + 1 := IntWalk.i64_in _ (by omega)
  have hw2 : IntKind.i64.wrap (i + 1 + nodes l) = i + 1 + nodes l := IntWalk.i64_in _ (by omega)
  clear hl hrr hr ihl ihr hl1 hl2 hc1 hc2' hroom1 hroom2 hL1 hL2
  go_enter Try.func63, Try.ntmps63
  go_wp2_with fail
  refine (sisCut_t ⟨so, sa, 0, false, some ⟨b1, o1, none⟩, 2, kc⟩ HC.out _).mono ?_
  rintro e w1 ⟨rfl, hb⟩
  have HB1 := hid (HB0.out.trans (hb.mono HB0.out.size))
  obtain ⟨hcc, hf, hsz⟩ := bcell hb
  have hz : w.heap.size < w1.heap.size := by simp at hsz; omega
  have hz1 : b1 < w1.heap.size := by omega
  have hz2 : b1 < w.heap.size + 1 := by omega
  clear hb hf
  go_wp2_with fail
  have HO1 := hid (Own.lit intE w1 (w.heap.size + 1) 3 #[.int .i64 up] [up] 1 rfl rfl hz (by simp [maxLen]))
  have HB1' := hid (HB1.out.alloc HB1.out.size (.cells #[.int .i64 up] 3))
  refine (HIL.out sl (i + 1) i _ (HL.out _ HB1'.out) (by omega) (by omega) (by omega) (by omega)).mono ?_
  rintro e w2 ⟨vl, rfl, ho, hb⟩
  have HB2 := hid (HB1'.out.trans (hb.mono HB1'.out.size))
  have HO2 := hid (HO1.out.below hb)
  have HOL := hid ho
  have HNE : Hid (Below (w.heap.size + 1) w1 w2) := ((Below.refl _ _).alloc hz _).trans (hb.mono (by simp; omega))
  clear hb ho
  go_wp2_with (at_builtin; refine wpList_cat intE _ rfl (.tmp 13) (.tmp 21) _ rfl (w.heap.size + 1) 3 i0 _ 8 Try.underlying38 hj hj0 hj1 hj2 rfl (by omega) _ _ rfl HO2.out _ _ _ rfl HOL.out.rowB HR1.out (by have := HNE.out.size; omega) L1 HL1.out ?_)
  intro v3 w3 ho3 hg3 hat3
  have HO3 := hid ho3
  have HB3 := hid (HB2.out.grown hg3 HB2.out.size (fun q hq => by have := (HO2.out.lt q hq).1; omega))
  have HK3 := hid (HNE.out.grown hg3 (by have := HNE.out.size; omega) (fun q hq => by simp [Value.ownBlock] at hq; omega) : Below (w.heap.size + 1) w1 w3)
  have hc3 : ∀ b o, b < w.heap.size + 1 → w3.cell? ⟨b, o, none⟩ = w1.cell? ⟨b, o, none⟩ := fun b o h => HK3.out.cell (p := ⟨b, o, none⟩) h
  have hs3 : w.heap.size + 1 ≤ w3.heap.size := by have := HK3.out.size; omega
  clear ho3 hg3 hat3
  go_wp2
  have ZK := hid ((Below.refl _ _).drew : Below (w.heap.size + 1) w3 w3.drew)
  have ZB := hid (HB3.out.drew)
  have ZS := hid (show w.heap.size + 1 ≤ w3.drew.heap.size from hs3)
  have ZO := hid (HO3.out.dr (Dr.refl _).one)
  go_region_held3 (fun w' => ∀ b o, b < w.heap.size + 1 → w'.cell? ⟨b, o, none⟩ = w3.cell? ⟨b, o, none⟩) (exact fun b o h => ZK.out.cell (p := ⟨b, o, none⟩) h)
    (first | (go_at_call 48; ((with_reducible refine (splanSize_tr (t := l) (s := sl) (HL.out _ ZB.out) (by omega)).mono ?_); rintro e wq ⟨rfl, hb⟩; replace ZK := hid (ZK.out.trans (hb.mono ZS.out)); replace ZB := hid (ZB.out.trans (hb.mono ZB.out.size)); replace ZO := hid (ZO.out.below hb); replace ZS := hid (Nat.le_trans ZS.out hb.size); clear hb)) | (go_at_call 63; ((with_reducible refine (HIR.out sr (i + 1 + nodes l) i _ (HR.out _ ZB.out) (by omega) (by omega) (by omega) (by omega)).mono ?_); rintro e wr ⟨vr, rfl, ho, hb⟩; replace ZK := hid (ZK.out.trans (hb.mono ZS.out)); replace ZB := hid (ZB.out.trans (hb.mono ZB.out.size)); replace ZO := hid (ZO.out.below hb); replace ZS := hid (Nat.le_trans ZS.out hb.size); have ZR := hid ho; clear hb ho)) | (refine step_cat intE _ rfl (.tmp 23) (.tmp 37) _ rfl (w.heap.size + 1) 3 i0 _ 8 Try.underlying38 hj hj0 hj1 hj2 rfl (by omega) _ _ rfl ZO.out _ _ _ rfl ZR.out.rowB (by rw [HL1.out]; exact HR2.out) ZS.out L2 (by rw [HL1.out]; exact HL2.out) ?_; intro v4 w4 ho4 hg4 hat4; have ZO4 := hid ho4; have ZB4 := hid (ZB.out.grown hg4 ZB.out.size (fun q hq => by have := (ZO.out.lt q hq).1; omega)); replace ZK := hid (ZK.out.grown hg4 ZS.out (fun q hq => (ZO.out.lt q hq).1)); clear ho4 hg4 hat4))
  all_goals
    go_wp2
    go_ret
    exact ⟨_, rfl, by rw [HV.out, ← HL2.out]; exact ZO4.out.base_le (by omega), ZB4.out⟩

theorem saboves_c : ∀ (t : Tr), nodes t ≤ 255 → AbS t
  | .leaf o p t, _ => saboves_leaf o p t
  | .cut o a l r, h => saboves_cut o a l r (saboves_c l (by simp only [nodes] at h; omega)) (saboves_c r (by simp only [nodes] at h; omega)) h

end Go.Proofs.Ytjohhjpoglaagaa
