/-
  Places: a pane's number, how it lies, its box; how they lie in memory; the leaves of a plan with their boxes, by the reference's 'spread'.
-/
import Derived.Test.YtafcohmneeabbaaGrowF
import Derived.Test.YtafcohmneeabbaaBox
import Derived.Test.YtafcohmneeabbaaCat
import Derived.Deep.RegionHeld3
namespace Go.Proofs.Ytafcohmneeabbaa
set_option linter.unusedSimpArgs false
set_option linter.unusedVariables false
open Go.RowKit

structure Plc where
  p : Int
  t : Bool
  b : Bx
def plcE : Enc Plc := ⟨6, fun q => [.int .i64 q.p, .bool q.t, .int .i64 q.b.x, .int .i64 q.b.y, .int .i64 q.b.w, .int .i64 q.b.h], fun _ => rfl, by decide, by simp [Value.oneCell']⟩
theorem plc_info : (Try.prog.info? 75).map (fun i => (i.zero, i.size, i.bytes)) = some (some (.agg #[.int .i64 0, .bool false, .int .i64 0, .int .i64 0, .int .i64 0, .int .i64 0]), 6, 48) := by kernel_rfl
theorem row_plcs {B : Nat} {w : World} {A : Option Addr} {n c : Nat} {L : List Plc} (h : RowB plcE B w (.slice A n c) L) (hn : 0 < n) : ∃ b off, A = some ⟨b, off, none⟩ ∧ b < B ∧ ∀ k, (hk : k < L.length) →
    w.cell? ⟨b, off + k * 6, none⟩ = some (.int .i64 L[k].p) ∧ w.cell? ⟨b, off + k * 6 + 1, none⟩ = some (.bool L[k].t) ∧ w.cell? ⟨b, off + k * 6 + 2, none⟩ = some (.int .i64 L[k].b.x) ∧ w.cell? ⟨b, off + k * 6 + 2 + 1, none⟩ = some (.int .i64 L[k].b.y) ∧ w.cell? ⟨b, off + k * 6 + 2 + 2, none⟩ = some (.int .i64 L[k].b.w) ∧ w.cell? ⟨b, off + k * 6 + 2 + 3, none⟩ = some (.int .i64 L[k].b.h) := by
  obtain ⟨h1, h2, h3, h4⟩ := h.at_
  obtain ⟨b, off, rfl, hb, hc⟩ := h4 hn
  refine ⟨b, off, rfl, hb, fun k hk => ?_⟩
  have e : ∀ j u, j < 6 → (plcE.cells L[k])[j]? = some u → w.cell? ⟨b, off + k * 6 + j, none⟩ = some u := fun j u hj hu => by
    have := hc k j u hk hj hu
    rw [Nat.add_assoc]; exact this
  exact ⟨e 0 _ (by omega) rfl, e 1 _ (by omega) rfl, e 2 _ (by omega) rfl, e 3 _ (by omega) rfl, e 4 _ (by omega) rfl, e 5 _ (by omega) rfl⟩

/-- A box's numbers are small. -/
def bndB (M : Int) (b : Bx) : Prop := (-M ≤ b.x ∧ b.x ≤ M) ∧ (-M ≤ b.y ∧ b.y ≤ M) ∧ (-M ≤ b.w ∧ b.w ≤ M) ∧ (-M ≤ b.h ∧ b.h ≤ M)
theorem bndB.up {M N : Int} {b : Bx} (h : bndB M b) (hm : M ≤ N) : bndB N b := by unfold bndB at h ⊢; omega

/-- What 'spread' answers. -/
def SprOut (M : Int) (n : Nat) (w : World) (e : Ending) (w' : World) : Prop := ∃ (v : Value) (P : List Plc), e = .returned v ∧ Own plcE 75 w.heap.size w' v P ∧ P.length ≤ n ∧ (∀ q ∈ P, bndB M q.b) ∧ Below w.heap.size w w'
def SprS (t : Tr) : Prop := ∀ (s : Sh) (b : Bx) (M : Int) (w : World), TR w.heap.size w t s → okT t → bndB M b → 0 ≤ M → M + 1000 * (cuts t : Int) ≤ 100000 → Calls Try.prog 63 #[.agg #[.int .i64 s.o, .int .i64 s.a, .int .i64 s.p, .bool s.t, .slice s.ka s.kn s.kc], .agg #[.int .i64 b.x, .int .i64 b.y, .int .i64 b.w, .int .i64 b.h]] w (SprOut (M + 1000 * (cuts t : Int)) (cuts t + 1) w)

set_option maxHeartbeats 3200000 in
set_option maxRecDepth 100000 in
theorem spread_leaf (o p : Int) (t : Bool) : SprS (.leaf o p t) := by
  intro s b M w h hok hb hM0 hM
  obtain ⟨h1, h2, h3, h4, h5, h6, h7, h8⟩ := h
  obtain ⟨so, sa, sp, st, ka, kn, kc⟩ := s
  simp only at h1 h2 h3 h4 h5
  subst h1; subst h2; subst h3; subst h4; subst h5
  have HBD := hid hb
  have HPB := hid (show ∀ q ∈ [(⟨sp, st, b⟩ : Plc)], bndB (M + 1000 * (cuts (.leaf so sp st) : Int)) q.b from fun q hq => by simp only [List.mem_singleton] at hq; subst hq; exact hb.up (by simp [cuts]))
  have HPN := hid (show ∀ q ∈ [(⟨-1, false, b⟩ : Plc)], bndB (M + 1000 * (cuts (.leaf so sp st) : Int)) q.b from fun q hq => by simp only [List.mem_singleton] at hq; subst hq; exact hb.up (by simp [cuts]))
  have HH0 := hid (((Below.refl w.heap.size w).alloc (Nat.le_refl _) (.cells #[.int .i64 so, .int .i64 0, .int .i64 sp, .bool st, .slice ka 0 kc] 30)).alloc (by simp) (.cells #[.int .i64 b.x, .int .i64 b.y, .int .i64 b.w, .int .i64 b.h] 53))
  have H7 := hid h7
  clear h6 h7 h8 hb hok
  by_cases ho : so = 1
  · subst ho
    have ho1 : Own plcE 75 w.heap.size (((w.alloc (.cells #[.int .i64 1, .int .i64 0, .int .i64 sp, .bool st, .slice ka 0 kc] 30)).alloc (.cells #[.int .i64 b.x, .int .i64 b.y, .int .i64 b.w, .int .i64 b.h] 53)).alloc (.cells #[.int .i64 sp, .bool st, .int .i64 b.x, .int .i64 b.y, .int .i64 b.w, .int .i64 b.h] 75)) (.slice (some ⟨w.heap.size + 1 + 1, 0, none⟩) 1 1) [(⟨sp, st, b⟩ : Plc)] := by
      have := Own.lit plcE ((w.alloc (.cells #[.int .i64 1, .int .i64 0, .int .i64 sp, .bool st, .slice ka 0 kc] 30)).alloc (.cells #[.int .i64 b.x, .int .i64 b.y, .int .i64 b.w, .int .i64 b.h] 53)) w.heap.size 75 #[.int .i64 sp, .bool st, .int .i64 b.x, .int .i64 b.y, .int .i64 b.w, .int .i64 b.h] [(⟨sp, st, b⟩ : Plc)] 1 rfl rfl HH0.out.size (by simp [maxLen])
      simpa using this
    have HO1 := hid ho1
    clear ho1
    go_enter Try.func63, Try.ntmps63
    go_wp2
    go_ret
    exact ⟨_, [(⟨sp, st, b⟩ : Plc)], rfl, HO1.out, by simp [cuts], HPB.out, HH0.out.alloc HH0.out.size _⟩
  · have e0 : so = 0 ∧ sp = 0 ∧ st = false := by rcases H7.out with h | h; exact absurd h ho; exact h
    obtain ⟨rfl, rfl, rfl⟩ := e0
    clear ho H7
    have ho1 : Own plcE 75 w.heap.size (((w.alloc (.cells #[.int .i64 0, .int .i64 0, .int .i64 0, .bool false, .slice ka 0 kc] 30)).alloc (.cells #[.int .i64 b.x, .int .i64 b.y, .int .i64 b.w, .int .i64 b.h] 53)).alloc (.cells #[.int .i64 (-1), .bool false, .int .i64 b.x, .int .i64 b.y, .int .i64 b.w, .int .i64 b.h] 75)) (.slice (some ⟨w.heap.size + 1 + 1, 0, none⟩) 1 1) [(⟨(-1), false, b⟩ : Plc)] := by
      have := Own.lit plcE ((w.alloc (.cells #[.int .i64 0, .int .i64 0, .int .i64 0, .bool false, .slice ka 0 kc] 30)).alloc (.cells #[.int .i64 b.x, .int .i64 b.y, .int .i64 b.w, .int .i64 b.h] 53)) w.heap.size 75 #[.int .i64 (-1), .bool false, .int .i64 b.x, .int .i64 b.y, .int .i64 b.w, .int .i64 b.h] [(⟨(-1), false, b⟩ : Plc)] 1 rfl rfl HH0.out.size (by simp [maxLen])
      simpa using this
    have HO1 := hid ho1
    clear ho1
    go_enter Try.func63, Try.ntmps63
    go_wp2
    go_ret
    exact ⟨_, [(⟨-1, false, b⟩ : Plc)], rfl, HO1.out, by simp [cuts], HPN.out, HH0.out.alloc HH0.out.size _⟩

end Go.Proofs.Ytafcohmneeabbaa
