/-
  A plan that came in.
-/
import Derived.Test.YtafcohmneeabbaaOpen
import Derived.Test.YtafcohmneeabbaaPlan
namespace Go.Proofs.Ytafcohmneeabbaa
set_option linter.unusedSimpArgs false
set_option linter.unusedVariables false
open Go.ChangeShapes Go.WideShapes Go.ChangeAt Go.RowKit

theorem FR.up {B : Nat} {w : World} : ∀ {n : Nat} {v : Value} {L : List Pl}, FR B w n v L → FR B w (n + 1) v L
  | 0, _, _, h => h.elim
  | n + 1, _, _, h => by
    obtain ⟨S, h1, h2, h3⟩ := h
    exact ⟨S, h1, h2, fun k h4 h5 => ⟨(h3 k h4 h5).1, (h3 k h4 h5).2.up⟩⟩

theorem rowB_mk {α : Type} (E : Enc α) {w : World} {a : Addr} {cap : Nat} (S : List α) (hl : S.length ≤ cap) (hm : cap ≤ maxLen) (hc : ∀ i (_ : i < S.length) j, j < E.sz → w.cell? (a.add (i * E.sz + j)) = (E.cells S[i])[j]?) : Row E w (.slice (some a) S.length cap) S := by
  refine ⟨some a, cap, rfl, hl, hm, fun h0 => ?_⟩
  obtain ⟨b, off, spot⟩ := a
  have hc0 := hc 0 h0 0 E.pos
  have hx : (E.cells S[0])[0]? = some ((E.cells S[0])[0]'(by rw [E.len]; exact E.pos)) := List.getElem?_eq_getElem _
  rw [hx] at hc0
  have hspot : spot = none := by simpa [Addr.add] using World.cell?_spot hc0
  subst hspot
  have hblk := block_lt_of_cell hc0
  refine ⟨b, off, rfl, by simpa [Addr.add] using hblk, fun j u hu => ?_⟩
  have hj : j < S.length * E.sz := by
    have := (List.getElem?_eq_some_iff.1 hu).1
    rwa [Enc.flat_len] at this
  have hk : j / E.sz < S.length := Nat.div_lt_of_lt_mul (by rw [Nat.mul_comm]; exact hj)
  have hr : j % E.sz < E.sz := Nat.mod_lt _ E.pos
  have ej : j / E.sz * E.sz + j % E.sz = j := by rw [Nat.mul_comm]; exact Nat.div_add_mod j E.sz
  have h1 := E.flat_at S (j / E.sz) (j % E.sz) hk hr
  have h2 := hc (j / E.sz) hk (j % E.sz) hr
  rw [ej] at h1 h2
  rw [Addr.add_lit] at h2
  rw [h2, ← h1, hu]

theorem cells_int5 : Try.prog.cellsOf 3 = 1 := by kernel_rfl
theorem cells_bool5 : Try.prog.cellsOf 4 = 1 := by kernel_rfl
theorem cells_plans : Try.prog.cellsOf 33 = 1 := by kernel_rfl
theorem cells_lplan : Try.prog.cellsOf 35 = 5 := by kernel_rfl

/-- A part and its Kids, by what is known of shorter readings. -/
theorem trod_part {H : Type} {enc : TypeId × Value → H} {w : World} (n : Nat) (cs : List Value) (y : DataW H × List MemPlace) (h : DataW.trod enc Try.prog w 0 (fun _ => true) true n 35 cs = some y)
    (ih : ∀ (m : Nat), m < n → ∀ (cs : List Value) (y : DataW H × List MemPlace), DataW.trod enc Try.prog w 0 (fun _ => true) true m 33 cs = some y → ∃ ka kn kc L, cs = [.slice ka kn kc] ∧ FR w.heap.size w m (.slice ka kn kc) L) :
    ∃ (s : Sh) (p : Pl), cs = shE.cells s ∧ PR w.heap.size w n p s := by
  obtain ⟨xs, k, rfl, _, hlen, hxl, hf⟩ := DataW.trod_struct Try.underlying35 h
  rw [cells_lplan] at hlen
  match cs, hlen with
  | [c0, c1, c2, c3, c4], _ =>
    have h0 : DataW.trod enc Try.prog w 0 (fun _ => true) true k 3 (([c0, c1, c2, c3, c4].drop 0).take (Try.prog.cellsOf 3)) = xs[0]? := hf 0 _ rfl
    have h1 : DataW.trod enc Try.prog w 0 (fun _ => true) true k 3 (([c0, c1, c2, c3, c4].drop 1).take (Try.prog.cellsOf 3)) = xs[1]? := hf 1 _ rfl
    have h2 : DataW.trod enc Try.prog w 0 (fun _ => true) true k 3 (([c0, c1, c2, c3, c4].drop 2).take (Try.prog.cellsOf 3)) = xs[2]? := hf 2 _ rfl
    have h3 : DataW.trod enc Try.prog w 0 (fun _ => true) true k 4 (([c0, c1, c2, c3, c4].drop 3).take (Try.prog.cellsOf 4)) = xs[3]? := hf 3 _ rfl
    have h4 : DataW.trod enc Try.prog w 0 (fun _ => true) true k 33 (([c0, c1, c2, c3, c4].drop 4).take (Try.prog.cellsOf 33)) = xs[4]? := hf 4 _ rfl
    rw [cells_int5] at h0 h1 h2
    rw [cells_bool5] at h3
    rw [cells_plans] at h4
    rw [List.getElem?_eq_getElem (by rw [hxl]; decide)] at h0 h1 h2 h3 h4
    obtain ⟨x0, e0, -, -⟩ := DataW.trod_int Try.underlying3 h0
    obtain ⟨x1, e1, -, -⟩ := DataW.trod_int Try.underlying3 h1
    obtain ⟨x2, e2, -, -⟩ := DataW.trod_int Try.underlying3 h2
    obtain ⟨x3, e3, -⟩ := DataW.trod_bool Try.underlying4 h3
    obtain ⟨ka, kn, kc, L, e4, hL⟩ := ih k (by omega) _ _ h4
    simp at e0 e1 e2 e3 e4
    subst e0; subst e1; subst e2; subst e3; subst e4
    exact ⟨⟨x0, x1, x2, x3, ka, kn, kc⟩, .mk x0 x1 x2 x3 L, rfl, ⟨rfl, rfl, rfl, rfl⟩, hL.up⟩

theorem trod_plans {H : Type} {enc : TypeId × Value → H} {w : World} (n : Nat) : ∀ (cs : List Value) (y : DataW H × List MemPlace), DataW.trod enc Try.prog w 0 (fun _ => true) true n 33 cs = some y → ∃ ka kn kc L, cs = [.slice ka kn kc] ∧ FR w.heap.size w n (.slice ka kn kc) L := by
  induction n using Nat.strongRecOn with
  | _ n ih =>
  intro cs y h
  cases n with
  | zero => simp [DataW.trod] at h
  | succ n =>
  rcases DataW.trod_slice Try.underlying33 h with ⟨rfl, _⟩ | ⟨a, len, cap, elems, rest, m, hmn, rfl, rfl, hb, hl, hm, hlen, hel, -, -⟩
  · exact ⟨none, 0, 0, [], rfl, [], RowB.nil_ _ _, rfl, fun k h1 _ => by simp at h1⟩
  · obtain rfl : m = n := by omega
    rw [cells_lplan] at hel
    have hQ : ∀ i, i < len → ∃ x : Sh × Pl, (∀ j, j < 5 → w.cell? (a.add (i * 5 + j)) = (shE.cells x.1)[j]?) ∧ PR w.heap.size w m x.2 x.1 := by
      intro i hil
      have h1 := hel i hil
      rw [List.getElem?_eq_getElem (by omega)] at h1
      obtain ⟨cs', hc, htr⟩ := Option.bind_eq_some_iff.1 h1
      obtain ⟨s, p, rfl, hp⟩ := trod_part m cs' _ htr fun q hq => ih q (by omega)
      obtain ⟨_, _, hat⟩ := World.cells?_some hc
      refine ⟨(s, p), fun j hj => ?_, hp⟩
      have := hat j hj
      rw [Deep.add_add] at this
      exact this
    obtain ⟨X, hX, hXc⟩ := exists_list _ len hQ
    have hS : (X.map (·.1)).length = len := by simp [hX]
    refine ⟨some a, len, cap, X.map (·.2), rfl, X.map (·.1), ?_, by simp, fun k h1 h2 => ?_⟩
    · have := rowB_mk shE (w := w) (a := a) (cap := cap) (X.map (·.1)) (by omega) hm (fun i hi j hj => by
        have := (hXc i (by simpa using hi)).1 j hj
        simpa [shE] using this)
      rw [hS] at this
      exact this
    · have := (hXc k (by simpa using h1)).2
      simp only [List.getElem_map]
      exact this

theorem okWide_agg_cells {r : Reach} {w : World} {b0 : Nat} {v : Value} (hv : Value.okWide Try.prog w r b0 35 v) : ∃ cs, v = .agg cs := by
  obtain ⟨cs, rfl, hsz⟩ := okWide_struct Try.underlying35 hv
  exact ⟨cs, rfl⟩

theorem open_plan {H : Type} {enc : TypeId × Value → H} {w : World} {r : Reach} {b0 : Nat} {v : Value} {d : DataW H} {p : List MemPlace} (hv : Value.okWide Try.prog w r b0 35 v)
    (h : DataW.Trod enc Try.prog w 0 (fun _ => true) true 35 v d p) : ∃ (n : Nat) (s : Sh) (q : Pl), v = .agg #[.int .i64 s.o, .int .i64 s.a, .int .i64 s.p, .bool s.t, .slice s.ka s.kn s.kc] ∧ PR w.heap.size w n q s := by
  obtain ⟨cs, rfl⟩ := okWide_agg_cells hv
  obtain ⟨n, hn⟩ := h
  obtain ⟨s, q, e, hp⟩ := trod_part n _ _ hn fun m _ => trod_plans m
  refine ⟨n, s, q, ?_, hp⟩
  have e' : cs.toList = shE.cells s := by simpa [Value.cells] using e
  have : cs = (shE.cells s).toArray := by rw [← e', Array.toArray_toList]
  rw [this]
  rfl

end Go.Proofs.Ytafcohmneeabbaa
