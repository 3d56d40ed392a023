/-
  A piece of glass that came in, by value.
-/
import Derived.Test.YtpicbkakghojnaaOpenBox
import Derived.Test.YtpicbkakghojnaaPieceV
namespace Go.Proofs.Ytpicbkakghojnaa
set_option linter.unusedSimpArgs false
set_option linter.unusedVariables false
open Go.ChangeShapes Go.WideShapes Go.ChangeAt Go.RowKit

theorem rowB_mk {α : Type} (E : Enc α) {w : World} {a : Addr} {cap : Nat} (S : List α) (hl : S.length ≤ cap) (hm : cap ≤ maxLen) (hc : ∀ i (_ : i < S.length) j, j < E.sz → w.cell? (a.add (i * E.sz + j)) = (E.cells S[i])[j]?) : Row E w (.slice (some a) S.length cap) S := by
  refine ⟨some a, cap, rfl, hl, hm, fun h0 => ?_⟩
  obtain ⟨b, off, spot⟩ := a
  have hc0 := hc 0 h0 0 E.pos
  have hx : (E.cells S[0])[0]? = some ((E.cells S[0])[0]'(by rw [E.len]; exact E.pos)) := List.getElem?_eq_getElem _
  rw [hx] at hc0
  have hspot : spot = none := by simpa [Addr.add] using World.cell?_spot hc0
  subst hspot
  have hblk := block_lt_of_cell hc0
  refine ⟨b, off, rfl, by simpa [Addr.add] using hblk, fun j u hu => ?_⟩
  have hj : j < S.length * E.sz := by
    have := (List.getElem?_eq_some_iff.1 hu).1
    rwa [Enc.flat_len] at this
  have hk : j / E.sz < S.length := Nat.div_lt_of_lt_mul (by rw [Nat.mul_comm]; exact hj)
  have hr : j % E.sz < E.sz := Nat.mod_lt _ E.pos
  have ej : j / E.sz * E.sz + j % E.sz = j := by rw [Nat.mul_comm]; exact Nat.div_add_mod j E.sz
  have h1 := E.flat_at S (j / E.sz) (j % E.sz) hk hr
  have h2 := hc (j / E.sz) hk (j % E.sz) hr
  rw [ej] at h1 h2
  rw [Addr.add_lit] at h2
  rw [h2, ← h1, hu]

theorem cells_lboxes : Try.prog.cellsOf 22 = 1 := by kernel_rfl
theorem cells_lpiece : Try.prog.cellsOf 24 = 4 := by kernel_rfl

theorem trod_boxes {H : Type} {enc : TypeId × Value → H} {w : World} (n : Nat) (cs : List Value) (y : DataW H × List MemPlace) (h : DataW.trod enc Try.prog w 0 (fun _ => true) true n 22 cs = some y) : ∃ ka kn kc L, cs = [.slice ka kn kc] ∧ Row boxE w (.slice ka kn kc) L := by
  cases n with
  | zero => simp [DataW.trod] at h
  | succ n =>
  rcases DataW.trod_slice Try.underlying22 h with ⟨rfl, _⟩ | ⟨a, len, cap, elems, rest, m, hmn, rfl, rfl, hb, hl, hm, hlen, hel, -, -⟩
  · exact ⟨none, 0, 0, [], rfl, RowB.nil_ _ _⟩
  · obtain rfl : m = n := by omega
    rw [cells_lbox] at hel
    have hQ : ∀ i, i < len → ∃ x : Bx, ∀ j, j < 4 → w.cell? (a.add (i * 4 + j)) = (boxE.cells x)[j]? := by
      intro i hil
      have h1 := hel i hil
      rw [List.getElem?_eq_getElem (by omega)] at h1
      obtain ⟨cs', hc, htr⟩ := Option.bind_eq_some_iff.1 h1
      obtain ⟨x, rfl⟩ := trod_lbox m cs' _ htr
      obtain ⟨_, _, hat⟩ := World.cells?_some hc
      refine ⟨x, fun j hj => ?_⟩
      have := hat j hj
      rw [Deep.add_add] at this
      exact this
    obtain ⟨X, hX, hXc⟩ := exists_list _ len hQ
    refine ⟨some a, len, cap, X, rfl, ?_⟩
    have := rowB_mk boxE (w := w) (a := a) (cap := cap) X (by omega) hm (fun i hi j hj => hXc i hi j hj)
    rw [hX] at this
    exact this

theorem i64_of {x : Int} (h : (Lit.int .i64 x).wf = true) : I64 x := by
  simp [Lit.wf] at h
  unfold I64
  exact h

theorem trod_piece {H : Type} {enc : TypeId × Value → H} {w : World} (n : Nat) (cs : List Value) (y : DataW H × List MemPlace) (h : DataW.trod enc Try.prog w 0 (fun _ => true) true n 24 cs = some y) :
    ∃ (s : Ps) (p : Pc), cs = psE.cells s ∧ PvR w.heap.size w p s ∧ I64 p.l ∧ I64 p.w ∧ I64 p.h := by
  obtain ⟨xs, k, rfl, _, hlen, hxl, hf⟩ := DataW.trod_struct Try.underlying24 h
  rw [cells_lpiece] at hlen
  match cs, hlen with
  | [c0, c1, c2, c3], _ =>
    have h0 : DataW.trod enc Try.prog w 0 (fun _ => true) true k 3 (([c0, c1, c2, c3].drop 0).take (Try.prog.cellsOf 3)) = xs[0]? := hf 0 _ rfl
    have h1 : DataW.trod enc Try.prog w 0 (fun _ => true) true k 3 (([c0, c1, c2, c3].drop 1).take (Try.prog.cellsOf 3)) = xs[1]? := hf 1 _ rfl
    have h2 : DataW.trod enc Try.prog w 0 (fun _ => true) true k 3 (([c0, c1, c2, c3].drop 2).take (Try.prog.cellsOf 3)) = xs[2]? := hf 2 _ rfl
    have h3 : DataW.trod enc Try.prog w 0 (fun _ => true) true k 22 (([c0, c1, c2, c3].drop 3).take (Try.prog.cellsOf 22)) = xs[3]? := hf 3 _ rfl
    rw [cells_int4] at h0 h1 h2
    rw [cells_lboxes] at h3
    rw [List.getElem?_eq_getElem (by rw [hxl]; decide)] at h0 h1 h2 h3
    obtain ⟨x0, e0, -, r0⟩ := DataW.trod_int Try.underlying3 h0
    obtain ⟨x1, e1, -, r1⟩ := DataW.trod_int Try.underlying3 h1
    obtain ⟨x2, e2, -, r2⟩ := DataW.trod_int Try.underlying3 h2
    obtain ⟨ka, kn, kc, L, e3, hL⟩ := trod_boxes k _ _ h3
    simp at e0 e1 e2 e3
    subst e0; subst e1; subst e2; subst e3
    exact ⟨⟨x0, x1, x2, ka, kn, kc⟩, ⟨x0, x1, x2, L⟩, rfl, ⟨⟨rfl, rfl, rfl⟩, hL⟩, i64_of r0, i64_of r1, i64_of r2⟩

theorem open_piece {H : Type} {enc : TypeId × Value → H} {w : World} {r : Reach} {b0 : Nat} {v : Value} {d : DataW H} {p : List MemPlace} (hv : Value.okWide Try.prog w r b0 24 v)
    (h : DataW.Trod enc Try.prog w 0 (fun _ => true) true 24 v d p) : ∃ (q : Pc) (s : Ps), v = .agg #[.int .i64 s.l, .int .i64 s.w, .int .i64 s.h, .slice s.ka s.kn s.kc] ∧ PvR w.heap.size w q s ∧ I64 q.l ∧ I64 q.w ∧ I64 q.h := by
  obtain ⟨cs, rfl, hsz⟩ := okWide_struct Try.underlying24 hv
  obtain ⟨n, hn⟩ := h
  obtain ⟨s, q, e, hp⟩ := trod_piece n _ _ hn
  refine ⟨q, s, ?_, hp⟩
  have e' : cs.toList = psE.cells s := by simpa [Value.cells] using e
  have : cs = (psE.cells s).toArray := by rw [← e', Array.toArray_toList]
  rw [this]
  rfl

end Go.Proofs.Ytpicbkakghojnaa
