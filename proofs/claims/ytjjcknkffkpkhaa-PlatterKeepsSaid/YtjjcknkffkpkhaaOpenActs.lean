/-
  An argument that is a slice of Acts, opened as a list.
-/
import Derived.Test.YtjjcknkffkpkhaaActs
import Derived.Test.YtjjcknkffkpkhaaPost
import Derived.Deep.Slices
namespace Go.Proofs.Ytjjcknkffkpkhaa
open Go.ChangeShapes Go.WideShapes Go.ChangeAt Go.RowKit

set_option maxRecDepth 100000 in
theorem one_act {H : Type} {enc : TypeId × Value → H} {W : World} {n : Nat} {cs : List Value} {x : DataW H × List MemPlace}
    (h : DataW.trod enc Try.prog W 0 (fun _ => true) true n 47 cs = some x) : ∃ a : Act, cs = a.cells ∧ a.Ok := by
  obtain ⟨xs, k, _, _, hl, hxl, hf⟩ := DataW.trod_struct Try.underlying47 h
  rw [show Try.prog.cellsOf 47 = 7 by kernel_rfl] at hl
  match cs, hl with
  | [v0, v1, v2, v3, v4, v5, v6], _ =>
    have c3 : Try.prog.cellsOf 3 = 1 := by kernel_rfl
    have c9 : Try.prog.cellsOf 9 = 1 := by kernel_rfl
    have c34 : Try.prog.cellsOf 34 = 1 := by kernel_rfl
    have c30 : Try.prog.cellsOf 30 = 1 := by kernel_rfl
    have c5 : Try.prog.cellsOf 5 = 1 := by kernel_rfl
    have get : ∀ i : Nat, i < 7 → ∃ y, xs[i]? = some y := fun i hi => ⟨xs[i]'(by rw [hxl]; exact hi), List.getElem?_eq_getElem _⟩
    obtain ⟨y0, g0⟩ := get 0 (by omega)
    obtain ⟨y1, g1⟩ := get 1 (by omega)
    obtain ⟨y2, g2⟩ := get 2 (by omega)
    obtain ⟨y3, g3⟩ := get 3 (by omega)
    obtain ⟨y4, g4⟩ := get 4 (by omega)
    obtain ⟨y5, g5⟩ := get 5 (by omega)
    obtain ⟨y6, g6⟩ := get 6 (by omega)
    generalize hfs : (#[_, _, _, _, _, _, _] : Array Field) = fs at hf hxl
    have key : ∀ (i t o : Nat), (∃ f, fs[i]? = some f ∧ f.type = t ∧ f.offset = o) → Try.prog.cellsOf t = 1 → DataW.trod enc Try.prog W 0 (fun _ => true) true k t (([v0, v1, v2, v3, v4, v5, v6].drop o).take 1) = xs[i]? := by
      rintro i t o ⟨f, hi, rfl, rfl⟩ hc
      rw [← hc]
      exact hf i f hi
    subst hfs
    have f0 : DataW.trod enc Try.prog W 0 (fun _ => true) true k 3 [v0] = some y0 := (key 0 3 0 ⟨_, rfl, rfl, rfl⟩ c3).trans g0
    have f1 : DataW.trod enc Try.prog W 0 (fun _ => true) true k 3 [v1] = some y1 := (key 1 3 1 ⟨_, rfl, rfl, rfl⟩ c3).trans g1
    have f2 : DataW.trod enc Try.prog W 0 (fun _ => true) true k 9 [v2] = some y2 := (key 2 9 2 ⟨_, rfl, rfl, rfl⟩ c9).trans g2
    have f3 : DataW.trod enc Try.prog W 0 (fun _ => true) true k 9 [v3] = some y3 := (key 3 9 3 ⟨_, rfl, rfl, rfl⟩ c9).trans g3
    have f4 : DataW.trod enc Try.prog W 0 (fun _ => true) true k 34 [v4] = some y4 := (key 4 34 4 ⟨_, rfl, rfl, rfl⟩ c34).trans g4
    have f5 : DataW.trod enc Try.prog W 0 (fun _ => true) true k 30 [v5] = some y5 := (key 5 30 5 ⟨_, rfl, rfl, rfl⟩ c30).trans g5
    have f6 : DataW.trod enc Try.prog W 0 (fun _ => true) true k 5 [v6] = some y6 := (key 6 5 6 ⟨_, rfl, rfl, rfl⟩ c5).trans g6
    obtain ⟨a0, e0, _, _⟩ := DataW.trod_int Try.underlying3 f0
    obtain ⟨a1, e1, _, w1⟩ := DataW.trod_int Try.underlying3 f1
    obtain ⟨a2, e2, _, w2⟩ := DataW.trod_string Try.underlying9 f2
    obtain ⟨a3, e3, _, w3⟩ := DataW.trod_string Try.underlying9 f3
    have e4 : ∃ m : Option Addr × Nat × Nat, v4 = Value.slice m.1 m.2.1 m.2.2 := by
      rcases DataW.trod_slice Try.underlying34 f4 with ⟨h, _⟩ | ⟨a, l, c, _, _, _, _, h, _⟩
      · exact ⟨(none, 0, 0), by simpa using h⟩
      · exact ⟨(some a, l, c), by simpa using h⟩
    have e5 : ∃ m : Option Addr × Nat × Nat, v5 = Value.slice m.1 m.2.1 m.2.2 := by
      rcases DataW.trod_slice Try.underlying30 f5 with ⟨h, _⟩ | ⟨a, l, c, _, _, _, _, h, _⟩
      · exact ⟨(none, 0, 0), by simpa using h⟩
      · exact ⟨(some a, l, c), by simpa using h⟩
    obtain ⟨a6, e6, _, _⟩ := DataW.trod_int Try.underlying5 f6
    obtain ⟨m4, rfl⟩ := e4
    obtain ⟨m5, rfl⟩ := e5
    simp only [List.cons.injEq, and_true] at e0 e1 e2 e3 e6
    subst e0 e1 e2 e3 e6
    exact ⟨⟨a0, a1, a2, a3, m4, m5, a6⟩, rfl, bounds_i64 w1, w2, w3⟩

set_option maxRecDepth 100000 in
theorem open_acts {H : Type} {enc : TypeId × Value → H} {W : World} {r : Reach} {b0 : Nat} {v : Value} {d : DataW H} {p : List MemPlace}
    (hv : Value.okWide Try.prog W r b0 45 v) (h : DataW.Trod enc Try.prog W 0 (fun _ => true) true 45 v d p) :
    ∃ acts : List Act, Sln W v 7 (acts.map Act.cells) ∧ (∀ x ∈ acts, x.Ok) ∧ acts.length ≤ maxLen := by
  obtain ⟨a0, len0, cap0, rfl⟩ := okWide_slice Try.underlying45 hv
  obtain ⟨fuel, hf⟩ := h
  rcases Go.Deep.open_slice Try.underlying45 hf with ⟨hcs, _⟩ | ⟨a, len, cap, m, n, D, Pl, hcs, _, hl, hm, hmm, _, hx⟩
  · simp only [Value.cells, List.cons.injEq, and_true] at hcs
    rw [hcs]
    exact ⟨[], ⟨none, 0, rfl, fun h => absurd rfl h⟩, by simp, Nat.zero_le _⟩
  · simp only [Value.cells, List.cons.injEq, and_true] at hcs
    rw [hcs]
    have hlm : len ≤ m := by rw [hmm]; split <;> omega
    have each : ∀ i, i < len → ∃ x : Act, (∀ (j : Nat) (u : Value), x.cells[j]? = some u → W.cell? (a.add (i * 7 + j)) = some u) ∧ x.Ok := fun i hi => by
      obtain ⟨cs', h1, h2⟩ := hx i (by omega)
      rw [show Try.prog.cellsOf 47 = 7 by kernel_rfl] at h1
      obtain ⟨_, hlen, hcell⟩ := World.cells?_some h1
      obtain ⟨x, rfl, hok⟩ := one_act h2
      refine ⟨x, fun j u hj => ?_, hok⟩
      have hj7 : j < 7 := by
        have := (List.getElem?_eq_some_iff.1 hj).1
        exact this
      have := hcell j hj7
      rw [Go.Deep.add_add] at this
      rw [this, hj]
    haveI : Inhabited Act := ⟨⟨0, 0, ByteArray.empty, ByteArray.empty, (none, 0, 0), (none, 0, 0), 0⟩⟩
    obtain ⟨f, hfx⟩ := Go.Deep.choose_lt each
    refine ⟨(List.range len).map f, ⟨some a, cap, by simp, fun hne => ?_⟩, ?_, by simp; omega⟩
    · have hpos : 0 < len := by
        rcases Nat.eq_zero_or_pos len with h0 | h0
        · subst h0; exact absurd rfl hne
        · exact h0
      obtain ⟨b, off, spot⟩ := a
      have hspot : spot = none := by
        have := (hfx 0 hpos).1 0 _ rfl
        simpa [Addr.add] using World.cell?_spot this
      subst hspot
      refine ⟨b, off, rfl, fun i row hi j u hj => ?_⟩
      rw [List.map_map, List.getElem?_map] at hi
      by_cases hlt : i < len
      · rw [List.getElem?_range hlt] at hi
        simp only [Option.map_some, Option.some.injEq, Function.comp_apply] at hi
        subst hi
        have := (hfx i hlt).1 j u hj
        rw [Go.WideShapes.add_plain] at this
        rw [Nat.add_assoc]
        exact this
      · rw [List.getElem?_eq_none (by simpa using hlt)] at hi
        cases hi
    · intro x hx
      obtain ⟨i, hi, rfl⟩ := List.mem_map.1 hx
      exact (hfx i (List.mem_range.1 hi)).2
end Go.Proofs.Ytjjcknkffkpkhaa
