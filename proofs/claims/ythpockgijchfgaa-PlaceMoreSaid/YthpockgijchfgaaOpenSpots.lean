/-
  An argument that is a slice of spots, opened as a list.
-/
import Derived.Test.YthpockgijchfgaaPost
import Derived.Test.YthpockgijchfgaaRows_
import Derived.Test.YthpockgijchfgaaPlacePlain
import Derived.Deep.Slices
namespace Go.Proofs.Ythpockgijchfgaa
open Go.ChangeShapes Go.WideShapes Go.ChangeAt Go.RowKit

def Spot.cells (s : Spot) : List Value := [.bool s.up, .int .i64 s.free]
def Spot.Ok (s : Spot) : Prop := -9223372036854775808 ≤ s.free ∧ s.free ≤ 9223372036854775807

set_option maxRecDepth 100000 in
theorem one_spot {H : Type} {enc : TypeId × Value → H} {W : World} {n : Nat} {cs : List Value} {x : DataW H × List MemPlace}
    (h : DataW.trod enc Try.prog W 0 (fun _ => true) true n 30 cs = some x) : ∃ a : Spot, cs = a.cells ∧ a.Ok := by
  obtain ⟨xs, k, _, _, hl, hxl, hf⟩ := DataW.trod_struct Try.underlying30 h
  rw [show Try.prog.cellsOf 30 = 2 by kernel_rfl] at hl
  match cs, hl with
  | [v0, v1], _ =>
    have c3 : Try.prog.cellsOf 3 = 1 := by kernel_rfl
    have c4 : Try.prog.cellsOf 4 = 1 := by kernel_rfl
    have get : ∀ i : Nat, i < 2 → ∃ y, xs[i]? = some y := fun i hi => ⟨xs[i]'(by rw [hxl]; exact hi), List.getElem?_eq_getElem _⟩
    obtain ⟨y0, g0⟩ := get 0 (by omega)
    obtain ⟨y1, g1⟩ := get 1 (by omega)
    generalize hfs : (#[_, _] : Array Field) = fs at hf hxl
    have key : ∀ (i t o : Nat), (∃ f, fs[i]? = some f ∧ f.type = t ∧ f.offset = o) → Try.prog.cellsOf t = 1 → DataW.trod enc Try.prog W 0 (fun _ => true) true k t (([v0, v1].drop o).take 1) = xs[i]? := by
      rintro i t o ⟨f, hi, rfl, rfl⟩ hc
      rw [← hc]
      exact hf i f hi
    subst hfs
    have f0 : DataW.trod enc Try.prog W 0 (fun _ => true) true k 4 [v0] = some y0 := (key 0 4 0 ⟨_, rfl, rfl, rfl⟩ c4).trans g0
    have f1 : DataW.trod enc Try.prog W 0 (fun _ => true) true k 3 [v1] = some y1 := (key 1 3 1 ⟨_, rfl, rfl, rfl⟩ c3).trans g1
    obtain ⟨a0, e0, _⟩ := DataW.trod_bool Try.underlying4 f0
    obtain ⟨a1, e1, _, w1⟩ := DataW.trod_int Try.underlying3 f1
    simp only [List.cons.injEq, and_true] at e0 e1
    subst e0 e1
    exact ⟨⟨a0, a1⟩, rfl, bounds_i64 w1⟩

set_option maxRecDepth 100000 in
theorem open_spots {H : Type} {enc : TypeId × Value → H} {W : World} {r : Reach} {b0 : Nat} {v : Value} {d : DataW H} {p : List MemPlace}
    (hv : Value.okWide Try.prog W r b0 22 v) (h : DataW.Trod enc Try.prog W 0 (fun _ => true) true 22 v d p) :
    ∃ l : List Spot, (Sln W v 2 (l.map Spot.cells) ∧ ∃ A c, v = .slice A (l.map Spot.cells).length c ∧ (l.map Spot.cells).length ≤ c ∧ c ≤ maxLen ∧ (A = none → c = 0)) ∧ (∀ x ∈ l, x.Ok) ∧ l.length ≤ maxLen := by
  obtain ⟨a0, len0, cap0, rfl⟩ := okWide_slice Try.underlying22 hv
  obtain ⟨fuel, hf⟩ := h
  rcases Go.Deep.open_slice Try.underlying22 hf with ⟨hcs, _⟩ | ⟨a, len, cap, m, n, D, Pl, hcs, _, hl, hm, hmm, _, hx⟩
  · simp only [Value.cells, List.cons.injEq, and_true] at hcs
    rw [hcs]
    exact ⟨[], ⟨⟨none, 0, rfl, fun h => absurd rfl h⟩, none, 0, rfl, Nat.le_refl _, Nat.zero_le _, fun _ => rfl⟩, by simp, Nat.zero_le _⟩
  · simp only [Value.cells, List.cons.injEq, and_true] at hcs
    rw [hcs]
    have hlm : len ≤ m := by rw [hmm]; split <;> omega
    have each : ∀ i, i < len → ∃ x : Spot, (∀ (j : Nat) (u : Value), x.cells[j]? = some u → W.cell? (a.add (i * 2 + j)) = some u) ∧ x.Ok := fun i hi => by
      obtain ⟨cs', h1, h2⟩ := hx i (by omega)
      rw [show Try.prog.cellsOf 30 = 2 by kernel_rfl] at h1
      obtain ⟨_, hlen, hcell⟩ := World.cells?_some h1
      obtain ⟨x, rfl, hok⟩ := one_spot h2
      refine ⟨x, fun j u hj => ?_, hok⟩
      have hj7 : j < 2 := by
        have := (List.getElem?_eq_some_iff.1 hj).1
        exact this
      have := hcell j hj7
      rw [Go.Deep.add_add] at this
      rw [this, hj]
    haveI : Inhabited Spot := ⟨⟨false, 0⟩⟩
    obtain ⟨f, hfx⟩ := Go.Deep.choose_lt each
    refine ⟨(List.range len).map f, ⟨⟨some a, cap, by simp, fun hne => ?_⟩, some a, cap, by simp, by simp; omega, by omega, fun h => by cases h⟩, ?_, by simp; omega⟩
    · have hpos : 0 < len := by
        rcases Nat.eq_zero_or_pos len with h0 | h0
        · subst h0; exact absurd rfl hne
        · exact h0
      obtain ⟨b, off, spot⟩ := a
      have hspot : spot = none := by
        have := (hfx 0 hpos).1 0 _ rfl
        simpa [Addr.add] using World.cell?_spot this
      subst hspot
      refine ⟨b, off, rfl, fun i row hi j u hj => ?_⟩
      rw [List.map_map, List.getElem?_map] at hi
      by_cases hlt : i < len
      · rw [List.getElem?_range hlt] at hi
        simp only [Option.map_some, Option.some.injEq, Function.comp_apply] at hi
        subst hi
        have := (hfx i hlt).1 j u hj
        rw [Go.WideShapes.add_plain] at this
        rw [Nat.add_assoc]
        exact this
      · rw [List.getElem?_eq_none (by simpa using hlt)] at hi
        cases hi
    · intro x hx
      obtain ⟨i, hi, rfl⟩ := List.mem_map.1 hx
      exact (hfx i (List.mem_range.1 hi)).2
end Go.Proofs.Ythpockgijchfgaa
