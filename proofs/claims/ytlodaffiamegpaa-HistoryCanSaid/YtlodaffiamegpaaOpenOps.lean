/-
  An argument that is a slice of calls.
-/
import Derived.Test.YtlodaffiamegpaaPost
import Derived.Test.YtlodaffiamegpaaOpen2
import Derived.Test.YtlodaffiamegpaaHsFew
import Derived.Deep.Slices
namespace Go.Proofs.Ytlodaffiamegpaa
open Go.ChangeShapes Go.WideShapes Go.ChangeAt Go.RowKit

theorem texts_of_trod {H : Type} {enc : TypeId × Value → H} {P : Program} {W : World} {k : Nat} {t e : TypeId} {v : Value} {y : DataW H × List MemPlace} (ht : P.underlying t = some (.slice e)) (he : P.underlying e = some .string) (hc : P.cellsOf e = 1)
    (h : DataW.trod enc P W 0 (fun _ => true) true k t [v] = some y) :
    ∃ ss : List ByteArray, SlC W v (ss.map Value.string) ∧ ss.length ≤ maxLen := by
  rcases open_strings ht he hc h with ⟨hcs, _⟩ | ⟨a, len, cap, ss, hcs, _, hl, hm, hz, _, hcell, hwz⟩
  · simp only [List.cons.injEq, and_true] at hcs
    rw [hcs]
    exact ⟨[], ⟨Sl.nil _ _, _, _, rfl, Nat.le_refl _, Nat.zero_le _⟩, Nat.zero_le _⟩
  · simp only [List.cons.injEq, and_true] at hcs
    rw [hcs]
    simp only [if_true] at hz
    have hll : (ss.take len).length = len := by rw [List.length_take]; omega
    refine ⟨ss.take len, ⟨⟨some a, cap, by rw [List.length_map, hll], fun hne => ?_⟩, some a, cap, by rw [List.length_map, hll], by rw [List.length_map, hll]; omega, by omega⟩, by omega⟩
    have hpos : 0 < ss.length := by
      rcases Nat.eq_zero_or_pos ss.length with h0 | h0
      · exact absurd (by rw [List.eq_nil_of_length_eq_zero h0]; simp) hne
      · exact h0
    obtain ⟨b, off, spot⟩ := a
    have hspot : spot = none := by simpa [Addr.add] using World.cell?_spot (hcell 0 hpos)
    subst hspot
    refine ⟨b, off, rfl, fun i x hi => ?_⟩
    rw [List.getElem?_map, List.getElem?_take] at hi
    split at hi
    · rename_i hlt
      have := hcell i (by omega)
      rw [← Go.WideShapes.add_plain, this]
      have hg : ss[i]? = some (ss.getD i ByteArray.empty) := by
        rw [List.getD_eq_getElem?_getD, List.getElem?_eq_getElem (by omega)]; rfl
      rw [hg] at hi
      simpa using hi
    · simp at hi

structure HRow.In (x : HRow) (W : World) : Prop where
  sl : Sl W (.slice x.2.1 x.1.names.length x.2.2) (x.1.names.map Value.string)
  cap : x.1.names.length ≤ x.2.2
  nl : x.1.names.length ≤ maxLen
  nm : x.1.name.size ≤ maxLen

set_option maxRecDepth 100000 in
theorem one_op {H : Type} {enc : TypeId × Value → H} {W : World} {n : Nat} {cs : List Value} {x : DataW H × List MemPlace}
    (h : DataW.trod enc Try.prog W 0 (fun _ => true) true n 37 cs = some x) : ∃ r : HRow, cs = hrow r ∧ r.In W := by
  obtain ⟨xs, k, _, hx, hl, hxl, hf⟩ := DataW.trod_struct Try.underlying37 h
  rw [show Try.prog.cellsOf 37 = 8 by kernel_rfl] at hl
  match cs, hl with
  | [v0, v1, v2, v3, v4, v5, v6, v7], _ =>
    have get : ∀ i : Nat, i < 8 → ∃ y, xs[i]? = some y := fun i hi => ⟨xs[i]'(by rw [hxl]; exact hi), List.getElem?_eq_getElem _⟩
    obtain ⟨y0, g0⟩ := get 0 (by omega)
    obtain ⟨y1, g1⟩ := get 1 (by omega)
    obtain ⟨y2, g2⟩ := get 2 (by omega)
    obtain ⟨y3, g3⟩ := get 3 (by omega)
    obtain ⟨y4, g4⟩ := get 4 (by omega)
    obtain ⟨y5, g5⟩ := get 5 (by omega)
    obtain ⟨y6, g6⟩ := get 6 (by omega)
    obtain ⟨y7, g7⟩ := get 7 (by omega)
    generalize hfs : (#[_, _, _, _, _, _, _, _] : Array Field) = fs at hf hxl
    have key : ∀ (i t o : Nat), (∃ f, fs[i]? = some f ∧ f.type = t ∧ f.offset = o) → Try.prog.cellsOf t = 1 → DataW.trod enc Try.prog W 0 (fun _ => true) true k t (([v0, v1, v2, v3, v4, v5, v6, v7].drop o).take 1) = xs[i]? := by
      rintro i t o ⟨f, hi, rfl, rfl⟩ hc
      rw [← hc]
      exact hf i f hi
    subst hfs
    have f0 : DataW.trod enc Try.prog W 0 (fun _ => true) true k 3 [v0] = some y0 := (key 0 3 0 ⟨_, rfl, rfl, rfl⟩ (by kernel_rfl)).trans g0
    have f1 : DataW.trod enc Try.prog W 0 (fun _ => true) true k 9 [v1] = some y1 := (key 1 9 1 ⟨_, rfl, rfl, rfl⟩ (by kernel_rfl)).trans g1
    have f2 : DataW.trod enc Try.prog W 0 (fun _ => true) true k 34 [v2] = some y2 := (key 2 34 2 ⟨_, rfl, rfl, rfl⟩ (by kernel_rfl)).trans g2
    have f3 : DataW.trod enc Try.prog W 0 (fun _ => true) true k 3 [v3] = some y3 := (key 3 3 3 ⟨_, rfl, rfl, rfl⟩ (by kernel_rfl)).trans g3
    have f4 : DataW.trod enc Try.prog W 0 (fun _ => true) true k 3 [v4] = some y4 := (key 4 3 4 ⟨_, rfl, rfl, rfl⟩ (by kernel_rfl)).trans g4
    have f5 : DataW.trod enc Try.prog W 0 (fun _ => true) true k 24 [v5] = some y5 := (key 5 24 5 ⟨_, rfl, rfl, rfl⟩ (by kernel_rfl)).trans g5
    have f6 : DataW.trod enc Try.prog W 0 (fun _ => true) true k 34 [v6] = some y6 := (key 6 34 6 ⟨_, rfl, rfl, rfl⟩ (by kernel_rfl)).trans g6
    have f7 : DataW.trod enc Try.prog W 0 (fun _ => true) true k 35 [v7] = some y7 := (key 7 35 7 ⟨_, rfl, rfl, rfl⟩ (by kernel_rfl)).trans g7
    obtain ⟨a0, e0, _, w0⟩ := DataW.trod_int Try.underlying3 f0
    obtain ⟨a1, e1, _, w1⟩ := DataW.trod_string Try.underlying9 f1
    obtain ⟨a2, e2, _, w2⟩ := DataW.trod_int Try.underlying34 f2
    obtain ⟨a3, e3, _, w3⟩ := DataW.trod_int Try.underlying3 f3
    obtain ⟨a4, e4, _, w4⟩ := DataW.trod_int Try.underlying3 f4
    obtain ⟨a5, e5, _, w5⟩ := DataW.trod_int Try.underlying24 f5
    obtain ⟨a6, e6, _, w6⟩ := DataW.trod_int Try.underlying34 f6
    obtain ⟨ss, hz1, hz2⟩ := texts_of_trod Try.underlying35 Try.underlying9 (by kernel_rfl) f7
    simp only [List.cons.injEq, and_true] at e0 e1 e2 e3 e4 e5 e6
    subst e0 e1 e2 e3 e4 e5 e6
    have b2 := bounds_u64 w2
    have b6 := bounds_u64 w6
    obtain ⟨n2, rfl⟩ := Int.eq_ofNat_of_zero_le b2.1
    obtain ⟨n6, rfl⟩ := Int.eq_ofNat_of_zero_le b6.1
    obtain ⟨hs1, A, c, hv, hcap, _⟩ := hz1
    rw [List.length_map] at hv hcap
    subst hv
    exact ⟨(⟨a0, a1, n2, a3, a4, a5, n6, ss⟩, A, c), rfl, hs1, hcap, hz2, w1⟩

/-- calls that came in -/
structure OpsIn (W : World) (l : List HRow) (v : Value) : Prop where
  ops : Sln W v 8 (l.map hrow)
  cap : ∃ A c, v = .slice A l.length c ∧ l.length ≤ c ∧ c ≤ maxLen
  row : ∀ x ∈ l, x.In W
  len : l.length ≤ maxLen
theorem OpsIn.few {W : World} {l : List HRow} {v : Value} (h : OpsIn W l v) : FewIn W l v where
  ops := h.ops
  rows := fun x hx => (h.row x hx).sl
  xn := fun x hx => (h.row x hx).nl
  xs := fun x hx => (h.row x hx).nm
  caps := fun x hx => (h.row x hx).cap
  len := h.len

set_option maxRecDepth 100000 in
theorem open_ops {H : Type} {enc : TypeId × Value → H} {W : World} {r : Reach} {b0 : Nat} {v : Value} {d : DataW H} {p : List MemPlace}
    (hv : Value.okWide Try.prog W r b0 22 v) (h : DataW.Trod enc Try.prog W 0 (fun _ => true) true 22 v d p) :
    ∃ l : List HRow, OpsIn W l v := by
  obtain ⟨a0, len0, cap0, rfl⟩ := okWide_slice Try.underlying22 hv
  obtain ⟨fuel, hf⟩ := h
  rcases Go.Deep.open_slice Try.underlying22 hf with ⟨hcs, _⟩ | ⟨a, len, cap, m, n, D, Pl, hcs, _, hl, hm, hmm, _, hx⟩
  · simp only [Value.cells, List.cons.injEq, and_true] at hcs
    rw [hcs]
    exact ⟨[], ⟨⟨none, 0, rfl, fun h => absurd rfl h⟩, ⟨none, 0, rfl, Nat.le_refl _, Nat.zero_le _⟩, by simp, Nat.zero_le _⟩⟩
  · simp only [Value.cells, List.cons.injEq, and_true] at hcs
    rw [hcs]
    have hlm : len ≤ m := by rw [hmm]; split <;> omega
    have each : ∀ i, i < len → ∃ x : HRow, (∀ (j : Nat) (u : Value), (hrow x)[j]? = some u → W.cell? (a.add (i * 8 + j)) = some u) ∧ x.In W := fun i hi => by
      obtain ⟨cs', h1, h2⟩ := hx i (by omega)
      rw [show Try.prog.cellsOf 37 = 8 by kernel_rfl] at h1
      obtain ⟨_, hlen, hcell⟩ := World.cells?_some h1
      obtain ⟨x, rfl, hok⟩ := one_op h2
      refine ⟨x, fun j u hj => ?_, hok⟩
      have hj7 : j < 8 := by
        have := (List.getElem?_eq_some_iff.1 hj).1
        exact this
      have := hcell j hj7
      rw [Go.Deep.add_add] at this
      rw [this, hj]
    haveI : Inhabited HRow := ⟨hz⟩
    obtain ⟨f, hfx⟩ := Go.Deep.choose_lt each
    refine ⟨(List.range len).map f, ⟨some a, cap, by simp, fun hne => ?_⟩, ⟨some a, cap, by simp, by simp; omega, by omega⟩, ?_, by simp; omega⟩
    · have hpos : 0 < len := by
        rcases Nat.eq_zero_or_pos len with h0 | h0
        · subst h0; exact absurd rfl hne
        · exact h0
      obtain ⟨b, off, spot⟩ := a
      have hspot : spot = none := by
        have := (hfx 0 hpos).1 0 _ rfl
        simpa [Addr.add] using World.cell?_spot this
      subst hspot
      refine ⟨b, off, rfl, fun i row hi j u hj => ?_⟩
      rw [List.map_map, List.getElem?_map] at hi
      by_cases hlt : i < len
      · rw [List.getElem?_range hlt] at hi
        simp only [Option.map_some, Option.some.injEq, Function.comp_apply] at hi
        subst hi
        have := (hfx i hlt).1 j u hj
        rw [Go.WideShapes.add_plain] at this
        rw [Nat.add_assoc]
        exact this
      · rw [List.getElem?_eq_none (by simpa using hlt)] at hi
        cases hi
    · intro x hx
      obtain ⟨i, hi, rfl⟩ := List.mem_map.1 hx
      exact (hfx i (List.mem_range.1 hi)).2
end Go.Proofs.Ytlodaffiamegpaa
