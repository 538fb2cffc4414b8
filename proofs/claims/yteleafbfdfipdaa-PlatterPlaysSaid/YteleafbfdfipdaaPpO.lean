/-
  An argument that is a slice of Acts, opened as a list, with what their own slices hold.
-/
import Derived.Test.YteleafbfdfipdaaActs
import Derived.Test.YteleafbfdfipdaaOpen
import Derived.Test.YteleafbfdfipdaaLeft
import Derived.Test.YteleafbfdfipdaaPost
import Derived.Deep.Slices
namespace Go.Proofs.Yteleafbfdfipdaa
open Go.ChangeShapes Go.WideShapes Go.ChangeAt Go.RowKit

/-- what a call's slices hold -/
structure ActIn (W : World) (x : Act) (ms : List ByteArray) (ch : List Int) (b : UInt8) : Prop where
  ok : x.Ok
  more : Sl W (.slice x.more.1 x.more.2.1 x.more.2.2) (ms.map Value.string)
  msz : ∀ n ∈ ms, n.size ≤ maxLen
  mlen : ms.length ≤ 9223372036854775807
  choice : Sl W (.slice x.choice.1 x.choice.2.1 x.choice.2.2) (ch.map (Value.int .i64))
  crg : ∀ x ∈ ch, I64 x
  clen : ch.length ≤ 9223372036854775807
  byte : x.by_ = (b.toNat : Int)
theorem ActIn.ext {W W' : World} {x : Act} {ms : List ByteArray} {ch : List Int} {b : UInt8} (h : ActIn W x ms ch b) (hE : Ext W W') : ActIn W' x ms ch b := ⟨h.ok, h.more.ext hE, h.msz, h.mlen, h.choice.ext hE, h.crg, h.clen, h.byte⟩
section
variable {H : Type} {enc : TypeId × Value → H} {P : Program} {W : World}
theorem in_texts {t e : TypeId} {k : Nat} {v : Value} {y : DataW H × List MemPlace} (ht : P.underlying t = some (.slice e)) (he : P.underlying e = some .string) (hc : P.cellsOf e = 1)
    (hf : DataW.trod enc P W 0 (fun _ => true) true k t [v] = some y) : ∃ (m : Option Addr × Nat × Nat) (ss : List ByteArray), v = .slice m.1 m.2.1 m.2.2 ∧ Sl W v (ss.map Value.string) ∧ (∀ s ∈ ss, s.size ≤ maxLen) ∧ ss.length ≤ 9223372036854775807 := by
  rcases open_strings ht he hc hf with ⟨hcs, _⟩ | ⟨a, len, cap, ss, hcs, _, hl, hm, hz, _, hcell, hwz⟩
  · simp only [List.cons.injEq, and_true] at hcs
    rw [hcs]
    exact ⟨(none, 0, 0), [], rfl, Sl.nil _ _, by simp, Nat.zero_le _⟩
  · simp only [List.cons.injEq, and_true] at hcs
    rw [hcs]
    simp only [if_true] at hz
    have hll : (ss.take len).length = len := by rw [List.length_take]; omega
    refine ⟨(some a, len, cap), ss.take len, rfl, ⟨some a, cap, by rw [List.length_map, hll], fun hne => ?_⟩, fun x hx => hwz x (List.mem_of_mem_take hx), by unfold maxLen at *; omega⟩
    have hpos : 0 < ss.length := by
      rcases Nat.eq_zero_or_pos ss.length with h0 | h0
      · exact absurd (by rw [List.eq_nil_of_length_eq_zero h0]; simp) hne
      · exact h0
    obtain ⟨b, off, spot⟩ := a
    have hspot : spot = none := by simpa [Addr.add] using World.cell?_spot (hcell 0 hpos)
    subst hspot
    refine ⟨b, off, rfl, fun i x hi => ?_⟩
    rw [List.getElem?_map, List.getElem?_take] at hi
    split at hi
    · rename_i hlt
      have := hcell i (by omega)
      rw [← Go.WideShapes.add_plain, this]
      have hg : ss[i]? = some (ss.getD i ByteArray.empty) := by
        rw [List.getD_eq_getElem?_getD, List.getElem?_eq_getElem (by omega)]; rfl
      rw [hg] at hi
      simpa using hi
    · simp at hi
theorem in_i64s {t e : TypeId} {k : Nat} {v : Value} {y : DataW H × List MemPlace} (ht : P.underlying t = some (.slice e)) (he : P.underlying e = some (.int .i64)) (hc : P.cellsOf e = 1)
    (hf : DataW.trod enc P W 0 (fun _ => true) true k t [v] = some y) : ∃ (m : Option Addr × Nat × Nat) (zs : List Int), v = .slice m.1 m.2.1 m.2.2 ∧ Sl W v (zs.map (Value.int .i64)) ∧ (∀ x ∈ zs, I64 x) ∧ zs.length ≤ 9223372036854775807 := by
  rcases open_ints ht he hc hf with ⟨hcs, _⟩ | ⟨a, len, cap, zs, hcs, _, hl, hm, hz, _, hcell, hwz⟩
  · simp only [List.cons.injEq, and_true] at hcs
    rw [hcs]
    exact ⟨(none, 0, 0), [], rfl, Sl.nil _ _, by simp, Nat.zero_le _⟩
  · simp only [List.cons.injEq, and_true] at hcs
    rw [hcs]
    simp only [if_true] at hz
    have hll : (zs.take len).length = len := by rw [List.length_take]; omega
    refine ⟨(some a, len, cap), zs.take len, rfl, ⟨some a, cap, by rw [List.length_map, hll], fun hne => ?_⟩, fun x hx => bounds_i64 (hwz x (List.mem_of_mem_take hx)), by unfold maxLen at *; omega⟩
    have hpos : 0 < zs.length := by
      rcases Nat.eq_zero_or_pos zs.length with h0 | h0
      · exact absurd (by rw [List.eq_nil_of_length_eq_zero h0]; simp) hne
      · exact h0
    obtain ⟨b, off, rfl, hat⟩ := ints_at hcell hpos
    refine ⟨b, off, rfl, fun i x hi => ?_⟩
    rw [List.getElem?_map, List.getElem?_take] at hi
    split at hi
    · rename_i hlt
      have := hat i (by omega)
      rw [this]
      have hg : zs[i]? = some (zs.getD i 0) := by
        rw [List.getD_eq_getElem?_getD, List.getElem?_eq_getElem (by omega)]; rfl
      rw [hg] at hi
      simpa using hi
    · simp at hi
end
set_option maxRecDepth 100000 in
theorem one_act {H : Type} {enc : TypeId × Value → H} {W : World} {n : Nat} {cs : List Value} {x : DataW H × List MemPlace}
    (h : DataW.trod enc Try.prog W 0 (fun _ => true) true n 37 cs = some x) : ∃ a : Act, cs = a.cells ∧ ∃ ms ch b, ActIn W a ms ch b := by
  obtain ⟨xs, k, _, _, hl, hxl, hf⟩ := DataW.trod_struct Try.underlying37 h
  rw [show Try.prog.cellsOf 37 = 7 by kernel_rfl] at hl
  match cs, hl with
  | [v0, v1, v2, v3, v4, v5, v6], _ =>
    have c3 : Try.prog.cellsOf 3 = 1 := by kernel_rfl
    have c9 : Try.prog.cellsOf 9 = 1 := by kernel_rfl
    have c34 : Try.prog.cellsOf 34 = 1 := by kernel_rfl
    have c30 : Try.prog.cellsOf 35 = 1 := by kernel_rfl
    have c5 : Try.prog.cellsOf 5 = 1 := by kernel_rfl
    have get : ∀ i : Nat, i < 7 → ∃ y, xs[i]? = some y := fun i hi => ⟨xs[i]'(by rw [hxl]; exact hi), List.getElem?_eq_getElem _⟩
    obtain ⟨y0, g0⟩ := get 0 (by omega)
    obtain ⟨y1, g1⟩ := get 1 (by omega)
    obtain ⟨y2, g2⟩ := get 2 (by omega)
    obtain ⟨y3, g3⟩ := get 3 (by omega)
    obtain ⟨y4, g4⟩ := get 4 (by omega)
    obtain ⟨y5, g5⟩ := get 5 (by omega)
    obtain ⟨y6, g6⟩ := get 6 (by omega)
    generalize hfs : (#[_, _, _, _, _, _, _] : Array Field) = fs at hf hxl
    have key : ∀ (i t o : Nat), (∃ f, fs[i]? = some f ∧ f.type = t ∧ f.offset = o) → Try.prog.cellsOf t = 1 → DataW.trod enc Try.prog W 0 (fun _ => true) true k t (([v0, v1, v2, v3, v4, v5, v6].drop o).take 1) = xs[i]? := by
      rintro i t o ⟨f, hi, rfl, rfl⟩ hc
      rw [← hc]
      exact hf i f hi
    subst hfs
    have f0 : DataW.trod enc Try.prog W 0 (fun _ => true) true k 3 [v0] = some y0 := (key 0 3 0 ⟨_, rfl, rfl, rfl⟩ c3).trans g0
    have f1 : DataW.trod enc Try.prog W 0 (fun _ => true) true k 3 [v1] = some y1 := (key 1 3 1 ⟨_, rfl, rfl, rfl⟩ c3).trans g1
    have f2 : DataW.trod enc Try.prog W 0 (fun _ => true) true k 9 [v2] = some y2 := (key 2 9 2 ⟨_, rfl, rfl, rfl⟩ c9).trans g2
    have f3 : DataW.trod enc Try.prog W 0 (fun _ => true) true k 9 [v3] = some y3 := (key 3 9 3 ⟨_, rfl, rfl, rfl⟩ c9).trans g3
    have f4 : DataW.trod enc Try.prog W 0 (fun _ => true) true k 34 [v4] = some y4 := (key 4 34 4 ⟨_, rfl, rfl, rfl⟩ c34).trans g4
    have f5 : DataW.trod enc Try.prog W 0 (fun _ => true) true k 35 [v5] = some y5 := (key 5 35 5 ⟨_, rfl, rfl, rfl⟩ c30).trans g5
    have f6 : DataW.trod enc Try.prog W 0 (fun _ => true) true k 5 [v6] = some y6 := (key 6 5 6 ⟨_, rfl, rfl, rfl⟩ c5).trans g6
    obtain ⟨a0, e0, _, _⟩ := DataW.trod_int Try.underlying3 f0
    obtain ⟨a1, e1, _, w1⟩ := DataW.trod_int Try.underlying3 f1
    obtain ⟨a2, e2, _, w2⟩ := DataW.trod_string Try.underlying9 f2
    obtain ⟨a3, e3, _, w3⟩ := DataW.trod_string Try.underlying9 f3
    obtain ⟨m4, ms, e4, hS4, hz4, hl4⟩ := in_texts Try.underlying34 Try.underlying9 c9 f4
    obtain ⟨m5, ch, e5, hS5, hz5, hl5⟩ := in_i64s Try.underlying35 Try.underlying3 (by kernel_rfl) f5
    obtain ⟨a6, e6, _, w6⟩ := DataW.trod_int Try.underlying5 f6
    subst e4 e5
    simp only [List.cons.injEq, and_true] at e0 e1 e2 e3 e6
    subst e0 e1 e2 e3 e6
    have hb6 := bounds_u8 w6
    exact ⟨⟨a0, a1, a2, a3, m4, m5, a6⟩, rfl, ms, ch, UInt8.ofNat a6.toNat, ⟨⟨bounds_i64 w1, w2, w3⟩, hS4, hz4, hl4, hS5, hz5, hl5, by simp [UInt8.toNat_ofNat]; omega⟩⟩

set_option maxRecDepth 100000 in
theorem open_acts {H : Type} {enc : TypeId × Value → H} {W : World} {r : Reach} {b0 : Nat} {v : Value} {d : DataW H} {p : List MemPlace}
    (hv : Value.okWide Try.prog W r b0 22 v) (h : DataW.Trod enc Try.prog W 0 (fun _ => true) true 22 v d p) :
    ∃ acts : List Act, Sln W v 7 (acts.map Act.cells) ∧ (∀ x ∈ acts, ∃ ms ch b, ActIn W x ms ch b) ∧ acts.length ≤ maxLen := by
  obtain ⟨a0, len0, cap0, rfl⟩ := okWide_slice Try.underlying22 hv
  obtain ⟨fuel, hf⟩ := h
  rcases Go.Deep.open_slice Try.underlying22 hf with ⟨hcs, _⟩ | ⟨a, len, cap, m, n, D, Pl, hcs, _, hl, hm, hmm, _, hx⟩
  · simp only [Value.cells, List.cons.injEq, and_true] at hcs
    rw [hcs]
    exact ⟨[], ⟨none, 0, rfl, fun h => absurd rfl h⟩, by simp, Nat.zero_le _⟩
  · simp only [Value.cells, List.cons.injEq, and_true] at hcs
    rw [hcs]
    have hlm : len ≤ m := by rw [hmm]; split <;> omega
    have each : ∀ i, i < len → ∃ x : Act, (∀ (j : Nat) (u : Value), x.cells[j]? = some u → W.cell? (a.add (i * 7 + j)) = some u) ∧ ∃ ms ch b, ActIn W x ms ch b := fun i hi => by
      obtain ⟨cs', h1, h2⟩ := hx i (by omega)
      rw [show Try.prog.cellsOf 37 = 7 by kernel_rfl] at h1
      obtain ⟨_, hlen, hcell⟩ := World.cells?_some h1
      obtain ⟨x, rfl, hok⟩ := one_act h2
      refine ⟨x, fun j u hj => ?_, hok⟩
      have hj7 : j < 7 := by
        have := (List.getElem?_eq_some_iff.1 hj).1
        exact this
      have := hcell j hj7
      rw [Go.Deep.add_add] at this
      rw [this, hj]
    haveI : Inhabited Act := ⟨⟨0, 0, ByteArray.empty, ByteArray.empty, (none, 0, 0), (none, 0, 0), 0⟩⟩
    obtain ⟨f, hfx⟩ := Go.Deep.choose_lt each
    refine ⟨(List.range len).map f, ⟨some a, cap, by simp, fun hne => ?_⟩, ?_, by simp; omega⟩
    · have hpos : 0 < len := by
        rcases Nat.eq_zero_or_pos len with h0 | h0
        · subst h0; exact absurd rfl hne
        · exact h0
      obtain ⟨b, off, spot⟩ := a
      have hspot : spot = none := by
        have := (hfx 0 hpos).1 0 _ rfl
        simpa [Addr.add] using World.cell?_spot this
      subst hspot
      refine ⟨b, off, rfl, fun i row hi j u hj => ?_⟩
      rw [List.map_map, List.getElem?_map] at hi
      by_cases hlt : i < len
      · rw [List.getElem?_range hlt] at hi
        simp only [Option.map_some, Option.some.injEq, Function.comp_apply] at hi
        subst hi
        have := (hfx i hlt).1 j u hj
        rw [Go.WideShapes.add_plain] at this
        rw [Nat.add_assoc]
        exact this
      · rw [List.getElem?_eq_none (by simpa using hlt)] at hi
        cases hi
    · intro x hx
      obtain ⟨i, hi, rfl⟩ := List.mem_map.1 hx
      exact (hfx i (List.mem_range.1 hi)).2
end Go.Proofs.Yteleafbfdfipdaa
