/-
  Commands that came in, with what reach says of their lists.
-/
import Derived.Test.YtimjipcplmnpbaaGreatOpenCmd
namespace Go.Proofs.YtimjipcplmnpbaaGreat
open Go.ChangeShapes Go.WideShapes Go.ChangeAt Go.RowKit

theorem mem_weightsAll {H : Type} {P : Program} {e : TypeId} {n : Nat} {y : DataW H} : ∀ {l : List (DataW H)}, y ∈ l → n ∈ y.weights P e → n ∈ DataW.weightsAll P e l
  | d :: r, h, hn => by
    unfold DataW.weightsAll
    rcases List.mem_cons.1 h with rfl | h
    · exact List.mem_append_left _ hn
    · exact List.mem_append_right _ (mem_weightsAll h hn)
set_option maxRecDepth 100000 in
theorem open_cmds_s {H : Type} {enc : TypeId × Value → H} {W : World} {r : Reach} {b0 : Nat} {v : Value} {d : DataW H} {p : List MemPlace}
    (hv : Value.okWide Tryz.prog W r b0 22 v) (h : DataW.Trod enc Tryz.prog W 0 (fun _ => true) true 22 v d p) :
    ∃ l : List CRow, CmdsIn W l v ∧ ((∀ n ∈ d.weights Tryz.prog 22, n ≤ reachBytes) → ∀ x ∈ l, x.1.disks.length ≤ 17592186043904) := by
  obtain ⟨a0, len0, cap0, rfl⟩ := okWide_slice Tryz.underlying22 hv
  obtain ⟨fuel, hf⟩ := h
  rcases Go.Deep.open_slice Tryz.underlying22 hf with ⟨hcs, _⟩ | ⟨a, len, cap, m, n, D, Pl, hcs, _, hl, hm, hmm, hd, hx⟩
  · simp only [Value.cells, List.cons.injEq, and_true] at hcs
    rw [hcs]
    exact ⟨[], ⟨⟨none, 0, rfl, fun h => absurd rfl h⟩, ⟨none, 0, rfl, Nat.le_refl _, Nat.zero_le _⟩, by simp, Nat.zero_le _⟩, fun _ x hx => by cases hx⟩
  · simp only [Value.cells, List.cons.injEq, and_true] at hcs
    rw [hcs]
    have hlm : len ≤ m := by rw [hmm]; split <;> omega
    have each : ∀ i, i < len → ∃ x : CRow, (∀ (j : Nat) (u : Value), (crow x)[j]? = some u → W.cell? (a.add (i * 11 + j)) = some u) ∧ x.1.In x.2 W ∧ ((∀ n ∈ (D i).weights Tryz.prog 32, n ≤ reachBytes) → x.1.disks.length ≤ 17592186043904) := fun i hi => by
      obtain ⟨cs', h1, h2⟩ := hx i (by omega)
      rw [show Tryz.prog.cellsOf 32 = 11 by kernel_rfl] at h1
      obtain ⟨_, hlen, hcell⟩ := World.cells?_some h1
      obtain ⟨x, dv, rfl, hok, hsz⟩ := one_cmd h2
      refine ⟨(x, dv), fun j u hj => ?_, hok, hsz⟩
      have hj7 : j < 11 := by
        have := (List.getElem?_eq_some_iff.1 hj).1
        exact this
      have := hcell j hj7
      rw [Go.Deep.add_add] at this
      rw [this]
      exact hj
    haveI : Inhabited CRow := ⟨(⟨0, 0, 0, ⟨#[]⟩, 0, 0, 0, [], 0, 0, 0⟩, .bool true)⟩
    obtain ⟨f, hfx⟩ := Go.Deep.choose_lt each
    refine ⟨(List.range len).map f, ⟨⟨some a, cap, by simp, fun hne => ?_⟩, ⟨some a, cap, by simp, by simp; omega, by omega⟩, ?_, by simp; omega⟩, ?_⟩
    · have hpos : 0 < len := by
        rcases Nat.eq_zero_or_pos len with h0 | h0
        · subst h0; exact absurd rfl hne
        · exact h0
      obtain ⟨b, off, spot⟩ := a
      have hspot : spot = none := by
        have := (hfx 0 hpos).1 0 _ rfl
        simpa [Addr.add] using World.cell?_spot this
      subst hspot
      refine ⟨b, off, rfl, fun i row hi j u hj => ?_⟩
      rw [List.map_map, List.getElem?_map] at hi
      by_cases hlt : i < len
      · rw [List.getElem?_range hlt] at hi
        simp only [Option.map_some, Option.some.injEq, Function.comp_apply] at hi
        subst hi
        have := (hfx i hlt).1 j u hj
        rw [Go.WideShapes.add_plain] at this
        rw [Nat.add_assoc]
        exact this
      · rw [List.getElem?_eq_none (by simpa using hlt)] at hi
        cases hi
    · intro x hx
      obtain ⟨i, hi, rfl⟩ := List.mem_map.1 hx
      exact (hfx i (List.mem_range.1 hi)).2.1
    · intro hw x hx
      obtain ⟨i, hi, rfl⟩ := List.mem_map.1 hx
      refine (hfx i (List.mem_range.1 hi)).2.2 fun n hn => hw n ?_
      have hd1 : d = .slice ((List.range len).map D) ((List.range (m - len)).map fun j => D (len + j)) := congrArg Prod.fst hd
      rw [hd1]
      simp only [DataW.weights, Tryz.underlying22]
      exact List.mem_cons_of_mem _ (List.mem_append_left _ (mem_weightsAll (List.mem_map.2 ⟨i, hi, rfl⟩) hn))
end Go.Proofs.YtimjipcplmnpbaaGreat
