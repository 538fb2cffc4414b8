/-
  A slice of rows: elements of more cells than one.
-/
import Derived.Test.YtchnejfdompfpaaSlices
namespace Go.Proofs.Ytchnejfdompfpaa
open Go.RowKit

/-- The slice value v holds the rows xs, each of so many cells. -/
def Sln (w : World) (v : Value) (size : Nat) (xs : List (List Value)) : Prop :=
  ∃ A c, v = .slice A xs.length c ∧ (xs ≠ [] → ∃ b o, A = some ⟨b, o, none⟩ ∧ ∀ (i : Nat) (row : List Value), xs[i]? = some row → ∀ (j : Nat) (x : Value), row[j]? = some x → w.cell? ⟨b, o + i * size + j, none⟩ = some x)
section
variable {S : Nat → Prop} {w w' : World} {v : Value} {size : Nat} {xs : List (List Value)}
theorem Sln.block_lt (h : Sln w v size xs) (hr : ∀ r ∈ xs, r ≠ []) : ∀ b o n c, v = .slice (some ⟨b, o, none⟩) n c → xs ≠ [] → b < w.heap.size := by
  rintro b o n c rfl hne
  obtain ⟨A, c', hv, hx⟩ := h
  obtain ⟨b', o', rfl, hc⟩ := hx hne
  simp only [Value.slice.injEq, Option.some.injEq, Addr.mk.injEq, and_true] at hv
  obtain ⟨⟨rfl, rfl⟩, _, _⟩ := hv
  obtain ⟨r, rs, rfl⟩ := List.exists_cons_of_ne_nil hne
  obtain ⟨x, ys, hxy⟩ := List.exists_cons_of_ne_nil (hr r (List.mem_cons_self ..))
  have := hc 0 r rfl 0 x (by rw [hxy]; rfl)
  exact cell_lt this
theorem Sln.chg (h : Sln w v size xs) (he : Chg S w w') (hS : ∀ b o n c, v = .slice (some ⟨b, o, none⟩) n c → xs ≠ [] → ¬ S b) : Sln w' v size xs := by
  obtain ⟨A, c, hv, hx⟩ := h
  refine ⟨A, c, hv, fun hn => ?_⟩
  obtain ⟨b, o, rfl, hc⟩ := hx hn
  refine ⟨b, o, rfl, fun i row hi j x hj => ?_⟩
  have h0 := hc i row hi j x hj
  exact (he.cell (p := ⟨b, o + i * size + j, none⟩) (cell_lt h0) (hS _ _ _ _ hv hn)).trans h0
theorem Sln.ext (h : Sln w v size xs) (he : Ext w w') : Sln w' v size xs := Sln.chg h he fun _ _ _ _ _ _ hh => hh
/-- the first rows -/
theorem Sln.pre {A : Option Addr} {n c c' k : Nat} (h : Sln w (.slice A n c) size xs) (hk : k ≤ n) : Sln w (.slice A k c') size (xs.take k) := by
  obtain ⟨A', c1, hv, hx⟩ := h
  simp only [Value.slice.injEq] at hv
  obtain ⟨rfl, rfl, rfl⟩ := hv
  refine ⟨A, c', by rw [List.length_take, Nat.min_eq_left hk], fun hn => ?_⟩
  have hne : xs ≠ [] := fun e => hn (by rw [e, List.take_nil])
  obtain ⟨b, o, rfl, hc⟩ := hx hne
  refine ⟨b, o, rfl, fun i row hi => hc i row ?_⟩
  rw [List.getElem?_take] at hi
  split at hi
  · exact hi
  · cases hi
theorem flat_get : ∀ {rows : List (List Value)} {size : Nat} (_ : ∀ r ∈ rows, r.length = size) {i j : Nat} {row : List Value} {x : Value}, rows[i]? = some row → row[j]? = some x → rows.flatten[i * size + j]? = some x
  | [], _, _, _, _, _, _, hi, _ => by cases hi
  | r :: rs, size, h, 0, j, row, x, hi, hj => by
    simp only [List.getElem?_cons_zero, Option.some.injEq] at hi
    subst hi
    have hl := h r (List.mem_cons_self ..)
    have hjl : j < r.length := (List.getElem?_eq_some_iff.1 hj).1
    rw [Nat.zero_mul, Nat.zero_add, List.flatten_cons, List.getElem?_append_left hjl]
    exact hj
  | r :: rs, size, h, i + 1, j, row, x, hi, hj => by
    have hl := h r (List.mem_cons_self ..)
    rw [List.getElem?_cons_succ] at hi
    rw [List.flatten_cons, List.getElem?_append_right (by rw [hl, Nat.add_mul]; omega), hl, show (i + 1) * size + j - size = i * size + j by rw [Nat.add_mul]; omega]
    exact flat_get (fun r hr => h r (List.mem_cons_of_mem _ hr)) hi hj
theorem Sln.of_own {base : Nat} {e : TypeId} {n : Nat} (h : w.ownsRow base e size v n xs.flatten) (hr : ∀ r ∈ xs, r.length = size) (hn : xs.length = n) : Sln w v size xs := by
  rcases h.2 with ⟨rfl, h0⟩ | ⟨g, cap, cur, rfl, hb, hg, h1, h2, h3, h4⟩
  · obtain rfl : xs = [] := List.eq_nil_of_length_eq_zero (by omega)
    exact ⟨none, 0, rfl, fun hh => absurd rfl hh⟩
  · refine ⟨some ⟨g, 0, none⟩, cap, by rw [hn], fun _ => ⟨g, 0, rfl, fun i row hi j x hj => ?_⟩⟩
    have h5 := flat_get hr hi hj
    rw [← h4, List.getElem?_take] at h5
    split at h5
    · rw [World.cell?, hg]
      simpa using h5
    · cases h5
end
end Go.Proofs.Ytchnejfdompfpaa
