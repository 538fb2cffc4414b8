/-
  Part 18 of what the law leans on.
-/
import Derived.Test.YtapodcmjggmgmaaGreatDoorST17
set_option linter.unusedVariables false
set_option linter.unusedSimpArgs false
set_option linter.unusedSectionVars false
namespace Go.Proofs.YtapodcmjggmgmaaGreatDoor
open Go.RowKit Go.Sort
theorem ofnat_mem {l : List Nat} {i : Nat} : (Int.ofNat i) ∈ l.map Int.ofNat ↔ i ∈ l := by
  constructor
  · intro h
    obtain ⟨j, hj, e⟩ := List.mem_map.1 h
    cases e; exact hj
  · exact fun h => List.mem_map_of_mem h
section
variable {w0 w w' : World} {A : FixA} {K : Nat → Ks} {M : Nat → List (Nat × ByteArray)} {B : Nat} {U U' : Nat → Int} {x : Nat × ByteArray} {rb : Nat} {hv : List Nat} {rf : Nat → Bool}
end
def lenV : Value → Nat | .slice _ n _ => n | _ => 0
end Go.Proofs.YtapodcmjggmgmaaGreatDoor
namespace Go.Proofs.YtapodcmjggmgmaaGreatDoor
open Go.RowKit Go.Sort
theorem own_cell {w : World} {base : Nat} {e : TypeId} {size g n cap : Nat} {xs : List Value} (h : w.ownsRow base e size (.slice (some ⟨g, 0, none⟩) n cap) n xs) {j : Nat} {x : Value} (hj : xs[j]? = some x) : w.cell? ⟨g, j, none⟩ = some x := by
  rcases h.2 with ⟨h2, _⟩ | ⟨g', cap', cur, h2, h3, h4, h5, h6, h7, h8⟩
  · cases h2
  · simp only [Value.slice.injEq, Option.some.injEq, Addr.mk.injEq, and_true, true_and] at h2
    obtain ⟨rfl, rfl⟩ := h2
    have hA : At w g e cur := h4
    have hc := hA.cell j
    rw [hc]
    rw [← h8, List.getElem?_take] at hj
    split at hj
    · simpa using hj
    · cases hj
theorem Sl.pick {w : World} {A : Option Addr} {n c : Nat} {xs : List Value} (h : Sl w (.slice A n c) xs) {k : Nat} {x : Value} (hk : xs[k]? = some x) : ∃ b o, A = some ⟨b, o, none⟩ ∧ w.cell? ⟨b, o + k, none⟩ = some x := by
  obtain ⟨A', c', hv, hx⟩ := h
  obtain ⟨b, o, rfl, hc⟩ := hx (fun e => by subst e; cases hk)
  simp only [Value.slice.injEq] at hv
  exact ⟨b, o, hv.1, hc k x hk⟩
theorem split_at {l : List Nat} {k i : Nat} (h : l[k]? = some i) (hn : l.Nodup) : i ∈ l ∧ l.take (k + 1) = l.take k ++ [i] ∧ l.drop k = i :: l.drop (k + 1) ∧ i ∉ l.take k ∧ i ∉ l.drop (k + 1) := by
  have hk : k < l.length := (List.getElem?_eq_some_iff.1 h).1
  have h1 : l.take (k + 1) = l.take k ++ [i] := by rw [List.take_add_one, h]; rfl
  have h2 : l.drop k = i :: l.drop (k + 1) := by
    rw [List.drop_eq_getElem_cons hk]
    rw [List.getElem?_eq_getElem hk] at h
    rw [Option.some.inj h]
  have h3 : l = l.take k ++ i :: l.drop (k + 1) := by rw [← h2, List.take_append_drop]
  have hn2 := hn
  rw [h3] at hn2
  obtain ⟨_, b, c⟩ := List.nodup_append.1 hn2
  exact ⟨List.mem_of_getElem? h, h1, h2, fun hm => c i hm i (List.mem_cons_self ..) rfl, (List.nodup_cons.1 b).1⟩
theorem one_lenI (xs : List Value) : ∀ r ∈ xs.map (fun x => [x]), r.length = 1 := by
  intro r hr
  obtain ⟨x, _, rfl⟩ := List.mem_map.1 hr
  rfl
theorem ints_oneI (l : List Int) : ∀ r ∈ (l.map (Value.int .i64)).map (fun x => [x]), r.all Value.oneCell' = true := by
  intro r hr
  obtain ⟨x, hx, rfl⟩ := List.mem_map.1 hr
  obtain ⟨y, _, rfl⟩ := List.mem_map.1 hx
  simp [Value.oneCell']
theorem nodup_len : ∀ {l m : List Nat}, l.Nodup → (∀ x ∈ l, x ∈ m) → l.length ≤ m.length
  | [], m, _, _ => by simp
  | x :: l, m, hn, hs => by
    have hx := hs x (List.mem_cons_self ..)
    obtain ⟨h1, h2⟩ := List.nodup_cons.1 hn
    have h3 := nodup_len (l := l) (m := m.erase x) h2 (fun y hy => (List.mem_erase_of_ne (fun e : y = x => h1 (e ▸ hy))).2 (hs y (List.mem_cons_of_mem _ hy)))
    rw [List.length_erase_of_mem hx] at h3
    have := List.length_pos_of_mem hx
    simp; omega
theorem own_lt {w : World} {base : Nat} {e : TypeId} {size : Nat} {v : Value} {n : Nat} {xs : List Value} (h : w.ownsRow base e size v n xs) : ∀ k, some k = v.ownBlock → k < w.heap.size := by
  intro k hk
  rcases h.2 with ⟨rfl, _⟩ | ⟨g, cap, cur, rfl, _, hg, _⟩
  · cases hk
  · cases hk
    have hA : At w g e cur := hg
    exact hA.lt
theorem sln_own {w : World} {base : Nat} {e : TypeId} {v : Value} {n : Nat} {l : List Spot} (h : w.ownsRow base e 2 v n ((l.map Spot.cells).flatten)) (hn : l.length = n) : Sln w v 2 (l.map Spot.cells) :=
  Sln.of_own h (fun r hr => by obtain ⟨s, _, rfl⟩ := List.mem_map.1 hr; rfl) (by simpa using hn)
end Go.Proofs.YtapodcmjggmgmaaGreatDoor
namespace Go.Proofs.YtapodcmjggmgmaaGreatDoor
open Go.RowKit Go.Sort
end Go.Proofs.YtapodcmjggmgmaaGreatDoor
