/-
  Lists of keys and values that rise: put, del, get. Plain.
-/
import Derived.Test.YtchnejfdompfpaaBase
namespace Go.Proofs.Ytchnejfdompfpaa

/-- A strict order that is total. -/
structure Ordd {κ : Type} (lt : κ → κ → Bool) : Prop where
  irr : ∀ a, lt a a = false
  tr : ∀ {a b c}, lt a b = true → lt b c = true → lt a c = true
  tot : ∀ {a b}, lt a b = false → lt b a = false → a = b

section
variable {κ ν : Type} [DecidableEq κ] (lt : κ → κ → Bool)

def Rises (L : List (κ × ν)) : Prop := L.Pairwise fun p q => lt p.1 q.1 = true

def lput (k : κ) (v : ν) : List (κ × ν) → List (κ × ν)
  | [] => [(k, v)]
  | p :: r => if lt k p.1 then (k, v) :: p :: r else if lt p.1 k then p :: lput k v r else (k, v) :: r

variable {lt} (O : Ordd lt)
theorem Rises.del {L : List (κ × ν)} (h : Rises lt L) (k : κ) : Rises lt (ldel k L) := h.filter _
include O
omit [DecidableEq κ] in
theorem Rises.nodup {L : List (κ × ν)} (h : Rises lt L) : (L.map (·.1)).Nodup := by
  refine List.pairwise_map.2 (h.imp fun {a b} hab e => ?_)
  rw [e, O.irr] at hab; cases hab
omit [DecidableEq κ] O in
theorem mem_lput {k : κ} {v : ν} : ∀ {L : List (κ × ν)} {p : κ × ν}, p ∈ lput lt k v L → p = (k, v) ∨ p ∈ L
  | [], p, h => by simpa [lput] using h
  | q :: r, p, h => by
    unfold lput at h
    split at h
    · rcases List.mem_cons.1 h with h | h
      · exact .inl h
      · exact .inr h
    · split at h
      · rcases List.mem_cons.1 h with h | h
        · exact .inr (h ▸ List.mem_cons_self ..)
        · rcases mem_lput h with h | h
          · exact .inl h
          · exact .inr (List.mem_cons_of_mem _ h)
      · rcases List.mem_cons.1 h with h | h
        · exact .inl h
        · exact .inr (List.mem_cons_of_mem _ h)
omit [DecidableEq κ] in
theorem Rises.put {k : κ} {v : ν} : ∀ {L : List (κ × ν)}, Rises lt L → Rises lt (lput lt k v L)
  | [], _ => by simp [lput, Rises]
  | q :: r, h => by
    obtain ⟨h1, h2⟩ := List.pairwise_cons.1 h
    unfold lput
    split
    · rename_i hk
      refine List.pairwise_cons.2 ⟨fun p hp => ?_, h⟩
      rcases List.mem_cons.1 hp with rfl | hp
      · exact hk
      · exact O.tr hk (h1 _ hp)
    · rename_i hk
      split
      · rename_i hq
        refine List.pairwise_cons.2 ⟨fun p hp => ?_, Rises.put h2⟩
        rcases mem_lput hp with rfl | hp
        · exact hq
        · exact h1 _ hp
      · rename_i hq
        have e : k = q.1 := O.tot (by simpa using hk) (by simpa using hq)
        exact List.pairwise_cons.2 ⟨fun p hp => by rw [show (k, v).1 = q.1 from e]; exact h1 _ hp, h2⟩
theorem ldel_self {k : κ} {L : List (κ × ν)} (h : ∀ p ∈ L, lt k p.1 = true ∨ lt p.1 k = true) : ldel k L = L := by
  unfold ldel
  refine List.filter_eq_self.2 fun p hp => ?_
  have : p.1 ≠ k := fun e => by rcases h p hp with h | h <;> rw [e, O.irr] at h <;> cases h
  simpa using this
theorem lput_perm {k : κ} {v : ν} : ∀ {L : List (κ × ν)}, Rises lt L → (lput lt k v L).Perm ((k, v) :: ldel k L)
  | [], _ => by simp [lput, ldel]
  | q :: r, h => by
    obtain ⟨h1, h2⟩ := List.pairwise_cons.1 h
    unfold lput
    split
    · rename_i hk
      rw [ldel_self O (L := q :: r) fun p hp => by
        rcases List.mem_cons.1 hp with rfl | hp
        · exact .inl hk
        · exact .inl (O.tr hk (h1 _ hp))]
    · rename_i hk
      split
      · rename_i hq
        have hne : q.1 ≠ k := fun e => by rw [e, O.irr] at hq; cases hq
        have e : ldel k (q :: r) = q :: ldel k r := by simp [ldel, hne]
        rw [e]
        exact ((lput_perm h2).cons q).trans (List.Perm.swap _ _ _)
      · rename_i hq
        have e : k = q.1 := O.tot (by simpa using hk) (by simpa using hq)
        have e2 : ldel k (q :: r) = r := by
          have : ldel k (q :: r) = ldel k r := by simp [ldel, e]
          rw [this]
          exact ldel_self O fun p hp => .inl (by rw [e]; exact h1 _ hp)
        rw [e2]
omit O in
theorem lget_cons (k k' : κ) (v : ν) (L : List (κ × ν)) : lget k' ((k, v) :: L) = if k = k' then some v else lget k' L := by
  unfold lget
  by_cases e : k = k' <;> simp [e]
omit O in
theorem lget_ldel (k k' : κ) (L : List (κ × ν)) : lget k' (ldel k L) = if k' = k then none else lget k' L := by
  induction L with
  | nil => simp [ldel, lget]
  | cons p r ih =>
    obtain ⟨a, x⟩ := p
    by_cases e : a = k
    · have e2 : ldel k ((a, x) :: r) = ldel k r := by simp [ldel, e]
      rw [e2, ih, lget_cons]
      by_cases e3 : k' = k
      · simp [e3]
      · have : ¬ a = k' := fun h => e3 (h.symm.trans e)
        simp [e3, this]
    · have e2 : ldel k ((a, x) :: r) = (a, x) :: ldel k r := by simp [ldel, e]
      rw [e2, lget_cons, lget_cons, ih]
      by_cases e3 : a = k'
      · have : ¬ k' = k := fun h => e (e3.trans h)
        simp [e3, this]
      · simp [e3]
theorem lget_lput {k k' : κ} {v : ν} {L : List (κ × ν)} : lget k' (lput lt k v L) = if k' = k then some v else lget k' L := by
  induction L with
  | nil => simp [lput, lget, eq_comm]
  | cons q r ih =>
    obtain ⟨a, x⟩ := q
    unfold lput
    split
    · rw [lget_cons]; simp [eq_comm]
    · rename_i hk
      split
      · rename_i hq
        rw [lget_cons, lget_cons, ih]
        by_cases e : a = k'
        · have : ¬ k' = k := fun h => by subst e; rw [h, O.irr] at hq; cases hq
          simp [e, this]
        · simp [e]
      · rename_i hq
        have e : k = a := O.tot (by simpa using hk) (by simpa using hq)
        rw [lget_cons, lget_cons, ← e]
        by_cases e3 : k = k' <;> simp [e3, eq_comm]
omit [DecidableEq κ] in
theorem rises_eq {L L' : List (κ × ν)} (h : Rises lt L) (h' : Rises lt L') (hp : L.Perm L') : L = L' := by
  refine List.Perm.eq_of_pairwise (le := fun (p q : κ × ν) => lt p.1 q.1 = true) (fun a b _ _ h1 h2 => ?_) h h' hp
  have := O.tr h1 h2
  rw [O.irr] at this; cases this
end

/-! ### the orders -/
def blt (a b : ByteArray) : Bool := decide (a.data.toList < b.data.toList)
def ilt (a b : Int) : Bool := decide (a < b)
theorem blt_ordd : Ordd blt where
  irr a := by simp [blt]
  tr {a b c} h h' := by
    simp only [blt, decide_eq_true_eq] at *
    exact List.lt_trans h h'
  tot {a b} h h' := by
    simp only [blt, decide_eq_false_iff_not, List.not_lt] at *
    have e := List.le_antisymm h' h
    obtain ⟨⟨x⟩⟩ := a; obtain ⟨⟨y⟩⟩ := b
    simp only at e
    rw [e]
theorem ilt_ordd : Ordd ilt where
  irr a := by simp [ilt]
  tr {a b c} h h' := by simp only [ilt, decide_eq_true_eq] at *; omega
  tot {a b} h h' := by simp only [ilt, decide_eq_false_iff_not] at *; omega
end Go.Proofs.Ytchnejfdompfpaa
