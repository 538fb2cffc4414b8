/-
  Layer 18, plain: calls that were done one behind the other can be, answered or not.
-/
import Derived.Test.YtlodaffiamegpaaHsFew
namespace Go.Proofs.Ytlodaffiamegpaa

def ansErr (E : HEnts) (o : HOp) : Int := if (o.kind = 2 ∨ o.kind = 5 ∨ o.kind = 3) ∧ lget o.name E = none then 5 else 0
def ansGot (E : HEnts) (o : HOp) : Nat := if o.kind = 2 ∨ o.kind = 5 then (lget o.name E).getD 0 else 0
def ansNames (E : HEnts) (o : HOp) : List ByteArray := if o.kind = 4 then E.map (·.1) else []
/-- the call as it is answered -/
def ansOp (E : HEnts) (o : HOp) : HOp := ⟨o.kind, o.name, o.value, o.start, o.fin, ansErr E o, ansGot E o, ansNames E o⟩
def doneOp (E : HEnts) (o : HOp) (i : Nat) (a b : Int) : HOp := ⟨o.kind, o.name, o.value, max (10 * (i : Int) + 5 - a) 0, 10 * (i : Int) + 5 + b, ansErr E o, ansGot E o, ansNames E o⟩
def openOp (o : HOp) : HOp := ⟨o.kind, o.name, o.value, o.start, -1, o.err, o.got, o.names⟩
def stE (ops : List HOp) : Nat → HEnts
  | 0 => []
  | k + 1 => reff (stE ops k) (opAt ops k)
def openL (ops : List HOp) (a b : Int) (f : Nat → Bool) : Nat → List HOp
  | 0 => []
  | k + 1 => openL ops a b f k ++ [if f k then openOp (doneOp (stE ops k) (opAt ops k) k a b) else doneOp (stE ops k) (opAt ops k) k a b]
def doneL (ops : List HOp) (a b : Int) (k : Nat) : List HOp := openL ops a b (fun _ => false) k
theorem openL_len (ops : List HOp) (a b : Int) (f : Nat → Bool) : ∀ k, (openL ops a b f k).length = k
  | 0 => rfl
  | k + 1 => by unfold openL; rw [List.length_append, openL_len ops a b f k]; rfl
theorem stE_rises (ops : List HOp) : ∀ k, Rises blt (stE ops k)
  | 0 => List.Pairwise.nil
  | k + 1 => reff_rises (stE_rises ops k) _
theorem stE_len (ops : List HOp) : ∀ k, (stE ops k).length ≤ k
  | 0 => Nat.le_refl _
  | k + 1 => Nat.le_trans (reff_len _ _ (stE_rises ops k)) (by have := stE_len ops k; omega)
theorem reff_ans (E : HEnts) (o : HOp) : reff E (ansOp E o) = reff E o := rfl
theorem rok_done {E : HEnts} {o : HOp} {i : Nat} {a b : Int} (hk : o.kind = 1 ∨ o.kind = 2 ∨ o.kind = 3 ∨ o.kind = 4 ∨ o.kind = 5) : rok E (doneOp E o i a b) = true := by
  unfold rok
  rw [Bool.or_eq_true]
  left
  unfold rtells doneOp ansErr ansGot ansNames
  rcases hk with h | h | h | h | h
  all_goals simp only [h]
  · simp
  · cases hl : lget o.name E <;> simp
  · cases hl : lget o.name E <;> simp
  · simp
  · cases hl : lget o.name E <;> simp
def effs (σ : HSt) (s : List HOp) : HSt := s.foldl (fun τ x => x.eff τ) σ
theorem legal_app : ∀ {s t : List HOp} {σ : HSt}, Legal (s ++ t) σ ↔ Legal s σ ∧ Legal t (effs σ s)
  | [], t, σ => by simp [Legal, effs]
  | x :: s, t, σ => by
    show (x.ok σ ∧ Legal (s ++ t) (x.eff σ)) ↔ ((x.ok σ ∧ Legal s (x.eff σ)) ∧ Legal t (effs (x.eff σ) s))
    rw [legal_app, and_assoc]
theorem open_effs (ops : List HOp) (a b : Int) (f : Nat → Bool) : ∀ k, effs hnone (openL ops a b f k) = hlook (stE ops k)
  | 0 => by unfold openL effs stE; exact hlook_nil'.symm
  | k + 1 => by
    have ih := open_effs ops a b f k
    unfold effs at ih ⊢
    unfold openL
    rw [List.foldl_append, ih]
    show HOp.eff _ (hlook (stE ops k)) = hlook (reff (stE ops k) (opAt ops k))
    rw [hlook_reff]
    split <;> rfl
where
  hlook_nil' : hlook [] = hnone := by funext n; rfl
theorem open_legal (ops : List HOp) (a b : Int) (f : Nat → Bool) (hk : ∀ x ∈ ops, x.kind = 1 ∨ x.kind = 2 ∨ x.kind = 3 ∨ x.kind = 4 ∨ x.kind = 5) : ∀ k, k ≤ ops.length → Legal (openL ops a b f k) hnone
  | 0, _ => trivial
  | k + 1, hl => by
    unfold openL
    rw [legal_app]
    refine ⟨open_legal ops a b f hk k (by omega), ?_, trivial⟩
    rw [open_effs]
    have hx : opAt ops k ∈ ops := List.mem_of_getElem? (opAt_get (by omega))
    split
    · left; unfold openOp HOp.ans; rfl
    · exact (rok_iff (stE_rises ops k) _).1 (rok_done (hk _ hx))
theorem open_start (ops : List HOp) {a b : Int} (f : Nat → Bool) (ha : 0 ≤ a) : ∀ k, ∀ y ∈ openL ops a b f k, y.start ≤ 10 * (k : Int)
  | 0, y, h => by cases h
  | k + 1, y, h => by
    unfold openL at h
    rcases List.mem_append.1 h with h | h
    · have := open_start ops f ha k y h; omega
    · rw [List.mem_singleton] at h
      subst h
      have : (if f k = true then openOp (doneOp (stE ops k) (opAt ops k) k a b) else doneOp (stE ops k) (opAt ops k) k a b).start = max (10 * (k : Int) + 5 - a) 0 := by
        split <;> rfl
      rw [this]; omega
theorem open_timely (ops : List HOp) {a b : Int} (f : Nat → Bool) (ha : 0 ≤ a) (hb : 0 ≤ b) : ∀ k, Timely (openL ops a b f k)
  | 0 => List.Pairwise.nil
  | k + 1 => by
    unfold openL Timely
    rw [List.pairwise_append]
    refine ⟨open_timely ops f ha hb k, List.pairwise_singleton _ _, fun y hy x hx hp => ?_⟩
    rw [List.mem_singleton] at hx
    subst hx
    have h1 := open_start ops f ha k y hy
    obtain ⟨h2, h3⟩ := hp
    split at h2
    · cases h2
    · rename_i hf
      rw [if_neg hf] at h3
      have h4 : (doneOp (stE ops k) (opAt ops k) k a b).fin = 10 * (k : Int) + 5 + b := rfl
      omega
theorem open_lin (ops : List HOp) {a b : Int} (f : Nat → Bool) (ha : 0 ≤ a) (hb : 0 ≤ b) (hk : ∀ x ∈ ops, x.kind = 1 ∨ x.kind = 2 ∨ x.kind = 3 ∨ x.kind = 4 ∨ x.kind = 5) {k : Nat} (hl : k ≤ ops.length) : Lin (openL ops a b f k) hnone :=
  ⟨_, [], by rw [List.append_nil], (fun x h => absurd h (by simp)), open_timely ops f ha hb k, open_legal ops a b f hk k hl⟩
theorem open_fine (ops : List HOp) {a b : Int} (f : Nat → Bool) (ha : 0 ≤ a) (hb : 0 ≤ b) (hf : ∀ x ∈ ops, badB x = false) : ∀ k, k ≤ ops.length → ∀ y ∈ openL ops a b f k, badB y = false
  | 0, _, y, h => by cases h
  | k + 1, hl, y, h => by
    unfold openL at h
    rcases List.mem_append.1 h with h | h
    · exact open_fine ops f ha hb hf k (by omega) y h
    · rw [List.mem_singleton] at h
      subst h
      have hx : opAt ops k ∈ ops := List.mem_of_getElem? (opAt_get (by omega))
      have h1 := hf _ hx
      unfold badB at h1
      simp only [Bool.or_eq_false_iff, decide_eq_false_iff_not] at h1
      split
      · unfold badB openOp doneOp HOp.ans
        simp only [Bool.or_eq_false_iff, decide_eq_false_iff_not]
        exact ⟨h1.1, by simp⟩
      · unfold badB doneOp HOp.ans
        simp only [Bool.or_eq_false_iff, decide_eq_false_iff_not, Bool.and_eq_false_iff]
        exact ⟨h1.1, .inr (by omega)⟩
end Go.Proofs.Ytlodaffiamegpaa
