/-
  CatalogLive: the plain law.
-/
import Derived.Test.YtchnejfdompfpaaCatM
namespace Go.Proofs.Ytchnejfdompfpaa
open Go.RowKit Go.Sort

/-- how many copies there are -/
def cpN (b : Bl) : Nat := b.a.there.toNat + b.b.there.toNat
def copiesL : List Bl → Nat
  | [] => 0
  | b :: r => copiesL r + cpN b
theorem copies_snoc (L : List Bl) (b : Bl) : copiesL (L ++ [b]) = copiesL L + cpN b := by
  induction L with
  | nil => rfl
  | cons a r ih => show copiesL (r ++ [b]) + cpN a = copiesL r + cpN a + cpN b; omega
/-- how many blobs have a copy on one of the first volumes -/
def lvL (L : List Bl) : Nat → Nat
  | 0 => 0
  | v + 1 => lvL L v + (L.filter (onV v)).length
theorem lv_nil : ∀ v, lvL [] v = 0
  | 0 => rfl
  | v + 1 => by show lvL [] v + 0 = 0; rw [lv_nil v]
theorem lv_cons (b : Bl) (r : List Bl) : ∀ v, lvL (b :: r) v = lvL r v + lvL [b] v
  | 0 => rfl
  | v + 1 => by
    show lvL (b :: r) v + ((b :: r).filter (onV v)).length = lvL r v + (r.filter (onV v)).length + (lvL [b] v + ([b].filter (onV v)).length)
    rw [lv_cons b r v, List.filter_cons, List.filter_cons]
    split
    · simp only [List.length_cons, List.filter_nil, List.length_nil]; omega
    · simp only [List.filter_nil, List.length_nil]; omega
theorem lv_one_step (b : Bl) (v : Nat) : lvL [b] (v + 1) = lvL [b] v + (onV v b).toNat := by
  show lvL [b] v + ([b].filter (onV v)).length = _
  rw [List.filter_cons]
  cases h : onV v b
  · simp
  · simp
theorem onV_even (b : Bl) (v : Int) (h : v % 2 = 0) : onV v b = (b.a.there && decide (b.a.vol = v)) := by
  unfold onV
  rw [if_neg (by omega)]
theorem onV_odd (b : Bl) (v : Int) (h : v % 2 = 1) : onV v b = (b.b.there && decide (b.b.vol = v)) := by
  unfold onV
  rw [if_pos h]
theorem lv_one {n : Nat} {b : Bl} (h : BlOk n b) : lvL [b] 12 = cpN b := by
  have e0 : lvL [b] 0 = 0 := rfl
  have ea : ∀ k : Nat, k % 2 = 0 → onV (k : Int) b = (b.a.there && decide (b.a.vol = k)) := fun k hk => onV_even b k (by omega)
  have eb : ∀ k : Nat, k % 2 = 1 → onV (k : Int) b = (b.b.there && decide (b.b.vol = k)) := fun k hk => onV_odd b k (by omega)
  rw [lv_one_step, lv_one_step, lv_one_step, lv_one_step, lv_one_step, lv_one_step, lv_one_step, lv_one_step, lv_one_step, lv_one_step, lv_one_step, lv_one_step, e0]
  rw [ea 0 rfl, eb 1 rfl, ea 2 rfl, eb 3 rfl, ea 4 rfl, eb 5 rfl, ea 6 rfl, eb 7 rfl, ea 8 rfl, eb 9 rfl, ea 10 rfl, eb 11 rfl]
  have ka : (b.a.there && decide (b.a.vol = ((0 : Nat) : Int))).toNat + (b.a.there && decide (b.a.vol = ((2 : Nat) : Int))).toNat + (b.a.there && decide (b.a.vol = ((4 : Nat) : Int))).toNat + (b.a.there && decide (b.a.vol = ((6 : Nat) : Int))).toNat + (b.a.there && decide (b.a.vol = ((8 : Nat) : Int))).toNat + (b.a.there && decide (b.a.vol = ((10 : Nat) : Int))).toNat = b.a.there.toNat := by
    rcases h.ca with e | ⟨e, e1, e2, e3, _⟩
    · rw [e]; rfl
    · rw [e]
      have : b.a.vol = 0 ∨ b.a.vol = 2 ∨ b.a.vol = 4 ∨ b.a.vol = 6 ∨ b.a.vol = 8 ∨ b.a.vol = 10 := by omega
      rcases this with e | e | e | e | e | e <;> rw [e] <;> rfl
  have kb : (b.b.there && decide (b.b.vol = ((1 : Nat) : Int))).toNat + (b.b.there && decide (b.b.vol = ((3 : Nat) : Int))).toNat + (b.b.there && decide (b.b.vol = ((5 : Nat) : Int))).toNat + (b.b.there && decide (b.b.vol = ((7 : Nat) : Int))).toNat + (b.b.there && decide (b.b.vol = ((9 : Nat) : Int))).toNat + (b.b.there && decide (b.b.vol = ((11 : Nat) : Int))).toNat = b.b.there.toNat := by
    rcases h.cb with e | ⟨e, e1, e2, e3, _⟩
    · rw [e]; rfl
    · rw [e]
      have : b.b.vol = 1 ∨ b.b.vol = 3 ∨ b.b.vol = 5 ∨ b.b.vol = 7 ∨ b.b.vol = 9 ∨ b.b.vol = 11 := by omega
      rcases this with e | e | e | e | e | e <;> rw [e] <;> rfl
  unfold cpN
  omega
theorem live_sum {n : Nat} {L : List Bl} (h : ∀ b ∈ L, BlOk n b) : lvL L 12 = copiesL L := by
  induction L with
  | nil => exact lv_nil 12
  | cons b r ih =>
    rw [lv_cons, ih (fun b hb => h b (List.mem_cons_of_mem _ hb)), lv_one (h b List.mem_cons_self)]
    rfl
/-- the Put and the Delete in the end -/
def putK (m : ByteArray) : Cmd := ⟨1, 0, 0, m, 1152921504606846976, 0, 0, [1], 0, 0, 0⟩
def delK (m : ByteArray) : Cmd := ⟨3, 0, 0, m, 0, 0, 0, [], 0, 0, 0⟩
theorem put_del {n : Nat} {P : Pm} (hi : PInv n P) {m : ByteArray} (h0 : m ≠ ByteArray.empty) (h1 : m.size ≤ 32) (hf : P.find 1152921504606846976 = none) (hw : (putK m).Wf) (hw2 : (delK m).Wf) :
    ∃ P1 P2, P.app (putK m) = (P1, ⟨0, 0, 0, 0, []⟩) ∧ PInv (n + 1) P1 ∧ P1.app (delK m) = (P2, ⟨0, 1152921504606846976, 0, 0, []⟩) ∧ PInv (n + 2) P2 ∧ P2.named m = none := by
  have hg : (putK m).good = true := by
    have : decide (m.size ≤ 32) = true := decide_eq_true h1
    unfold Cmd.good putK
    simp only [this, Bool.and_true]
    rfl
  have hg2 : (delK m).good = true := by
    have : decide (m.size ≤ 32) = true := decide_eq_true h1
    unfold Cmd.good delK
    simp only [this, Bool.and_true]
    rfl
  have hi1 := hi.app hw
  have e1 : P.app (putK m) = ((P.app (putK m)).1, ⟨0, 0, 0, 0, []⟩) ∧ newB (putK m) ∈ (P.app (putK m)).1.L := by
    unfold Pm.app
    rw [if_neg (by rw [hg]; decide), if_pos (show (putK m).kind = 1 from rfl)]
    unfold Pm.put
    rw [if_neg (by
      rintro (e | e | e)
      · exact h0 e
      · cases e
      · cases e), if_neg (by rw [show (putK m).blob = 1152921504606846976 from rfl, hf]; decide)]
    exact ⟨rfl, mem_pset.2 (.inl rfl)⟩
  obtain ⟨e1, hm⟩ := e1
  generalize (P.app (putK m)).1 = P1 at *
  have hnm : P1.named m = some (newB (putK m)) := (pnamed_some hi1).2 ⟨hm, rfl, rfl⟩
  have hi2 := hi1.app hw2
  have e2 : P1.app (delK m) = (P1.set { newB (putK m) with dead := true }, ⟨0, 1152921504606846976, 0, 0, []⟩) := by
    unfold Pm.app
    rw [if_neg (by rw [hg2]; decide), if_neg (show ¬ (delK m).kind = 1 from (by decide : ¬ (3 : Int) = 1)), if_neg (show ¬ (delK m).kind = 4 from (by decide : ¬ (3 : Int) = 4)), if_pos (show (delK m).kind < 6 from (by decide : (3 : Int) < 6))]
    unfold Pm.byName
    rw [show (delK m).name = m from rfl, hnm]
    rfl
  refine ⟨P1, _, e1, hi1, e2, by rw [e2] at hi2; exact hi2, pnamed_none.2 fun c hc hd hn => ?_⟩
  rcases mem_pset.1 hc with e | ⟨hc, hne⟩
  · rw [e] at hd; cases hd
  · exact hne (hi1.uniq c hc (newB (putK m)) hm hd rfl hn)
end Go.Proofs.Ytchnejfdompfpaa
