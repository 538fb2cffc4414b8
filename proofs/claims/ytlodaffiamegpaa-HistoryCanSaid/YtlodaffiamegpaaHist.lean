/-
  Layer 18, plain: histories, what they may be, and that names have nothing to do with each other.
-/
import Derived.Test.YtlodaffiamegpaaSorted
namespace Go.Proofs.Ytlodaffiamegpaa

structure HOp where
  kind : Int
  name : ByteArray
  value : Nat
  start : Int
  fin : Int
  err : Int
  got : Nat
  names : List ByteArray

abbrev HSt := ByteArray → Option Nat
def hset (σ : HSt) (n : ByteArray) (v : Option Nat) : HSt := fun k => if k = n then v else σ k
def HOp.ans (x : HOp) : Bool := decide (0 ≤ x.fin)
/-- could it be told so? -/
def HOp.tells (o : HOp) (σ : HSt) : Prop :=
  (o.kind = 1 ∧ o.err = 0) ∨
  ((o.kind = 2 ∨ o.kind = 5) ∧ ((∃ v, σ o.name = some v ∧ o.err = 0 ∧ o.got = v) ∨ (σ o.name = none ∧ o.err = 5))) ∨
  (o.kind = 3 ∧ ((σ o.name ≠ none ∧ o.err = 0) ∨ (σ o.name = none ∧ o.err = 5))) ∨
  (o.kind = 4 ∧ o.err = 0 ∧ o.names.Pairwise (fun a b => blt a b = true) ∧ ∀ n, n ∈ o.names ↔ σ n ≠ none)
def HOp.ok (o : HOp) (σ : HSt) : Prop := o.ans = false ∨ o.tells σ
def HOp.eff (o : HOp) (σ : HSt) : HSt := if o.kind = 1 then hset σ o.name (some o.value) else if o.kind = 3 then hset σ o.name none else σ
def Legal : List HOp → HSt → Prop
  | [], _ => True
  | o :: r, σ => o.ok σ ∧ Legal r (o.eff σ)
/-- a must come ahead of b -/
def Pre (a b : HOp) : Prop := a.ans = true ∧ a.fin < b.start
def Timely (s : List HOp) : Prop := s.Pairwise fun a b => ¬ Pre b a
def Lin (l : List HOp) (σ : HSt) : Prop := ∃ s r, l.Perm (s ++ r) ∧ (∀ x ∈ r, x.ans = false) ∧ Timely s ∧ Legal s σ
def hnone : HSt := fun _ => none

theorem Lin.perm {l l' : List HOp} {σ : HSt} (h : Lin l σ) (hp : l'.Perm l) : Lin l' σ := by
  obtain ⟨s, r, h1, h2⟩ := h
  exact ⟨s, r, hp.trans h1, h2⟩
theorem lin_perm {l l' : List HOp} {σ : HSt} (hp : l'.Perm l) : Lin l' σ ↔ Lin l σ := ⟨fun h => h.perm hp.symm, fun h => h.perm hp⟩

/-! ### what reads changes nothing -/
def HOp.reads (x : HOp) : Prop := x.kind ≠ 1 ∧ x.kind ≠ 3
theorem HOp.reads.reads_eff {x : HOp} (h : x.reads) (σ : HSt) : x.eff σ = σ := by
  unfold HOp.eff; rw [if_neg h.1, if_neg h.2]
theorem legal_drop : ∀ {s t : List HOp} {x : HOp} {σ : HSt}, x.reads → Legal (s ++ x :: t) σ → Legal (s ++ t) σ
  | [], t, x, σ, hx, h => by
    have := h.2
    rw [hx.reads_eff] at this
    exact this
  | y :: s, t, x, σ, hx, h => ⟨h.1, legal_drop hx h.2⟩
theorem timely_drop {s t : List HOp} {x : HOp} (h : Timely (s ++ x :: t)) : Timely (s ++ t) :=
  List.Pairwise.sublist (List.Sublist.append (List.Sublist.refl _) (List.sublist_cons_self _ _)) h
/-- a call that reads may be left out -/
theorem Lin.drop {l : List HOp} {x : HOp} {σ : HSt} (hx : x.reads) (h : Lin (x :: l) σ) : Lin l σ := by
  obtain ⟨s, r, h1, h2, h3, h4⟩ := h
  have hm : x ∈ s ++ r := h1.mem_iff.1 (List.mem_cons_self ..)
  rcases List.mem_append.1 hm with hm | hm
  · obtain ⟨s1, s2, rfl⟩ := List.append_of_mem hm
    refine ⟨s1 ++ s2, r, ?_, h2, timely_drop h3, legal_drop hx h4⟩
    have : (x :: l).Perm (x :: (s1 ++ s2 ++ r)) := h1.trans (by
      rw [List.append_assoc, List.append_assoc]; exact List.perm_middle)
    exact this.cons_inv
  · obtain ⟨r1, r2, rfl⟩ := List.append_of_mem hm
    refine ⟨s, r1 ++ r2, ?_, fun y hy => h2 y ?_, h3, h4⟩
    · have : (x :: l).Perm (x :: (s ++ (r1 ++ r2))) := h1.trans (by
        rw [← List.append_assoc, ← List.append_assoc]; exact List.perm_middle)
      exact this.cons_inv
    · rcases List.mem_append.1 hy with hy | hy
      · exact List.mem_append_left _ hy
      · exact List.mem_append_right _ (List.mem_cons_of_mem _ hy)
/-- one that wasn't answered may be added -/
theorem Lin.add {l : List HOp} {x : HOp} {σ : HSt} (hx : x.ans = false) (h : Lin l σ) : Lin (x :: l) σ := by
  obtain ⟨s, r, h1, h2, h3, h4⟩ := h
  exact ⟨s, x :: r, (h1.cons x).trans List.perm_middle.symm, fun y hy => by
    rcases List.mem_cons.1 hy with rfl | hy
    · exact hx
    · exact h2 y hy, h3, h4⟩
theorem lin_filter {σ : HSt} (p : HOp → Bool) : ∀ {l : List HOp}, (∀ x ∈ l, p x = false → x.reads ∧ x.ans = false) → (Lin l σ ↔ Lin (l.filter p) σ) := by
  intro l h
  have hp : l.Perm (l.filter (fun x => !p x) ++ l.filter p) := by
    have := (List.filter_append_perm p l).symm
    exact this.trans List.perm_append_comm
  have key : ∀ d : List HOp, (∀ x ∈ d, x.reads ∧ x.ans = false) → (Lin (d ++ l.filter p) σ ↔ Lin (l.filter p) σ) := by
    intro d
    induction d with
    | nil => intro _; exact Iff.rfl
    | cons x d ih =>
      intro hd
      have ih' := ih fun y hy => hd y (List.mem_cons_of_mem _ hy)
      have hx := hd x (List.mem_cons_self ..)
      exact ⟨fun hh => ih'.1 (Lin.drop hx.1 hh), fun hh => Lin.add hx.2 (ih'.2 hh)⟩
  rw [lin_perm hp]
  exact key _ fun x hx => by
    have := List.mem_filter.1 hx
    exact h x this.1 (by simpa using this.2)

/-! ### names have nothing to do with each other -/
/-- its answer and what it does speak of its own name alone -/
def HOp.alone (x : HOp) : Prop := x.kind ≠ 4
def Wide (x : HOp) : Prop := x.ans = true → x.start ≤ x.fin
theorem merge_timely : ∀ (k : Nat) {A B : List HOp} (p : HOp → Bool), A.length + B.length ≤ k → (∀ x ∈ A, p x = true) → (∀ x ∈ B, p x = false) → (∀ x ∈ A, Wide x) → (∀ x ∈ B, Wide x) → Timely A → Timely B →
    ∃ s : List HOp, s.filter p = A ∧ s.filter (fun x => !p x) = B ∧ s.Perm (A ++ B) ∧ Timely s
  | k, [], B, p, _, _, hB, _, _, _, tB => by
    refine ⟨B, ?_, ?_, List.Perm.refl _, tB⟩
    · exact List.filter_eq_nil_iff.2 fun x hx => by simp [hB x hx]
    · exact List.filter_eq_self.2 fun x hx => by simp [hB x hx]
  | k, A, [], p, _, hA, _, _, _, tA, _ => by
    refine ⟨A, ?_, ?_, by simp, tA⟩
    · exact List.filter_eq_self.2 fun x hx => by simp [hA x hx]
    · exact List.filter_eq_nil_iff.2 fun x hx => by simp [hA x hx]
  | 0, _ :: _, _ :: _, _, h, _, _, _, _, _, _ => by simp at h
  | k + 1, a :: A, b :: B, p, hk, hA, hB, wA, wB, tA, tB => by
    obtain ⟨tA1, tA2⟩ := List.pairwise_cons.1 tA
    obtain ⟨tB1, tB2⟩ := List.pairwise_cons.1 tB
    have hpa := hA a (List.mem_cons_self ..)
    have hpb := hB b (List.mem_cons_self ..)
    by_cases ha : ∀ y ∈ b :: B, ¬ Pre y a
    · obtain ⟨s, h1, h2, h3, h4⟩ := merge_timely k (A := A) (B := b :: B) p (by simp at hk ⊢; omega) (fun x hx => hA x (List.mem_cons_of_mem _ hx)) hB (fun x hx => wA x (List.mem_cons_of_mem _ hx)) wB tA2 tB
      refine ⟨a :: s, ?_, ?_, h3.cons a, List.pairwise_cons.2 ⟨fun y hy => ?_, h4⟩⟩
      · rw [List.filter_cons_of_pos hpa, h1]
      · rw [List.filter_cons_of_neg (by simp [hpa]), h2]
      · rcases List.mem_append.1 (h3.mem_iff.1 hy) with hy | hy
        · exact tA1 y hy
        · exact ha y hy
    · have hb : ∀ z ∈ a :: A, ¬ Pre z b := by
        intro z hz hzb
        refine ha fun y hy hya => ?_
        have h1 : b.start ≤ y.fin := by
          rcases List.mem_cons.1 hy with rfl | hy'
          · exact wB _ (List.mem_cons_self ..) hya.1
          · have := tB1 y hy'
            by_cases h : b.start ≤ y.fin
            · exact h
            · exact absurd ⟨hya.1, by omega⟩ this
        have h2 : a.start ≤ z.fin := by
          rcases List.mem_cons.1 hz with rfl | hz'
          · exact wA _ (List.mem_cons_self ..) hzb.1
          · have := tA1 z hz'
            by_cases h : a.start ≤ z.fin
            · exact h
            · exact absurd ⟨hzb.1, by omega⟩ this
        have h3 := hya.2
        have h4 := hzb.2
        omega
      obtain ⟨s, h1, h2, h3, h4⟩ := merge_timely k (A := a :: A) (B := B) p (by simp at hk ⊢; omega) hA (fun x hx => hB x (List.mem_cons_of_mem _ hx)) wA (fun x hx => wB x (List.mem_cons_of_mem _ hx)) tA tB2
      refine ⟨b :: s, ?_, ?_, (h3.cons b).trans List.perm_middle.symm, List.pairwise_cons.2 ⟨fun y hy => ?_, h4⟩⟩
      · rw [List.filter_cons_of_neg (by simp [hpb]), h1]
      · rw [List.filter_cons_of_pos (by simp [hpb]), h2]
      · rcases List.mem_append.1 (h3.mem_iff.1 hy) with hy | hy
        · exact hb y hy
        · exact tB1 y hy
theorem ok_alone {x : HOp} (hx : x.alone) {σ τ : HSt} (h : σ x.name = τ x.name) : x.ok σ ↔ x.ok τ := by
  have hx' : x.kind ≠ 4 := hx
  unfold HOp.ok HOp.tells
  rw [h]
  simp [hx']
theorem eff_at {x : HOp} {σ τ : HSt} (h : σ x.name = τ x.name) : (x.eff σ) x.name = (x.eff τ) x.name := by
  unfold HOp.eff hset; split
  · simp
  · split
    · simp
    · exact h
theorem eff_far {x : HOp} {σ : HSt} {n : ByteArray} (h : n ≠ x.name) : (x.eff σ) n = σ n := by
  unfold HOp.eff hset; split
  · simp [h]
  · split
    · simp [h]
    · rfl
/-- legal by itself for one name, and for the others -/
theorem legal_join (n : ByteArray) : ∀ {s : List HOp} {σ σ1 σ2 : HSt}, (∀ x ∈ s, x.alone) → σ n = σ1 n → (∀ m, m ≠ n → σ m = σ2 m) →
    Legal (s.filter fun x => decide (x.name = n)) σ1 → Legal (s.filter fun x => !decide (x.name = n)) σ2 → Legal s σ
  | [], _, _, _, _, _, _, _, _ => trivial
  | x :: s, σ, σ1, σ2, ha, h1, h2, l1, l2 => by
    have hx := ha x (List.mem_cons_self ..)
    have hs : ∀ y ∈ s, y.alone := fun y hy => ha y (List.mem_cons_of_mem _ hy)
    by_cases hn : x.name = n
    · rw [List.filter_cons_of_pos (by simp [hn])] at l1
      rw [List.filter_cons_of_neg (by simp [hn])] at l2
      have e : σ x.name = σ1 x.name := by rw [hn]; exact h1
      refine ⟨(ok_alone hx e).2 l1.1, legal_join n hs ?_ ?_ l1.2 l2⟩
      · rw [← hn]; exact eff_at e
      · intro m hm
        rw [eff_far (by rw [hn]; exact hm)]
        exact h2 m hm
    · rw [List.filter_cons_of_neg (by simp [hn])] at l1
      rw [List.filter_cons_of_pos (by simp [hn])] at l2
      have e : σ x.name = σ2 x.name := h2 _ hn
      refine ⟨(ok_alone hx e).2 l2.1, legal_join n hs ?_ ?_ l1 l2.2⟩
      · rw [eff_far (Ne.symm hn)]; exact h1
      · intro m hm
        by_cases hmx : m = x.name
        · rw [hmx]; exact eff_at e
        · rw [eff_far hmx, eff_far hmx]; exact h2 m hm
/-- and the other way -/
theorem legal_part (p : ByteArray → Bool) : ∀ {s : List HOp} {σ τ : HSt}, (∀ x ∈ s, x.alone) → (∀ m, p m = true → σ m = τ m) → Legal s σ → Legal (s.filter fun x => p x.name) τ
  | [], _, _, _, _, _ => trivial
  | x :: s, σ, τ, ha, h, l => by
    have hx := ha x (List.mem_cons_self ..)
    have hs : ∀ y ∈ s, y.alone := fun y hy => ha y (List.mem_cons_of_mem _ hy)
    by_cases hp : p x.name = true
    · rw [List.filter_cons_of_pos (p := fun x : HOp => p x.name) hp]
      refine ⟨(ok_alone hx (h _ hp)).1 l.1, legal_part p hs (fun m hm => ?_) l.2⟩
      by_cases hmx : m = x.name
      · rw [hmx]; exact eff_at (h _ hp)
      · rw [eff_far hmx, eff_far hmx]; exact h m hm
    · rw [List.filter_cons_of_neg (p := fun x : HOp => p x.name) hp]
      refine legal_part p hs (fun m hm => ?_) l.2
      rw [eff_far (fun e => hp (by rw [← e]; exact hm))]
      exact h m hm
theorem lin_part (p : ByteArray → Bool) {l : List HOp} {σ : HSt} (ha : ∀ x ∈ l, x.alone) (h : Lin l σ) : Lin (l.filter fun x => p x.name) σ := by
  obtain ⟨s, r, h1, h2, h3, h4⟩ := h
  refine ⟨s.filter fun x => p x.name, r.filter fun x => p x.name, ?_, fun x hx => h2 x (List.mem_filter.1 hx).1, h3.filter _, legal_part p (fun x hx => ha x (h1.mem_iff.2 (List.mem_append_left _ hx))) (fun _ _ => rfl) h4⟩
  rw [← List.filter_append]
  exact h1.filter _
theorem lin_join (n : ByteArray) {l : List HOp} {σ : HSt} (ha : ∀ x ∈ l, x.alone) (hw : ∀ x ∈ l, Wide x) (h1 : Lin (l.filter fun x => decide (x.name = n)) σ) (h2 : Lin (l.filter fun x => !decide (x.name = n)) σ) : Lin l σ := by
  obtain ⟨s1, r1, p1, u1, t1, g1⟩ := h1
  obtain ⟨s2, r2, p2, u2, t2, g2⟩ := h2
  have in1 : ∀ x ∈ s1, x ∈ l ∧ x.name = n := fun x hx => by
    have := List.mem_filter.1 (p1.mem_iff.2 (List.mem_append_left _ hx))
    exact ⟨this.1, by simpa using this.2⟩
  have in2 : ∀ x ∈ s2, x ∈ l ∧ x.name ≠ n := fun x hx => by
    have := List.mem_filter.1 (p2.mem_iff.2 (List.mem_append_left _ hx))
    exact ⟨this.1, by simpa using this.2⟩
  obtain ⟨s, f1, f2, hp, ht⟩ := merge_timely _ (A := s1) (B := s2) (fun x => decide (x.name = n)) (Nat.le_refl _) (fun x hx => by simp [(in1 x hx).2]) (fun x hx => by simp [(in2 x hx).2]) (fun x hx => hw x (in1 x hx).1) (fun x hx => hw x (in2 x hx).1) t1 t2
  refine ⟨s, r1 ++ r2, ?_, ?_, ht, ?_⟩
  · have e1 : l.Perm ((s1 ++ r1) ++ (s2 ++ r2)) := (List.filter_append_perm (fun x : HOp => decide (x.name = n)) l).symm.trans (p1.append p2)
    refine e1.trans (List.Perm.trans ?_ (hp.symm.append_right _))
    rw [List.append_assoc, List.append_assoc]
    refine List.Perm.append_left s1 ?_
    rw [← List.append_assoc, ← List.append_assoc]
    exact List.Perm.append_right r2 List.perm_append_comm
  · intro x hx
    rcases List.mem_append.1 hx with hx | hx
    · exact u1 x hx
    · exact u2 x hx
  · refine legal_join n (σ1 := σ) (σ2 := σ) (fun x hx => ?_) rfl (fun _ _ => rfl) (by rw [f1]; exact g1) (by rw [f2]; exact g2)
    rcases List.mem_append.1 (hp.mem_iff.1 hx) with hx | hx
    · exact ha x (in1 x hx).1
    · exact ha x (in2 x hx).1
/-- of names one by one -/
theorem lin_names {σ : HSt} : ∀ (ns : List ByteArray) {l : List HOp}, (∀ x ∈ l, x.alone) → (∀ x ∈ l, Wide x) → (∀ x ∈ l, x.name ∈ ns) → (Lin l σ ↔ ∀ n ∈ ns, Lin (l.filter fun x => decide (x.name = n)) σ)
  | ns, l, ha, hw, hn => by
    refine ⟨fun h n _ => lin_part (fun m => decide (m = n)) ha h, ?_⟩
    induction ns generalizing l with
    | nil =>
      intro _
      have : l = [] := List.eq_nil_iff_forall_not_mem.2 fun x hx => by have := hn x hx; cases this
      subst this
      exact ⟨[], [], List.Perm.refl _, (fun _ h => by cases h), List.Pairwise.nil, trivial⟩
    | cons n ns ih =>
      intro h
      refine lin_join n ha hw (h n (List.mem_cons_self ..)) (ih _ (fun x hx => ha x (List.mem_filter.1 hx).1) (fun x hx => hw x (List.mem_filter.1 hx).1) (fun x hx => ?_) (fun m hm => ?_))
      · have hx' := List.mem_filter.1 hx
        have := hn x hx'.1
        rcases List.mem_cons.1 this with e | e
        · simp [e] at hx'
        · exact e
      · have := h m (List.mem_cons_of_mem _ hm)
        have e : (l.filter fun x => !decide (x.name = n)).filter (fun x => decide (x.name = m)) = (l.filter fun x => decide (x.name = m)).filter (fun x => !decide (x.name = n)) := by
          rw [List.filter_filter, List.filter_filter]
          congr 1; funext x; rw [Bool.and_comm]
        rw [e]
        by_cases hmn : m = n
        · subst hmn
          have e2 : (l.filter fun x => decide (x.name = m)).filter (fun x => !decide (x.name = m)) = [] := by
            rw [List.filter_filter]
            exact List.filter_eq_nil_iff.2 fun x _ => by simp
          rw [e2]
          exact ⟨[], [], List.Perm.refl _, (fun _ h => by cases h), List.Pairwise.nil, trivial⟩
        · have e2 : (l.filter fun x => decide (x.name = m)).filter (fun x => !decide (x.name = n)) = l.filter fun x => decide (x.name = m) := by
            refine List.filter_eq_self.2 fun x hx => ?_
            have := (List.mem_filter.1 hx).2
            have h3 : x.name = m := by simpa using this
            simp [h3, hmn]
          rw [e2]; exact this
end Go.Proofs.Ytlodaffiamegpaa
