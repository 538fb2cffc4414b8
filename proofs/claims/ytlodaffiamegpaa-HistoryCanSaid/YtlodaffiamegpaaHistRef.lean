/-
  Layer 18, plain: the document's answer (all orders, one by one) is that the history can be; what may be left out, or turned.
-/
import Derived.Test.YtlodaffiamegpaaHist
namespace Go.Proofs.Ytlodaffiamegpaa

abbrev HEnts := List (ByteArray × Nat)
def hlook (E : HEnts) : HSt := fun n => lget n E
def rtells (E : HEnts) (o : HOp) : Bool :=
  if o.kind = 1 then decide (o.err = 0)
  else if o.kind = 2 ∨ o.kind = 5 then (match lget o.name E with | some v => decide (o.err = 0) && decide (o.got = v) | none => decide (o.err = 5))
  else if o.kind = 3 then (match lget o.name E with | some _ => decide (o.err = 0) | none => decide (o.err = 5))
  else if o.kind = 4 then decide (o.err = 0) && decide (o.names = E.map (·.1))
  else false
def rok (E : HEnts) (o : HOp) : Bool := rtells E o || !o.ans
def reff (E : HEnts) (o : HOp) : HEnts := if o.kind = 1 then lput blt o.name o.value E else if o.kind = 3 then ldel o.name E else E

theorem reff_rises {E : HEnts} (h : Rises blt E) (o : HOp) : Rises blt (reff E o) := by
  unfold reff; split
  · exact h.put blt_ordd
  · split
    · exact h.del _
    · exact h
theorem hlook_reff (E : HEnts) (o : HOp) : hlook (reff E o) = o.eff (hlook E) := by
  funext n
  unfold reff HOp.eff hlook
  split
  · rw [lget_lput blt_ordd]; rfl
  · split
    · rw [lget_ldel]; rfl
    · rfl
theorem names_iff {E : HEnts} (h : Rises blt E) {ns : List ByteArray} : ns = E.map (·.1) ↔ (ns.Pairwise (fun a b => blt a b = true) ∧ ∀ n, n ∈ ns ↔ hlook E n ≠ none) := by
  have hm : ∀ n, n ∈ E.map (·.1) ↔ hlook E n ≠ none := fun n => by
    unfold hlook
    rw [Ne, lget_none, List.mem_map]
    constructor
    · rintro ⟨p, hp, rfl⟩ hh
      exact hh p hp rfl
    · intro hh
      have : ∃ p, ¬ (p ∈ E → p.1 ≠ n) := Classical.not_forall.1 hh
      obtain ⟨p, hp⟩ := this
      exact ⟨p, Classical.byContradiction fun h' => hp fun hpe he => h' ⟨hpe, he⟩⟩
  have hE : (E.map (·.1)).Pairwise (fun a b => blt a b = true) := List.pairwise_map.2 h
  constructor
  · rintro rfl; exact ⟨hE, hm⟩
  · rintro ⟨h1, h2⟩
    have irr : ∀ {l : List ByteArray}, l.Pairwise (fun a b => blt a b = true) → l.Nodup := fun hl => hl.imp fun {a b} hab e => by
      rw [e, blt_ordd.irr] at hab; cases hab
    refine List.Perm.eq_of_pairwise (le := fun a b => blt a b = true) (fun a b _ _ h1 h2 => ?_) h1 hE ?_
    · have := blt_ordd.tr h1 h2
      rw [blt_ordd.irr] at this; cases this
    · exact (List.perm_ext_iff_of_nodup (irr h1) (irr hE)).2 fun n => (h2 n).trans (hm n).symm
theorem rok_iff {E : HEnts} (h : Rises blt E) (o : HOp) : rok E o = true ↔ o.ok (hlook E) := by
  have key : rtells E o = true ↔ o.tells (hlook E) := by
    unfold rtells HOp.tells
    split
    · rename_i h1; simp [h1]
    · rename_i h1
      split
      · rename_i h2
        have h3 : o.kind ≠ 3 ∧ o.kind ≠ 4 := by omega
        simp only [h1, h2, h3, false_and, false_or, or_false, true_and]
        unfold hlook
        cases hl : lget o.name E with
        | none => simp
        | some v =>
          simp only [Bool.and_eq_true, decide_eq_true_eq]
          constructor
          · rintro ⟨a, b⟩; exact .inl ⟨v, rfl, a, b⟩
          · rintro (⟨v', e, a, b⟩ | ⟨a, _⟩)
            · cases e; exact ⟨a, b⟩
            · cases a
      · rename_i h2
        split
        · rename_i h3
          have h4 : o.kind ≠ 4 := by omega
          simp only [h3, true_and]
          unfold hlook
          cases hl : lget o.name E with
          | none => simp
          | some v => simp
        · rename_i h3
          split
          · rename_i h4
            simp only [h4, true_and, Bool.and_eq_true, decide_eq_true_eq]
            rw [names_iff h]
            simp
          · rename_i h4
            simp [h1, h2, h3, h4]
  unfold rok HOp.ok
  rw [Bool.or_eq_true, key, Bool.not_eq_true', or_comm]

def rmay (left : List HOp) (i : Nat) (o : HOp) : Bool := (left.eraseIdx i).all fun p => !p.ans || decide (o.start ≤ p.fin)
def rchk : Nat → List HOp → HEnts → Bool
  | 0, _, _ => true
  | k + 1, left, E => left.all (fun o => !o.ans) || (List.range left.length).any fun i => match left[i]? with
    | none => false
    | some o => rmay left i o && (rok E o && rchk k (left.eraseIdx i) (reff E o))

theorem perm_erase {α : Type} : ∀ {l : List α} {i : Nat} {x : α}, l[i]? = some x → l.Perm (x :: l.eraseIdx i)
  | [], _, _, h => by cases h
  | y :: l, 0, x, h => by
    simp only [List.getElem?_cons_zero, Option.some.injEq] at h
    subst h; exact List.Perm.refl _
  | y :: l, i + 1, x, h => by
    rw [List.getElem?_cons_succ] at h
    rw [List.eraseIdx_cons_succ]
    exact ((perm_erase h).cons y).trans (List.Perm.swap _ _ _)

theorem rchk_iff : ∀ (k : Nat) {left : List HOp} {E : HEnts}, left.length ≤ k → Rises blt E → (rchk k left E = true ↔ Lin left (hlook E))
  | 0, left, E, hk, _ => by
    have : left = [] := List.eq_nil_of_length_eq_zero (by omega)
    subst this
    exact ⟨fun _ => ⟨[], [], List.Perm.refl _, (fun _ h => by cases h), List.Pairwise.nil, trivial⟩, fun _ => rfl⟩
  | k + 1, left, E, hk, hE => by
    unfold rchk
    rw [Bool.or_eq_true, List.all_eq_true, List.any_eq_true]
    constructor
    · rintro (h | ⟨i, hi, h⟩)
      · exact ⟨[], left, List.Perm.refl _, fun x hx => by simpa using h x hx, List.Pairwise.nil, trivial⟩
      · have hi' : i < left.length := by simpa using hi
        have hg : left[i]? = some left[i] := List.getElem?_eq_getElem hi'
        rw [hg] at h
        simp only [Bool.and_eq_true] at h
        obtain ⟨h1, h2, h3⟩ := h
        have hp := perm_erase hg
        have hlen := hp.length_eq
        rw [rchk_iff k (by simp at hlen ⊢; omega) (reff_rises hE _), hlook_reff] at h3
        obtain ⟨s, r, p1, p2, p3, p4⟩ := h3
        refine ⟨left[i] :: s, r, hp.trans (p1.cons _), p2, List.pairwise_cons.2 ⟨fun y hy hpre => ?_, p3⟩, (rok_iff hE _).1 h2, p4⟩
        have hye : y ∈ left.eraseIdx i := p1.mem_iff.2 (List.mem_append_left _ hy)
        have := List.all_eq_true.1 h1 y hye
        simp only [Bool.or_eq_true, Bool.not_eq_true', decide_eq_true_eq] at this
        rcases this with h | h
        · rw [hpre.1] at h; cases h
        · have := hpre.2; omega
    · rintro ⟨s, r, p1, p2, p3, p4⟩
      cases s with
      | nil =>
        refine .inl fun x hx => ?_
        have := p2 x (p1.mem_iff.1 hx)
        simp [this]
      | cons o s =>
        refine .inr ?_
        have ho : o ∈ left := p1.mem_iff.2 (List.mem_append_left _ (List.mem_cons_self ..))
        obtain ⟨i, hg⟩ := List.mem_iff_getElem?.1 ho
        have hi : i < left.length := (List.getElem?_eq_some_iff.1 hg).1
        refine ⟨i, by simpa using hi, ?_⟩
        rw [hg]
        have hp := perm_erase hg
        have hlen := hp.length_eq
        have hq : (left.eraseIdx i).Perm (s ++ r) := (hp.symm.trans p1).cons_inv
        obtain ⟨t1, t2⟩ := List.pairwise_cons.1 p3
        simp only [Bool.and_eq_true]
        refine ⟨?_, (rok_iff hE _).2 p4.1, ?_⟩
        · refine List.all_eq_true.2 fun y hy => ?_
          rcases List.mem_append.1 (hq.mem_iff.1 hy) with hy | hy
          · have := t1 y hy
            by_cases ha : y.ans = true
            · have h3 : ¬ y.fin < o.start := fun h => this ⟨ha, h⟩
              simp [ha]; omega
            · simp [ha]
          · simp [p2 y hy]
        · rw [rchk_iff k (by simp at hlen ⊢; omega) (reff_rises hE _), hlook_reff]
          exact ⟨s, r, hq, p2, t2, p4.2⟩

/-! ### laws of histories -/
theorem lin_without {l : List HOp} {n : Nat} {x : HOp} {σ : HSt} (hx : l[n]? = some x) (hr : x.reads) (h : Lin l σ) : Lin (l.eraseIdx n) σ :=
  Lin.drop hr (h.perm (perm_erase hx).symm)
theorem perm_set {α : Type} : ∀ {l : List α} {i : Nat} {x y : α}, l[i]? = some x → (l.set i y).Perm (y :: l.eraseIdx i)
  | [], _, _, _, h => by cases h
  | z :: l, 0, x, y, _ => List.Perm.refl _
  | z :: l, i + 1, x, y, h => by
    rw [List.getElem?_cons_succ] at h
    rw [List.eraseIdx_cons_succ, List.set_cons_succ]
    exact ((perm_set h).cons z).trans (List.Perm.swap _ _ _)
theorem lin_wider {l : List HOp} {x y : HOp} {σ : HSt} (hk : y.kind = x.kind) (hn : y.name = x.name) (hv : y.value = x.value) (he : y.err = x.err) (hg : y.got = x.got) (hns : y.names = x.names)
    (ha : y.ans = x.ans) (hs : y.start ≤ x.start) (hf : x.ans = true → x.fin ≤ y.fin) (h : Lin (x :: l) σ) : Lin (y :: l) σ := by
  obtain ⟨s, r, p1, p2, p3, p4⟩ := h
  have hok : ∀ τ, y.ok τ ↔ x.ok τ := fun τ => by unfold HOp.ok HOp.tells; rw [hk, hn, he, hg, hns, ha]
  have heff : ∀ τ, y.eff τ = x.eff τ := fun τ => by unfold HOp.eff; rw [hk, hn, hv]
  rcases List.mem_append.1 (p1.mem_iff.1 (List.mem_cons_self ..)) with hm | hm
  · obtain ⟨s1, s2, rfl⟩ := List.append_of_mem hm
    refine ⟨s1 ++ y :: s2, r, ?_, p2, ?_, ?_⟩
    · have : (x :: l).Perm (x :: (s1 ++ s2 ++ r)) := p1.trans (by rw [List.append_assoc, List.append_assoc]; exact List.perm_middle)
      refine (this.cons_inv.cons y).trans ?_
      rw [List.append_assoc, List.append_assoc]
      exact List.perm_middle.symm
    · unfold Timely at p3 ⊢
      rw [List.pairwise_append] at p3 ⊢
      obtain ⟨q1, q2, q3⟩ := p3
      obtain ⟨q4, q5⟩ := List.pairwise_cons.1 q2
      refine ⟨q1, List.pairwise_cons.2 ⟨fun z hz hp => q4 z hz ⟨hp.1, by have := hp.2; omega⟩, q5⟩, fun a ha' b hb => ?_⟩
      rcases List.mem_cons.1 hb with rfl | hb
      · intro hp
        have hxa : x.ans = true := by rw [← ha]; exact hp.1
        exact q3 a ha' x (List.mem_cons_self ..) ⟨hxa, by have := hf hxa; have := hp.2; omega⟩
      · exact q3 a ha' b (List.mem_cons_of_mem _ hb)
    · clear p1 p3
      induction s1 generalizing σ with
      | nil => exact ⟨(hok σ).2 p4.1, by rw [heff]; exact p4.2⟩
      | cons z s1 ih => exact ⟨p4.1, ih p4.2 (List.mem_append_right _ (List.mem_cons_self ..))⟩
  · obtain ⟨r1, r2, rfl⟩ := List.append_of_mem hm
    refine ⟨s, r1 ++ y :: r2, ?_, fun z hz => ?_, p3, p4⟩
    · have : (x :: l).Perm (x :: (s ++ (r1 ++ r2))) := p1.trans (by rw [← List.append_assoc, ← List.append_assoc]; exact List.perm_middle)
      refine (this.cons_inv.cons y).trans ?_
      rw [← List.append_assoc, ← List.append_assoc]
      exact List.perm_middle.symm
    · rcases List.mem_append.1 hz with hz | hz
      · exact p2 z (List.mem_append_left _ hz)
      · rcases List.mem_cons.1 hz with rfl | hz
        · rw [ha]; exact p2 x hm
        · exact p2 z (List.mem_append_right _ (List.mem_cons_of_mem _ hz))
theorem lin_set {l : List HOp} {n : Nat} {x y : HOp} {σ : HSt} (hx : l[n]? = some x) (hk : y.kind = x.kind) (hn : y.name = x.name) (hv : y.value = x.value) (he : y.err = x.err) (hg : y.got = x.got) (hns : y.names = x.names)
    (ha : y.ans = x.ans) (hs : y.start ≤ x.start) (hf : x.ans = true → x.fin ≤ y.fin) (h : Lin l σ) : Lin (l.set n y) σ :=
  (lin_wider hk hn hv he hg hns ha hs hf (h.perm (perm_erase hx).symm)).perm (perm_set hx)
end Go.Proofs.Ytlodaffiamegpaa
