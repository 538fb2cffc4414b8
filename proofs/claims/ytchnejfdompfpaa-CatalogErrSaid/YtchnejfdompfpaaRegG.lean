/-
  A region that draws its order, by what each operation leaves: a value that is known, or one that is some value (a ghost), or nothing. No program in sight.
-/
import Derived.Test.YtchnejfdompfpaaRegion
namespace Go.Proofs.Ytchnejfdompfpaa

inductive Sg
  | val (v : Value)
  | g (k : Nat)
  | any
def Sg.isG (k : Nat) : Sg → Bool
  | .g i => i == k
  | _ => false
def sgφ (sp : List Sg) (γ : Nat → Value) (d : Nat) (v : Value) (_w : World) : Prop := match sp.getD d .any with
  | .val x => v = x
  | .g k => v = γ k
  | .any => True
def upd (γ : Nat → Value) (k : Nat) (x : Value) : Nat → Value := fun i => if i = k then x else γ i
theorem sgφ_upd {sp : List Sg} {γ : Nat → Value} {j k : Nat} {x : Value} (hk : ((List.range sp.length).all fun d => d == j || !(sp.getD d .any).isG k) = true) {d : Nat} (hd : d ≠ j) {v : Value} {w w' : World} (h : sgφ sp γ d v w) : sgφ sp (upd γ k x) d v w' := by
  unfold sgφ at *
  cases hs : sp.getD d .any with
  | val y => rw [hs] at h; exact h
  | any => trivial
  | g i =>
    rw [hs] at h
    have hl : d < sp.length := by
      rcases Nat.lt_or_ge d sp.length with hl | hl
      · exact hl
      · rw [List.getD_eq_getElem?_getD, List.getElem?_eq_none hl] at hs; cases hs
    have := List.all_eq_true.1 hk d (List.mem_range.2 hl)
    rw [hs] at this
    simp [Sg.isG, hd] at this
    simp only [upd, this, if_false]
    exact h
theorem sgφ_stay {sp : List Sg} {γ : Nat → Value} {d : Nat} {v : Value} {w w' : World} (h : sgφ sp γ d v w) : sgφ sp γ d v w' := h

section
variable {P : Program} {ops : Array Oper} {Q : Exit → Act → World → Prop} {a0 : Act} {sp : List Sg} {G : (Nat → Value) → (Nat → Bool) → World → Prop} {j : Nat} {o : Oper}

/-- what a step may use -/
structure StIn (ops : Array Oper) (a0 : Act) (sp : List Sg) (G : (Nat → Value) → (Nat → Bool) → World → Prop) (j : Nat) (γ : Nat → Value) (L : Nat → Bool) (v : Nat → Value) (a : Act) (w : World) : Prop where
  off : L j = false
  dep : ∀ d, needs ops j d = true → L d = true
  down : ∀ i d, L i = true → needs ops i d = true → L d = true
  inv : G γ L w
  φ : ∀ d, needs ops j d = true → sgφ sp γ d (v d) w
  val : ∀ d t, dstOf ops d = some t → needs ops j d = true → a.tmps.getD t undef = v d
  far : ∀ t, ((List.range ops.size).all fun d => dstOf ops d != some t) = true → a.tmps.getD t undef = a0.tmps.getD t undef
theorem StIn.mk' {γ : Nat → Value} {L : Nat → Bool} {v : Nat → Value} {a : Act} {w : World} (hdown : ∀ i d, L i = true → needs ops i d = true → L d = true) (hLj : L j = false) (hneed : ∀ d, needs ops j d = true → L d = true) (hG : G γ L w) (hφ : ∀ d, L d = true → sgφ sp γ d (v d) w)
    (hval : ∀ d t, dstOf ops d = some t → L d = true → a.tmps.getD t undef = v d) (h0 : ∀ t, (∀ d, dstOf ops d ≠ some t) → a.tmps.getD t undef = a0.tmps.getD t undef) : StIn ops a0 sp G j γ L v a w :=
  ⟨hLj, hneed, hdown, hG, fun d hd => hφ d (hneed d hd), fun d t hd hn => hval d t hd (hneed d hn), fun t ht => h0 t fun d hd => by
    have hds : d < ops.size := by
      rcases Nat.lt_or_ge d ops.size with h | h
      · exact h
      · unfold dstOf at hd; rw [Array.getElem?_eq_none h] at hd; cases hd
    have := List.all_eq_true.1 ht d (List.mem_range.2 hds)
    rw [hd] at this
    simp at this⟩

theorem sg_val {x : Value} (ho : ops[j]? = some o) (hg : o.guard = none) (hs : sp.getD j .any = .val x) (hG : ∀ γ L w, G γ L w → L j = false → G γ (fun i => i == j || L i) w)
    (h : ∀ γ L v a w, StIn ops a0 sp G j γ L v a w → (execOp a.eval o).run P w = .ok (.value x) w) : StepAt P ops Q a0 (sgφ sp) G j := by
  intro γ L v a w hdown hLj hneed hGw hφ hval h0
  refine wpOp_value ho hg (h γ L v a w (StIn.mk' hdown hLj hneed hGw hφ hval h0)) ⟨x, γ, rfl, ?_, fun d _ _ hh => hh, hG γ L w hGw hLj⟩
  unfold sgφ
  rw [hs]
theorem sg_skip (ho : ops[j]? = some o) (hg : o.guard = none) (hs : sp.getD j .any = .any)
    (h : ∀ γ L v a w, StIn ops a0 sp G j γ L v a w → ∃ w', (execOp a.eval o).run P w = .ok .skip w' ∧ G γ (fun i => i == j || L i) w') : StepAt P ops Q a0 (sgφ sp) G j := by
  intro γ L v a w hdown hLj hneed hGw hφ hval h0
  obtain ⟨w', hrun, hG'⟩ := h γ L v a w (StIn.mk' hdown hLj hneed hGw hφ hval h0)
  refine wpOp_skip ho hg hrun ⟨undef, γ, rfl, ?_, fun d _ _ hh => hh, hG'⟩
  unfold sgφ
  rw [hs]; trivial
theorem sg_call {k : Nat} {f : FuncId} (ho : ops[j]? = some o) (hg : o.guard = none) (hs : sp.getD j .any = .g k) (hk : ((List.range sp.length).all fun d => d == j || !(sp.getD d .any).isG k) = true)
    (h : ∀ γ L v a w, StIn ops a0 sp G j γ L v a w → ∃ args, (execOp a.eval o).run P w = .ok (.enter f args) w ∧ Calls P f args w fun r w' => ∃ x, r = .returned x ∧ G (upd γ k x) (fun i => i == j || L i) w') : StepAt P ops Q a0 (sgφ sp) G j := by
  intro γ L v a w hdown hLj hneed hGw hφ hval h0
  obtain ⟨args, hrun, hcall⟩ := h γ L v a w (StIn.mk' hdown hLj hneed hGw hφ hval h0)
  refine wpOp_calls ho hg hrun (hcall.mono ?_)
  rintro r w' ⟨x, rfl, hG'⟩
  refine ⟨x, rfl, x, upd γ k x, rfl, ?_, fun d hd _ hh => sgφ_upd hk hd hh, hG'⟩
  unfold sgφ
  rw [hs]
  simp [upd]
end
end Go.Proofs.Ytchnejfdompfpaa
