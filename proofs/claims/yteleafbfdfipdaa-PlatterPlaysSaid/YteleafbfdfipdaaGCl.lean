/-
  A region that draws its order: a call yields a struct and a value, the struct goes to a new block.
-/
import Derived.Test.YteleafbfdfipdaaMid
namespace Go.Proofs.Yteleafbfdfipdaa
open Go.RowKit Go.Sort

def tupOf (v : Value) (k : Nat) : Value := match v with
  | .tuple vs => vs.getD k undef
  | _ => undef
def arrOf : Value → Array Value
  | .agg a => a
  | _ => #[]
/-- such a region: the call's value (ghost 0, moved: 3), the struct (2), the block it is stored in (1); what an inner call yields (5) -/
structure GCl (T : TypeId) (n : Nat) (Z0 : Array Value) (W0 : World) (S : Nat → Prop) (s0 : Value) (R : Array Value → World → Prop) (NS : Value → World → Prop) (γ : Nat → Value) (L : Nat → Bool) (w : World) : Prop where
  pre : L 6 = false → Ext W0 w
  kp : Chg S W0 w
  call : L 6 = true → ∃ X, γ 0 = .tuple #[.agg X, s0] ∧ X.size = n ∧ X.all (·.oneCell') = true ∧ R X w
  mv : L 7 = true → γ 3 = γ 0
  e1 : L 8 = true → γ 2 = tupOf (γ 0) 0
  n1 : L 10 = true → ∃ g, γ 1 = .pointer (some ⟨g, 0, none⟩) ∧ W0.heap.size ≤ g ∧ (L 11 = false → At w g T Z0) ∧ (L 11 = true → At w g T (arrOf (tupOf (γ 0) 0)))
  nm : L 5 = true → L 6 = false → NS (γ 5) w
section
variable {T : TypeId} {n : Nat} {Z0 : Array Value} {W0 w w' : World} {S : Nat → Prop} {s0 : Value} {R : Array Value → World → Prop} {NS : Value → World → Prop} {γ : Nat → Value} {L : Nat → Bool}
theorem GCl.start (W0 : World) (γ : Nat → Value) : GCl T n Z0 W0 S s0 R NS γ (fun _ => false) W0.drew :=
  ⟨fun _ => (Ext.refl W0).drew, (Chg.refl S W0).drew, (fun hh => by cases hh), (fun hh => by cases hh), (fun hh => by cases hh), (fun hh => by cases hh), (fun hh => by cases hh)⟩
theorem GCl.keep {j : Nat} (hj : j < 5 ∨ j = 9 ∨ j = 12) : ∀ γ L w, GCl T n Z0 W0 S s0 R NS γ L w → L j = false → GCl T n Z0 W0 S s0 R NS γ (fun i => i == j || L i) w := by
  intro γ L w h _
  have k : ∀ i, (i = 5 ∨ i = 6 ∨ i = 7 ∨ i = 8 ∨ i = 10 ∨ i = 11) → (i == j || L i) = L i := fun i hi => by rw [show (i == j) = false by simp; omega, Bool.false_or]
  have k5 := k 5 (by omega); have k6 := k 6 (by omega); have k7 := k 7 (by omega); have k8 := k 8 (by omega); have k10 := k 10 (by omega); have k11 := k 11 (by omega)
  exact ⟨fun hh => h.pre (k6 ▸ hh), h.kp, fun hh => h.call (k6 ▸ hh), fun hh => h.mv (k7 ▸ hh), fun hh => h.e1 (k8 ▸ hh), fun hh => by rw [k11]; exact h.n1 (k10 ▸ hh), fun hh h6 => h.nm (k5 ▸ hh) (k6 ▸ h6)⟩
theorem GCl.keep5 (hN : ∀ v w, NS v w) : ∀ γ L w, GCl T n Z0 W0 S s0 R NS γ L w → L 5 = false → GCl T n Z0 W0 S s0 R NS γ (fun i => i == 5 || L i) w := by
  intro γ L w h _
  refine ⟨fun hh => h.pre (by simpa using hh), h.kp, fun hh => h.call (by simpa using hh), fun hh => h.mv (by simpa using hh), fun hh => h.e1 (by simpa using hh), fun hh => ?_, fun _ _ => hN _ _⟩
  simpa using h.n1 (by simpa using hh)
theorem GCl.named (h : GCl T n Z0 W0 S s0 R NS γ L w) (h6 : L 6 = false) (h7 : L 7 = false) (h8 : L 8 = false) (h11 : L 11 = false) (hE : Ext w w') {v : Value} (hv : NS v w') : GCl T n Z0 W0 S s0 R NS (upd γ 5 v) (fun i => i == 5 || L i) w' := by
  refine ⟨fun hh => (h.pre h6).trans hE, h.kp.ext_trans hE, fun hh => ?_, fun hh => ?_, fun hh => ?_, fun hh => ?_, fun _ _ => by simpa [upd] using hv⟩
  · simp [h6] at hh
  · simp [h7] at hh
  · simp [h8] at hh
  · obtain ⟨g, b1, b2, b3, _⟩ := h.n1 (by simpa using hh)
    exact ⟨g, by simpa [upd] using b1, b2, fun _ => (b3 h11).ext hE, fun hh => by simp [h11] at hh⟩
theorem GCl.called (h : GCl T n Z0 W0 S s0 R NS γ L w) {X : Array Value} (hS : ∀ k, S k → k < W0.heap.size) (hK : Chg S w w') (h7 : L 7 = false) (h8 : L 8 = false) (h11 : L 11 = false) (a2 : X.size = n) (a3 : X.all (·.oneCell') = true) (a4 : R X w') :
    GCl T n Z0 W0 S s0 R NS (upd γ 0 (.tuple #[.agg X, s0])) (fun i => i == 6 || L i) w' := by
  refine ⟨fun hh => by simp at hh, h.kp.trans hK (fun _ _ h => h), fun _ => ⟨X, by simp [upd], a2, a3, a4⟩, fun hh => ?_, fun hh => ?_, fun hh => ?_, fun _ hh => by simp at hh⟩
  · simp [h7] at hh
  · simp [h8] at hh
  · obtain ⟨g, b1, b2, b3, _⟩ := h.n1 (by simpa using hh)
    exact ⟨g, by simpa [upd] using b1, b2, fun _ => (b3 h11).chg hK (fun hg => by have := hS g hg; omega), fun hh => by simp [h11] at hh⟩
theorem GCl.moved (h : GCl T n Z0 W0 S s0 R NS γ L w) : GCl T n Z0 W0 S s0 R NS (upd γ 3 (γ 0)) (fun i => i == 7 || L i) w := by
  refine ⟨fun hh => h.pre (by simpa using hh), h.kp, fun hh => ?_, fun _ => by simp [upd], fun hh => ?_, fun hh => ?_, fun hh h6 => ?_⟩
  · simpa [upd] using h.call (by simpa using hh)
  · simpa [upd] using h.e1 (by simpa using hh)
  · simpa [upd] using h.n1 (by simpa using hh)
  · simpa [upd] using h.nm (by simpa using hh) (by simpa using h6)
theorem GCl.got (h : GCl T n Z0 W0 S s0 R NS γ L w) : GCl T n Z0 W0 S s0 R NS (upd γ 2 (tupOf (γ 0) 0)) (fun i => i == 8 || L i) w := by
  refine ⟨fun hh => h.pre (by simpa using hh), h.kp, fun hh => ?_, fun hh => ?_, fun _ => by simp [upd], fun hh => ?_, fun hh h6 => ?_⟩
  · simpa [upd] using h.call (by simpa using hh)
  · simpa [upd] using h.mv (by simpa using hh)
  · simpa [upd] using h.n1 (by simpa using hh)
  · simpa [upd] using h.nm (by simpa using hh) (by simpa using h6)
theorem GCl.new (h : GCl T n Z0 W0 S s0 R NS γ L w) (hR : ∀ X w w', R X w → Ext w w' → R X w') (hNS : ∀ X w w', NS X w → Ext w w' → NS X w') (h11 : L 11 = false) :
    GCl T n Z0 W0 S s0 R NS (upd γ 1 (.pointer (some ⟨w.heap.size, 0, none⟩))) (fun i => i == 10 || L i) (w.alloc (.cells Z0 T)) := by
  have hE : Ext w (w.alloc (.cells Z0 T)) := (Ext.refl w).alloc _
  refine ⟨fun hh => (h.pre (by simpa using hh)).trans hE, h.kp.ext_trans hE, fun hh => ?_, fun hh => ?_, fun hh => ?_, fun _ => ⟨w.heap.size, by simp [upd], h.kp.size, fun _ => At.new _ _ _, fun hh => by simp [h11] at hh⟩, fun hh h6 => ?_⟩
  · obtain ⟨X, a1, a2, a3, a4⟩ := h.call (by simpa using hh)
    exact ⟨X, by simpa [upd] using a1, a2, a3, hR _ _ _ a4 hE⟩
  · simpa [upd] using h.mv (by simpa using hh)
  · simpa [upd] using h.e1 (by simpa using hh)
  · have := hNS _ _ _ (h.nm (by simpa using hh) (by simpa using h6)) hE
    simpa [upd] using this
theorem GCl.stored (h : GCl T n Z0 W0 S s0 R NS γ L w) (hz : Z0.size = n) (hR : ∀ X w w' g, R X w → W0.heap.size ≤ g → At w g T Z0 → Chg (· = g) w w' → R X w') (h6 : L 6 = true) (h10 : L 10 = true) (h11 : L 11 = false) {g : Nat} (hg : γ 1 = .pointer (some ⟨g, 0, none⟩)) :
    GCl T n Z0 W0 S s0 R NS γ (fun i => i == 11 || L i) (w.setCells g 0 (arrOf (tupOf (γ 0) 0)).toList) := by
  obtain ⟨X, a1, a2, a3, a4⟩ := h.call h6
  obtain ⟨g', b1, b2, b3, _⟩ := h.n1 h10
  replace b3 := b3 h11
  rw [hg] at b1
  obtain rfl : g = g' := by injection b1 with b1; injection b1 with b1; injection b1
  have hE : Chg (· = g) w (w.setCells g 0 (arrOf (tupOf (γ 0) 0)).toList) := chg_setCells _ _
  have hx : (arrOf (tupOf (γ 0) 0)).size = n := by rw [a1]; exact a2
  refine ⟨fun hh => by simp [h6] at hh, h.kp.trans hE (fun k hk e => by have e' : k = g := e; omega), fun _ => ⟨X, a1, a2, a3, hR _ _ _ _ a4 b2 b3 hE⟩, fun hh => h.mv (by simpa using hh), fun hh => h.e1 (by simpa using hh), fun _ => ⟨g, hg, b2, fun hh => by simp at hh, fun _ => At.cells_all b3 (by rw [hz, hx])⟩, fun _ hh => by simp [h6] at hh⟩
end
end Go.Proofs.Yteleafbfdfipdaa
