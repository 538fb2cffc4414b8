/-
  Layer 13's laws: the region that calls Does.
-/
import Derived.Test.YtchnejfdompfpaaGreatL13F
import Derived.Test.YtchnejfdompfpaaGreatCatWrite
namespace Go.Proofs.YtchnejfdompfpaaGreat
open Go.RowKit Go.Sort

/-- a whole struct is loaded, by an operation whose guard lets it -/
theorem wpList_load_on {Pr : Program} {ops : Array Oper} {rest : List Oper} {op : Oper} {a : Act} {w : World} {Q : Exit → Act → World → Prop} (hw : Region.wanted op (yielded ops a.tmps) = true) (ty : TypeId) (x : Operand) (ho : op.op = .load ty x)
    (b o : Nat) (hx : a.eval x = .pointer (some ⟨b, o, none⟩)) (cs : List Value) (d : TypeDesc) (hc : w.rangeAt b o cs)
    (hu : Pr.underlying ty = some d) (hd : d.isRow = true) (hi : (Pr.info? ty).map (·.size) = some cs.length)
    (h : wpList Pr ops Q rest (a.put op.dst (.agg cs.toArray)) w) : wpList Pr ops Q (op :: rest) a w :=
  BigFrame.wpList_want hw fun _ hK => wp_load_mid ty x ho b o hx cs d hc hu hd hi (hK _ _ h)
/-- such a region: the call's value (ghost 0, moved: 3), the catalog (2), the block it is stored in (1) -/
structure GPl (W0 : World) (B c mb mn : Nat) (P P2 : Pm) (γ : Nat → Value) (L : Nat → Bool) (w : World) : Prop where
  pre : L 6 = false → Ext W0 w
  kp : Kp B W0 w
  call : L 6 = true → ∃ X, γ 0 = .tuple #[.agg X, .bool true] ∧ X.size = 37 ∧ X.all (·.oneCell') = true ∧ CatIn w B c mb mn P2 ∧ RfIn w (.agg X) P2
  mv : L 7 = true → γ 3 = γ 0
  e1 : L 8 = true → γ 2 = tupAt (γ 0) 0
  n1 : L 10 = true → ∃ g, γ 1 = .pointer (some ⟨g, 0, none⟩) ∧ W0.heap.size ≤ g ∧ (∃ Z : Array Value, At w g 31 Z ∧ Z.size = 37) ∧ (L 11 = true → At w g 31 (aggArr (tupAt (γ 0) 0)))
section
variable {W0 w w' : World} {B c mb mn : Nat} {P P2 : Pm} {γ : Nat → Value} {L : Nat → Bool}
theorem GPl.keep {j : Nat} (hj : j < 6 ∨ j = 9 ∨ j = 12) : ∀ γ L w, GPl W0 B c mb mn P P2 γ L w → L j = false → GPl W0 B c mb mn P P2 γ (fun i => i == j || L i) w := by
  intro γ L w h _
  have k : ∀ i, (i = 6 ∨ i = 7 ∨ i = 8 ∨ i = 10 ∨ i = 11) → (i == j || L i) = L i := fun i hi => by rw [show (i == j) = false by simp; omega, Bool.false_or]
  have k6 := k 6 (by omega); have k7 := k 7 (by omega); have k8 := k 8 (by omega); have k10 := k 10 (by omega); have k11 := k 11 (by omega)
  exact ⟨fun hh => h.pre (k6 ▸ hh), h.kp, fun hh => h.call (k6 ▸ hh), fun hh => h.mv (k7 ▸ hh), fun hh => h.e1 (k8 ▸ hh), fun hh => by rw [k11]; exact h.n1 (k10 ▸ hh)⟩
theorem GPl.called (h : GPl W0 B c mb mn P P2 γ L w) {X : Array Value} (hK : Kp B w w') (h7 : L 7 = false) (h8 : L 8 = false) (h11 : L 11 = false) (a2 : RfIn w' (.agg X) P2) (a3 : X.size = 37) (a4 : X.all (·.oneCell') = true) (a5 : CatIn w' B c mb mn P2) :
    GPl W0 B c mb mn P P2 (upd γ 0 (.tuple #[.agg X, .bool true])) (fun i => i == 6 || L i) w' := by
  refine ⟨fun hh => by simp at hh, h.kp.trans hK, fun _ => ⟨X, by simp [upd], a3, a4, a5, a2⟩, fun hh => ?_, fun hh => ?_, fun hh => ?_⟩
  · simp [h7] at hh
  · simp [h8] at hh
  · obtain ⟨g, b1, b2, ⟨Z, b3, b4⟩, _⟩ := h.n1 (by simpa using hh)
    exact ⟨g, by simpa [upd] using b1, b2, ⟨Z, hK.at_ _ _ _ (by decide) (by decide) b3, b4⟩, fun hh => by simp [h11] at hh⟩
theorem GPl.moved (h : GPl W0 B c mb mn P P2 γ L w) : GPl W0 B c mb mn P P2 (upd γ 3 (γ 0)) (fun i => i == 7 || L i) w := by
  refine ⟨fun hh => h.pre (by simpa using hh), h.kp, fun hh => ?_, fun _ => by simp [upd], fun hh => ?_, fun hh => ?_⟩
  · simpa [upd] using h.call (by simpa using hh)
  · simpa [upd] using h.e1 (by simpa using hh)
  · simpa [upd] using h.n1 (by simpa using hh)
theorem GPl.got (h : GPl W0 B c mb mn P P2 γ L w) : GPl W0 B c mb mn P P2 (upd γ 2 (tupAt (γ 0) 0)) (fun i => i == 8 || L i) w := by
  refine ⟨fun hh => h.pre (by simpa using hh), h.kp, fun hh => ?_, fun hh => ?_, fun _ => by simp [upd], fun hh => ?_⟩
  · simpa [upd] using h.call (by simpa using hh)
  · simpa [upd] using h.mv (by simpa using hh)
  · simpa [upd] using h.n1 (by simpa using hh)
theorem GPl.new (h : GPl W0 B c mb mn P P2 γ L w) (h11 : L 11 = false) {Z : Array Value} (hz : Z.size = 37) : GPl W0 B c mb mn P P2 (upd γ 1 (.pointer (some ⟨w.heap.size, 0, none⟩))) (fun i => i == 10 || L i) (w.alloc (.cells Z 31)) := by
  have hE : Ext w (w.alloc (.cells Z 31)) := (Ext.refl w).alloc _
  refine ⟨fun hh => (h.pre (by simpa using hh)).trans hE, h.kp.trans (Kp.of_ext hE), fun hh => ?_, fun hh => ?_, fun hh => ?_, fun _ => ⟨w.heap.size, by simp [upd], h.kp.chg.size, ⟨Z, At.new _ _ _, hz⟩, fun hh => by simp [h11] at hh⟩⟩
  · obtain ⟨X, a1, a2, a3, a4, a5⟩ := h.call (by simpa using hh)
    exact ⟨X, by simpa [upd] using a1, a2, a3, a4.ext hE, a5.ext hE⟩
  · simpa [upd] using h.mv (by simpa using hh)
  · simpa [upd] using h.e1 (by simpa using hh)
theorem GPl.stored (h : GPl W0 B c mb mn P P2 γ L w) (hB : B ≤ W0.heap.size) (h6 : L 6 = true) (h10 : L 10 = true) {g : Nat} (hg : γ 1 = .pointer (some ⟨g, 0, none⟩)) : GPl W0 B c mb mn P P2 γ (fun i => i == 11 || L i) (w.setCells g 0 (aggArr (tupAt (γ 0) 0)).toList) := by
  obtain ⟨X, a1, a2, a3, a4, a5⟩ := h.call h6
  obtain ⟨g', b1, b2, ⟨Z, b3, b4⟩, _⟩ := h.n1 h10
  rw [hg] at b1
  obtain rfl : g = g' := by injection b1 with b1; injection b1 with b1; injection b1
  have hE : Chg (· = g) w (w.setCells g 0 (aggArr (tupAt (γ 0) 0)).toList) := chg_setCells _ _
  have hx : (aggArr (tupAt (γ 0) 0)).size = 37 := by rw [a1]; exact a2
  refine ⟨fun hh => by simp [h6] at hh, h.kp.then hE (fun k e => by have e' : k = g := e; omega) hB, fun _ => ⟨X, a1, a2, a3, a4.fresh b3 (by decide) (by decide) (by decide) hE, a5.chgT b3 (by decide) (by decide) hE⟩, fun hh => h.mv (by simpa using hh), fun hh => h.e1 (by simpa using hh), fun _ => ⟨g, hg, b2, ⟨_, At.cells_all b3 (by rw [b4, hx]), hx⟩, fun _ => At.cells_all b3 (by rw [b4, hx])⟩⟩
end
end Go.Proofs.YtchnejfdompfpaaGreat
