/-
  A region that draws its order: a blob is handed out by a call, and stored in a new block.
-/
import Derived.Test.YtchnejfdompfpaaGreatRfB
namespace Go.Proofs.YtchnejfdompfpaaGreat
open Go.RowKit Go.Sort

def blArr : Value → Array Value
  | .tuple vs => match (vs[0]? : Option Value) with
    | some (Value.agg a) => a
    | _ => #[]
  | _ => #[]
/-- such a region: the call's value (ghost 0), the block (ghost 1), the blob (ghost 2) -/
structure GBl (W0 : World) (r : Bl × Bool × Int) (jc jm jx ja js : Nat) (γ : Nat → Value) (L : Nat → Bool) (w : World) : Prop where
  ext : Ext W0 w
  call : L jc = true → ∃ A c, γ 0 = .tuple #[.agg (blCells r.1 (.slice A r.1.disks.length c)), .bool r.2.1, .int .i64 r.2.2] ∧ w.ownsRow 0 3 1 (.slice A r.1.disks.length c) r.1.disks.length (r.1.disks.map (Value.int .i64))
  mv : L jm = true → γ 3 = γ 0
  ex : L jx = true → γ 2 = .agg (blArr (γ 0))
  new : L ja = true → ∃ g, γ 1 = .pointer (some ⟨g, 0, none⟩) ∧ W0.heap.size ≤ g ∧ (∃ Z : Array Value, At w g 80 Z ∧ Z.size = 13) ∧ (L js = true → w.rangeAt g 0 (blArr (γ 0)).toList)
theorem At.cells_sz {g : Nat} {t : TypeId} {m : Nat} : ∀ (vs : List Value) (o : Nat) (w : World), (∃ Z : Array Value, At w g t Z ∧ Z.size = m) → ∃ Z : Array Value, At (w.setCells g o vs) g t Z ∧ Z.size = m
  | [], _, _, h => h
  | v :: r, o, w, ⟨Z, h, hz⟩ => by
    rw [World.setCells]
    exact At.cells_sz r (o + 1) _ ⟨_, h.set o v, by simpa using hz⟩
theorem At.of_range {w : World} {g : Nat} {t : TypeId} {Z cs : Array Value} (h : At w g t Z) (hz : Z.size = cs.size) (hr : w.rangeAt g 0 cs.toList) : At w g t cs := by
  have e : Z = cs := by
    apply Array.ext hz
    intro i h1 h2
    have h3 := hr i cs[i] (by rw [Array.getElem?_toList]; exact Array.getElem?_eq_getElem h2)
    rw [Nat.zero_add, h.cell i, Array.getElem?_eq_getElem h1] at h3
    injection h3
  rw [← e]; exact h
section
variable {W0 w w' : World} {r : Bl × Bool × Int} {jc jm jx ja js : Nat} {γ : Nat → Value} {L : Nat → Bool}
theorem GBl.keep {j : Nat} (h1 : jc ≠ j) (h0 : jm ≠ j) (h2 : jx ≠ j) (h3 : ja ≠ j) (h4 : js ≠ j) : ∀ γ L w, GBl W0 r jc jm jx ja js γ L w → L j = false → GBl W0 r jc jm jx ja js γ (fun i => i == j || L i) w := by
  intro γ L w h _
  have e1 : (jc == j) = false := by simp [h1]
  have e0 : (jm == j) = false := by simp [h0]
  have e2 : (jx == j) = false := by simp [h2]
  have e3 : (ja == j) = false := by simp [h3]
  have e4 : (js == j) = false := by simp [h4]
  refine ⟨h.ext, fun hh => h.call (by simpa [e1] using hh), fun hh => h.mv (by simpa [e0] using hh), fun hh => h.ex (by simpa [e2] using hh), fun hh => ?_⟩
  obtain ⟨g, a1, a2, a3, a4⟩ := h.new (by simpa [e3] using hh)
  exact ⟨g, a1, a2, a3, fun hh => a4 (by simpa [e4] using hh)⟩
theorem GBl.called (h : GBl W0 r jc jm jx ja js γ L w) {A : Option Addr} {c : Nat} (hE : Ext w w') (hm : L jm = false) (hx : L jx = false) (hs : L js = false) (h0 : jm ≠ jc) (h1 : jx ≠ jc) (h2 : js ≠ jc) (h3 : ja ≠ jc)
    (hO : w'.ownsRow 0 3 1 (.slice A r.1.disks.length c) r.1.disks.length (r.1.disks.map (Value.int .i64))) :
    GBl W0 r jc jm jx ja js (upd γ 0 (.tuple #[.agg (blCells r.1 (.slice A r.1.disks.length c)), .bool r.2.1, .int .i64 r.2.2])) (fun i => i == jc || L i) w' := by
  have e0 : (jm == jc) = false := by simp [h0]
  have e1 : (jx == jc) = false := by simp [h1]
  have e2 : (js == jc) = false := by simp [h2]
  have e3 : (ja == jc) = false := by simp [h3]
  refine ⟨h.ext.trans hE, fun _ => ⟨A, c, by simp [upd], hO⟩, fun hh => ?_, fun hh => ?_, fun hh => ?_⟩
  · rw [e0, Bool.false_or, hm] at hh; cases hh
  · rw [e1, Bool.false_or, hx] at hh; cases hh
  · rw [e3, Bool.false_or] at hh
    obtain ⟨g, a1, a2, ⟨Z, a3, a5⟩, _⟩ := h.new hh
    refine ⟨g, by simpa [upd] using a1, a2, ⟨Z, a3.ext hE, a5⟩, fun hh => ?_⟩
    rw [e2, Bool.false_or, hs] at hh; cases hh
theorem GBl.moved (h : GBl W0 r jc jm jx ja js γ L w) (h1 : jc ≠ jm) (h0 : jx ≠ jm) (h2 : js ≠ jm) (h3 : ja ≠ jm) : GBl W0 r jc jm jx ja js (upd γ 3 (γ 0)) (fun i => i == jm || L i) w := by
  have e1 : (jc == jm) = false := by simp [h1]
  have e0 : (jx == jm) = false := by simp [h0]
  have e2 : (js == jm) = false := by simp [h2]
  have e3 : (ja == jm) = false := by simp [h3]
  have u0 : upd γ 3 (γ 0) 0 = γ 0 := by simp [upd]
  have u1 : upd γ 3 (γ 0) 1 = γ 1 := by simp [upd]
  have u2 : upd γ 3 (γ 0) 2 = γ 2 := by simp [upd]
  refine ⟨h.ext, fun hh => by rw [u0]; exact h.call (by simpa [e1] using hh), fun _ => by rw [u0]; simp [upd], fun hh => by rw [u0, u2]; exact h.ex (by simpa [e0] using hh), fun hh => ?_⟩
  rw [u0, u1]
  obtain ⟨g, a1, a2, a3, a4⟩ := h.new (by simpa [e3] using hh)
  exact ⟨g, a1, a2, a3, fun hh => a4 (by simpa [e2] using hh)⟩
theorem GBl.got (h : GBl W0 r jc jm jx ja js γ L w) (h1 : jc ≠ jx) (h0 : jm ≠ jx) (h2 : js ≠ jx) (h3 : ja ≠ jx) : GBl W0 r jc jm jx ja js (upd γ 2 (.agg (blArr (γ 0)))) (fun i => i == jx || L i) w := by
  have e1 : (jc == jx) = false := by simp [h1]
  have e0 : (jm == jx) = false := by simp [h0]
  have e2 : (js == jx) = false := by simp [h2]
  have e3 : (ja == jx) = false := by simp [h3]
  have u0 : upd γ 2 (.agg (blArr (γ 0))) 0 = γ 0 := by simp [upd]
  have u1 : upd γ 2 (.agg (blArr (γ 0))) 1 = γ 1 := by simp [upd]
  have u3 : upd γ 2 (.agg (blArr (γ 0))) 3 = γ 3 := by simp [upd]
  refine ⟨h.ext, fun hh => by rw [u0]; exact h.call (by simpa [e1] using hh), fun hh => by rw [u0, u3]; exact h.mv (by simpa [e0] using hh), fun _ => by rw [u0]; simp [upd], fun hh => ?_⟩
  rw [u0, u1]
  obtain ⟨g, a1, a2, a3, a4⟩ := h.new (by simpa [e3] using hh)
  exact ⟨g, a1, a2, a3, fun hh => a4 (by simpa [e2] using hh)⟩
theorem GBl.made (h : GBl W0 r jc jm jx ja js γ L w) {Z : Array Value} (hz : Z.size = 13) (hs : L js = false) (h1 : jc ≠ ja) (h0 : jm ≠ ja) (h2 : jx ≠ ja) (h3 : js ≠ ja) : GBl W0 r jc jm jx ja js (upd γ 1 (.pointer (some ⟨w.heap.size, 0, none⟩))) (fun i => i == ja || L i) (w.alloc (.cells Z 80)) := by
  have e1 : (jc == ja) = false := by simp [h1]
  have e0 : (jm == ja) = false := by simp [h0]
  have e2 : (jx == ja) = false := by simp [h2]
  have e3 : (js == ja) = false := by simp [h3]
  have u0 : upd γ 1 (.pointer (some ⟨w.heap.size, 0, none⟩)) 0 = γ 0 := by simp [upd]
  have u2 : upd γ 1 (.pointer (some ⟨w.heap.size, 0, none⟩)) 2 = γ 2 := by simp [upd]
  have u3 : upd γ 1 (.pointer (some ⟨w.heap.size, 0, none⟩)) 3 = γ 3 := by simp [upd]
  have hE : Ext w (w.alloc (.cells Z 80)) := (Ext.refl w).alloc _
  refine ⟨h.ext.trans hE, fun hh => ?_, fun hh => by rw [u0, u3]; exact h.mv (by simpa [e0] using hh), fun hh => by rw [u0, u2]; exact h.ex (by simpa [e2] using hh), fun _ => ⟨w.heap.size, by simp [upd], h.ext.size, ⟨Z, At.new _ _ _, hz⟩, fun hh => ?_⟩⟩
  · rw [u0]
    obtain ⟨A, c, a1, a2⟩ := h.call (by simpa [e1] using hh)
    exact ⟨A, c, a1, own_keep a2 hE (fun _ _ hh => hh)⟩
  · rw [e3, Bool.false_or, hs] at hh; cases hh
theorem GBl.stored (h : GBl W0 r jc jm jx ja js γ L w) (hc : L jc = true) (ha : L ja = true) (h0 : jm ≠ js) (h1 : jx ≠ js) {g : Nat} (hg : γ 1 = .pointer (some ⟨g, 0, none⟩)) : GBl W0 r jc jm jx ja js γ (fun i => i == js || L i) (w.setCells g 0 (blArr (γ 0)).toList) := by
  have e0 : (jm == js) = false := by simp [h0]
  have e1 : (jx == js) = false := by simp [h1]
  obtain ⟨A, c, a1, a2⟩ := h.call hc
  obtain ⟨g', b1, b2, b3, _⟩ := h.new ha
  rw [hg] at b1
  obtain rfl : g = g' := by injection b1 with b1; injection b1 with b1; injection b1
  obtain ⟨Z, hz, hz13⟩ := b3
  have hE : Chg (· = g) w (w.setCells g 0 (blArr (γ 0)).toList) := chg_setCells _ _
  have hb : (blArr (γ 0)).size = 13 := by rw [a1]; rfl
  refine ⟨h.ext.setCells b2 _ _, fun _ => ⟨A, c, a1, own_keep a2 hE fun k hk e => own_apart' a2 hz (by decide) k hk e⟩, fun hh => h.mv (by simpa [e0] using hh), fun hh => h.ex (by simpa [e1] using hh), fun _ => ⟨g, hg, b2, At.cells_sz _ _ _ ⟨Z, hz, hz13⟩, fun _ => ?_⟩⟩
  exact World.rangeAt_setCells_same w g 0 _ (by rw [Array.length_toList, hb, ← hz13]; exact hz.there)
end
/-- the plain law -/
theorem byBlob_R {P : Pm} {x : Cmd} {b : Bl} {y : Vl} (hf : P.find x.blob = some b) (hy : P.vol x.vol.toNat = y) :
    P.byBlob x = if (blobR y.closed b x).2.2 ≠ 0 then (P, (blobR y.closed b x).2.2) else if (blobR y.closed b x).2.1 = true then (P.set (blobR y.closed b x).1, 0) else (P.drop (blobR y.closed b x).1.id, 0) := by
  unfold Pm.byBlob blobR
  rw [hf]
  simp only [hy]
  by_cases h : x.kind = 10
  · rw [if_pos h, if_pos h]
    by_cases h2 : (!b.dead || decide (0 < b.pins)) = true
    · rw [if_pos h2, if_pos h2]; rfl
    · rw [if_neg h2, if_neg h2]; rfl
  · rw [if_neg h, if_neg h]
    by_cases h2 : (chgB y.closed b x).2 = 0
    · simp [h2]
    · simp [h2]
theorem app_byBlob {P : Pm} {x : Cmd} (hg : x.good = true) (hk : 6 ≤ x.kind) (hk2 : x.kind ≤ 10 ∨ x.kind = 14) : P.app x = rs1 (P.byBlob x) := by
  unfold Pm.app
  rw [if_neg (by rw [hg]; decide), if_neg (by omega), if_neg (by omega), if_neg (by omega), if_neg (by omega)]
end Go.Proofs.YtchnejfdompfpaaGreat
