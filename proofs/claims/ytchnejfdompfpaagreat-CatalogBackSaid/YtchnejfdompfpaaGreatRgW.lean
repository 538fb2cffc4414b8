/-
  Regions that draw their order: whole structs loaded and stored.
-/
import Derived.Test.YtchnejfdompfpaaGreatRf9
namespace Go.Proofs.YtchnejfdompfpaaGreat
open Go.RowKit Go.Sort

section
variable {P : Program} {a : Act} {w : World} {o : Oper}
theorem exec_load_mid {ty : TypeId} {x : Operand} (ho : o.op = .load ty x) {b off : Nat} (hx : a.eval x = .pointer (some ⟨b, off, none⟩)) {cs : List Value} {d : TypeDesc} (hc : w.rangeAt b off cs) (hu : P.underlying ty = some d) (hd : d.isRow = true) (hi : (P.info? ty).map (·.size) = some cs.length) :
    (execOp a.eval o).run P w = .ok (.value (.agg cs.toArray)) w := by
  unfold execOp
  simp only [ho, hx, Instr.loadAt, Instr.sureAddr, Sem.run_bind, Sem.run_pure, Result.andThen_ok, run_loadVar_mid w b off ty cs d hc hu hd hi]
theorem exec_store_mid {ty : TypeId} {x y : Operand} (ho : o.op = .store ty x y) {b off : Nat} {cells : Array Value} (hx : a.eval x = .pointer (some ⟨b, off, none⟩)) (hy : a.eval y = .agg cells) (ht : w.there b off cells.size) (hi : (P.info? ty).map (·.size) = some cells.size) (h1 : cells.all (·.oneCell') = true) :
    (execOp a.eval o).run P w = .ok .skip (w.setCells b off cells.toList) := by
  unfold execOp
  simp only [ho, hx, hy, Instr.storeAt, Instr.sureAddr, Sem.run_bind, Sem.run_pure, Result.andThen_ok, run_storeVar_mid w b off ty cells ht hi h1]
end
theorem Chg.setCells {S : Nat → Prop} {w w' : World} (h : Chg S w w') {b : Nat} (hb : S b) : ∀ (vs : List Value) (o : Nat), Chg S w (w'.setCells b o vs) := by
  intro vs
  induction vs generalizing w' with
  | nil => intro o; exact h
  | cons v r ih =>
    intro o
    rw [World.setCells]
    exact ih (Chg.setCell (p := ⟨b, o, none⟩) h (.inl hb) v) (o + 1)
theorem At.cells_same {w : World} {g : Nat} {t : TypeId} : ∀ (vs : List Value) (o : Nat) (w : World), (∃ Z, At w g t Z) → ∃ Z, At (w.setCells g o vs) g t Z
  | [], _, _, h => h
  | v :: r, o, w, ⟨Z, h⟩ => by
    rw [World.setCells]
    exact At.cells_same (w := w) r (o + 1) _ ⟨_, h.set o v⟩
theorem At.cells_far {w : World} {g b : Nat} {t : TypeId} (hne : g ≠ b) : ∀ (vs : List Value) (o : Nat) (w : World), (∃ Z, At w g t Z) → ∃ Z, At (w.setCells b o vs) g t Z
  | [], _, _, h => h
  | v :: r, o, w, ⟨Z, h⟩ => by
    rw [World.setCells]
    exact At.cells_far (w := w) hne r (o + 1) _ ⟨_, h.far (p := ⟨b, o, none⟩) hne v⟩
/-- what such a region leaves: a call's value (ghost 0), a result that is built of it (ghost 1), the two results' cells -/
structure GTwo (W0 : World) (c r : Nat) (jc jb js jr : Nat) (CA : Value → World → Prop) (BC BR : Value → Array Value) (γ : Nat → Value) (L : Nat → Bool) (w : World) : Prop where
  chg : Chg (fun k => k = c ∨ k = r) W0 w
  call : L jc = true → CA (γ 0) w
  bld : L jb = true → γ 1 = .agg (BR (γ 0))
  tc : w.there c 0 37
  tr : w.there r 0 5
  ac : ∃ Z, At w c 31 Z
  ar : ∃ Z, At w r 72 Z
  rc : L js = true → w.rangeAt c 0 (BC (γ 0)).toList
  rr : L jr = true → w.rangeAt r 0 (BR (γ 0)).toList
section
variable {W0 w w' : World} {c r : Nat} {jc jb js jr : Nat} {CA : Value → World → Prop} {BC BR : Value → Array Value} {γ : Nat → Value} {L : Nat → Bool}
theorem GTwo.keep {j : Nat} (h1 : jc ≠ j) (h2 : jb ≠ j) (h3 : js ≠ j) (h4 : jr ≠ j) : ∀ γ L w, GTwo W0 c r jc jb js jr CA BC BR γ L w → L j = false → GTwo W0 c r jc jb js jr CA BC BR γ (fun i => i == j || L i) w := by
  intro γ L w h _
  have e1 : (jc == j) = false := by simp [h1]
  have e2 : (jb == j) = false := by simp [h2]
  have e3 : (js == j) = false := by simp [h3]
  have e4 : (jr == j) = false := by simp [h4]
  exact ⟨h.chg, fun hh => h.call (by simpa [e1] using hh), fun hh => h.bld (by simpa [e2] using hh), h.tc, h.tr, h.ac, h.ar, fun hh => h.rc (by simpa [e3] using hh), fun hh => h.rr (by simpa [e4] using hh)⟩
theorem there_ext {b n : Nat} (ht : w.there b 0 n) (hE : Ext w w') : w'.there b 0 n := fun j hj => by
  obtain ⟨h1, h2⟩ := ht j hj
  obtain ⟨u, hu⟩ := Option.isSome_iff_exists.1 h1
  have hlt := cell_lt hu
  have e := Ext.block hE hlt
  refine ⟨by rw [hE.cell (p := ⟨b, 0 + j, none⟩) hlt]; exact h1, ?_⟩
  unfold World.frozen? at h2 ⊢
  rw [e]
  exact h2
theorem range_ext {b : Nat} {cs : List Value} (h : w.rangeAt b 0 cs) (hE : Ext w w') : w'.rangeAt b 0 cs := fun j v hv => by
  have := h j v hv
  rw [hE.cell (p := ⟨b, 0 + j, none⟩) (cell_lt this)]; exact this
/-- the call is done -/
theorem GTwo.called (h : GTwo W0 c r jc jb js jr CA BC BR γ L w) {x : Value} (hE : Ext w w') (hb : L jb = true → BR (γ 0) = BR x) (hr : L jr = true → BR (γ 0) = BR x) (hs : L js = true → BC (γ 0) = BC x) (hcb : jc ≠ jb) (hcs : jc ≠ js) (hcr : jc ≠ jr) (hx : CA x w') :
    GTwo W0 c r jc jb js jr CA BC BR (upd γ 0 x) (fun i => i == jc || L i) w' := by
  have eb : (jb == jc) = false := by simpa using Ne.symm hcb
  have es : (js == jc) = false := by simpa using Ne.symm hcs
  have er : (jr == jc) = false := by simpa using Ne.symm hcr
  have u0 : upd γ 0 x 0 = x := by simp [upd]
  refine ⟨Chg.trans h.chg hE (fun _ _ e => e.elim), fun _ => by rw [u0]; exact hx, fun hh => ?_, there_ext h.tc hE, there_ext h.tr hE, h.ac.imp fun _ h => h.ext hE, h.ar.imp fun _ h => h.ext hE, fun hh => ?_, fun hh => ?_⟩
  · rw [eb, Bool.false_or] at hh
    rw [u0, ← hb hh]
    simpa [upd] using h.bld hh
  · rw [es, Bool.false_or] at hh
    rw [u0, ← hs hh]
    exact range_ext (h.rc hh) hE
  · rw [er, Bool.false_or] at hh
    rw [u0, ← hr hh]
    exact range_ext (h.rr hh) hE
/-- the result is built -/
theorem GTwo.built (h : GTwo W0 c r jc jb js jr CA BC BR γ L w) (hbc : jb ≠ jc) (hbs : jb ≠ js) (hbr : jb ≠ jr) : GTwo W0 c r jc jb js jr CA BC BR (upd γ 1 (.agg (BR (γ 0)))) (fun i => i == jb || L i) w := by
  have ec : (jc == jb) = false := by simpa using Ne.symm hbc
  have es : (js == jb) = false := by simpa using Ne.symm hbs
  have er : (jr == jb) = false := by simpa using Ne.symm hbr
  have u0 : upd γ 1 (.agg (BR (γ 0))) 0 = γ 0 := by simp [upd]
  exact ⟨h.chg, fun hh => by rw [u0]; exact h.call (by simpa [ec] using hh), fun _ => by rw [u0]; simp [upd], h.tc, h.tr, h.ac, h.ar, fun hh => by rw [u0]; exact h.rc (by simpa [es] using hh), fun hh => by rw [u0]; exact h.rr (by simpa [er] using hh)⟩
/-- the catalog is stored -/
theorem GTwo.storeC (h : GTwo W0 c r jc jb js jr CA BC BR γ L w) (hcr : c ≠ r) (hCA : ∀ v w w', CA v w → (∃ Z, At w c 31 Z) → (∃ Z, At w r 72 Z) → Chg (fun k => k = c ∨ k = r) w w' → CA v w') (hX : (BC (γ 0)).size = 37) (hsc : js ≠ jc) (hsb : js ≠ jb) (hsr : js ≠ jr) :
    GTwo W0 c r jc jb js jr CA BC BR γ (fun i => i == js || L i) (w.setCells c 0 (BC (γ 0)).toList) := by
  have ec : (jc == js) = false := by simpa using Ne.symm hsc
  have eb : (jb == js) = false := by simpa using Ne.symm hsb
  have er : (jr == js) = false := by simpa using Ne.symm hsr
  have hch : Chg (fun k => k = c ∨ k = r) w (w.setCells c 0 (BC (γ 0)).toList) := Chg.setCells (Chg.refl _ w) (.inl rfl) _ _
  refine ⟨h.chg.setCells (.inl rfl) _ _, fun hh => hCA _ _ _ (h.call (by simpa [ec] using hh)) h.ac h.ar hch, fun hh => h.bld (by simpa [eb] using hh), World.there_setCells h.tc c 0 _, World.there_setCells h.tr c 0 _, At.cells_same (w := w) _ _ _ h.ac, At.cells_far (w := w) (Ne.symm hcr) _ _ _ h.ar, fun _ => ?_, fun hh => ?_⟩
  · exact World.rangeAt_setCells_same w c 0 _ (by rw [Array.length_toList, hX]; exact h.tc)
  · exact World.rangeAt_setCells_apart (h.rr (by simpa [er] using hh)) c 0 _ (.inl (Ne.symm hcr))
/-- the result is stored -/
theorem GTwo.storeR (h : GTwo W0 c r jc jb js jr CA BC BR γ L w) (hcr : c ≠ r) (hCA : ∀ v w w', CA v w → (∃ Z, At w c 31 Z) → (∃ Z, At w r 72 Z) → Chg (fun k => k = c ∨ k = r) w w' → CA v w') (hX : (BR (γ 0)).size = 5) (hrc : jr ≠ jc) (hrb : jr ≠ jb) (hrs : jr ≠ js) :
    GTwo W0 c r jc jb js jr CA BC BR γ (fun i => i == jr || L i) (w.setCells r 0 (BR (γ 0)).toList) := by
  have ec : (jc == jr) = false := by simpa using Ne.symm hrc
  have eb : (jb == jr) = false := by simpa using Ne.symm hrb
  have es : (js == jr) = false := by simpa using Ne.symm hrs
  have hch : Chg (fun k => k = c ∨ k = r) w (w.setCells r 0 (BR (γ 0)).toList) := Chg.setCells (Chg.refl _ w) (.inr rfl) _ _
  refine ⟨h.chg.setCells (.inr rfl) _ _, fun hh => hCA _ _ _ (h.call (by simpa [ec] using hh)) h.ac h.ar hch, fun hh => h.bld (by simpa [eb] using hh), World.there_setCells h.tc r 0 _, World.there_setCells h.tr r 0 _, At.cells_far (w := w) hcr _ _ _ h.ac, At.cells_same (w := w) _ _ _ h.ar, fun hh => ?_, fun _ => ?_⟩
  · exact World.rangeAt_setCells_apart (h.rc (by simpa [es] using hh)) r 0 _ (.inl hcr)
  · exact World.rangeAt_setCells_same w r 0 _ (by rw [Array.length_toList, hX]; exact h.tr)
end
end Go.Proofs.YtchnejfdompfpaaGreat
