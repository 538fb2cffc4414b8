/-
  Bytes that are cut off: what is read goes on as from the whole, or ends in ErrEnd. Plain.
-/
import Derived.Test.YtchnejfdompfpaaWirePlain
namespace Go.Proofs.Ytchnejfdompfpaa

/-- c is the decoder f with the bytes q cut off its end; or it has come to its end. -/
def Cutoff (q : List UInt8) (f c : Dc) : Prop := (c.err = 0 ∧ f.rest = c.rest ++ q) ∨ c.err = 2

section
variable {q : List UInt8}
theorem uloop_cut : ∀ (p : List UInt8) (b : Bool) (v x : Nat) (r : List UInt8), uloop b v (p ++ q) = (x, ⟨r, 0⟩) → (∃ p', uloop b v p = (x, ⟨p', 0⟩) ∧ r = p' ++ q) ∨ (uloop b v p).2.err = 2
  | [], b, v, x, r, h => .inr (by simp [uloop])
  | c :: p, b, v, x, r, h => by
    rw [List.cons_append, uloop] at h
    rw [uloop]
    split at h
    · simp at h
    · rename_i hc
      rw [if_neg hc]
      split at h
      · rename_i hlt
        rw [if_pos hlt]
        simp only [Prod.mk.injEq, Dc.mk.injEq, and_true] at h
        exact .inl ⟨p, by rw [h.1], h.2.symm⟩
      · rename_i hge
        rw [if_neg hge]
        exact uloop_cut p false _ x r h
theorem u_cut {f c : Dc} (h : Cutoff q f c) (hf : f.err = 0) (hx : f.u.2.err = 0) : Cutoff q f.u.2 c.u.2 ∧ (c.u.2.err = 0 → c.u.1 = f.u.1) := by
  rcases h with ⟨h1, h2⟩ | h
  · have ef : f.u = uloop true 0 (c.rest ++ q) := by unfold Dc.u; rw [if_pos hf, h2]
    have ec : c.u = uloop true 0 c.rest := by unfold Dc.u; rw [if_pos h1]
    rw [ef] at hx ⊢
    rw [ec]
    generalize hu : uloop true 0 (c.rest ++ q) = U at hx
    obtain ⟨x, ⟨r, e⟩⟩ := U
    obtain rfl : e = 0 := hx
    rcases uloop_cut _ _ _ _ _ hu with ⟨p', h3, h4⟩ | h3
    · rw [h3]; exact ⟨.inl ⟨rfl, h4⟩, fun _ => rfl⟩
    · exact ⟨.inr h3, fun h => by rw [h3] at h; cases h⟩
  · rw [Dc.u_err (d := c) (by rw [h]; decide)]
    exact ⟨.inr h, fun h' => by rw [show c.err = 2 from h] at h'; cases h'⟩
theorem i_cut {f c : Dc} {m : Int} (h : Cutoff q f c) (hf : f.err = 0) (hx : (f.i m).2.err = 0) : Cutoff q (f.i m).2 (c.i m).2 ∧ ((c.i m).2.err = 0 → (c.i m).1 = (f.i m).1) := by
  by_cases hb : max m 0 < (f.u.1 : Int)
  · exfalso
    unfold Dc.i at hx
    rw [if_pos hb] at hx
    exact Dc.fail_err (by omega) hx
  · have e1 : f.i m = f.u := by unfold Dc.i; rw [if_neg hb]
    rw [e1] at hx ⊢
    obtain ⟨h1, h2⟩ := u_cut h hf hx
    by_cases hc : c.u.2.err = 0
    · have e2 : c.i m = c.u := by unfold Dc.i; rw [if_neg (by rw [h2 hc]; exact hb)]
      rw [e2]; exact ⟨h1, h2⟩
    · have hc2 : c.u.2.err = 2 := by rcases h1 with h1 | h1; exact absurd h1.1 hc; exact h1
      have e2 : (c.i m).2.err = 2 := by
        unfold Dc.i
        split
        · rw [Dc.fail_stays (by rw [hc2]; decide)]; exact hc2
        · exact hc2
      exact ⟨.inr e2, fun h => by rw [e2] at h; cases h⟩
theorem s_cut {f c : Dc} {m : Int} (h : Cutoff q f c) (hf : f.err = 0) (hx : (f.s m).2.err = 0) : Cutoff q (f.s m).2 (c.s m).2 := by
  have hi : (f.i m).2.err = 0 := by
    unfold Dc.s at hx
    split at hx
    · assumption
    · exact hx
  obtain ⟨h1, h2⟩ := i_cut (m := m) h hf hi
  unfold Dc.s at hx ⊢
  rw [if_pos hi] at hx ⊢
  split at hx
  · simp at hx
  · rename_i hl
    rw [if_neg hl]
    rcases h1 with ⟨h3, h4⟩ | h3
    · rw [if_pos h3, h2 h3]
      split
      · exact .inr rfl
      · rename_i hc
        refine .inl ⟨h3, ?_⟩
        simp only [h4]
        rw [List.drop_append_of_le_length (by omega)]
    · rw [if_neg (by rw [h3]; decide)]
      exact .inr h3
theorem listLoop_snd {each : Int} (n : Nat) (d : Dc) : (listLoop each (n + 1) d).2 = if (d.i each).2.err = 0 then (listLoop each n (d.i each).2).2 else (d.i each).2 := by
  rw [listLoop]
  split
  · generalize listLoop each n (d.i each).2 = Z
    obtain ⟨o, D⟩ := Z
    cases o <;> rfl
  · rfl
theorem listLoop_cut {each : Int} : ∀ (n : Nat) (f c : Dc), Cutoff q f c → f.err = 0 → (listLoop each n f).2.err = 0 → Cutoff q (listLoop each n f).2 (listLoop each n c).2
  | 0, f, c, h, _, _ => h
  | n + 1, f, c, h, hf, hx => by
    rw [listLoop_snd] at hx ⊢
    rw [listLoop_snd]
    by_cases hi : (f.i each).2.err = 0
    · rw [if_pos hi] at hx ⊢
      obtain ⟨h1, h2⟩ := i_cut (m := each) h hf hi
      have ih := listLoop_cut n (f.i each).2 (c.i each).2 h1 hi hx
      by_cases hc : (c.i each).2.err = 0
      · rw [if_pos hc]; exact ih
      · rw [if_neg hc]
        rcases h1 with h1 | h1
        · exact absurd h1.1 hc
        · exact .inr h1
    · rw [if_neg hi] at hx
      exact absurd hx hi
theorem listLoop_err0 {each : Int} : ∀ (n : Nat) (d : Dc), (listLoop each n d).2.err = 0 → d.err = 0
  | 0, d, h => h
  | n + 1, d, h => by
    rw [listLoop] at h
    by_cases hd : d.err = 0
    · exact hd
    · rw [Dc.i_err hd, if_neg hd] at h
      exact h
theorem list_cut {f c : Dc} {m e : Int} (h : Cutoff q f c) (hf : f.err = 0) (hx : (f.list m e).2.err = 0) : Cutoff q (f.list m e).2 (c.list m e).2 := by
  unfold Dc.list at hx ⊢
  simp only at hx ⊢
  have hi := listLoop_err0 _ _ hx
  obtain ⟨h1, h2⟩ := i_cut (m := m) h hf hi
  by_cases hc : (c.i m).2.err = 0
  · rw [h2 hc]
    exact listLoop_cut _ _ _ h1 hi hx
  · have hc2 : (c.i m).2.err = 2 := by rcases h1 with h1 | h1; exact absurd h1.1 hc; exact h1
    refine .inr ?_
    cases hn : (c.i m).1 with
    | zero => exact hc2
    | succ n => rw [listLoop, Dc.i_err hc, if_neg hc]; exact hc2
theorem u_err0 {d : Dc} (h : d.u.2.err = 0) : d.err = 0 := by
  by_cases hd : d.err = 0
  · exact hd
  · rw [Dc.u_err hd] at h; exact h
theorem i_err0 {d : Dc} {m : Int} (h : (d.i m).2.err = 0) : d.err = 0 := by
  by_cases hd : d.err = 0
  · exact hd
  · rw [Dc.i_err hd] at h; exact h
theorem s_err0 {d : Dc} {m : Int} (h : (d.s m).2.err = 0) : d.err = 0 := by
  by_cases hd : d.err = 0
  · exact hd
  · rw [Dc.s_err hd] at h; exact h
theorem list_err0 {d : Dc} {m e : Int} (h : (d.list m e).2.err = 0) : d.err = 0 := by
  by_cases hd : d.err = 0
  · exact hd
  · rw [Dc.list_err hd] at h; exact h
end
end Go.Proofs.Ytchnejfdompfpaa
