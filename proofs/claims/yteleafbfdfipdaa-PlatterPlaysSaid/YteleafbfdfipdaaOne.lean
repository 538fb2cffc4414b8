/-
  A disk with one file, named a: what the calls make of it. Plain.
-/
import Derived.Test.YteleafbfdfipdaaAwake
namespace Go.Proofs.Yteleafbfdfipdaa

def need (f f' : Fl) : Int := wt f'.nx f'.sx - wt f.nx f.sx
theorem one_get (R u : Int) (f : Fl) : (one R u f).get bA = f := by rw [aw_get, if_pos rfl]
theorem one_e (R u : Int) (f : Fl) : (one R u f).e = 0 := rfl
theorem one_tick (R u : Int) (f : Fl) : (one R u f).tick = one R u f := rfl
theorem new_get (R : Int) (n : ByteArray) : (Dk.new R).get n = Fl.zero := rfl
theorem one_put (R u : Int) (f f' : Fl) (hf : (f'.nt || f'.st) = true) (hg : need f f' ≤ 0 ∨ need f f' ≤ R - u) : (one R u f).put bA f' = (0, one R (nuse u (need f f')) f') := by
  unfold Dk.put Dk.grow
  rw [one_get]
  rw [if_neg (by simp only [one]; unfold need at hg; omega)]
  unfold lputf
  rw [if_pos hf]
  have e : lput blt bA f' [(bA, f)] = [(bA, f')] := by
    unfold lput
    rw [if_neg (by show ¬ blt bA bA = true; decide), if_neg (by show ¬ blt bA bA = true; decide)]
  simp only [one, e]
  rfl
theorem one_drop (R u : Int) (f f' : Fl) (hf : (f'.nt || f'.st) = false) (hg : need f f' ≤ 0) : (one R u f).put bA f' = (0, ⟨R, nuse u (need f f'), false, 0, []⟩) := by
  unfold Dk.put Dk.grow
  rw [one_get]
  rw [if_neg (by simp only [one]; unfold need at hg; omega)]
  unfold lputf
  rw [if_neg (by rw [hf]; exact Bool.false_ne_true)]
  have e : ldel bA [(bA, f)] = [] := by simp [ldel]
  simp only [one, e]
  rfl
theorem new_put (R : Int) (f' : Fl) (hf : (f'.nt || f'.st) = true) (h0 : 0 ≤ R) (hg : wt f'.nx f'.sx ≤ R) : (Dk.new R).put bA f' = (0, one R (wt f'.nx f'.sx) f') := by
  have hz : wt Fl.zero.nx Fl.zero.sx = 0 := rfl
  have hw := wt_nonneg f'.nx f'.sx
  unfold Dk.put Dk.grow
  rw [new_get, hz]
  rw [if_neg (by simp only [Dk.new]; omega)]
  unfold lputf
  rw [if_pos hf]
  simp only [Dk.new, one, lput]
  rw [show max R 0 = R by omega, show nuse 0 (wt f'.nx f'.sx - 0) = wt f'.nx f'.sx by unfold nuse; split <;> omega]
theorem one_change (R u : Int) (f : Fl) (g : ByteArray → ByteArray) (hg : need f { f with nt := true, nx := g f.nx } ≤ 0 ∨ need f { f with nt := true, nx := g f.nx } ≤ R - u) :
    (one R u f).change bA g = (0, one R (nuse u (need f { f with nt := true, nx := g f.nx })) { f with nt := true, nx := g f.nx }) := by
  unfold Dk.change
  rw [if_neg (by rw [one_e]; simp), if_neg (by decide), one_tick, one_get]
  exact one_put R u f _ rfl hg
theorem new_change (R : Int) (g : ByteArray → ByteArray) (h0 : 0 ≤ R) (hg : (((g ByteArray.empty).size : Int)) ≤ R) :
    (Dk.new R).change bA g = (0, one R (g ByteArray.empty).size ⟨true, g ByteArray.empty, false, ByteArray.empty⟩) := by
  have hw : wt (g ByteArray.empty) ByteArray.empty = (g ByteArray.empty).size := by unfold wt; simp only [ByteArray.size_empty]; omega
  unfold Dk.change
  rw [if_neg (by simp [Dk.e, tryE, Dk.new]), if_neg (by decide), new_get]
  have := new_put R { Fl.zero with nt := true, nx := g Fl.zero.nx } rfl h0 (by show wt (g ByteArray.empty) ByteArray.empty ≤ R; omega)
  rw [show wt ({ Fl.zero with nt := true, nx := g Fl.zero.nx } : Fl).nx ({ Fl.zero with nt := true, nx := g Fl.zero.nx } : Fl).sx = (g ByteArray.empty).size from hw] at this
  exact this
theorem one_sync1 (R u : Int) (f : Fl) (hf : f.nt = true) : (one R u f).sync1 bA = one R (nuse u (need f ⟨f.nt, f.nx, f.nt, f.nx⟩)) ⟨f.nt, f.nx, f.nt, f.nx⟩ := by
  unfold Dk.sync1
  rw [one_get, one_put R u f _ (by simp [hf]) (by unfold need wt; simp only; omega)]
theorem one_drop1 (R u : Int) (f : Fl) (hf : f.nt = false) : (one R u f).sync1 bA = ⟨R, nuse u (need f ⟨f.nt, f.nx, f.nt, f.nx⟩), false, 0, []⟩ := by
  unfold Dk.sync1
  rw [one_get, one_drop R u f _ (by simp [hf]) (by unfold need wt; simp only; omega)]
theorem one_sync (R u : Int) (f : Fl) (ns : List ByteArray) (hns : ns = [] ∨ ns = [bA]) : (one R u f).sync ns = (0, (one R u f).sync1 bA) := by
  unfold Dk.sync
  rw [if_neg (by rw [one_e]; simp), one_tick]
  rcases hns with rfl | rfl <;> rfl
theorem one_crash_safe (R u : Int) (f : Fl) (hs : f.safe = true) (ch : List Int) : (one R u f).crash ch = one R u f := by
  unfold Dk.crash
  show ([bA].foldl (Dk.crash1 ch) (one R u f, 0)).1 = _
  rw [List.foldl_cons, List.foldl_nil, crash1_yes (one_get R u f) hs]
theorem one_crash (R u : Int) (f : Fl) (hs : f.safe = false) (ch : List Int) : (one R u f).crash ch = ((one R u f).put bA ⟨(f.left ch 0).1, (f.left ch 0).2, (f.left ch 0).1, (f.left ch 0).2⟩).2 := by
  unfold Dk.crash
  show ([bA].foldl (Dk.crash1 ch) (one R u f, 0)).1 = _
  have hl : f.left ch 0 = ((f.left ch 0).1, (f.left ch 0).2) := rfl
  rw [List.foldl_cons, List.foldl_nil, crash1_no (one_get R u f) hs hl]
theorem one_read (R u : Int) (f : Fl) (hf : f.nt = true) : (one R u f).read bA = (f.nx, 0) := by
  unfold Dk.read
  rw [if_neg (by rw [one_e]; simp), one_get, if_pos hf]
end Go.Proofs.Yteleafbfdfipdaa
