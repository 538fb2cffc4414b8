/-
  Layer 14: a machine whose blocks are apart from those that turned.
-/
import Derived.Test.YtimjipcplmnpbaaGreatSe4
namespace Go.Proofs.YtimjipcplmnpbaaGreat
open Go.RowKit Go.Sort

section
variable {w w' : World} {B B' S : Nat → Prop}
theorem own_at {base : Nat} {e : TypeId} {size : Nat} {v : Value} {n : Nat} {xs : List Value} (h : w.ownsRow base e size v n xs) (hI : ∀ g cs, At w g e cs → At w' g e cs) : w'.ownsRow base e size v n xs := by
  refine ⟨h.1, ?_⟩
  rcases h.2 with hn | ⟨g, cap, cur, hv, hb, hg, rest⟩
  · exact .inl hn
  · exact .inr ⟨g, cap, cur, hv, hb, hI g cur hg, rest⟩
theorem CtAt.moved {c mb mn : Nat} {C : Ct} (h : CtAt w B c mb mn C) (hC : Chg S w w') (hS : ∀ b, B b → ¬ S b) (hI : ∀ g cs, At w g 3 cs → At w' g 3 cs) (h1 : ∀ b, b < w.heap.size → B b → B' b) (h2 : ∀ b, w'.heap.size ≤ b → B' b) : CtAt w' B' c mb mn C where
  blk := h.blk.chg hC (hS c h.lo.1)
  bm := h.bm.chg hC (hS mb h.lo.2.1)
  nm := h.nm.chg hC (hS mn h.lo.2.2.1)
  bl := fun r hr => ⟨(h.bl r hr).1.chg hC (hS r.g (h.lo.2.2.2 r hr)), own_at (h.bl r hr).2 hI⟩
  inj := h.inj
  vlen := h.vlen
  mne := h.mne
  up := h2
  lo := ⟨h1 c h.blk.lt h.lo.1, h1 mb h.bm.lt h.lo.2.1, h1 mn h.nm.lt h.lo.2.2.1, fun r hr => h1 r.g (h.bl r hr).1.lt (h.lo.2.2.2 r hr)⟩
theorem MAt.moved {m c mb mn mc : Nat} {M : Mach} {rows : Rows14} (h : MAt w B m c mb mn mc M rows) (hC : Chg S w w') (hS : ∀ b, B b → ¬ S b) (hI : ∀ g cs, At w g 3 cs → At w' g 3 cs) (h1 : ∀ b, b < w.heap.size → B b → B' b) (h2 : ∀ b, w'.heap.size ≤ b → B' b) : MAt w' B' m c mb mn mc M rows := by
  obtain ⟨C, hCt, hR⟩ := h.cat
  exact ⟨h.blk.chg hC (hS m h.lo.1), ⟨C, hCt.moved hC hS hI h1 h2, hR⟩, h.cl, h.map.chg hC (hS mc h.lo.2), fun p hp => own_keep (h.nms p hp) hC (fun k hk => hS k (h.nb p hp k hk)), h.ne, ⟨h1 m h.blk.lt h.lo.1, h1 mc h.map.lt h.lo.2⟩, fun p hp k hk => h1 k ((h.nms p hp).lt k hk.symm).2 (h.nb p hp k hk)⟩
theorem MachIn.moved {m : Nat} {M : Mach} (h : MachIn w B m M) (hC : Chg S w w') (hS : ∀ b, B b → ¬ S b) (hI : ∀ g cs, At w g 3 cs → At w' g 3 cs) (h1 : ∀ b, b < w.heap.size → B b → B' b) (h2 : ∀ b, w'.heap.size ≤ b → B' b) : MachIn w' B' m M := by
  obtain ⟨c, mb, mn, mc, rows, h⟩ := h
  exact ⟨c, mb, mn, mc, rows, h.moved hC hS hI h1 h2⟩
theorem MachIn.up {m : Nat} {M : Mach} (h : MachIn w B m M) : ∀ b, w.heap.size ≤ b → B b := by
  obtain ⟨c, mb, mn, mc, rows, h⟩ := h
  exact h.cat.up
end
/-- blocks at n or above, but for a slice's own -/
def Bs (n : Nat) (v : Value) : Nat → Prop := fun b => n ≤ b ∧ some b ≠ v.ownBlock
/-- an own row of strings is laid beside a machine -/
theorem MachIn.beside {w w' : World} {B : Nat → Prop} {n m : Nat} {M : Mach} (h : MachIn w B m M) (hB : ∀ b, B b → n ≤ b) (hn : n ≤ w.heap.size) (he : Ext w w') {v : Value} (hv : ∀ k, v.ownBlock = some k → w.heap.size ≤ k ∧ k < w'.heap.size) : MachIn w' (Bs n v) m M := by
  refine h.moved he (fun _ _ hh => hh) (fun g cs hA => hA.ext he) (fun b hb hh => ⟨hB b hh, fun e => ?_⟩) (fun b hb => ⟨by have := he.size; omega, fun e => ?_⟩)
  · have := (hv b e.symm).1; omega
  · have := (hv b e.symm).2; omega
/-- .. it grows -/
theorem MachIn.grown {w w' : World} {n m : Nat} {M : Mach} {v v' : Value} {k k' : Nat} {xs xs' : List Value} (h : MachIn w (Bs n v) m M) (hO : w.ownsRow n 9 1 v k xs) (hC : Chg (fun b => some b = v.ownBlock) w w') (hO' : w'.ownsRow n 9 1 v' k' xs') (hb : v'.ownBlock = v.ownBlock ∨ v'.ownBlock = some (w.heap.size + 1)) (hn : n ≤ w.heap.size) : MachIn w' (Bs n v') m M := by
  refine h.moved hC (fun b hb' => hb'.2) (fun g cs hA => hA.chg hC fun e => own_apart' hO hA (by decide) g e rfl) (fun b hlt hh => ⟨hh.1, fun e => ?_⟩) (fun b hge => ⟨by have := hC.size; omega, fun e => ?_⟩)
  · rcases hb with hb | hb
    · exact hh.2 (e.trans hb)
    · rw [hb] at e; injection e with e; omega
  · have := (hO'.lt b e.symm).2; omega
end Go.Proofs.YtimjipcplmnpbaaGreat
