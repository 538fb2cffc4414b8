/-
  Part 12 of what the law leans on.
-/
import Derived.Test.YtapodcmjggmgmaaGreatDoorST1
import Derived.Test.YtapodcmjggmgmaaGreatDoorST2
import Derived.Test.YtapodcmjggmgmaaGreatDoorST3
import Derived.Test.YtapodcmjggmgmaaGreatDoorST11
set_option linter.unusedVariables false
set_option linter.unusedSimpArgs false
set_option linter.unusedSectionVars false
namespace Go.Proofs.YtapodcmjggmgmaaGreatDoor
open Go.RowKit Go.Sort
end Go.Proofs.YtapodcmjggmgmaaGreatDoor
namespace Go.Proofs.YtapodcmjggmgmaaGreatDoor
open Go.RowKit Go.Sort
structure Ks where
  n : Nat
  s : Nat
  d : Nat
  m : Nat
  c : Nat
def Ks.has (K : Ks) (k : Nat) : Prop := k = K.n ∨ k = K.s ∨ k = K.d ∨ k = K.m ∨ k = K.c
theorem NdAt.chg {w w' : World} {n s d m c : Nat} {S : St} {dr : Nat} {P : Nat → Prop} (h : NdAt w n s d m c S dr) (hC : Chg P w w') (hP : ∀ k, P k → ¬ (k = n ∨ k = s ∨ k = d ∨ k = m ∨ k = c)) : NdAt w' n s d m c S dr := by
  have q : ∀ {x}, (x = n ∨ x = s ∨ x = d ∨ x = m ∨ x = c) → ¬ P x := fun hx hp => hP _ hp hx
  exact ⟨h.nd.chg hC (q (.inl rfl)), ⟨h.st.st.chg hC (q (.inr (.inl rfl))), ⟨h.st.dk.1.chg hC (q (.inr (.inr (.inl rfl)))), h.st.dk.2.chg hC (q (.inr (.inr (.inr (.inl rfl)))))⟩, h.st.ch.chg hC (q (.inr (.inr (.inr (.inr rfl))))), h.st.ne⟩⟩
set_option maxRecDepth 100000 in
set_option maxHeartbeats 1000000 in
theorem nopen_any (w : World) (n d m : Nat) (D : Dk) (hA : At w n 41 #[.pointer (some ⟨d, 0, none⟩), .pointer none, .int .i64 0]) (hdk : DkAt w d m D) (hD : D.Calm) (hf : D.files = []) :
    Calls Tryz.prog 41 #[.pointer (some ⟨n, 0, none⟩)] w fun e w' => ∃ s c, e = .returned (.int .i64 0) ∧ w.heap.size ≤ s ∧ w.heap.size ≤ c ∧ Chg (fun k => k = n ∨ k = d) w w' ∧ NdAt w' n s d m c ⟨2000, D, [], 1, 0, false⟩ 0 := by
  have c0 : w.cell? ⟨n, 0, none⟩ = some (.pointer (some ⟨d, 0, none⟩)) := hA.cell 0
  have co : Calls Tryz.prog 37 #[.pointer (some ⟨d, 0, none⟩), .int .i64 2000] w _ := copen_any w d m D hdk hD hf 2000 (by decide)
  have hnd : n ≠ d := hA.ne hdk.1 (by decide)
  go_enter Tryz.func41, Tryz.ntmps41
  go_wp2_with fail
  refine co.mono ?_
  rintro e w1 ⟨s, c, rfl, hs, hc, hC1, hS1⟩
  clear co
  have hA1 := hA.chg hC1 hnd
  have hns : n ≠ s := by have := hA.lt; omega
  have hnc : n ≠ c := by have := hA.lt; omega
  have hnm : n ≠ m := fun e => hdk.2.ne_at hA e.symm
  have f1 := hA1.frozen 1
  have k1 := hA1.cell 1
  have hA2 := hA1.set 1 (.pointer (some ⟨s, 0, none⟩))
  have f2 := hA2.frozen 2
  have k2 := hA2.cell 2
  have hA3 := hA2.set 2 (.int .i64 0)
  have hC2 : Chg (fun k => k = n) w1 ((w1.setCell ⟨n, 1, none⟩ (.pointer (some ⟨s, 0, none⟩))).setCell ⟨n, 2, none⟩ (.int .i64 0)) := ((Chg.refl (fun k => k = n) w1).setCell (p := ⟨n, 1, none⟩) (.inl rfl) _).setCell (p := ⟨n, 2, none⟩) (.inl rfl) _
  simp only [List.getElem?_toArray, List.getElem?_cons_zero, List.getElem?_cons_succ, List.setIfInBounds_toArray, List.set_cons_zero, List.set_cons_succ] at k1 k2 hA3
  go_wp2_with fail
  go_ret
  refine ⟨s, c, rfl, hs, hc, (hC1.mono (fun k _ h => .inr h)).trans hC2 (fun _ _ h => .inl h), hA3, ⟨hS1.st.chg hC2 (fun e => hns e.symm), ⟨hS1.dk.1.chg hC2 (fun e => hnd e.symm), hS1.dk.2.chg hC2 (fun e => hnm e.symm)⟩, hS1.ch.chg hC2 (fun e => hnc e.symm), hS1.ne⟩⟩
end Go.Proofs.YtapodcmjggmgmaaGreatDoor
namespace Go.Proofs.YtapodcmjggmgmaaGreatDoor
open Go.RowKit Go.Sort
end Go.Proofs.YtapodcmjggmgmaaGreatDoor
namespace Go.Proofs.YtapodcmjggmgmaaGreatDoor
open Go.RowKit Go.Sort
end Go.Proofs.YtapodcmjggmgmaaGreatDoor
namespace Go.Proofs.YtapodcmjggmgmaaGreatDoor
open Go.RowKit
structure GAS (w00 : World) (x : Nat) (T e : TypeId) (C : Value → Array Value) (v : Value) (base size n m : Nat) (xs new : List Value) (Kp : World → Prop) (jb ja js : Nat) (γ : Nat → Value) (L : Nat → Bool) (w : World) : Prop where
  ext : Ext w00 w
  at_ : At w x T (C (if L js = true then γ 1 else v))
  own : if L ja = true then w.ownsRow base e size (γ 1) (n + m) (xs ++ new) else w.ownsRow base e size v n xs
  sl : L jb = true → L ja = false → Sln w (γ 0) size [new]
  kp : Kp w
section
variable {w00 w w' : World} {x : Nat} {T e : TypeId} {C : Value → Array Value} {v : Value} {base size n m : Nat} {xs new : List Value} {Kp : World → Prop} {jb ja js j : Nat} {γ : Nat → Value} {L : Nat → Bool}
theorem GAS.start (hE : Ext w00 w) (hA : At w x T (C v)) (hO : w.ownsRow base e size v n xs) (hk : Kp w.drew) (γ : Nat → Value) : GAS w00 x T e C v base size n m xs new Kp jb ja js γ (fun _ => false) w.drew :=
  ⟨hE.drew, hA, by simpa using own_chg hO ((Ext.refl w).drew) (fun _ h => h.elim), (fun h => by cases h), hk⟩
theorem GAS.keep (h1 : jb ≠ j) (h2 : ja ≠ j) (h3 : js ≠ j) : ∀ γ L w, GAS w00 x T e C v base size n m xs new Kp jb ja js γ L w → L j = false → GAS w00 x T e C v base size n m xs new Kp jb ja js γ (fun i => i == j || L i) w := by
  intro γ L w h _
  have e1 : (jb == j) = false := by simpa using h1
  have e2 : (ja == j) = false := by simpa using h2
  have e3 : (js == j) = false := by simpa using h3
  exact ⟨h.ext, by simpa [e3] using h.at_, by simpa [e2] using h.own, by simpa [e1, e2] using h.sl, h.kp⟩
theorem GAS.grow (h : GAS w00 x T e C v base size n m xs new Kp jb ja js γ L w) (hk : ∀ w w', Kp w → Ext w w' → Kp w') (hE : Ext w w') : GAS w00 x T e C v base size n m xs new Kp jb ja js γ L w' := by
  refine ⟨h.ext.trans hE, h.at_.ext hE, ?_, fun a b => (h.sl a b).ext hE, hk _ _ h.kp hE⟩
  have := h.own
  split <;> rename_i hl
  · rw [if_pos hl] at this; exact own_chg this hE (fun _ h => h.elim)
  · rw [if_neg hl] at this; exact own_chg this hE (fun _ h => h.elim)
theorem GAS.call (h : GAS w00 x T e C v base size n m xs new Kp jb ja js γ L w) (hk : ∀ w w', Kp w → Ext w w' → Kp w') (hE : Ext w w') (h1 : jb ≠ j) (h2 : ja ≠ j) (h3 : js ≠ j) (hj : L j = false) : GAS w00 x T e C v base size n m xs new Kp jb ja js γ (fun i => i == j || L i) w' :=
  GAS.keep h1 h2 h3 γ L w' (h.grow hk hE) hj
theorem GAS.made (h : GAS w00 x T e C v base size n m xs new Kp jb ja js γ L w) (hk : ∀ w w', Kp w → Ext w w' → Kp w') (hs : new.length = size) (ha : L ja = false) (hjs : L js = false) (h2 : ja ≠ jb) (h3 : js ≠ jb) :
    GAS w00 x T e C v base size n m xs new Kp jb ja js (upd γ 0 (.slice (some ⟨w.heap.size, 0, none⟩) 1 1)) (fun i => i == jb || L i) (w.alloc (.cells new.toArray e)) := by
  have hE := (Ext.refl w).alloc (.cells new.toArray e)
  have hg := h.grow hk hE
  have e2 : (ja == jb) = false := by simpa using h2
  have e3 : (js == jb) = false := by simpa using h3
  have h4 := hg.at_
  rw [hjs] at h4
  have h5 := hg.own
  rw [ha] at h5
  refine ⟨hg.ext, by simpa [e3, hjs] using h4, by simpa [e2, ha] using h5, fun _ _ => ?_, hg.kp⟩
  show Sln _ (.slice (some ⟨w.heap.size, 0, none⟩) 1 1) size [new]
  refine ⟨_, 1, rfl, fun _ => ⟨_, _, rfl, fun i row hi j y hy => ?_⟩⟩
  have hi0 : i = 0 := by have := (List.getElem?_eq_some_iff.1 hi).1; simp at this; omega
  subst hi0
  simp only [List.getElem?_cons_zero, Option.some.injEq] at hi
  subst hi
  have := (At.new w e new.toArray).cell j
  simp only [Nat.zero_mul, Nat.add_zero, Nat.zero_add]
  rw [this]
  simpa using hy
theorem GAS.appended (h : GAS w00 x T e C v base size n m xs new Kp jb ja js γ L w) (hTe : T ≠ e) (hbase : w00.heap.size ≤ base) (hk : ∀ w w', Kp w → w.ownsRow base e size v n xs → Chg (fun k => some k = v.ownBlock) w w' → Kp w') (ha : L ja = false) (hjs : L js = false) (h3 : js ≠ ja) {v' : Value}
    (hO : w'.ownsRow base e size v' (n + m) (xs ++ new)) (hC : Chg (fun k => some k = v.ownBlock) w w') : GAS w00 x T e C v base size n m xs new Kp jb ja js (upd γ 1 v') (fun i => i == ja || L i) w' := by
  have e3 : (js == ja) = false := by simpa using h3
  have h4 := h.at_
  rw [hjs] at h4
  have h5 := h.own
  rw [ha] at h5
  simp only [Bool.false_eq_true, if_false] at h4 h5
  refine ⟨Chg.own_ext h.ext hC h5 hbase, ?_, by simpa [upd] using hO, fun _ hh => by simp at hh, hk _ _ h.kp h5 hC⟩
  simp only [e3, hjs, Bool.or_self, Bool.false_eq_true, if_false]
  refine h4.chg hC fun hx => ?_
  rcases h5.2 with ⟨rfl, _⟩ | ⟨g, cap, cur, rfl, _, hg, _⟩
  · cases hx
  · have hxg : x = g := by simpa [Value.ownBlock] using hx
    subst hxg
    unfold At at h4
    rw [hg] at h4
    injection h4 with h4
    injection h4 with _ h4 _
    exact hTe h4.symm
theorem GAS.stored (h : GAS w00 x T e C v base size n m xs new Kp jb ja js γ L w) (hk : ∀ w w', Kp w → Chg (fun k => k = x) w w' → (∃ cs, At w x T cs) → Kp w') (ha : L ja = true) (hjs : L js = false) (h2 : ja ≠ js) (hx : w00.heap.size ≤ x) (hxb : x < base) {i : Nat} (hC : (C v).setIfInBounds i (γ 1) = C (γ 1)) :
    GAS w00 x T e C v base size n m xs new Kp jb ja js γ (fun i => i == js || L i) (w.setCell ⟨x, i, none⟩ (γ 1)) := by
  have h4 := h.at_
  rw [hjs] at h4
  have h5 := h.own
  rw [ha] at h5
  simp only [Bool.false_eq_true, if_false, if_true] at h4 h5
  have hc : Chg (fun k => k = x) w (w.setCell ⟨x, i, none⟩ (γ 1)) := (Chg.refl (fun k => k = x) w).setCell (p := ⟨x, i, none⟩) (.inl rfl) _
  refine ⟨(h.ext.chg_trans hc).mono (fun k hk' e => by omega), ?_, ?_, fun _ hh => by simp [ha] at hh, hk _ _ h.kp hc ⟨_, h4⟩⟩
  · simp only [beq_self_eq_true, Bool.true_or, if_true]
    rw [← hC]; exact h4.set i _
  · simp only [ha, Bool.or_true, if_true]
    exact own_chg h5 hc (fun k hk' => by omega)
end
theorem own_off {w w' : World} {base : Nat} {e : TypeId} {size : Nat} {v : Value} {n : Nat} {xs : List Value} {S : Nat → Prop} (h : w.ownsRow base e size v n xs) (hc : Chg S w w') (hS : ∀ k, some k = v.ownBlock → ¬ S k) : w'.ownsRow base e size v n xs := by
  obtain ⟨h1, h2⟩ := h
  refine ⟨h1, ?_⟩
  rcases h2 with h2 | ⟨g, cap, cur, rfl, hb, hg, r⟩
  · exact .inl h2
  · exact .inr ⟨g, cap, cur, rfl, hb, (hc.block g (lt_of_block hg) (hS g rfl)).trans hg, r⟩
theorem own_types {w : World} {b1 b2 : Nat} {e1 e2 : TypeId} {s1 s2 n1 n2 : Nat} {v1 v2 : Value} {x1 x2 : List Value} (h : w.ownsRow b1 e1 s1 v1 n1 x1) (h' : w.ownsRow b2 e2 s2 v2 n2 x2) (hne : e1 ≠ e2) : ∀ k, some k = v1.ownBlock → ¬ some k = v2.ownBlock := by
  intro k h1 h2
  rcases h.2 with ⟨rfl, _⟩ | ⟨g, cap, cur, rfl, _, hg, _⟩
  · cases h1
  · rcases h'.2 with ⟨rfl, _⟩ | ⟨g', cap', cur', rfl, _, hg', _⟩
    · cases h2
    · have e : k = g := by simpa [Value.ownBlock] using h1
      have e' : k = g' := by simpa [Value.ownBlock] using h2
      subst e
      subst e'
      rw [hg] at hg'
      injection hg' with hg'
      injection hg' with _ hg' _
      exact hne hg'
theorem own_noat {w : World} {b1 x : Nat} {e1 T : TypeId} {s1 n1 : Nat} {v1 : Value} {x1 : List Value} (h : w.ownsRow b1 e1 s1 v1 n1 x1) (h' : ∃ cs, At w x T cs) (hne : e1 ≠ T) : ∀ k, some k = v1.ownBlock → k ≠ x := by
  rintro k h1 rfl
  obtain ⟨cs, h'⟩ := h'
  rcases h.2 with ⟨rfl, _⟩ | ⟨g, cap, cur, rfl, _, hg, _⟩
  · cases h1
  · have e : k = g := by simpa [Value.ownBlock] using h1
    subst e
    unfold At at h'
    rw [hg] at h'
    injection h' with h'
    injection h' with _ h' _
    exact hne h'
end Go.Proofs.YtapodcmjggmgmaaGreatDoor
