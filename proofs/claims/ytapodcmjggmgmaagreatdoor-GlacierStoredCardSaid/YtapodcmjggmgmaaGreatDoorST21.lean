/-
  Part 21 of what the law leans on.
-/
import Derived.Test.YtapodcmjggmgmaaGreatDoorST12
import Derived.Test.YtapodcmjggmgmaaGreatDoorST18
set_option linter.unusedVariables false
set_option linter.unusedSimpArgs false
set_option linter.unusedSectionVars false
namespace Go.Proofs.YtapodcmjggmgmaaGreatDoor
open Go.RowKit
structure NPok {κ : Type} (hs : κ → Nat → Prop) (NP : World → κ → Prop) (e : TypeId) : Prop where
  chg : ∀ {w w' : World} {K : κ} {S : Nat → Prop}, NP w K → Chg S w w' → (∀ k, S k → ¬ hs K k) → NP w' K
  own : ∀ {w : World} {K : κ} {base n : Nat} {v : Value} {xs : List Value}, NP w K → w.ownsRow base e 1 v n xs → ∀ k, some k = v.ownBlock → ¬ hs K k
  lt : ∀ {w : World} {K : κ} {k : Nat}, NP w K → hs K k → k < w.heap.size
structure GAN (w00 : World) (x : Nat) (T e : TypeId) (C : Value → Array Value) (v : Value) (base n : Nat) (xs : List Value) {κ : Type} (nn : κ → Nat) (hs : κ → Nat → Prop) (NP : World → κ → Prop) (Kp : World → Prop) (B0 jc jb ja js : Nat) (γ : Nat → Value) (L : Nat → Bool) (w : World) : Prop where
  ext : Ext w00 w
  at_ : At w x T (C (if L js = true then γ 1 else v))
  own : if L ja = true then w.ownsRow base e 1 (γ 1) (n + 1) (xs ++ [γ 2]) else w.ownsRow base e 1 v n xs
  sl : L jb = true → L ja = false → Sln w (γ 0) 1 [[γ 2]]
  nw : L jc = true → ∃ K, γ 2 = .pointer (some ⟨nn K, 0, none⟩) ∧ NP w K ∧ ∀ k, hs K k → B0 ≤ k
  siz : B0 ≤ w.heap.size
  kp : Kp w
section
variable {w00 w w' : World} {x : Nat} {T e : TypeId} {C : Value → Array Value} {v : Value} {base n : Nat} {xs : List Value} {κ : Type} {nn : κ → Nat} {hs : κ → Nat → Prop} {NP : World → κ → Prop} {Kp : World → Prop} {B0 jc jb ja js j : Nat} {γ : Nat → Value} {L : Nat → Bool}
theorem GAN.start (hE : Ext w00 w) (hA : At w x T (C v)) (hO : w.ownsRow base e 1 v n xs) (hk : Kp w.drew) (hB : B0 ≤ w.heap.size) (γ : Nat → Value) : GAN w00 x T e C v base n xs nn hs NP Kp B0 jc jb ja js γ (fun _ => false) w.drew :=
  ⟨hE.drew, hA, by simpa using own_chg hO ((Ext.refl w).drew) (fun _ h => h.elim), (fun h => by cases h), (fun h => by cases h), hB, hk⟩
theorem GAN.keep (h0 : jc ≠ j) (h1 : jb ≠ j) (h2 : ja ≠ j) (h3 : js ≠ j) : ∀ γ L w, GAN w00 x T e C v base n xs nn hs NP Kp B0 jc jb ja js γ L w → L j = false → GAN w00 x T e C v base n xs nn hs NP Kp B0 jc jb ja js γ (fun i => i == j || L i) w := by
  intro γ L w h _
  have e0 : (jc == j) = false := by simpa using h0
  have e1 : (jb == j) = false := by simpa using h1
  have e2 : (ja == j) = false := by simpa using h2
  have e3 : (js == j) = false := by simpa using h3
  exact ⟨h.ext, by simpa [e3] using h.at_, by simpa [e2] using h.own, by simpa [e1, e2] using h.sl, by simpa [e0] using h.nw, h.siz, h.kp⟩
theorem GAN.grow (h : GAN w00 x T e C v base n xs nn hs NP Kp B0 jc jb ja js γ L w) (ok : NPok hs NP e) (hk : ∀ w w', Kp w → Ext w w' → Kp w') (hE : Ext w w') : GAN w00 x T e C v base n xs nn hs NP Kp B0 jc jb ja js γ L w' := by
  refine ⟨h.ext.trans hE, h.at_.ext hE, ?_, fun a b => (h.sl a b).ext hE, fun a => ?_, Nat.le_trans h.siz hE.size, hk _ _ h.kp hE⟩
  · have := h.own
    split <;> rename_i hl
    · rw [if_pos hl] at this; exact own_chg this hE (fun _ h => h.elim)
    · rw [if_neg hl] at this; exact own_chg this hE (fun _ h => h.elim)
  · obtain ⟨K, h1, h2, h3⟩ := h.nw a
    exact ⟨K, h1, ok.chg h2 hE (fun _ h => h.elim), h3⟩
theorem GAN.node (h : GAN w00 x T e C v base n xs nn hs NP Kp B0 jc jb ja js γ L w) (ok : NPok hs NP e) (hk : ∀ w w', Kp w → Ext w w' → Kp w') (hb : L jb = false) (ha : L ja = false) (hjs : L js = false) (h1 : jb ≠ jc) (h2 : ja ≠ jc) (h3 : js ≠ jc) (hE : Ext w w') {K : κ} (hN : NP w' K) (hK : ∀ k, hs K k → w.heap.size ≤ k) :
    GAN w00 x T e C v base n xs nn hs NP Kp B0 jc jb ja js (upd γ 2 (.pointer (some ⟨nn K, 0, none⟩))) (fun i => i == jc || L i) w' := by
  have hg := h.grow ok hk hE
  have e1 : (jb == jc) = false := by simpa using h1
  have e2 : (ja == jc) = false := by simpa using h2
  have e3 : (js == jc) = false := by simpa using h3
  have h4 := hg.at_
  rw [hjs] at h4
  have h5 := hg.own
  rw [ha] at h5
  exact ⟨hg.ext, by simpa [e3, hjs] using h4, by simpa [e2, ha] using h5, fun q => by simp [e1, hb] at q, fun _ => ⟨K, by simp [upd], hN, fun k hk => by have := hK k hk; have := h.siz; omega⟩, hg.siz, hg.kp⟩
theorem GAN.made (h : GAN w00 x T e C v base n xs nn hs NP Kp B0 jc jb ja js γ L w) (ok : NPok hs NP e) (hk : ∀ w w', Kp w → Ext w w' → Kp w') (hc : L jc = true) (ha : L ja = false) (hjs : L js = false) (h2 : ja ≠ jb) (h3 : js ≠ jb) :
    GAN w00 x T e C v base n xs nn hs NP Kp B0 jc jb ja js (upd γ 0 (.slice (some ⟨w.heap.size, 0, none⟩) 1 1)) (fun i => i == jb || L i) (w.alloc (.cells #[γ 2] e)) := by
  have hE := (Ext.refl w).alloc (.cells #[γ 2] e)
  have hg := h.grow ok hk hE
  have e2 : (ja == jb) = false := by simpa using h2
  have e3 : (js == jb) = false := by simpa using h3
  have h4 := hg.at_
  rw [hjs] at h4
  have h5 := hg.own
  rw [ha] at h5
  have h6 := hg.nw hc
  refine ⟨hg.ext, by simpa [e3, hjs] using h4, by simpa [e2, ha] using h5, fun _ _ => ?_, fun _ => by simpa [upd] using h6, hg.siz, hg.kp⟩
  show Sln _ (.slice (some ⟨w.heap.size, 0, none⟩) 1 1) 1 [[γ 2]]
  refine ⟨_, 1, rfl, fun _ => ⟨_, _, rfl, fun i row hi j y hy => ?_⟩⟩
  have hi0 : i = 0 := by have := (List.getElem?_eq_some_iff.1 hi).1; simp at this; omega
  subst hi0
  simp only [List.getElem?_cons_zero, Option.some.injEq] at hi
  subst hi
  have := (At.new w e #[γ 2]).cell j
  simp only [Nat.zero_mul, Nat.add_zero, Nat.zero_add]
  rw [this]
  simpa using hy
theorem GAN.appended (h : GAN w00 x T e C v base n xs nn hs NP Kp B0 jc jb ja js γ L w) (ok : NPok hs NP e) (hTe : T ≠ e) (hbase : w00.heap.size ≤ base) (hvl : ∀ k, some k = v.ownBlock → k < B0) (hk : ∀ w w', Kp w → w.ownsRow base e 1 v n xs → Chg (fun k => some k = v.ownBlock) w w' → Kp w') (hc : L jc = true) (ha : L ja = false) (hjs : L js = false) (h0 : jc ≠ ja) (h3 : js ≠ ja) {v' : Value}
    (hO : w'.ownsRow base e 1 v' (n + 1) (xs ++ [γ 2])) (hC : Chg (fun k => some k = v.ownBlock) w w') : GAN w00 x T e C v base n xs nn hs NP Kp B0 jc jb ja js (upd γ 1 v') (fun i => i == ja || L i) w' := by
  have e3 : (js == ja) = false := by simpa using h3
  have e0 : (jc == ja) = false := by simpa using h0
  have h4 := h.at_
  rw [hjs] at h4
  have h5 := h.own
  rw [ha] at h5
  simp only [Bool.false_eq_true, if_false] at h4 h5
  refine ⟨Chg.own_ext h.ext hC h5 hbase, ?_, by simpa [upd] using hO, fun _ hh => by simp at hh, fun _ => ?_, Nat.le_trans h.siz hC.size, hk _ _ h.kp h5 hC⟩
  · simp only [e3, hjs, Bool.or_self, Bool.false_eq_true, if_false]
    refine h4.chg hC fun hx => ?_
    rcases h5.2 with ⟨rfl, _⟩ | ⟨g, cap, cur, rfl, _, hg, _⟩
    · cases hx
    · have hxg : x = g := by simpa [Value.ownBlock] using hx
      subst hxg
      unfold At at h4
      rw [hg] at h4
      injection h4 with h4
      injection h4 with _ h4 _
      exact hTe h4.symm
  · obtain ⟨K, h6, h7, h8⟩ := h.nw hc
    exact ⟨K, by simpa [upd] using h6, ok.chg h7 hC (fun k hk hh => by have := hvl k hk; have := h8 k hh; omega), h8⟩
theorem GAN.stored (h : GAN w00 x T e C v base n xs nn hs NP Kp B0 jc jb ja js γ L w) (ok : NPok hs NP e) (hk : ∀ w w', Kp w → Chg (fun k => k = x) w w' → (∃ cs, At w x T cs) → Kp w') (hc : L jc = true) (ha : L ja = true) (hjs : L js = false) (h0 : jc ≠ js) (h1 : jb ≠ js) (h2 : ja ≠ js) (hx : w00.heap.size ≤ x) (hxb : x < base) (hxB : x < B0) {i : Nat} (hC : (C v).setIfInBounds i (γ 1) = C (γ 1)) :
    GAN w00 x T e C v base n xs nn hs NP Kp B0 jc jb ja js γ (fun i => i == js || L i) (w.setCell ⟨x, i, none⟩ (γ 1)) := by
  have h4 := h.at_
  rw [hjs] at h4
  have h5 := h.own
  rw [ha] at h5
  simp only [Bool.false_eq_true, if_false, if_true] at h4 h5
  have hc' : Chg (fun k => k = x) w (w.setCell ⟨x, i, none⟩ (γ 1)) := (Chg.refl (fun k => k = x) w).setCell (p := ⟨x, i, none⟩) (.inl rfl) _
  refine ⟨(h.ext.chg_trans hc').mono (fun k hk' e => by omega), ?_, ?_, fun _ hh => by simp [ha] at hh, fun _ => ?_, Nat.le_trans h.siz hc'.size, hk _ _ h.kp hc' ⟨_, h4⟩⟩
  · simp only [beq_self_eq_true, Bool.true_or, if_true]
    rw [← hC]; exact h4.set i _
  · simp only [ha, Bool.or_true, if_true]
    exact own_chg h5 hc' (fun k hk' => by omega)
  · obtain ⟨K, h6, h7, h8⟩ := h.nw hc
    exact ⟨K, h6, ok.chg h7 hc' (fun k e hh => by have := h8 k hh; omega), h8⟩
end
end Go.Proofs.YtapodcmjggmgmaaGreatDoor
namespace Go.Proofs.YtapodcmjggmgmaaGreatDoor
open Go.RowKit Go.Sort
abbrev volC (s : ByteArray) (n : Nat) : Array Value := #[.int .i64 1000, .int .i64 0, .bool false, .int .i64 0, .string s, .slice none 0 0, .int .i64 0, .int .i64 0, .int .i64 (n : Int), .bool false]
set_option maxRecDepth 100000 in
theorem reelnew_any (w : World) : Calls Tryz.prog 49 #[.int .i64 1000] w fun e w' => ∃ v : Nat, e = .returned (.pointer (some ⟨v, 0, none⟩)) ∧ At w' v 118 (volC ByteArray.empty 0) ∧ Ext w w' ∧ w.heap.size ≤ v := by
  have cm := made_any 1000 w
  rw [show max (1000 : Int) 0 = 1000 from rfl] at cm
  go_enter Tryz.func49, Tryz.ntmps49
  go_wp2_with fail
  refine cm.mono ?_
  rintro e w1 ⟨rfl, hE⟩
  clear cm
  go_wp2_with fail
  go_ret
  have hA := At.new w1 118 (volC ByteArray.empty 0)
  exact ⟨w1.heap.size, rfl, hA, hE.alloc _, hE.size⟩
set_option maxRecDepth 100000 in
theorem cut0_any (w : World) (v : Nat) (s : ByteArray) (n : Nat) (hA : At w v 118 (volC s n)) : Calls Tryz.prog 51 #[.pointer (some ⟨v, 0, none⟩), .int .i64 0] w fun e w' => e = .returned (.tuple #[]) ∧ At w' v 118 (volC s n) ∧ Chg (fun k => k = v) w w' := by
  have c5 := hA.cell 5
  simp at c5
  go_enter Tryz.func51, Tryz.ntmps51
  go_wp2_with fail
  go_loopw [13] (fun iv wr => iv = .int .i64 0 ∧ wr = w) (fun _ _ => 0)
  case atStart => exact ⟨rfl, rfl⟩
  case round =>
    obtain ⟨rfl, rfl⟩ := hrel
    have hcl : (Builtin.clear_ #[116] 0 #[.slice none 0 0]).run Tryz.prog wr = .ok (.tuple #[]) wr := by kernel_rfl
    have f5 := hA.frozen 5
    have f6 := hA.frozen 6
    have c6 := hA.cell 6
    have f7 := hA.frozen 7
    have c7 := hA.cell 7
    simp at c6 c7
    go_wp2_with fail
    go_end0
    have h1 := ((hA.set 5 (.slice none 0 0)).set 6 (.int .i64 0)).set 7 (.int .i64 0)
    simp at h1
    exact ⟨rfl, h1, (((Chg.refl (fun k => k = v) wr).setCell (p := ⟨v, 5, none⟩) (.inl rfl) _).setCell (p := ⟨v, 6, none⟩) (.inl rfl) _).setCell (p := ⟨v, 7, none⟩) (.inl rfl) _⟩
set_option maxRecDepth 100000 in
theorem erase_any (w : World) (v : Nat) (s : ByteArray) (n : Nat) (hn : n ≤ 1000) (hA : At w v 118 (volC s n)) (l : ByteArray) : Calls Tryz.prog 27 #[.pointer (some ⟨v, 0, none⟩), .string l] w fun e w' => At w' v 118 (volC l (n + 1)) ∧ Chg (fun k => k = v) w w' ∧ ∃ x, e = .returned x := by
  have c2 := hA.cell 2
  have c3 := hA.cell 3
  have c9 := hA.cell 9
  simp at c2 c3 c9
  have ct := try_calm (b := v) (o := 2) (w := w) c2 c3
  have cc := cut0_any w v s n hA
  go_enter Tryz.func27, Tryz.ntmps27
  go_wp2_with fail
  refine ct.mono ?_
  rintro e w1 ⟨rfl, rfl⟩
  clear ct
  go_wp2_with fail
  refine cc.mono ?_
  rintro e w2 ⟨rfl, hA2, hC2⟩
  clear cc
  have f4 := hA2.frozen 4
  have f8 := hA2.frozen 8
  have c8 := hA2.cell 8
  have c4 := hA2.cell 4
  simp at c8 c4
  go_wp2_with fail
  go_ret
  have h1 := (hA2.set 4 (.string l)).set 8 (.int .i64 ((n : Int) + 1))
  simp at h1
  exact ⟨h1, (hC2.setCell (p := ⟨v, 4, none⟩) (.inl rfl) _).setCell (p := ⟨v, 8, none⟩) (.inl rfl) _, _, rfl⟩
end Go.Proofs.YtapodcmjggmgmaaGreatDoor
namespace Go.Proofs.YtapodcmjggmgmaaGreatDoor
open Go.RowKit Go.Sort
abbrev ptr (b : Nat) : Value := .pointer (some ⟨b, 0, none⟩)
abbrev libC (x y : Value) : Array Value := #[x, y, .int .i64 0, .int .i64 0]
theorem volp_info : (Tryz.prog.info? 79).map (fun i => (i.zero, i.size, i.bytes)) = some (some (.pointer none), 1, 8) := by kernel_rfl
theorem drive_info : (Tryz.prog.info? 115).map (fun i => (i.zero, i.size, i.bytes)) = some (some (.agg #[.int .i64 0, .int .i64 0, .int .i64 0, .bool false]), 4, 32) := by kernel_rfl
theorem own_at {w : World} {base : Nat} {e : TypeId} {size : Nat} {v : Value} {n : Nat} {xs : List Value} (h : w.ownsRow base e size v n xs) {k : Nat} (hk : some k = v.ownBlock) : ∃ cs, At w k e cs := by
  rcases h.2 with ⟨rfl, _⟩ | ⟨g, cap, cur, rfl, _, hg, _⟩
  · cases hk
  · cases hk; exact ⟨cur, hg⟩
theorem own_base1 {w : World} {b1 b2 : Nat} {e : TypeId} {s : Nat} {v : Value} {n : Nat} {xs : List Value} (h : w.ownsRow b1 e s v n xs) (hb : b2 ≤ b1) : w.ownsRow b2 e s v n xs := by
  refine ⟨h.1, ?_⟩
  rcases h.2 with h2 | ⟨g, cap, cur, h2, h3, h4⟩
  · exact .inl h2
  · exact .inr ⟨g, cap, cur, h2, by omega, h4⟩
theorem vol_ok : NPok (κ := Nat) (fun v k => k = v) (fun w v => At w v 118 (volC ByteArray.empty 0)) 79 where
  chg h hC hS := h.chg hC (fun hk => hS _ hk rfl)
  own h hO k hk e := by subst e; obtain ⟨cs, hA⟩ := own_at hO hk; exact absurd rfl (hA.ne h (by decide))
  lt h e := by subst e; exact h.lt
set_option maxRecDepth 100000 in
set_option maxHeartbeats 2000000 in
theorem libnew_any (w00 : World) (rv : Value) (hS : Sl w00 rv [.int .i64 1000, .int .i64 1000]) : Calls Tryz.prog 25 #[rv, .int .i64 1] w00 fun e w' => ∃ (l : Nat) (vv dv : Value) (V : Nat → Nat), e = .returned (ptr l) ∧ At w' l 113 (libC vv dv) ∧
    w'.ownsRow (l + 1) 79 1 vv 2 [ptr (V 0), ptr (V 1)] ∧ w'.ownsRow (l + 1) 115 4 dv 1 [.int .i64 (-1), .int .i64 0, .int .i64 0, .bool false] ∧ (∀ i, i < 2 → At w' (V i) 118 (volC ByteArray.empty 0)) ∧ (∀ i, i < 2 → l < V i) ∧ V 0 ≠ V 1 ∧ Ext w00 w' ∧ w00.heap.size ≤ l := by
  obtain ⟨b, o, hA, hc0⟩ := (show ∃ b o, (∃ A c, rv = .slice A 2 c ∧ A = some ⟨b, o, none⟩) ∧ w00.cell? ⟨b, o, none⟩ = some (.int .i64 1000) ∧ w00.cell? ⟨b, o + 1, none⟩ = some (.int .i64 1000) by
    obtain ⟨A, c, rfl, hx⟩ := hS
    obtain ⟨b, o, rfl, hc⟩ := hx (by simp)
    exact ⟨b, o, ⟨_, c, rfl, rfl⟩, hc 0 _ rfl, hc 1 _ rfl⟩)
  obtain ⟨A, c, rfl, rfl⟩ := hA
  obtain ⟨hc0, hc1⟩ := hc0
  have hrc : ∀ (w : World) (k : Nat), Ext w00 w → k < 2 → w.cell? ⟨b, o + k, none⟩ = some (.int .i64 1000) := fun w k hE hk => by
    rcases (show k = 0 ∨ k = 1 by omega) with rfl | rfl
    · exact (Ext.cell (p := ⟨b, o, none⟩) hE (cell_lt hc0)).trans hc0
    · exact (Ext.cell (p := ⟨b, o + 1, none⟩) hE (cell_lt hc1)).trans hc1
  have HRC := Lib.hid hrc
  clear hrc hc0 hc1 hS
  go_enter Tryz.func25, Tryz.ntmps25
  go_wp2_with fail
  have hL0 := At.new w00 113 (libC (.slice none 0 0) (.slice none 0 0))
  have hE0 := (Ext.refl w00).alloc (.cells (libC (.slice none 0 0) (.slice none 0 0)) 113)
  generalize w00.alloc (.cells (libC (.slice none 0 0) (.slice none 0 0)) 113) = w1 at hL0 hE0 ⊢
  obtain ⟨l, hl⟩ : ∃ l, w00.heap.size = l := ⟨_, rfl⟩
  have hlw : w00.heap.size ≤ l := by omega
  rw [hl] at hL0 ⊢
  clear hl
  go_loopw [12] (fun iv wr => ∃ (k : Nat) (vv : Value) (V : Nat → Nat), k ≤ 2 ∧ iv = .int .i64 (k : Int) ∧ At wr l 113 (libC vv (.slice none 0 0)) ∧ wr.ownsRow (l + 1) 79 1 vv k ((List.range k).map fun i => ptr (V i)) ∧
    (∀ i, i < k → At wr (V i) 118 (volC ByteArray.empty 0)) ∧ (∀ i, i < k → l < V i) ∧ (∀ i j, i < k → j < k → i ≠ j → V i ≠ V j) ∧ Ext w00 wr) (fun iv _ => 2 - (intOf iv).toNat)
  case atStart => exact ⟨0, _, fun _ => 0, by omega, rfl, hL0, World.ownsRow_nil _ _ _ _, fun i hi => absurd hi (by omega), fun i hi => absurd hi (by omega), fun i _ hi => absurd hi (by omega), hE0⟩
  case round =>
    clear hL0 hE0
    obtain ⟨k, vv, V, hk, rfl, hx, hvv, hV, hVl, hVn, hE⟩ := hrel
    by_cases hlt : k < 2
    · have hck := HRC.out wr k hE hlt
      go_wp2_with fail
      rename World => W5
      have hvl : ∀ j, some j = vv.ownBlock → j < W5.heap.size := own_lt hvv
      have hll : l < W5.heap.size := hx.lt
      have hKe : ∀ w w' : World, (∀ j, j < k → At w (V j) 118 (volC ByteArray.empty 0)) → Ext w w' → ∀ j, j < k → At w' (V j) 118 (volC ByteArray.empty 0) := fun _ _ h hE j hj => (h j hj).ext hE
      have hKa : ∀ w w' : World, (∀ j, j < k → At w (V j) 118 (volC ByteArray.empty 0)) → w.ownsRow (l + 1) 79 1 vv k ((List.range k).map fun i => ptr (V i)) → Chg (fun j => some j = vv.ownBlock) w w' → ∀ j, j < k → At w' (V j) 118 (volC ByteArray.empty 0) := fun _ _ h h2 hC j hj => (h j hj).chg hC (fun e => own_noat h2 ⟨_, h j hj⟩ (by decide) _ e rfl)
      have hKs : ∀ w w' : World, (∀ j, j < k → At w (V j) 118 (volC ByteArray.empty 0)) → Chg (fun j => j = l) w w' → (∃ cs, At w l 113 cs) → ∀ j, j < k → At w' (V j) 118 (volC ByteArray.empty 0) := fun _ _ h hC hA j hj => (h j hj).chg hC (fun e => by have := hVl j hj; omega)
      refine wp_region_phi (Γ := Nat → Value) (sgφ [.val (.pointer (some ⟨l, 0, none⟩)), .val (.pointer (some ⟨l, 0, none⟩)), .val (.pointer (some ⟨l, 0, none⟩)), .val (.pointer (some ⟨l, 0, none⟩)), .val (vv), .val (.int .i64 1000), .g 2, .g 0, .g 1, .val (.pointer (some ⟨l, 0, none⟩)), .val (.pointer (some ⟨l, 0, none⟩)), .any])
        (GAN w00 l 113 79 (fun y => libC y (.slice none 0 0)) vv (l + 1) k ((List.range k).map fun i => ptr (V i)) id (fun v k => k = v) (fun w v => At w v 118 (volC ByteArray.empty 0)) (fun w => ∀ j, j < k → At w (V j) 118 (volC ByteArray.empty 0)) W5.heap.size 6 7 8 11)
        (by kernel_rfl) (by kernel_rfl) (by kernel_rfl) (fun _ => undef) (GAN.start (C := fun y => libC y (.slice none 0 0)) (v := vv) hE hx hvv (hKe _ _ hV ((Ext.refl W5).drew)) (Nat.le_refl _) _) ?steps ?fin
      case steps =>
        show StepsTo _ _ _ _ _ _ 12
        refine ⟨⟨⟨⟨⟨⟨⟨⟨⟨⟨⟨⟨trivial, ?s0⟩, ?s1⟩, ?s2⟩, ?s3⟩, ?s4⟩, ?s5⟩, ?s6⟩, ?s7⟩, ?s8⟩, ?s9⟩, ?s10⟩, ?s11⟩
        case s0 =>
          refine sg_val (x := .pointer (some ⟨l, 0, none⟩)) rfl rfl rfl (GAN.keep (by decide) (by decide) (by decide) (by decide)) fun γ L v a w st => ?_
          have f5 := st.far 5 (by kernel_rfl)
          simp at f5
          go_simp
        case s1 =>
          refine sg_val (x := .pointer (some ⟨l, 0, none⟩)) rfl rfl rfl (GAN.keep (by decide) (by decide) (by decide) (by decide)) fun γ L v a w st => ?_
          have f5 := st.far 5 (by kernel_rfl)
          simp at f5
          go_simp
        case s2 =>
          refine sg_val (x := .pointer (some ⟨l, 0, none⟩)) rfl rfl rfl (GAN.keep (by decide) (by decide) (by decide) (by decide)) fun γ L v a w st => ?_
          have e1 := st.val 1 17 rfl (by kernel_rfl)
          rw [show v 1 = _ from st.φ 1 (by kernel_rfl)] at e1
          simp at e1
          go_simp
        case s3 =>
          refine sg_val (x := .pointer (some ⟨l, 0, none⟩)) rfl rfl rfl (GAN.keep (by decide) (by decide) (by decide) (by decide)) fun γ L v a w st => ?_
          have e2 := st.val 2 18 rfl (by kernel_rfl)
          rw [show v 2 = _ from st.φ 2 (by kernel_rfl)] at e2
          simp at e2
          go_simp
        case s4 =>
          refine sg_val (x := vv) rfl rfl rfl (GAN.keep (by decide) (by decide) (by decide) (by decide)) fun γ L v a w st => ?_
          have e3 := st.val 3 19 rfl (by kernel_rfl)
          rw [show v 3 = _ from st.φ 3 (by kernel_rfl)] at e3
          simp at e3
          have hxa := st.inv.at_
          have hL11 : L 11 = false := by
            cases hq0 : L 11 with
            | false => rfl
            | true =>
              have hq1 := st.down 11 8 hq0 (by kernel_rfl)
              have hq2 := st.down 8 4 hq1 (by kernel_rfl)
              rw [st.off] at hq2; cases hq2
          rw [hL11] at hxa
          have hcl := hxa.cell 0
          simp [libC] at hcl
          obtain ⟨oA, oc, rfl⟩ := own_slc hvv
          go_simp
        case s5 =>
          refine sg_val (x := .int .i64 1000) rfl rfl rfl (GAN.keep (by decide) (by decide) (by decide) (by decide)) fun γ L v a w st => ?_
          have f7 := st.far 7 (by kernel_rfl)
          simp at f7
          go_simp
        case s6 =>
          refine sg_call (k := 2) (f := 49) rfl rfl rfl (by kernel_rfl) fun γ Lx v a w st => ?_
          have e5 := st.val 5 21 rfl (by kernel_rfl)
          rw [show v 5 = _ from st.φ 5 (by kernel_rfl)] at e5
          simp at e5
          have hL7 : Lx 7 = false := by
            cases hq0 : Lx 7 with
            | false => rfl
            | true =>
              have hq1 := st.down 7 6 hq0 (by kernel_rfl)
              rw [st.off] at hq1; cases hq1
          have hL8 : Lx 8 = false := by
            cases hq0 : Lx 8 with
            | false => rfl
            | true =>
              have hq1 := st.down 8 7 hq0 (by kernel_rfl)
              have hq2 := st.down 7 6 hq1 (by kernel_rfl)
              rw [st.off] at hq2; cases hq2
          have hL11 : Lx 11 = false := by
            cases hq0 : Lx 11 with
            | false => rfl
            | true =>
              have hq1 := st.down 11 8 hq0 (by kernel_rfl)
              have hq2 := st.down 8 7 hq1 (by kernel_rfl)
              have hq3 := st.down 7 6 hq2 (by kernel_rfl)
              rw [st.off] at hq3; cases hq3
          refine ⟨#[.int .i64 1000], by go_simp, ?_⟩
          refine Calls.mono (reelnew_any w) ?_
          rintro e w' ⟨v', rfl, hA', hE', hv'⟩
          exact ⟨_, rfl, st.inv.node vol_ok hKe hL7 hL8 hL11 (by decide) (by decide) (by decide) hE' hA' (fun k hk => by rw [show k = v' from hk]; exact hv')⟩
        case s7 =>
          refine sg_new (k := 0) rfl rfl rfl (by kernel_rfl) fun γ Lx v a w st => ?_
          have e6 := st.val 6 22 rfl (by kernel_rfl)
          rw [show v 6 = _ from st.φ 6 (by kernel_rfl)] at e6
          simp at e6
          have hL8 : Lx 8 = false := by
            cases hq0 : Lx 8 with
            | false => rfl
            | true =>
              have hq1 := st.down 8 7 hq0 (by kernel_rfl)
              rw [st.off] at hq1; cases hq1
          have hL11 : Lx 11 = false := by
            cases hq0 : Lx 11 with
            | false => rfl
            | true =>
              have hq1 := st.down 11 8 hq0 (by kernel_rfl)
              have hq2 := st.down 8 7 hq1 (by kernel_rfl)
              rw [st.off] at hq2; cases hq2
          obtain ⟨Kc, hkc, _⟩ := st.inv.nw (st.dep 6 (by kernel_rfl))
          rw [hkc] at e6
          exact ⟨.slice (some ⟨w.heap.size, 0, none⟩) 1 1, w.alloc (.cells #[γ 2] 79), by rw [hkc]; go_simp, st.inv.made vol_ok (hKe) (st.dep 6 (by kernel_rfl)) hL8 hL11 (by decide) (by decide)⟩
        case s8 =>
          refine sg_new (k := 1) rfl rfl rfl (by kernel_rfl) fun γ Lx v a w st => ?_
          have e4 := st.val 4 20 rfl (by kernel_rfl)
          rw [show v 4 = _ from st.φ 4 (by kernel_rfl)] at e4
          simp at e4
          have e7 := st.val 7 23 rfl (by kernel_rfl)
          rw [show v 7 = _ from st.φ 7 (by kernel_rfl)] at e7
          simp at e7
          have hL11 : Lx 11 = false := by
            cases hq0 : Lx 11 with
            | false => rfl
            | true =>
              have hq1 := st.down 11 8 hq0 (by kernel_rfl)
              rw [st.off] at hq1; cases hq1
          have hcc := st.down 7 6 (st.dep 7 (by kernel_rfl)) (by kernel_rfl)
          have hown := st.inv.own
          rw [st.off] at hown
          simp only [Bool.false_eq_true, if_false] at hown
          have hsl := st.inv.sl (st.dep 7 (by kernel_rfl)) st.off
          have hxl := st.inv.at_.lt
          obtain ⟨Kc, hkc, _⟩ := st.inv.nw hcc
          refine ex_append (P := Tryz.prog) hown hsl (by simp) (by simp [hkc, Value.oneCell']) 110 Tryz.underlying110 volp_info rfl (by decide) (by decide) (by simp <;> omega) hxl (.tmp 20) (.tmp 23) rfl (by simp [Act.eval, e4]) (by simp [Act.eval, e7]) fun v' w' hO hC => ?_
          exact st.inv.appended vol_ok (by decide) (by omega) (hvl) (hKa) hcc st.off hL11 (by decide) (by decide) (by simpa using hO) hC
        case s9 =>
          refine sg_val (x := .pointer (some ⟨l, 0, none⟩)) rfl rfl rfl (GAN.keep (by decide) (by decide) (by decide) (by decide)) fun γ L v a w st => ?_
          have e0 := st.val 0 16 rfl (by kernel_rfl)
          rw [show v 0 = _ from st.φ 0 (by kernel_rfl)] at e0
          simp at e0
          go_simp
        case s10 =>
          refine sg_val (x := .pointer (some ⟨l, 0, none⟩)) rfl rfl rfl (GAN.keep (by decide) (by decide) (by decide) (by decide)) fun γ L v a w st => ?_
          have e9 := st.val 9 25 rfl (by kernel_rfl)
          rw [show v 9 = _ from st.φ 9 (by kernel_rfl)] at e9
          simp at e9
          go_simp
        case s11 =>
          refine sg_skip rfl rfl rfl fun γ Lx v a w st => ?_
          have e10 := st.val 10 26 rfl (by kernel_rfl)
          rw [show v 10 = _ from st.φ 10 (by kernel_rfl)] at e10
          simp at e10
          have e8 := st.val 8 24 rfl (by kernel_rfl)
          rw [show v 8 = _ from st.φ 8 (by kernel_rfl)] at e8
          simp at e8
          have hja := st.dep 8 (by kernel_rfl)
          have hjb := st.down 8 7 hja (by kernel_rfl)
          have hcc := st.down 7 6 hjb (by kernel_rfl)
          have hxa := st.inv.at_
          rw [st.off] at hxa
          obtain ⟨oA, oc, hov⟩ := own_slc (by have := st.inv.own; rw [hja] at this; exact this)
          have f0 := hxa.frozen 0
          have c0 := hxa.cell 0
          simp [libC] at c0
          rw [hov] at e8
          refine ⟨w.setCell ⟨l, 0, none⟩ (γ 1), by rw [hov]; go_simp, st.inv.stored vol_ok (hKs) hcc hja st.off (by decide) (by decide) (by decide) (by omega) (by omega) (by omega) rfl⟩
      case fin =>
        intro γ Lx v wr hall hG hφ
        have hx5 := hG.at_
        have hO5 := hG.own
        have hN5 := hG.nw (hall 6 (by decide))
        rw [hall 11 (by decide)] at hx5
        rw [hall 8 (by decide)] at hO5
        simp only [if_true] at hx5 hO5
        have hE5 := hG.ext
        have hK5 := hG.kp
        clear hall hφ hG
        change Exit.inBlock _ (Exit.then _ _) _ (putAll _ v _ 12) wr
        simp only [putAll, dstOf, Act.put]
        simp only [List.getElem?_toArray, List.getElem?_cons_zero, List.getElem?_cons_succ, Option.bind_some, List.setIfInBounds_toArray, List.set_cons_zero, List.set_cons_succ]
        go_wp2_with fail
        go_roundw
        case rel =>
          obtain ⟨vk, hg2, hAk, hvk⟩ := hN5
          refine ⟨k + 1, γ 1, fun i => if i = k then vk else V i, by omega, by go_num, hx5, ?_, fun i hi => ?_, fun i hi => ?_, fun i j hi hj hne => ?_, hE5⟩
          · rw [hg2] at hO5
            have hz : (List.range (k + 1)).map (fun i => ptr (if i = k then vk else V i)) = (List.range k).map (fun i => ptr (V i)) ++ [ptr vk] := by
              rw [List.range_succ, List.map_append]
              congr 1
              · exact List.map_congr_left fun i hi => by simp [Nat.ne_of_lt (List.mem_range.1 hi)]
              · simp
            rw [hz]; exact hO5
          · by_cases hik : i = k
            · simp only [if_pos hik]; exact hAk
            · simp only [if_neg hik]; exact hK5 i (by omega)
          · by_cases hik : i = k
            · simp only [if_pos hik]; have := hvk vk rfl; omega
            · simp only [if_neg hik]; exact hVl i (by omega)
          · have hb : ∀ q, q < k → V q ≠ vk := fun q hq e => by have := hvk vk rfl; have := (hV q hq).lt; omega
            by_cases hik : i = k <;> by_cases hjk : j = k
            · exact absurd (hik.trans hjk.symm) hne
            · simp only [if_pos hik, if_neg hjk]; exact fun e => hb j (by omega) e.symm
            · simp only [if_neg hik, if_pos hjk]; exact hb i (by omega)
            · simp only [if_neg hik, if_neg hjk]; exact hVn i j (by omega) (by omega) hne
        case measure => simp [intOf]; omega
    · obtain rfl : k = 2 := by omega
      go_wp2_with fail
      have hvl2 : ∀ j, some j = vv.ownBlock → j < wr.heap.size := own_lt hvv
      have hB : l < wr.heap.size := hx.lt
      obtain ⟨B1, hB1⟩ : ∃ B1, wr.heap.size = B1 := ⟨_, rfl⟩
      rw [hB1] at hvl2 hB
      have hB1' : B1 ≤ wr.heap.size := by omega
      clear hB1
      rw [show ((2 : Nat) : Int) = 2 from rfl]
      go_loopw [31] (fun iv wr => ∃ (k : Nat) (dv : Value), k ≤ 1 ∧ iv = .int .i64 (k : Int) ∧ At wr l 113 (libC vv dv) ∧ wr.ownsRow (l + 1) 79 1 vv 2 ((List.range 2).map fun i => ptr (V i)) ∧ wr.ownsRow B1 115 4 dv k ((List.replicate k [.int .i64 (-1), .int .i64 0, .int .i64 0, .bool false]).flatten) ∧
        (∀ i, i < 2 → At wr (V i) 118 (volC ByteArray.empty 0)) ∧ B1 ≤ wr.heap.size ∧ Ext w00 wr) (fun iv _ => 1 - (intOf iv).toNat)
      case atStart => exact ⟨0, _, by omega, rfl, hx, hvv, World.ownsRow_nil _ _ _ _, hV, hB1', hE⟩
      case round =>
        clear hx hvv hV hE hB1'
        obtain ⟨k, dv, hk, rfl, hx, hvv, hdv, hV, hBw, hE⟩ := hrel
        by_cases hlt : k < 1
        · obtain rfl : k = 0 := by omega
          obtain ⟨dA, dc, hdve⟩ := own_slc hdv
          have c1 := hx.cell 1
          simp [libC] at c1
          rw [hdve] at c1 hdv
          rename World => w5
          go_wp2_with (at_builtin; refine wpList_append_row w5 hdv 111 Tryz.underlying111 drive_info (by simp [Value.oneCell']) rfl (by decide) (by decide) rfl (by decide) hBw rfl _ _ rfl rfl rfl ?_)
          intro v1 w6 hO6 hC6
          have hge6 : ∀ j, some j = (Value.slice dA 0 dc).ownBlock → B1 ≤ j := own_ge hdv
          have hx6 := hx.chg hC6 (fun e => by have := hge6 l e; omega)
          have hvv6 := own_off hvv hC6 (fun j hj hp => by have := hvl2 j hj; have := hge6 j hp; omega)
          have hV6 : ∀ i, i < 2 → At w6 (V i) 118 (volC ByteArray.empty 0) := fun i hi => (hV i hi).chg hC6 (fun e => own_noat hdv ⟨_, hV i hi⟩ (by decide) _ e rfl)
          have hE6 : Ext w00 w6 := (hE.chg_trans hC6).mono (fun j hj hp => by have := hge6 j hp; omega)
          have hs6 := hC6.size
          clear hdv hC6 hge6 hx hvv hV hE
          obtain ⟨eA, ec, hve⟩ := own_slc hO6
          have f1 := hx6.frozen 1
          have k1 := hx6.cell 1
          simp [libC] at k1
          have hx7 := hx6.set 1 v1
          simp [libC] at hx7
          have hC7 : Chg (fun j => j = l) w6 (w6.setCell ⟨l, 1, none⟩ v1) := (Chg.refl (fun j => j = l) w6).setCell (p := ⟨l, 1, none⟩) (.inl rfl) _
          have hvv7 := own_off hvv6 hC7 (fun j hj hp => own_noat hvv6 ⟨_, hx6⟩ (by decide) j hj hp)
          have hO7 := own_off hO6 hC7 (fun j hj hp => own_noat hO6 ⟨_, hx6⟩ (by decide) j hj hp)
          have hV7 : ∀ i, i < 2 → At (w6.setCell ⟨l, 1, none⟩ v1) (V i) 118 (volC ByteArray.empty 0) := fun i hi => (hV6 i hi).chg hC7 (fun e => by have := hVl i hi; omega)
          have hE7 : Ext w00 (w6.setCell ⟨l, 1, none⟩ v1) := (hE6.chg_trans hC7).mono (fun j hj hp => by omega)
          have hs7 := hC7.size
          clear hx6 hvv6 hO6 hV6 hE6 hC7
          rw [hve] at hx7 hvv7 hO7 hV7 hE7 hs7 ⊢
          go_wp2_with fail
          go_roundw
          case rel => exact ⟨1, _, by omega, rfl, hx7, hvv7, hO7, hV7, by omega, hE7⟩
          case measure => simp [intOf]
        · obtain rfl : k = 1 := by omega
          go_wp2_with fail
          go_ret
          exact ⟨l, vv, dv, V, rfl, hx, hvv, own_base1 hdv (by omega), hV, hVl, hVn 0 1 (by omega) (by omega) (by omega), hE, hlw⟩
end Go.Proofs.YtapodcmjggmgmaaGreatDoor
