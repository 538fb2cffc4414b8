/-
  Regions in which an encoder is written to by calls in a row, beside loads and slices that are made: what each operation leaves.
-/
import Derived.Test.YtchnejfdompfpaaEnc2
import Derived.Test.YtchnejfdompfpaaRegion
namespace Go.Proofs.Ytchnejfdompfpaa
open Go.RowKit

/-- What an operation of such a region leaves: a value that is known, the encoder, a slice of its own, or nothing of note. -/
inductive Sp
  | val (v : Value)
  | ptr
  | sl (xs : List Value)
  | any
def Sp.isPtr : Sp → Bool
  | .ptr => true
  | _ => false
def Sp.holds (base e : Nat) : Sp → Value → World → Prop
  | .val x, v, _ => v = x
  | .ptr, v, _ => v = .pointer (some ⟨e, 0, none⟩)
  | .sl xs, v, w => SlE w base v xs
  | .any, _, _ => True
theorem Sp.stays {base e : Nat} {s : Sp} {v : Value} {w w' : World} (h : s.holds base e v w) (hc : EncChg w w' base) : s.holds base e v w' := by
  cases s with
  | val x => exact h
  | ptr => exact h
  | sl xs => exact SlE.chg h hc
  | any => trivial

def spφ (sp : List Sp) (base : Nat) (e d : Nat) (v : Value) (w : World) : Prop := (sp.getD d .any).holds base e v w
/-- the bytes that the calls that are done have written -/
def chainL (L : Nat → Bool) : List (Nat × List UInt8) → List UInt8
  | [] => []
  | (c, b) :: r => (if L c then b else []) ++ chainL L r
def spG (E0 : Option Nat) (items : List (Nat × List UInt8)) (pre : List UInt8) (live : (Nat → Bool) → Bool) (W0 : World) (base : Nat) (e : Nat) (L : Nat → Bool) (w : World) : Prop :=
  (∀ e0, E0 = some e0 → e = e0) ∧ EncChg W0 w base ∧ (live L = true → EncAt w base e (pre ++ chainL L items))

theorem chainL_congr {L L' : Nat → Bool} : ∀ {items : List (Nat × List UInt8)}, (∀ c b, (c, b) ∈ items → L c = L' c) → chainL L items = chainL L' items
  | [], _ => rfl
  | (c, b) :: r, h => by
    unfold chainL
    rw [h c b (List.mem_cons_self ..), chainL_congr (items := r) fun c' b' hm => h c' b' (List.mem_cons_of_mem _ hm)]
theorem chainL_off {L : Nat → Bool} : ∀ {items : List (Nat × List UInt8)}, (∀ c b, (c, b) ∈ items → L c = false) → chainL L items = []
  | [], _ => rfl
  | (c, b) :: r, h => by
    unfold chainL
    rw [h c b (List.mem_cons_self ..), chainL_off (items := r) fun c' b' hm => h c' b' (List.mem_cons_of_mem _ hm)]
    rfl
theorem chainL_on {L : Nat → Bool} : ∀ {items : List (Nat × List UInt8)}, (∀ c b, (c, b) ∈ items → L c = true) → chainL L items = items.flatMap (·.2)
  | [], _ => rfl
  | (c, b) :: r, h => by
    unfold chainL
    rw [h c b (List.mem_cons_self ..), chainL_on (items := r) fun c' b' hm => h c' b' (List.mem_cons_of_mem _ hm)]
    rfl

def pathB (ops : Array Oper) : List Nat → Bool
  | a :: b :: r => needs ops b a && pathB ops (b :: r)
  | _ => true
theorem path_off {ops : Array Oper} {L : Nat → Bool} (hd : ∀ i d, L i = true → needs ops i d = true → L d = true) : ∀ {r : List Nat} {a : Nat}, L a = false → pathB ops (a :: r) = true → ∀ c ∈ r, L c = false
  | [], _, _, _, c, hc => by cases hc
  | b :: r, a, ha, hp, c, hc => by
    simp only [pathB, Bool.and_eq_true] at hp
    have hb : L b = false := by
      cases h : L b with
      | false => rfl
      | true => rw [hd b a h hp.1] at ha; cases ha
    rcases List.mem_cons.1 hc with rfl | hc
    · exact hb
    · exact path_off hd hb hp.2 c hc
theorem path_on {ops : Array Oper} {L : Nat → Bool} (hd : ∀ i d, L i = true → needs ops i d = true → L d = true) : ∀ {r : List Nat} {a : Nat}, pathB ops (a :: r) = true → L ((a :: r).getLast (by simp)) = true → L a = true
  | [], _, _, h => h
  | b :: r, a, hp, h => by
    simp only [pathB, Bool.and_eq_true] at hp
    exact hd b a (path_on hd hp.2 (by simpa using h)) hp.1
theorem chainL_le (L : Nat → Bool) : ∀ items : List (Nat × List UInt8), (chainL L items).length ≤ (items.flatMap (·.2)).length
  | [] => Nat.le_refl _
  | (c, b) :: r => by
    have := chainL_le L r
    unfold chainL
    simp only [List.flatMap_cons, List.length_append]
    split
    · omega
    · rw [List.length_nil]; omega

section
variable {P : Program} {ops : Array Oper} {Q : Exit → Act → World → Prop} {a0 : Act} {sp : List Sp} {E0 : Option Nat} {items : List (Nat × List UInt8)} {pre : List UInt8} {live : (Nat → Bool) → Bool} {W0 : World} {base : Nat} {j : Nat} {o : Oper}

/-- one operation that leaves a known value, the world as it was -/
theorem enc_val {x : Value} (ho : ops[j]? = some o) (hg : o.guard = none) (hs : sp.getD j .any = .val x ∨ sp.getD j .any = .any) (hi : (items.all fun x => x.1 != j) = true) (hl : ∀ L : Nat → Bool, live (fun i => i == j || L i) = live L)
    (h : ∀ (e : Nat) (_L : Nat → Bool) (v : Nat → Value) (a : Act) (w : World), EncChg W0 w base → (∀ d, needs ops j d = true → (sp.getD d .any).holds base e (v d) w) → (∀ d t, dstOf ops d = some t → needs ops j d = true → a.tmps.getD t undef = v d) →
      (∀ t, ((List.range ops.size).all fun d => dstOf ops d != some t) = true → a.tmps.getD t undef = a0.tmps.getD t undef) → (execOp a.eval o).run P w = .ok (.value x) w) :
    StepAt P ops Q a0 (spφ sp base) (spG E0 items pre live W0 base) j := by
  intro e L v a w hdown hLj hneed hG hφ hval h0
  refine wpOp_value ho hg (h e L v a w hG.2.1 (fun d hd => hφ d (hneed d hd)) (fun d t hd hn => hval d t hd (hneed d hn)) (fun t ht => h0 t fun d hd => ?_)) ⟨x, e, rfl, ?_, fun d _ _ hh => hh, hG.1, hG.2.1, fun hlv => ?_⟩
  · have hds : d < ops.size := by
      rcases Nat.lt_or_ge d ops.size with h | h
      · exact h
      · unfold dstOf at hd; rw [Array.getElem?_eq_none h] at hd; cases hd
    have := List.all_eq_true.1 ht d (List.mem_range.2 hds)
    rw [hd] at this
    simp at this
  · unfold spφ
    rcases hs with hs | hs <;> rw [hs]
    · rfl
    · trivial
  · rw [hl] at hlv
    rw [chainL_congr (L' := L) fun c b hm => by have := List.all_eq_true.1 hi _ hm; simp at this; simp [this]]
    exact hG.2.2 hlv
/-- a slice that is made -/
theorem enc_slice {cs : Array Value} {t : TypeId} {c : Nat} (ht : t ≠ 84 ∧ t ≠ 5) (ho : ops[j]? = some o) (hg : o.guard = none) (hs : sp.getD j .any = .sl cs.toList) (hi : (items.all fun x => x.1 != j) = true) (hl : ∀ L : Nat → Bool, live (fun i => i == j || L i) = live L)
    (h : ∀ (e : Nat) (_L : Nat → Bool) (v : Nat → Value) (a : Act) (w : World), EncChg W0 w base → (∀ d, needs ops j d = true → (sp.getD d .any).holds base e (v d) w) → (∀ d t, dstOf ops d = some t → needs ops j d = true → a.tmps.getD t undef = v d) →
      (execOp a.eval o).run P w = .ok (.value (.slice (some ⟨w.heap.size, 0, none⟩) cs.size c)) (w.alloc (.cells cs t))) :
    StepAt P ops Q a0 (spφ sp base) (spG E0 items pre live W0 base) j := by
  intro e L v a w hdown hLj hneed hG hφ hval h0
  have hE : Ext w (w.alloc (.cells cs t)) := (Ext.refl w).alloc _
  refine wpOp_value ho hg (h e L v a w hG.2.1 (fun d hd => hφ d (hneed d hd)) (fun d t hd hn => hval d t hd (hneed d hn))) ⟨_, e, rfl, ?_, fun d _ _ hh => Sp.stays hh (EncChg.ext hE), hG.1, hG.2.1.alloc _, fun hlv => ?_⟩
  · unfold spφ
    rw [hs]
    exact SlE.new w base ht
  · rw [hl] at hlv
    rw [chainL_congr (L' := L) fun c b hm => by have := List.all_eq_true.1 hi _ hm; simp at this; simp [this]]
    exact (hG.2.2 hlv).alloc _
/-- a call on the encoder -/
theorem enc_call {f : FuncId} {bytes : List UInt8} {before after : List (Nat × List UInt8)} (ho : ops[j]? = some o) (hg : o.guard = none) (hs : sp.getD j .any = .ptr) (hitems : items = before ++ (j, bytes) :: after)
    (hb : (before.all fun x => x.1 != j) = true) (ha : pathB ops (j :: after.map (·.1)) = true) (ha' : (after.all fun x => x.1 != j) = true) (_hl : ∀ L : Nat → Bool, live (fun i => i == j || L i) = live L)
    (hlive : ∀ L : Nat → Bool, (∀ i d, L i = true → needs ops i d = true → L d = true) → (∀ d, needs ops j d = true → L d = true) → live L = true)
    (h : ∀ (e : Nat) (L : Nat → Bool) (v : Nat → Value) (a : Act) (w : World), (∀ e0, E0 = some e0 → e = e0) → EncChg W0 w base → (∀ d, needs ops j d = true → L d = true) → (∀ i d, L i = true → needs ops i d = true → L d = true) → EncAt w base e (pre ++ chainL L before) → (∀ d, needs ops j d = true → (sp.getD d .any).holds base e (v d) w) → (∀ d t, dstOf ops d = some t → needs ops j d = true → a.tmps.getD t undef = v d) →
      (∀ t, ((List.range ops.size).all fun d => dstOf ops d != some t) = true → a.tmps.getD t undef = a0.tmps.getD t undef) →
      ∃ args, (execOp a.eval o).run P w = .ok (.enter f args) w ∧ Calls P f args w fun r w' => r = .returned (.pointer (some ⟨e, 0, none⟩)) ∧ EncTo w w' base e ((pre ++ chainL L before) ++ bytes)) :
    StepAt P ops Q a0 (spφ sp base) (spG E0 items pre live W0 base) j := by
  intro e L v a w hdown hLj hneed hG hφ hval h0
  have hlv := hlive L hdown hneed
  have hE := hG.2.2 hlv
  have haf : ∀ c b, (c, b) ∈ after → c ≠ j ∧ L c = false := fun c b hm => ⟨by have := List.all_eq_true.1 ha' _ hm; simpa using this, path_off hdown hLj ha c (List.mem_map.2 ⟨_, hm, rfl⟩)⟩
  have e1 : chainL L items = chainL L before := by
    have key : ∀ l : List (Nat × List UInt8), chainL L (l ++ (j, bytes) :: after) = chainL L l := by
      intro l
      induction l with
      | nil =>
        show (if L j then bytes else []) ++ chainL L after = []
        rw [hLj, chainL_off fun c b hm => (haf c b hm).2]; rfl
      | cons x r ih => obtain ⟨c, b⟩ := x; show _ ++ chainL L (r ++ _) = _; rw [ih]; rfl
    rw [hitems]; exact key before
  have e2 : chainL (fun i => i == j || L i) items = chainL L before ++ bytes := by
    have key : ∀ l : List (Nat × List UInt8), (∀ c b, (c, b) ∈ l → c ≠ j) → chainL (fun i => i == j || L i) (l ++ (j, bytes) :: after) = chainL L l ++ bytes := by
      intro l
      induction l with
      | nil =>
        intro _
        show (if (j == j || L j) then bytes else []) ++ chainL _ after = _
        rw [chainL_off (items := after) fun c b hm => by simp [(haf c b hm).1, (haf c b hm).2]]
        simp [chainL]
      | cons x r ih =>
        intro hh
        obtain ⟨c, b⟩ := x
        have hc := hh c b (List.mem_cons_self ..)
        show (if (c == j || L c) then b else []) ++ chainL _ (r ++ _) = (if L c then b else []) ++ chainL L r ++ bytes
        rw [ih fun c' b' hm => hh c' b' (List.mem_cons_of_mem _ hm)]
        have : (c == j) = false := by simpa using hc
        rw [this]; simp
    rw [hitems]; exact key before fun c b hm => by have := List.all_eq_true.1 hb _ hm; simpa using this
  rw [e1] at hE
  obtain ⟨args, hrun, hcall⟩ := h e L v a w hG.1 hG.2.1 hneed hdown hE (fun d hd => hφ d (hneed d hd)) (fun d t hd hn => hval d t hd (hneed d hn)) (fun t ht => h0 t fun d hd => by
    have hds : d < ops.size := by
      rcases Nat.lt_or_ge d ops.size with h | h
      · exact h
      · unfold dstOf at hd; rw [Array.getElem?_eq_none h] at hd; cases hd
    have := List.all_eq_true.1 ht d (List.mem_range.2 hds)
    rw [hd] at this
    simp at this)
  refine wpOp_calls ho hg hrun (hcall.mono ?_)
  rintro r w' ⟨rfl, hT⟩
  refine ⟨_, rfl, _, e, rfl, ?_, fun d _ _ hh => Sp.stays hh hT.1, hG.1, hG.2.1.trans hT.1, fun _ => ?_⟩
  · unfold spφ
    rw [hs]; rfl
  · rw [e2, ← List.append_assoc]; exact hT.2
/-- the encoder is made -/
theorem enc_alloc (offs : List Nat) (hE0 : E0 = none) (hW : ∀ w, EncChg W0 w base → base ≤ w.heap.size) (ho : ops[j]? = some o) (hg : o.guard = none) (hs : sp.getD j .any = .ptr) (hi : (items.all fun x => x.1 != j) = true) (hpre : pre = [])
    (hoff : pathB ops (j :: offs) = true) (hoi : (items.all fun x => offs.contains x.1) = true) (hop : ((List.range sp.length).all fun d => !(sp.getD d .any).isPtr || d == j || offs.contains d) = true)
    (h : ∀ (a : Act) (w : World), (execOp a.eval o).run P w = .ok (.value (.pointer (some ⟨w.heap.size, 0, none⟩))) (w.alloc (.cells #[.slice none 0 0] 84))) :
    StepAt P ops Q a0 (spφ sp base) (spG E0 items pre live W0 base) j := by
  intro e L v a w hdown hLj hneed hG hφ hval h0
  have h1 : ∀ c b, (c, b) ∈ items → L c = false := fun c b hm => path_off hdown hLj hoff c (by have := List.all_eq_true.1 hoi _ hm; simpa using this)
  have h2 : ∀ d, L d = true → sp.getD d .any ≠ .ptr := fun d hd he => by
    have hq : d = j ∨ d ∈ offs := by
      rcases Nat.lt_or_ge d sp.length with hl | hl
      · have := List.all_eq_true.1 hop d (List.mem_range.2 hl)
        rw [he] at this
        simpa [Sp.isPtr] using this
      · rw [List.getD_eq_getElem?_getD, List.getElem?_eq_none hl] at he; cases he
    rcases hq with rfl | h
    · rw [hLj] at hd; cases hd
    · rw [path_off hdown hLj hoff d h] at hd; cases hd
  have hE : Ext w (w.alloc (.cells #[.slice none 0 0] 84)) := (Ext.refl w).alloc _
  refine wpOp_value ho hg (h a w) ⟨_, w.heap.size, rfl, ?_, fun d _ hd hh => ?_, fun e0 h0 => (by rw [hE0] at h0; cases h0), hG.2.1.alloc _, fun _ => ?_⟩
  · unfold spφ
    rw [hs]; rfl
  · have hne := h2 d hd
    unfold spφ at hh ⊢
    generalize sp.getD d .any = s at hh hne
    cases s with
    | val x => exact hh
    | ptr => exact absurd rfl hne
    | sl xs => exact SlE.ext hh hE
    | any => trivial
  · rw [chainL_congr (L' := L) fun c b hm => by have := List.all_eq_true.1 hi _ hm; simp at this; simp [this], chainL_off h1, hpre]
    exact ⟨hW w hG.2.1, _, At.new w _ _, ⟨rfl, .inl ⟨rfl, rfl⟩⟩⟩
/-- the encoder is handed on -/
theorem enc_hand (ho : ops[j]? = some o) (hg : o.guard = none) (hs : sp.getD j .any = .ptr) (hi : (items.all fun x => x.1 != j) = true) (hl : ∀ L : Nat → Bool, live (fun i => i == j || L i) = live L)
    (h : ∀ (e : Nat) (_L : Nat → Bool) (v : Nat → Value) (a : Act) (w : World), (∀ d, needs ops j d = true → (sp.getD d .any).holds base e (v d) w) → (∀ d t, dstOf ops d = some t → needs ops j d = true → a.tmps.getD t undef = v d) → (execOp a.eval o).run P w = .ok (.value (.pointer (some ⟨e, 0, none⟩))) w) :
    StepAt P ops Q a0 (spφ sp base) (spG E0 items pre live W0 base) j := by
  intro e L v a w hdown hLj hneed hG hφ hval h0
  refine wpOp_value ho hg (h e L v a w (fun d hd => hφ d (hneed d hd)) (fun d t hd hn => hval d t hd (hneed d hn))) ⟨_, e, rfl, ?_, fun d _ _ hh => hh, hG.1, hG.2.1, fun hlv => ?_⟩
  · unfold spφ
    rw [hs]; rfl
  · rw [hl] at hlv
    rw [chainL_congr (L' := L) fun c b hm => by have := List.all_eq_true.1 hi _ hm; simp at this; simp [this]]
    exact hG.2.2 hlv
/-- a call that reads the encoder -/
theorem enc_read {f : FuncId} {x : Value} (ho : ops[j]? = some o) (hg : o.guard = none) (hs : sp.getD j .any = .val x) (hi : (items.all fun x => x.1 != j) = true) (_hl : ∀ L : Nat → Bool, live (fun i => i == j || L i) = live L)
    (hlive : ∀ L : Nat → Bool, (∀ i d, L i = true → needs ops i d = true → L d = true) → (∀ d, needs ops j d = true → L d = true) → live L = true)
    (h : ∀ (e : Nat) (L : Nat → Bool) (v : Nat → Value) (a : Act) (w : World), (∀ e0, E0 = some e0 → e = e0) → (∀ d, needs ops j d = true → L d = true) → (∀ i d, L i = true → needs ops i d = true → L d = true) → EncAt w base e (pre ++ chainL L items) → (∀ d, needs ops j d = true → (sp.getD d .any).holds base e (v d) w) → (∀ d t, dstOf ops d = some t → needs ops j d = true → a.tmps.getD t undef = v d) →
      ∃ args, (execOp a.eval o).run P w = .ok (.enter f args) w ∧ Calls P f args w fun r w' => r = .returned x ∧ Ext w w') :
    StepAt P ops Q a0 (spφ sp base) (spG E0 items pre live W0 base) j := by
  intro e L v a w hdown hLj hneed hG hφ hval h0
  have hlv := hlive L hdown hneed
  obtain ⟨args, hrun, hcall⟩ := h e L v a w hG.1 hneed hdown (hG.2.2 hlv) (fun d hd => hφ d (hneed d hd)) (fun d t hd hn => hval d t hd (hneed d hn))
  refine wpOp_calls ho hg hrun (hcall.mono ?_)
  rintro r w' ⟨rfl, hE⟩
  refine ⟨_, rfl, _, e, rfl, ?_, fun d _ _ hh => Sp.stays hh (EncChg.ext hE), hG.1, hG.2.1.trans (EncChg.ext hE), fun _ => ?_⟩
  · unfold spφ
    rw [hs]; rfl
  · rw [chainL_congr (L' := L) fun c b hm => by have := List.all_eq_true.1 hi _ hm; simp at this; simp [this]]
    exact (hG.2.2 hlv).ext hE
end
end Go.Proofs.Ytchnejfdompfpaa
