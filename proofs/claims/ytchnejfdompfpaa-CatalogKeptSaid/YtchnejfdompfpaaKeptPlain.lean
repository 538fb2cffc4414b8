/-
  CatalogKept: the plain law.
-/
import Derived.Test.YtchnejfdompfpaaLvPlain
namespace Go.Proofs.Ytchnejfdompfpaa
open Go.RowKit Go.Sort

/-- a blob is somewhere, and not on a volume that is to be erased -/
structure Kb (vol : Nat → Vl) (b : Bl) : Prop where
  some_ : b.disks ≠ [] ∨ b.a.there = true ∨ b.b.there = true
  a : b.a.there = true → (vol b.a.vol.toNat).erase = false
  b : b.b.there = true → (vol b.b.vol.toNat).erase = false
structure KInv (P : Pm) : Prop where
  bl : ∀ b ∈ P.L, Kb P.vol b
  cl : ∀ v, (P.vol v).erase = true → (P.vol v).closed = true
theorem KInv.empty : KInv Pm.empty where
  bl := fun b hb => by cases hb
  cl := fun v h => by
    unfold Pm.vol Pm.empty at h
    rw [List.getD_eq_getElem?_getD, List.getElem?_replicate] at h
    split at h <;> cases h
theorem KInv.set {P : Pm} (h : KInv P) {x : Bl} (hx : Kb P.vol x) : KInv (P.set x) where
  bl := fun b hb => by
    rcases mem_pset.1 hb with e | ⟨hb, _⟩
    · subst e; exact hx
    · exact h.bl b hb
  cl := h.cl
theorem KInv.drop {P : Pm} (h : KInv P) (id : Nat) : KInv (P.drop id) where
  bl := fun b hb => h.bl b (List.mem_filter.1 hb).1
  cl := h.cl
theorem vol_setVol {P : Pm} {v : Nat} {x : Vl} (j : Nat) : (P.setVol v x).vol j = if v = j ∧ j < P.vols.length then x else P.vol j := by
  unfold Pm.setVol Pm.vol
  rw [List.getD_eq_getElem?_getD, List.getElem?_set, List.getD_eq_getElem?_getD]
  by_cases h1 : v = j
  · subst h1
    by_cases h2 : v < P.vols.length
    · rw [if_pos rfl, if_pos h2, if_pos ⟨rfl, h2⟩]; rfl
    · rw [if_pos rfl, if_neg h2, if_neg (fun e => h2 e.2), List.getElem?_eq_none (by omega)]
  · rw [if_neg h1, if_neg (fun e => h1 e.1)]
theorem KInv.put {P : Pm} {n : Nat} (h : KInv P) (hi : PInv n P) (x : Cmd) : KInv (P.put x).1 := by
  unfold Pm.put
  split
  · exact h
  · rename_i hn
    split
    · exact h
    · have hnew : Kb P.vol (newB x) := ⟨.inl (fun e => hn (.inr (.inr e))), fun e => (by cases e), fun e => (by cases e)⟩
      show KInv ((match P.named x.name with | some b => P.set { b with dead := true } | none => P).set (newB x))
      cases hm : P.named x.name with
      | none => exact h.set hnew
      | some b =>
        have hb := h.bl b ((pnamed_some hi).1 hm).1
        exact (h.set (x := { b with dead := true }) ⟨hb.some_, hb.a, hb.b⟩).set hnew
theorem KInv.byName {P : Pm} {n : Nat} (h : KInv P) (hi : PInv n P) (x : Cmd) : KInv (P.byName x).1 := by
  unfold Pm.byName
  cases hm : P.named x.name with
  | none => exact h
  | some b =>
    have hb := h.bl b ((pnamed_some hi).1 hm).1
    show KInv (if x.kind = 2 then P.set { b with pins := b.pins + 1 } else if x.kind = 3 then P.set { b with dead := true } else P)
    split
    · exact h.set ⟨hb.some_, hb.a, hb.b⟩
    · split
      · exact h.set ⟨hb.some_, hb.a, hb.b⟩
      · exact h
theorem onV_of {n : Nat} {b : Bl} (h : BlOk n b) {v : Int} (hv : onV v b = false) : (b.a.there = true → b.a.vol ≠ v) ∧ (b.b.there = true → b.b.vol ≠ v) := by
  constructor
  · intro ht e
    rcases h.ca with e1 | ⟨_, e2, _⟩
    · rw [e1] at ht; cases ht
    · rw [onV_even b v (by rw [← e]; omega), ht, e] at hv
      simp at hv
  · intro ht e
    rcases h.cb with e1 | ⟨_, e2, _⟩
    · rw [e1] at ht; cases ht
    · rw [onV_odd b v (by rw [← e]; omega), ht, e] at hv
      simp at hv
theorem KInv.volume {P : Pm} {n : Nat} (h : KInv P) (hi : PInv n P) {x : Cmd} (hv : 0 ≤ x.vol ∧ x.vol ≤ 11) : KInv (P.volume x).1 := by
  have hlen := hi.vlen
  have gen : ∀ y : Vl, (y.erase = true → y.closed = true) → (∀ b ∈ P.L, b.a.there = true → b.a.vol = x.vol → y.erase = false) → (∀ b ∈ P.L, b.b.there = true → b.b.vol = x.vol → y.erase = false) → KInv (P.setVol x.vol.toNat y) := by
    intro y hy ha hb
    constructor
    · intro b hbm
      have hbm' : b ∈ P.L := hbm
      have k := h.bl b hbm'
      refine ⟨k.some_, fun ht => ?_, fun ht => ?_⟩
      · rw [vol_setVol]
        split
        · rename_i e
          refine ha b hbm' ht ?_
          rcases (hi.bl b hbm').ca with e1 | ⟨_, _, e2, _⟩
          · rw [e1] at ht; cases ht
          · omega
        · exact k.a ht
      · rw [vol_setVol]
        split
        · rename_i e
          refine hb b hbm' ht ?_
          rcases (hi.bl b hbm').cb with e1 | ⟨_, _, e2, _⟩
          · rw [e1] at ht; cases ht
          · omega
        · exact k.b ht
    · intro v hev
      rw [vol_setVol] at hev ⊢
      split at hev
      · rename_i e
        rw [if_pos e]; exact hy hev
      · rename_i e
        rw [if_neg e]; exact h.cl v hev
  unfold Pm.volume
  split
  · refine gen _ (fun _ => rfl) (fun b hb ht e => ?_) (fun b hb ht e => ?_)
    · have := (h.bl b hb).a ht; rw [e] at this; exact this
    · have := (h.bl b hb).b ht; rw [e] at this; exact this
  · split
    · split
      · rename_i he
        have hno : ∀ b ∈ P.L, onV x.vol b = false := fun b hb => by
          have := List.filter_eq_nil_iff.1 he b hb
          simpa using this
        refine gen _ (fun _ => rfl) (fun b hb ht e => ?_) (fun b hb ht e => ?_)
        · exact absurd e ((onV_of (hi.bl b hb) (hno b hb)).1 ht)
        · exact absurd e ((onV_of (hi.bl b hb) (hno b hb)).2 ht)
      · exact h
    · split
      · exact gen _ (fun e => by cases e) (fun _ _ _ _ => rfl) (fun _ _ _ _ => rfl)
      · exact h
theorem chgB_kept {P : Pm} (h : KInv P) {b : Bl} (hb : Kb P.vol b) {x : Cmd} (_hv : 0 ≤ x.vol ∧ x.vol ≤ 11) (hp : x.pool = 0 ∨ x.pool = 1) : Kb P.vol (chgB (P.vol x.vol.toNat).closed b x).1 := by
  unfold chgB
  split
  · split
    · exact hb
    · exact ⟨hb.some_, hb.a, hb.b⟩
  · split
    · split
      · exact hb
      · split
        · exact hb
        · rename_i h1 _
          exact ⟨.inl h1, hb.a, hb.b⟩
    · split
      · split
        · exact hb
        · rename_i hc
          split
          · exact hb
          · have he : (P.vol x.vol.toNat).erase = false := by
              cases e : (P.vol x.vol.toNat).erase
              · rfl
              · exact absurd (h.cl _ e) hc
            unfold setCp
            split
            · exact ⟨.inr (.inr rfl), hb.a, fun _ => he⟩
            · exact ⟨.inr (.inl rfl), fun _ => he, hb.b⟩
      · split
        · split
          · exact hb
          · rename_i hc
            simp only [Bool.or_eq_true, Bool.not_eq_true', decide_eq_true_eq, not_or, Bool.not_eq_false] at hc
            exact ⟨.inr (.inl hc.1.1), hb.a, hb.b⟩
        · split
          · exact hb
          · rename_i hc
            simp only [Bool.or_eq_true, Bool.and_eq_true, Bool.not_eq_true', decide_eq_true_eq, not_or, Bool.not_eq_false, not_and] at hc
            obtain ⟨_, hc⟩ := hc
            have hs := hb.some_
            unfold setCp
            rcases hp with hp | hp
            · rw [if_neg (by rw [hp]; decide)]
              refine ⟨?_, fun e => (by cases e), hb.b⟩
              by_cases hd : b.disks = []
              · have := hc hd
                unfold cpOf at this
                rw [hp, if_pos (by decide)] at this
                exact .inr (.inr this)
              · exact .inl hd
            · rw [if_pos hp]
              refine ⟨?_, hb.a, fun e => (by cases e)⟩
              by_cases hd : b.disks = []
              · have := hc hd
                unfold cpOf at this
                rw [hp, if_neg (by decide)] at this
                exact .inr (.inl this)
              · exact .inl hd
theorem KInv.byBlob {P : Pm} {n : Nat} (h : KInv P) (hi : PInv n P) {x : Cmd} (hv : 0 ≤ x.vol ∧ x.vol ≤ 11) (hp : x.pool = 0 ∨ x.pool = 1) : KInv (P.byBlob x).1 := by
  unfold Pm.byBlob
  cases hf : P.find x.blob with
  | none => exact h
  | some b =>
    have hb := h.bl b ((pfind_some hi.asc).1 hf).1
    show KInv (if x.kind = 10 then (if !b.dead || decide (0 < b.pins) then (P, (16 : Int)) else (P.drop b.id, 0)) else if (chgB (P.vol x.vol.toNat).closed b x).2 = 0 then (P.set (chgB (P.vol x.vol.toNat).closed b x).1, 0) else (P, (chgB (P.vol x.vol.toNat).closed b x).2)).1
    split
    · split
      · exact h
      · exact h.drop _
    · split
      · exact h.set (chgB_kept h hb hv hp)
      · exact h
theorem up_bd {a m : Int} (h : upB a m = true) : 0 ≤ a ∧ a ≤ m := by
  unfold upB at h; simpa using h
theorem KInv.app {P : Pm} {n : Nat} (h : KInv P) (hi : PInv n P) (x : Cmd) : KInv (P.app x).1 := by
  unfold Pm.app
  split
  · exact h
  · rename_i hg
    have hg' : x.good = true := by simpa using hg
    have hvp : (0 ≤ x.vol ∧ x.vol ≤ 11) ∧ (x.pool = 0 ∨ x.pool = 1) := by
      unfold Cmd.good at hg'
      simp only [Bool.and_eq_true] at hg'
      have h1 := up_bd hg'.1.2
      have h2 := up_bd hg'.1.1.2
      exact ⟨h1, by omega⟩
    split
    · exact h.put hi x
    · split
      · exact h
      · split
        · exact h.byName hi x
        · split
          · exact h.volume hi hvp.1
          · exact h.byBlob hi hvp.1 hvp.2
/-- how many names there are -/
def liveN (L : List Bl) : Nat := (L.filter fun b => !b.dead).length
theorem names_len (L : List Bl) : (namesL L).length = liveN L := by
  unfold namesL liveN
  rw [List.length_mergeSort, List.length_map]
/-- the names of the first blobs that are live, the last ahead -/
def nmUp (L : List Bl) (i : Nat) : List ByteArray := (((L.take i).filter fun b => !b.dead).map Bl.name).reverse
theorem nm_live {L : List Bl} {i : Nat} {b : Bl} (hb : L[i]? = some b) (hd : b.dead = false) : nmUp L (i + 1) = b.name :: nmUp L i := by
  unfold nmUp
  rw [List.take_add_one, hb, Option.toList_some, List.filter_append, List.filter_cons, if_pos (by rw [hd]; rfl)]
  simp
theorem nm_dead {L : List Bl} {i : Nat} {b : Bl} (hb : L[i]? = some b) (hd : b.dead = true) : nmUp L (i + 1) = nmUp L i := by
  unfold nmUp
  rw [List.take_add_one, hb, Option.toList_some, List.filter_append, List.filter_cons, if_neg (by rw [hd]; decide)]
  simp
theorem nm_len (L : List Bl) : (nmUp L L.length).length = liveN L := by
  unfold nmUp liveN
  rw [List.length_reverse, List.length_map, List.take_of_length_le (Nat.le_refl _)]
theorem live_fresh {n : Nat} {P : Pm} (hi : PInv n P) {i : Nat} {b : Bl} (hb : P.L[i]? = some b) (hd : b.dead = false) {NL : List (ByteArray × Bool)} (hNL : NL.map (·.1) = nmUp P.L i) : lget b.name NL = none := by
  refine lget_none.2 fun p hp e => ?_
  have h1 : p.1 ∈ nmUp P.L i := by rw [← hNL]; exact List.mem_map.2 ⟨p, hp, rfl⟩
  unfold nmUp at h1
  rw [List.mem_reverse] at h1
  obtain ⟨c, hc, hcn⟩ := List.mem_map.1 h1
  obtain ⟨hc, hcd⟩ := List.mem_filter.1 hc
  have hcd' : c.dead = false := by simpa using hcd
  have hid := hi.uniq c (List.mem_of_mem_take hc) b (List.mem_of_getElem? hb) hcd' hd (hcn.trans e)
  obtain ⟨j, hj⟩ := List.mem_iff_getElem?.1 hc
  rw [List.getElem?_take] at hj
  split at hj
  · rename_i hji
    obtain ⟨hil, hbe⟩ := List.getElem?_eq_some_iff.1 hb
    obtain ⟨hjl, hje⟩ := List.getElem?_eq_some_iff.1 hj
    have := List.pairwise_iff_getElem.1 hi.asc j i hjl hil hji
    rw [hje, hbe] at this
    omega
  · cases hj
theorem ldel_fresh {k : ByteArray} {NL : List (ByteArray × Bool)} (h : lget k NL = none) : ldel k NL = NL := by
  unfold ldel
  rw [List.filter_eq_self]
  intro p hp
  have := lget_none.1 h p hp
  simpa using this
theorem cpa {n : Nat} {b : Bl} (h : BlOk n b) : ∃ v : Nat, b.a.vol = (v : Int) ∧ v < 12 ∧ (b.a.there = true → v % 2 = 0) := by
  rcases h.ca with e | ⟨e, e1, e2, e3, _⟩
  · exact ⟨0, by rw [e]; rfl, by omega, fun _ => rfl⟩
  · obtain ⟨v, hv⟩ := Int.eq_ofNat_of_zero_le e2
    exact ⟨v, hv, by omega, fun _ => by omega⟩
theorem cpb {n : Nat} {b : Bl} (h : BlOk n b) : ∃ v : Nat, b.b.vol = (v : Int) ∧ v < 12 ∧ (b.b.there = true → v % 2 = 1) := by
  rcases h.cb with e | ⟨e, e1, e2, e3, _⟩
  · exact ⟨0, by rw [e]; rfl, by omega, fun ht => by rw [e] at ht; cases ht⟩
  · obtain ⟨v, hv⟩ := Int.eq_ofNat_of_zero_le e2
    exact ⟨v, hv, by omega, fun _ => by omega⟩
end Go.Proofs.Ytchnejfdompfpaa
