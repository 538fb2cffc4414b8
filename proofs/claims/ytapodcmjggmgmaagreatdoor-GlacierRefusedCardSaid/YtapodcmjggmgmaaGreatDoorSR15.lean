/-
  Part 15 of what the law leans on.
-/
import Derived.Test.YtapodcmjggmgmaaGreatDoorSR14
set_option linter.unusedVariables false
set_option linter.unusedSimpArgs false
set_option linter.unusedSectionVars false
namespace Go.Proofs.YtapodcmjggmgmaaGreatDoor
open Go.RowKit Go.Sort
def upR (U : Nat → Int) (rf : Nat → Bool) (k : Nat) : List Spot := (List.range 3).map fun i => ⟨if i < k then !rf i else true, 300 - U i⟩
theorem upR_zero (U : Nat → Int) (rf : Nat → Bool) : upR U rf 0 = spotsOf U 3 := rfl
theorem upR_flat (U : Nat → Int) (rf : Nat → Bool) (k : Nat) : ((upR U rf k).map Spot.cells).flatten = [.bool (if 0 < k then !rf 0 else true), .int .i64 (300 - U 0), .bool (if 1 < k then !rf 1 else true), .int .i64 (300 - U 1), .bool (if 2 < k then !rf 2 else true), .int .i64 (300 - U 2)] := rfl
theorem upR_succ (U : Nat → Int) (rf : Nat → Bool) (k : Nat) (hk : k < 3) : (((upR U rf k).map Spot.cells).flatten).set (k * 2) (.bool (!rf k)) = ((upR U rf (k + 1)).map Spot.cells).flatten := by
  rw [upR_flat, upR_flat]
  rcases (show k = 0 ∨ k = 1 ∨ k = 2 by omega) with rfl | rfl | rfl <;> simp
theorem upR_at (U : Nat → Int) (rf : Nat → Bool) (i : Nat) (hi : i < 3) : spotAt (upR U rf 3) i = ⟨!rf i, 300 - U i⟩ := by
  rcases (show i = 0 ∨ i = 1 ∨ i = 2 by omega) with rfl | rfl | rfl <;> rfl
theorem ofnat_mem {l : List Nat} {i : Nat} : (Int.ofNat i) ∈ l.map Int.ofNat ↔ i ∈ l := by
  constructor
  · intro h
    obtain ⟨j, hj, e⟩ := List.mem_map.1 h
    cases e; exact hj
  · exact fun h => List.mem_map_of_mem h
theorem mayR (U : Nat → Int) (rf : Nat → Bool) (size : Int) (dn : List Nat) (i : Nat) (hi : i < 3) : mayB (upR U rf 3) size (dn.map Int.ofNat) i = true ↔ rf i = false ∧ size ≤ 300 - U i ∧ i ∉ dn := by
  unfold mayB Spot.fits
  rw [upR_at _ _ _ hi]
  have := @ofnat_mem dn i
  simp only [Bool.and_eq_true, Bool.not_eq_true', decide_eq_true_eq, List.contains_eq_mem, decide_eq_false_iff_not]
  rw [show ((i : Nat) : Int) = Int.ofNat i from rfl, this]
  constructor
  · rintro ⟨⟨h1, h2⟩, h3⟩; exact ⟨by simpa using h1, h2, h3⟩
  · rintro ⟨h1, h2, h3⟩; exact ⟨⟨by simp [h1], h2⟩, h3⟩
theorem chosen3 (U : Nat → Int) (rf : Nat → Bool) (dn : List Nat) (r : List Int) (size : Int) (hdn : ∀ i ∈ dn, i < 3) (hnd : dn.Nodup) (hlen : dn.length ≤ 2) (h : Chosen (upR U rf 3) size 2 (dn.map Int.ofNat) r) :
    ∃ rn : List Nat, r = rn.map Int.ofNat ∧ rn.Nodup ∧ (∀ i ∈ rn, i < 3 ∧ (i ∈ dn ∨ rf i = false)) ∧ (∀ i ∈ dn, i ∈ rn) ∧ dn.length ≤ rn.length ∧ rn.length ≤ 2 ∧ (rn.length = dn.length → ∀ i ∈ rn, i ∈ dn) ∧
      ((∀ i, i < 3 → i ∉ dn → rf i = false ∧ size ≤ 300 - U i) → rn.length = 2) := by
  obtain ⟨ys, h1, h2, h3, h4⟩ := h
  rw [List.length_map] at h3
  have hyd : ys.Nodup := h1.nodup_iff.2 (others_nodup _ _ _ _)
  have hym : ∀ i ∈ ys, i < 3 ∧ rf i = false ∧ size ≤ 300 - U i ∧ i ∉ dn := fun i hi => by
    obtain ⟨a, b⟩ := others_lt (h1.mem_iff.1 hi)
    have a : i < 3 := a
    exact ⟨a, (mayR _ _ _ _ _ a).1 b⟩
  obtain ⟨X, hX⟩ : ∃ X : List Nat, (if dn.length < 2 then ys.take (2 - dn.length) else []) = X := ⟨_, rfl⟩
  have hXs : X.Sublist ys := by rw [← hX]; split; exact List.take_sublist _ _; exact List.nil_sublist _
  have hXl : dn.length + X.length ≤ 2 := by rw [← hX]; split <;> simp <;> omega
  have hXf : dn.length + X.length = 2 ∨ X.length = ys.length := by
    rw [← hX]
    split
    · rw [List.length_take]; omega
    · left; simp; omega
  have hp : r.Perm ((dn ++ X).map Int.ofNat) := by
    rw [List.map_append, ← hX]
    refine h3.trans (List.Perm.of_eq ?_)
    congr 1
    by_cases hl : dn.length < 2
    · rw [if_pos (by omega), if_pos hl]
      congr 2; omega
    · rw [if_neg (by omega), if_neg hl]; rfl
  have hq : (r.map Int.toNat).Perm (dn ++ X) := by
    have := hp.map Int.toNat
    rw [List.map_map, show (Int.toNat ∘ Int.ofNat : Nat → Nat) = id from rfl, List.map_id] at this
    exact this
  have hr : r = (r.map Int.toNat).map Int.ofNat := by
    rw [List.map_map]
    symm
    rw [List.map_congr_left (g := id) (fun x hx => ?_), List.map_id]
    obtain ⟨i, _, rfl⟩ := List.mem_map.1 (hp.mem_iff.1 hx)
    rfl
  have hnx : (dn ++ X).Nodup := List.nodup_append.2 ⟨hnd, hyd.sublist hXs, fun a ha b hb e => (hym b (hXs.subset hb)).2.2.2 (e ▸ ha)⟩
  have hl := hq.length_eq
  rw [List.length_append] at hl
  refine ⟨r.map Int.toNat, hr, hq.nodup_iff.2 hnx, fun i hi => ?_, fun i hi => hq.mem_iff.2 (List.mem_append_left _ hi), by omega, by omega, fun e i hi => ?_, fun hall => ?_⟩
  · rcases List.mem_append.1 (hq.mem_iff.1 hi) with h | h
    · exact ⟨hdn i h, .inl h⟩
    · have := hym i (hXs.subset h); exact ⟨this.1, .inr this.2.1⟩
  · have : X = [] := List.eq_nil_of_length_eq_zero (by omega)
    subst this
    simpa using hq.mem_iff.1 hi
  · rcases hXf with h | h
    · omega
    · have hy : ys.length + dn.length ≥ 3 := by
        have he := h1.length_eq
        have hm : ∀ i, i < 3 → (mayB (upR U rf 3) size (dn.map Int.ofNat) i = decide (i ∉ dn)) := fun i hi => by
          by_cases hd : i ∈ dn
          · rw [decide_eq_false (by simpa using hd)]
            cases hb : mayB (upR U rf 3) size (dn.map Int.ofNat) i with
            | false => rfl
            | true => exact absurd hd ((mayR _ _ _ _ _ hi).1 hb).2.2
          · rw [decide_eq_true hd]
            exact (mayR _ _ _ _ _ hi).2 ⟨(hall i hi hd).1, (hall i hi hd).2, hd⟩
        rw [he]
        show ((List.range 3).filter (mayB (upR U rf 3) size (dn.map Int.ofNat))).length + _ ≥ 3
        rw [List.filter_congr (fun i hi => hm i (List.mem_range.1 hi))]
        clear hm he h1 h2 h3 h4 hp hq hr hnx hl hall hXl hX hXs hym hyd h
        match dn, hdn, hnd, hlen with
        | [], _, _, _ => decide
        | [a], h, _, _ =>
          have := h a (by simp)
          rcases (show a = 0 ∨ a = 1 ∨ a = 2 by omega) with rfl | rfl | rfl <;> decide
        | [a, b], h, hn, _ =>
          have h1 := h a (by simp)
          have h2 := h b (by simp)
          rcases (show a = 0 ∨ a = 1 ∨ a = 2 by omega) with rfl | rfl | rfl <;> rcases (show b = 0 ∨ b = 1 ∨ b = 2 by omega) with rfl | rfl | rfl <;> first | decide | (simp at hn)
        | _ :: _ :: _ :: _, _, _, hl => simp at hl
      omega
structure Apart (A : FixA) (K : Nat → Ks) : Prop where
  nn : ∀ i j k, i < 3 → j < 3 → i ≠ j → (K i).has k → ¬ (K j).has k
  fx : ∀ i k, i < 3 → (K i).has k → ¬ A.blk k
  st : ∀ i, i < 3 → ¬ (K i).has 0
structure StS (w0 w : World) (A : FixA) (K : Nat → Ks) (M : Nat → List (Nat × ByteArray)) (B : Nat) (U : Nat → Int) (x : Nat × ByteArray) (rb : Nat) (hv : List Nat) (rf : Nat → Bool) (U' : Nat → Int) : Prop where
  nd : ∀ i, i < 3 → if i ∈ hv then NdIn w (K i) (M i ++ [x]) (B + 1) (U' i) else NdIn w (K i) (M i) B (U' i) ∧ U' i = U i
  fix : FixAt w A (fun i => (K i).n)
  tab : Tab w
  ref : At w rb 4 #[.bool (rf 0), .bool (rf 1), .bool (rf 2)]
  lt : ∀ i ∈ hv, i < 3
  nod : hv.Nodup
  dis : ∀ i ∈ hv, rf i = false
  chg : Chg (fun k => ∃ i, i < 3 ∧ (K i).has k) w0 w
  fr : (∀ i, i < 3 → U i = 0) → ∀ i, i < 3 → rf i = false
  kl : ∀ i k, i < 3 → (K i).has k → k < w0.heap.size
  hrb : w0.heap.size ≤ rb
  al : ∀ k, A.blk k → k < w0.heap.size
  tl : 0 < w0.heap.size
section
variable {w0 w w' : World} {A : FixA} {K : Nat → Ks} {M : Nat → List (Nat × ByteArray)} {B : Nat} {U U' : Nat → Int} {x : Nat × ByteArray} {rb : Nat} {hv : List Nat} {rf : Nat → Bool}
theorem StS.ext (h : StS w0 w A K M B U x rb hv rf U') (hE : Ext w w') : StS w0 w' A K M B U x rb hv rf U' where
  nd i hi := by
    have := h.nd i hi
    split at this <;> rename_i hm
    · rw [if_pos hm]; exact this.ext hE
    · rw [if_neg hm]; exact ⟨this.1.ext hE, this.2⟩
  fix := h.fix.ext hE
  tab := h.tab.ext hE
  ref := h.ref.ext hE
  lt := h.lt
  nod := h.nod
  dis := h.dis
  chg := h.chg.ext_trans hE
  fr := h.fr
  kl := h.kl
  hrb := h.hrb
  al := h.al
  tl := h.tl
theorem StS.site (h : StS w0 w A K M B U x rb hv rf U') : SiteAt w A K (fun i => if i ∈ hv then M i ++ [x] else M i) (B + 1) U' := ⟨h.fix, fun i hi => by
  have := h.nd i hi
  split at this <;> rename_i hm
  · simp only [if_pos hm]; exact this
  · simp only [if_neg hm]; exact this.1.mono (Nat.le_succ _)⟩
theorem StS.turn (h : StS w0 w A K M B U x rb hv rf U') (hap : Apart A K) {i : Nat} (hi : i < 3) (hC : Chg (K i).has w w') {hv' : List Nat} {U2 : Nat → Int} (hlt : ∀ j ∈ hv', j < 3) (hnod : hv'.Nodup) (hdis : ∀ j ∈ hv', rf j = false)
    (hi2 : if i ∈ hv' then NdIn w' (K i) (M i ++ [x]) (B + 1) (U2 i) else NdIn w' (K i) (M i) B (U2 i) ∧ U2 i = U i) (ho : ∀ j, j < 3 → j ≠ i → (j ∈ hv' ↔ j ∈ hv) ∧ U2 j = U' j) : StS w0 w' A K M B U x rb hv' rf U2 where
  nd j hj := by
    by_cases hji : j = i
    · subst hji; exact hi2
    · obtain ⟨h1, h2⟩ := ho j hj hji
      have := h.nd j hj
      have hno : ∀ k, (K i).has k → ¬ (K j).has k := fun k hk => hap.nn i j k hi hj (fun e => hji e.symm) hk
      rw [h2]
      by_cases hm : j ∈ hv
      · rw [if_pos hm] at this; rw [if_pos (h1.2 hm)]; exact this.chg hC hno
      · rw [if_neg hm] at this; rw [if_neg (fun q => hm (h1.1 q))]; exact ⟨this.1.chg hC hno, this.2⟩
  fix := h.fix.chg hC (fun k hk hp => hap.fx i k hi hp hk)
  tab := h.tab.chg hC (hap.st i hi)
  ref := h.ref.chg hC (fun hp => by have := h.kl i _ hi hp; have := h.hrb; omega)
  lt := hlt
  nod := hnod
  dis := hdis
  chg := h.chg.trans hC (fun k _ hk => ⟨i, hi, hk⟩)
  fr := h.fr
  kl := h.kl
  hrb := h.hrb
  al := h.al
  tl := h.tl
theorem StS.put (h : StS w0 w A K M B U x rb hv rf U') (hap : Apart A K) {i : Nat} (hi : i < 3) (hn : i ∉ hv) (hf : rf i = false) (hC : Chg (K i).has w w') {u : Int} (hN : NdIn w' (K i) (M i ++ [x]) (B + 1) u) : StS w0 w' A K M B U x rb (hv ++ [i]) rf (fun j => if j = i then u else U' j) := by
  refine h.turn hap hi hC (fun j hj => ?_) ?_ (fun j hj => ?_) ?_ (fun j hj hne => ⟨?_, by simp [hne]⟩)
  · rcases List.mem_append.1 hj with q | q
    · exact h.lt j q
    · simp at q; omega
  · exact List.nodup_append.2 ⟨h.nod, by simp, fun a ha b hb e => by simp at hb; subst hb; exact hn (e ▸ ha)⟩
  · rcases List.mem_append.1 hj with q | q
    · exact h.dis j q
    · simp at q; rw [q]; exact hf
  · rw [if_pos (by simp)]; simpa using hN
  · simp [hne]
theorem StS.fail (h : StS w0 w A K M B U x rb hv rf U') (hap : Apart A K) {i : Nat} (hi : i < 3) (hn : i ∉ hv) (hC : Chg (K i).has w w') (hN : NdIn w' (K i) (M i) B (U' i)) : StS w0 w' A K M B U x rb hv rf U' :=
  h.turn hap hi hC h.lt h.nod h.dis (by have := h.nd i hi; rw [if_neg hn] at this ⊢; exact ⟨hN, this.2⟩) (fun j _ _ => ⟨Iff.rfl, rfl⟩)
theorem StS.refuse (h : StS w0 w A K M B U x rb hv rf U') {i : Nat} (hi : i < 3) (hn : i ∉ hv) (hnf : ¬ ∀ j, j < 3 → U j = 0) : StS w0 (w.setCell ⟨rb, i, none⟩ (.bool true)) A K M B U x rb hv (fun j => if j = i then true else rf j) U' := by
  have hC : Chg (fun k => k = rb) w (w.setCell ⟨rb, i, none⟩ (.bool true)) := (Chg.refl (fun k => k = rb) w).setCell (p := ⟨rb, i, none⟩) (.inl rfl) _
  have hK : ∀ j, j < 3 → ∀ k, k = rb → ¬ (K j).has k := fun j hj k e hk => by have := h.kl j k hj hk; have := h.hrb; omega
  refine ⟨fun j hj => ?_, ?_, ?_, ?_, h.lt, h.nod, fun j hj => ?_, h.chg.trans hC (fun k hk e => by have := h.hrb; omega), fun q => absurd q hnf, h.kl, h.hrb, h.al, h.tl⟩
  · have := h.nd j hj
    split at this <;> rename_i hm
    · rw [if_pos hm]; exact this.chg hC (hK j hj)
    · rw [if_neg hm]; exact ⟨this.1.chg hC (hK j hj), this.2⟩
  · exact h.fix.chg hC (fun k hk e => by have := h.al k hk; have := h.hrb; omega)
  · exact h.tab.chg hC (fun e => by have := h.tl; have := h.hrb; omega)
  · have := h.ref.set i (.bool true)
    rcases (show i = 0 ∨ i = 1 ∨ i = 2 by omega) with rfl | rfl | rfl <;> simpa using this
  · have hne : j ≠ i := fun e => hn (e ▸ hj)
    simp only [if_neg hne]
    exact h.dis j hj
end
def openC (w : World) (rb i : Nat) : Nat := match w.cell? ⟨rb, i, none⟩ with | some (.bool false) => 1 | _ => 0
def lenV : Value → Nat | .slice _ n _ => n | _ => 0
def openN (v : Value) (w : World) (rb : Nat) : Nat := openC w rb 0 + openC w rb 1 + openC w rb 2 + (3 - lenV v)
theorem StS.open_ {w0 w : World} {A : FixA} {K : Nat → Ks} {M : Nat → List (Nat × ByteArray)} {B : Nat} {U U' : Nat → Int} {x : Nat × ByteArray} {rb : Nat} {hv : List Nat} {rf : Nat → Bool} (h : StS w0 w A K M B U x rb hv rf U') (v : Value) :
    openN v w rb = (if rf 0 then 0 else 1) + (if rf 1 then 0 else 1) + (if rf 2 then 0 else 1) + (3 - lenV v) := by
  have c : ∀ i, i < 3 → openC w rb i = if rf i then 0 else 1 := fun i hi => by
    have hc := h.ref.cell i
    have : w.cell? ⟨rb, i, none⟩ = some (.bool (rf i)) := by
      rw [hc]
      rcases (show i = 0 ∨ i = 1 ∨ i = 2 by omega) with rfl | rfl | rfl <;> rfl
    unfold openC
    rw [this]
    cases rf i <;> rfl
  unfold openN
  rw [c 0 (by omega), c 1 (by omega), c 2 (by omega)]
end Go.Proofs.YtapodcmjggmgmaaGreatDoor
namespace Go.Proofs.YtapodcmjggmgmaaGreatDoor
open Go.RowKit Go.Sort
structure SiteIn (w : World) (A : FixA) (K : Nat → Ks) (M : Nat → List (Nat × ByteArray)) (B : Nat) (U : Nat → Int) : Prop where
  at_ : SiteAt w A K M B U
  ap : Apart A K
  tab : Tab w
structure DrS (w0 w : World) (A : FixA) (K : Nat → Ks) (B : Nat) (id : Nat) (dv : Value) (rest : List Nat) (K' : Nat → Ks) (M' : Nat → List (Nat × ByteArray)) (U' : Nat → Int) : Prop where
  nd : ∀ i, i < 3 → ∃ b, NdIn w (K' i) (M' i) b (U' i) ∧ b ≤ B + 3 ∧ (i ∈ rest → b ≤ B + 1 ∧ id ∈ (M' i).map (·.1)) ∧ ∀ y ∈ M' i, y.1 < id + 1
  fix : FixAt w A (fun i => (K' i).n)
  tab : Tab w
  ap : Apart A K'
  chg : Chg (fun k => ∃ i, i < 3 ∧ (K i).has k) w0 w
  old : ∀ i k, i < 3 → (K' i).has k → (K i).has k ∨ w0.heap.size ≤ k
  far : ∀ i k, i < 3 → (K' i).has k → some k ≠ dv.ownBlock
theorem own_cell {w : World} {base : Nat} {e : TypeId} {size g n cap : Nat} {xs : List Value} (h : w.ownsRow base e size (.slice (some ⟨g, 0, none⟩) n cap) n xs) {j : Nat} {x : Value} (hj : xs[j]? = some x) : w.cell? ⟨g, j, none⟩ = some x := by
  rcases h.2 with ⟨h2, _⟩ | ⟨g', cap', cur, h2, h3, h4, h5, h6, h7, h8⟩
  · cases h2
  · simp only [Value.slice.injEq, Option.some.injEq, Addr.mk.injEq, and_true, true_and] at h2
    obtain ⟨rfl, rfl⟩ := h2
    have hA : At w g e cur := h4
    have hc := hA.cell j
    rw [hc]
    rw [← h8, List.getElem?_take] at hj
    split at hj
    · simpa using hj
    · cases hj
theorem FixAt.lt {w : World} {A : FixA} {n : Nat → Nat} (h : FixAt w A n) : ∀ k, A.blk k → k < w.heap.size := by
  rintro k (rfl | rfl | rfl | rfl | rfl | rfl | rfl | rfl)
  · exact cell_lt h.b5
  · exact cell_lt (h.nd 0 (by decide))
  · exact cell_lt h.l0
  · exact cell_lt h.va
  · exact cell_lt h.d0
  · exact cell_lt h.a0
  · exact cell_lt h.e0
  · exact cell_lt h.i0
theorem StS.drs {w0 w : World} {A : FixA} {K : Nat → Ks} {M : Nat → List (Nat × ByteArray)} {B : Nat} {U U' : Nat → Int} {id : Nat} {data : ByteArray} {rb : Nat} {hv : List Nat} {rf : Nat → Bool} (h : StS w0 w A K M B U (id, data) rb hv rf U') (hap : Apart A K) (hid : ∀ i, i < 3 → ∀ y ∈ M i, y.1 < id) {dv : Value} (hdv : ∀ k, some k = dv.ownBlock → w0.heap.size ≤ k) :
    DrS w0 w A K B id dv hv K (fun i => if i ∈ hv then M i ++ [(id, data)] else M i) U' where
  nd i hi := by
    have := h.nd i hi
    split at this <;> rename_i hm
    · refine ⟨B + 1, by simpa [hm] using this, by omega, fun _ => ⟨by omega, by simp [hm]⟩, fun y hy => ?_⟩
      simp only [if_pos hm] at hy
      rcases List.mem_append.1 hy with q | q
      · have := hid i hi y q; omega
      · simp at q; rw [q]; exact Nat.lt_succ_self _
    · refine ⟨B, by simpa [hm] using this.1, by omega, fun q => absurd q hm, fun y hy => ?_⟩
      simp only [if_neg hm] at hy
      have := hid i hi y hy; omega
  fix := h.fix
  tab := h.tab
  ap := hap
  chg := h.chg
  old i k hi hk := .inl hk
  far i k hi hk e := by have := h.kl i k hi hk; have := hdv k e; omega
theorem DrS.drop {w0 w w' : World} {A : FixA} {K : Nat → Ks} {B : Nat} {id : Nat} {dv : Value} {i : Nat} {rest : List Nat} {K' : Nat → Ks} {M' : Nat → List (Nat × ByteArray)} {U' : Nat → Int} (h : DrS w0 w A K B id dv (i :: rest) K' M' U') (hi : i < 3) (hir : i ∉ rest)
    {c' : Nat} {u' : Int} {L' : List (Nat × ByteArray)} {b : Nat} (hC : Chg (K' i).has w w') (hc : c' = (K' i).c ∨ w.heap.size ≤ c') (hN : NdIn w' { K' i with c := c' } L' b u') (hb : b ≤ B + 3) (hL : ∀ y ∈ L', y ∈ M' i) (hdv : ∀ k, some k = dv.ownBlock → k < w.heap.size) :
    DrS w0 w' A K B id dv rest (fun j => if j = i then { K' i with c := c' } else K' j) (fun j => if j = i then L' else M' j) (fun j => if j = i then u' else U' j) := by
  have hh : ∀ k, ({ K' i with c := c' } : Ks).has k → (K' i).has k ∨ w.heap.size ≤ k := by
    rintro k (e | e | e | e | e)
    · exact .inl (.inl e)
    · exact .inl (.inr (.inl e))
    · exact .inl (.inr (.inr (.inl e)))
    · exact .inl (.inr (.inr (.inr (.inl e))))
    · rcases hc with q | q
      · exact .inl (.inr (.inr (.inr (.inr (e.trans q)))))
      · exact .inr (by rw [show k = c' from e]; exact q)
  have kl : ∀ j k, j < 3 → (K' j).has k → k < w.heap.size := fun j k hj hk => by
    obtain ⟨b, h1, _⟩ := h.nd j hj
    exact h1.lt k hk
  have hn : ∀ j, ((if j = i then ({ K' i with c := c' } : Ks) else K' j)).n = (K' j).n := fun j => by by_cases e : j = i <;> simp [e]
  have hw0 := h.chg.size
  refine ⟨fun j hj => ?_, ?_, h.tab.chg hC (h.ap.st i hi), ⟨fun a b2 k ha hb2 hne hk hk2 => ?_, fun j k hj hk hA => ?_, fun j hj hk => ?_⟩, h.chg.trans hC (fun k hk hk2 => ?_), fun j k hj hk => ?_, fun j k hj hk => ?_⟩
  · by_cases e : j = i
    · subst e
      obtain ⟨_, _, _, _, h4⟩ := h.nd j hj
      exact ⟨b, by simpa using hN, hb, fun q => absurd q hir, fun y hy => h4 y (hL y (by simpa using hy))⟩
    · obtain ⟨b', h1, h2, h3, h4⟩ := h.nd j hj
      refine ⟨b', ?_, h2, fun q => by simpa [e] using h3 (List.mem_cons_of_mem _ q), by simpa [e] using h4⟩
      simp only [if_neg e]
      exact h1.chg hC (fun k hk => h.ap.nn i j k hi hj (fun q => e q.symm) hk)
  · simp only [hn]
    exact h.fix.chg hC (fun k hk hp => h.ap.fx i k hi hp hk)
  · simp only at hk hk2
    by_cases ea : a = i <;> by_cases eb : b2 = i
    · exact hne (ea.trans eb.symm)
    · rw [if_pos ea] at hk; rw [if_neg eb] at hk2
      rcases hh k hk with q | q
      · exact h.ap.nn i b2 k hi hb2 (fun e => eb e.symm) q hk2
      · have := kl b2 k hb2 hk2; omega
    · rw [if_neg ea] at hk; rw [if_pos eb] at hk2
      rcases hh k hk2 with q | q
      · exact h.ap.nn i a k hi ha (fun e => ea e.symm) q hk
      · have := kl a k ha hk; omega
    · rw [if_neg ea] at hk; rw [if_neg eb] at hk2
      exact h.ap.nn a b2 k ha hb2 hne hk hk2
  · simp only at hk
    by_cases e : j = i
    · rw [if_pos e] at hk
      rcases hh k hk with q | q
      · exact h.ap.fx i k hi q hA
      · have := h.fix.lt k hA; omega
    · rw [if_neg e] at hk; exact h.ap.fx j k hj hk hA
  · simp only at hk
    by_cases e : j = i
    · rw [if_pos e] at hk
      rcases hh _ hk with q | q
      · exact h.ap.st i hi q
      · have := h.tab.lt; omega
    · rw [if_neg e] at hk; exact h.ap.st j hj hk
  · rcases h.old i k hi hk2 with q | q
    · exact ⟨i, hi, q⟩
    · omega
  · simp only at hk
    by_cases e : j = i
    · rw [if_pos e] at hk; subst e
      rcases hh k hk with q | q
      · exact h.old j k hj q
      · exact .inr (by omega)
    · rw [if_neg e] at hk; exact h.old j k hj hk
  · simp only at hk
    by_cases e : j = i
    · rw [if_pos e] at hk; subst e
      rcases hh k hk with q | q
      · exact h.far j k hj q
      · exact fun e => by have := hdv k e; omega
    · rw [if_neg e] at hk; exact h.far j k hj hk
theorem StS.off {w0 w w' : World} {A : FixA} {K : Nat → Ks} {M : Nat → List (Nat × ByteArray)} {B : Nat} {U U' : Nat → Int} {x : Nat × ByteArray} {rb : Nat} {hv : List Nat} {rf : Nat → Bool} (h : StS w0 w A K M B U x rb hv rf U') {S : Nat → Prop} (hC : Chg S w w') (hS : ∀ k, S k → w0.heap.size ≤ k ∧ k ≠ rb) : StS w0 w' A K M B U x rb hv rf U' := by
  have hK : ∀ j, j < 3 → ∀ k, S k → ¬ (K j).has k := fun j hj k e hk => by have := h.kl j k hj hk; have := (hS k e).1; omega
  refine ⟨fun j hj => ?_, ?_, ?_, ?_, h.lt, h.nod, h.dis, h.chg.trans hC (fun k hk e => by have := (hS k e).1; omega), h.fr, h.kl, h.hrb, h.al, h.tl⟩
  · have := h.nd j hj
    split at this <;> rename_i hm
    · rw [if_pos hm]; exact this.chg hC (hK j hj)
    · rw [if_neg hm]; exact ⟨this.1.chg hC (hK j hj), this.2⟩
  · exact h.fix.chg hC (fun k hk e => by have := h.al k hk; have := (hS k e).1; omega)
  · exact h.tab.chg hC (fun e => by have := h.tl; have := (hS _ e).1; omega)
  · exact h.ref.chg hC (fun e => (hS _ e).2 rfl)
theorem DrS.site {w0 w : World} {A : FixA} {K : Nat → Ks} {B : Nat} {id : Nat} {dv : Value} {rest : List Nat} {K' : Nat → Ks} {M' : Nat → List (Nat × ByteArray)} {U' : Nat → Int} (h : DrS w0 w A K B id dv rest K' M' U') : SiteIn w A K' M' (B + 3) U' :=
  ⟨⟨h.fix, fun i hi => by obtain ⟨b, h1, h2, _⟩ := h.nd i hi; exact h1.mono h2⟩, h.ap, h.tab⟩
theorem Sl.pick {w : World} {A : Option Addr} {n c : Nat} {xs : List Value} (h : Sl w (.slice A n c) xs) {k : Nat} {x : Value} (hk : xs[k]? = some x) : ∃ b o, A = some ⟨b, o, none⟩ ∧ w.cell? ⟨b, o + k, none⟩ = some x := by
  obtain ⟨A', c', hv, hx⟩ := h
  obtain ⟨b, o, rfl, hc⟩ := hx (fun e => by subst e; cases hk)
  simp only [Value.slice.injEq] at hv
  exact ⟨b, o, hv.1, hc k x hk⟩
theorem split_at {l : List Nat} {k i : Nat} (h : l[k]? = some i) (hn : l.Nodup) : i ∈ l ∧ l.take (k + 1) = l.take k ++ [i] ∧ l.drop k = i :: l.drop (k + 1) ∧ i ∉ l.take k ∧ i ∉ l.drop (k + 1) := by
  have hk : k < l.length := (List.getElem?_eq_some_iff.1 h).1
  have h1 : l.take (k + 1) = l.take k ++ [i] := by rw [List.take_add_one, h]; rfl
  have h2 : l.drop k = i :: l.drop (k + 1) := by
    rw [List.drop_eq_getElem_cons hk]
    rw [List.getElem?_eq_getElem hk] at h
    rw [Option.some.inj h]
  have h3 : l = l.take k ++ i :: l.drop (k + 1) := by rw [← h2, List.take_append_drop]
  have hn2 := hn
  rw [h3] at hn2
  obtain ⟨_, b, c⟩ := List.nodup_append.1 hn2
  exact ⟨List.mem_of_getElem? h, h1, h2, fun hm => c i hm i (List.mem_cons_self ..) rfl, (List.nodup_cons.1 b).1⟩
theorem one_lenI (xs : List Value) : ∀ r ∈ xs.map (fun x => [x]), r.length = 1 := by
  intro r hr
  obtain ⟨x, _, rfl⟩ := List.mem_map.1 hr
  rfl
theorem ints_oneI (l : List Int) : ∀ r ∈ (l.map (Value.int .i64)).map (fun x => [x]), r.all Value.oneCell' = true := by
  intro r hr
  obtain ⟨x, hx, rfl⟩ := List.mem_map.1 hr
  obtain ⟨y, _, rfl⟩ := List.mem_map.1 hx
  simp [Value.oneCell']
theorem nodup_len : ∀ {l m : List Nat}, l.Nodup → (∀ x ∈ l, x ∈ m) → l.length ≤ m.length
  | [], m, _, _ => by simp
  | x :: l, m, hn, hs => by
    have hx := hs x (List.mem_cons_self ..)
    obtain ⟨h1, h2⟩ := List.nodup_cons.1 hn
    have h3 := nodup_len (l := l) (m := m.erase x) h2 (fun y hy => (List.mem_erase_of_ne (fun e : y = x => h1 (e ▸ hy))).2 (hs y (List.mem_cons_of_mem _ hy)))
    rw [List.length_erase_of_mem hx] at h3
    have := List.length_pos_of_mem hx
    simp; omega
theorem open_less {rf rf' : Nat → Bool} (h : ∀ i, rf i = true → rf' i = true) {i : Nat} (hi : i < 3) (h0 : rf i = false) (h1 : rf' i = true) :
    (if rf' 0 then 0 else 1) + (if rf' 1 then 0 else 1) + (if rf' 2 then 0 else 1) < (if rf 0 then 0 else 1) + (if rf 1 then 0 else 1) + (if rf 2 then 0 else (1 : Nat)) := by
  have c : ∀ j, (if rf' j then 0 else 1) ≤ (if rf j then 0 else (1 : Nat)) := fun j => by
    have := h j
    cases hr : rf j <;> cases hr' : rf' j <;> simp_all
  have c0 := c 0
  have c1 := c 1
  have c2 := c 2
  rcases (show i = 0 ∨ i = 1 ∨ i = 2 by omega) with rfl | rfl | rfl <;> rw [h0, h1] <;> simp <;> omega
theorem open_le {rf rf' : Nat → Bool} (h : ∀ i, rf i = true → rf' i = true) :
    (if rf' 0 then 0 else 1) + (if rf' 1 then 0 else 1) + (if rf' 2 then 0 else 1) ≤ (if rf 0 then 0 else 1) + (if rf 1 then 0 else 1) + (if rf 2 then 0 else (1 : Nat)) := by
  have c : ∀ j, (if rf' j then 0 else 1) ≤ (if rf j then 0 else (1 : Nat)) := fun j => by
    have := h j
    cases hr : rf j <;> cases hr' : rf' j <;> simp_all
  have c0 := c 0
  have c1 := c 1
  have c2 := c 2
  omega
theorem own_lt {w : World} {base : Nat} {e : TypeId} {size : Nat} {v : Value} {n : Nat} {xs : List Value} (h : w.ownsRow base e size v n xs) : ∀ k, some k = v.ownBlock → k < w.heap.size := by
  intro k hk
  rcases h.2 with ⟨rfl, _⟩ | ⟨g, cap, cur, rfl, _, hg, _⟩
  · cases hk
  · cases hk
    have hA : At w g e cur := hg
    exact hA.lt
theorem sln_own {w : World} {base : Nat} {e : TypeId} {v : Value} {n : Nat} {l : List Spot} (h : w.ownsRow base e 2 v n ((l.map Spot.cells).flatten)) (hn : l.length = n) : Sln w v 2 (l.map Spot.cells) :=
  Sln.of_own h (fun r hr => by obtain ⟨s, _, rfl⟩ := List.mem_map.1 hr; rfl) (by simpa using hn)
end Go.Proofs.YtapodcmjggmgmaaGreatDoor
namespace Go.Proofs.YtapodcmjggmgmaaGreatDoor
open Go.RowKit Go.Sort
set_option maxRecDepth 100000 in
set_option maxHeartbeats 4000000 in
theorem store_any (w0 : World) (A : FixA) (K : Nat → Ks) (M : Nat → List (Nat × ByteArray)) (B : Nat) (U : Nat → Int) (h0 : SiteIn w0 A K M B U) (hB : B ≤ 43) (id : Nat) (hi64 : id < 18446744073709551616) (hid : ∀ i, i < 3 → ∀ y ∈ M i, y.1 < id) (data : ByteArray) (hd : data.size ≤ 150) :
    Calls Tryz.prog 8 #[.pointer (some ⟨A.b, 0, none⟩), .int .u64 (id : Int), .string data] w0 fun e w' => ∃ (v : Value) (K' : Nat → Ks) (M' : Nat → List (Nat × ByteArray)) (U' : Nat → Int), SiteIn w' A K' M' (B + 3) U' ∧ (∀ i, i < 3 → ∀ y ∈ M' i, y.1 < id + 1) ∧
      Chg (fun k => ∃ i, i < 3 ∧ (K i).has k) w0 w' ∧ (∀ i k, i < 3 → (K' i).has k → (K i).has k ∨ w0.heap.size ≤ k) ∧
      ((e = .returned (.tuple #[v, .int .i64 7]) ∧ ¬ ∀ i, i < 3 → U i = 0) ∨
       (e = .returned (.tuple #[v, .int .i64 0]) ∧ ∃ rn : List Nat, rn.length = 2 ∧ rn.Nodup ∧ (∀ i ∈ rn, i < 3) ∧ Sl w' v ((rn.map Int.ofNat).map (Value.int .i64)) ∧ ∀ i, i < 3 → if i ∈ rn then M' i = M i ++ [(id, data)] else M' i = M i)) := by
  have b9 := h0.at_.fix.b9
  have hmk : ∀ w : World, (Instr.makeSlice 84 (.int .i64 3) (.int .i64 3)).run Tryz.prog w = .ok (.slice (some ⟨w.heap.size, 0, none⟩) 3 3) (w.alloc (.cells #[.bool false, .bool false, .bool false] 4)) := fun _ => by kernel_rfl
  go_enter Tryz.func8, Tryz.ntmps8
  go_wp2_with fail
  have hRf := At.new w0 4 #[.bool false, .bool false, .bool false]
  have hE0 := (Ext.refl w0).alloc (.cells #[.bool false, .bool false, .bool false] 4)
  generalize w0.alloc (.cells #[.bool false, .bool false, .bool false] 4) = W at hRf hE0 ⊢
  obtain ⟨rb, hrb⟩ : ∃ rb, w0.heap.size = rb := ⟨_, rfl⟩
  rw [hrb] at hRf ⊢
  have hS0 : StS w0 W A K M B U (id, data) rb [] (fun _ => false) U := ⟨fun i hi => by rw [if_neg (by simp)]; exact ⟨(h0.at_.nd i hi).ext hE0, rfl⟩, h0.at_.fix.ext hE0, h0.tab.ext hE0, hRf, by simp, List.nodup_nil, by simp, hE0.chg, fun _ _ _ => rfl, fun i k hi hk => (h0.at_.nd i hi).lt k hk, by omega, h0.at_.fix.lt, h0.tab.lt⟩
  have hap := h0.ap
  have hRB := Lib.hid hrb
  clear hmk b9 hRf hE0 hrb h0
  go_loopw [8] (fun dv wr => ∃ (dn : List Nat) (rf : Nat → Bool) (U' : Nat → Int), StS w0 wr A K M B U (id, data) rb dn rf U' ∧ wr.ownsRow w0.heap.size 3 1 dv dn.length ((dn.map Int.ofNat).map (Value.int .i64)) ∧ dn.length ≤ 2) (fun dv wr => openN dv wr rb)
  case atStart => exact ⟨[], _, U, hS0, World.ownsRow_nil _ _ _ _, by simp⟩
  case round =>
    clear hS0
    obtain ⟨dn, rf, U', hS, hdv, hdl⟩ := hrel
    rename World => w1
    obtain ⟨dA, dc, rfl⟩ := own_slc hdv
    have hop := Lib.hid (hS.open_ (.slice dA dn.length dc))
    have hw := world_any w1 A K _ (B + 1) U' hS.site
    go_wp2_with fail
    refine hw.mono ?_
    rintro e w2 ⟨v0, v1, v2, v3, v4, rfl, hv0, hE2⟩
    clear hw
    obtain ⟨g, gc, rfl, hgb, _, hgn, hgm, _⟩ := own_some hv0 (by decide)
    unfold wCells
    have hfi : ∀ (y : Value) (w : World), (Instr.field 87 (.agg #[y, v1, v2, v3, v4, .int .i64 2, .int .i64 0, .int .i64 0, .int .i64 0]) 0).run Tryz.prog w = .ok y w := fun _ _ => by kernel_rfl
    go_wp2_with fail
    clear hfi
    rw [← upR_zero U' rf] at hv0
    go_loopw [36] (fun iv wr => ∃ k : Nat, k ≤ 3 ∧ iv = .int .i64 (k : Int) ∧ wr.ownsRow w1.heap.size 90 2 (.slice (some ⟨g, 0, none⟩) 3 gc) 3 (((upR U' rf k).map Spot.cells).flatten) ∧ Ext w1 wr) (fun iv _ => 3 - (intOf iv).toNat)
    case atStart => exact ⟨0, by omega, rfl, hv0, hE2⟩
    case round =>
      clear hv0 hE2
      obtain ⟨k, hk, rfl, hv0, hE2⟩ := hrel
      by_cases hlt : k < 3
      · have hrc := (hS.ext hE2).ref.cell k
        have hsc := own_cell hv0 (j := k * 2) (x := .bool true) (by rw [upR_flat]; rcases (show k = 0 ∨ k = 1 ∨ k = 2 by omega) with rfl | rfl | rfl <;> rfl)
        have hfz := (own_fz hv0 (k * 2)).1
        have hset := own_set hv0 (j := k * 2) (by omega) (.bool (!rf k))
        rw [upR_succ _ _ _ hlt] at hset
        have hEs := hE2.setCell (p := ⟨g, k * 2, none⟩) hgb (.bool (!rf k))
        clear hv0
        rcases (show k = 0 ∨ k = 1 ∨ k = 2 by omega) with rfl | rfl | rfl
        · simp at hrc hsc hfz
          go_wp2_with fail
          go_roundw
          case rel => exact ⟨1, by omega, rfl, hset, hEs⟩
          case measure => simp [intOf]
        · simp at hrc hsc hfz
          go_wp2_with fail
          go_roundw
          case rel => exact ⟨2, by omega, rfl, hset, hEs⟩
          case measure => simp [intOf]
        · simp at hrc hsc hfz
          go_wp2_with fail
          go_roundw
          case rel => exact ⟨3, by omega, rfl, hset, hEs⟩
          case measure => simp [intOf]
      · obtain rfl : k = 3 := by omega
        rename World => w3
        have hS3 := hS.ext hE2
        have b5 := hS3.fix.b5
        have hdv3 := own_chg hdv hE2 (fun _ h => h.elim)
        have cd := disks_any w3 (.slice (some ⟨g, 0, none⟩) 3 gc) (.slice dA dn.length dc) (upR U' rf 3) (dn.map Int.ofNat) (sln_own hv0 rfl) (Sl.of_own hdv3) (by show 3 ≤ 12; decide) (by rw [List.length_map]; omega) (data.size : Int) 2 (by decide) (by decide)
        clear hv0 hE2 hS hdv
        go_wp2_with fail
        refine cd.mono ?_
        rintro e w4 ⟨cv, r, rfl, hch, hcv, hE4⟩
        clear cd
        obtain ⟨rn, rfl, hrnd, hrlt, hdr, hrl, hr2, hreq, hrall⟩ := chosen3 U' rf dn r (data.size : Int) hS3.lt hS3.nod hdl hch
        clear hch
        have hS4 := hS3.ext hE4
        have hdv4 := own_chg hdv3 hE4 (fun _ h => h.elim)
        have hw03 : w0.heap.size ≤ w3.heap.size := hS3.chg.size
        rw [List.length_map] at hcv ⊢
        have hU0 : ∀ i, i < 3 → i ∉ dn → U' i = U i := fun i hi hn => by have := hS3.nd i hi; rw [if_neg hn] at this; exact this.2
        have hfr := hS3.fr
        clear hS3 hdv3 hE4
        by_cases h2 : rn.length = 2
        · have hb : decide ((2 : Int) ≤ (rn.length : Int)) = true := by simp; omega
          rw [hb]
          obtain ⟨cA, cc, rfl⟩ := own_slc hcv
          rw [h2] at hcv ⊢
          clear hb hrall hU0 hfr
          by_cases hd2 : dn.length = 2
          · have hrd := hreq (h2.trans hd2.symm)
            clear hreq hr2 hrl
            rw [hd2] at hdv4 ⊢
            go_wp2_with fail
            go_ret2
            refine ⟨_, K, _, U', ⟨⟨hS4.fix, fun i hi => (hS4.site.nd i hi).mono (by omega)⟩, hap, hS4.tab⟩, ?_, hS4.chg, fun i k hi hk => .inl hk, .inr ⟨rfl, rn, h2, hrnd, fun i hi => (hrlt i hi).1, Sl.of_own hcv, fun i hi => ?_⟩⟩
            · intro i hi y hy
              split at hy
              · rcases List.mem_append.1 hy with q | q
                · have := hid i hi y q; omega
                · simp at q; rw [q]; exact Nat.lt_succ_self _
              · have := hid i hi y hy; omega
            · by_cases hm : i ∈ rn
              · rw [if_pos hm, if_pos (hrd i hm)]
              · rw [if_neg hm, if_neg (fun q => hm (hdr i q))]
          · clear hreq hr2
            have hlt2 : dn.length < 2 := by omega
            have hbe : ((2 : Int) == (dn.length : Int)) = false := by simp; omega
            have hdlt : ∀ k, some k = (Value.slice dA dn.length dc).ownBlock → k < w4.heap.size := own_lt hdv4
            have hclt : ∀ k, some k = (Value.slice cA 2 cc).ownBlock → k < w4.heap.size := own_lt hcv
            have hrlt4 : rb < w4.heap.size := hS4.ref.lt
            have hw04 : w0.heap.size ≤ w4.heap.size := hS4.chg.size
            replace hcv := own_base hcv hw03
            go_wp2_with fail
            go_loopw [16, 95] (fun tv iv wr => ∃ (k : Nat) (tk : List Nat) (rf' : Nat → Bool) (U2 : Nat → Int), k ≤ 2 ∧ iv = .int .i64 (k : Int) ∧ StS w0 wr A K M B U (id, data) rb (dn ++ tk) rf' U2 ∧
              wr.ownsRow w4.heap.size 3 1 tv tk.length ((tk.map Int.ofNat).map (Value.int .i64)) ∧ wr.ownsRow w0.heap.size 3 1 (.slice dA dn.length dc) dn.length ((dn.map Int.ofNat).map (Value.int .i64)) ∧ wr.ownsRow w0.heap.size 3 1 (.slice cA 2 cc) 2 ((rn.map Int.ofNat).map (Value.int .i64)) ∧ w4.heap.size ≤ wr.heap.size ∧ tk.length ≤ k ∧
              (∀ i ∈ tk, i ∈ rn.take k) ∧ (∀ i ∈ rn.take k, i ∈ dn ∨ i ∈ tk ∨ rf' i = true) ∧ (∀ i, rf i = true → rf' i = true) ∧ (∀ i ∈ rn.drop k, rf' i = rf i)) (fun _ iv _ => 2 - (intOf iv).toNat)
            case atStart => exact ⟨0, [], rf, U', by omega, rfl, by rw [List.append_nil]; exact hS4, World.ownsRow_nil _ _ _ _, hdv4, hcv, Nat.le_refl _, Nat.le_refl _, by simp, by simp, fun _ h => h, fun _ _ => rfl⟩
            case round =>
              clear hS4 hdv4 hcv
              obtain ⟨k, tk, rf', U2, hk, rfl, hS5, htv, hdv5, hcv5, hsz, htl, hq1, hq2, hq3, hq4⟩ := hrel
              by_cases hkl : k < 2
              · obtain ⟨i, hi⟩ : ∃ i, rn[k]? = some i := ⟨_, List.getElem?_eq_getElem (by omega)⟩
                obtain ⟨him, htk, hdrop, hit, hir⟩ := split_at hi hrnd
                obtain ⟨hi3, hif⟩ := hrlt i him
                obtain ⟨b', o', rfl, hcell⟩ := (Sl.of_own hcv5).pick (k := k) (x := .int .i64 (i : Int)) (by simp [hi])
                have cm := mhas_any wr (.slice dA dn.length dc) (dn.map Int.ofNat) (Sl.of_own hdv5) (i : Int) (by rw [List.length_map]; omega)
                have hm : ((i : Int) ∈ dn.map Int.ofNat) ↔ i ∈ dn := ofnat_mem
                have hge := Lib.hid (own_ge htv)
                rw [hdrop] at hq4
                by_cases hmd : i ∈ dn
                · rw [decide_eq_true (hm.2 hmd)] at cm
                  clear hm
                  go_wp2_with fail
                  refine cm.mono ?_
                  rintro e w5 ⟨rfl, hE5⟩
                  clear cm hcell
                  go_wp2_with fail
                  go_roundw
                  case rel =>
                    refine ⟨k + 1, tk, rf', U2, by omega, by go_num, hS5.ext hE5, own_chg htv hE5 (fun _ h => h.elim), own_chg hdv5 hE5 (fun _ h => h.elim), own_chg hcv5 hE5 (fun _ h => h.elim), by have := hE5.size; omega, by omega, ?_, ?_, hq3, fun j hj => hq4 j (List.mem_cons_of_mem _ hj)⟩
                    · intro j hj; rw [htk]; exact List.mem_append_left _ (hq1 j hj)
                    · intro j hj
                      rw [htk] at hj
                      rcases List.mem_append.1 hj with q | q
                      · exact hq2 j q
                      · simp at q; subst q; exact .inl hmd
                  case measure => simp [intOf]; omega
                · rw [decide_eq_false (fun q => hmd (hm.1 q))] at cm
                  clear hm
                  have hnk : i ∉ dn ++ tk := fun q => by
                    rcases List.mem_append.1 q with q | q
                    · exact hmd q
                    · exact hit (hq1 i q)
                  have hrf : rf' i = false := (hq4 i (List.mem_cons_self ..)).trans (hif.resolve_left hmd)
                  have hNd := hS5.nd i hi3
                  rw [if_neg hnk] at hNd
                  obtain ⟨hN, hUU⟩ := hNd
                  have HQ := Lib.hid (And.intro hq1 (And.intro hq2 (And.intro hq3 (And.intro hq4 (And.intro htk (And.intro hdrop hit))))))
                  clear hq1 hq2 hq3 hq4 htk hdrop hi him hif
                  go_wp2_with fail
                  refine cm.mono ?_
                  rintro e w5 ⟨rfl, hE5⟩
                  clear cm hcell
                  replace hS5 := hS5.ext hE5
                  replace htv := own_chg htv hE5 (fun _ h => h.elim)
                  replace hdv5 := own_chg hdv5 hE5 (fun _ h => h.elim)
                  replace hcv5 := own_chg hcv5 hE5 (fun _ h => h.elim)
                  replace hsz : w4.heap.size ≤ w5.heap.size := by have := hE5.size; omega
                  have b9 := hS5.fix.b9
                  have bnd := hS5.fix.nd i hi3
                  have cp := nput_any w5 (K i) (M i) B (U2 i) (hN.ext hE5) (by omega) id hi64 (hid i hi3) data hd hS5.tab (hap.st i hi3)
                  clear hE5
                  go_wp2_with fail
                  refine cp.mono ?_
                  rintro e w6 ⟨hC6, hor⟩
                  clear cp b9 bnd
                  have hKe : ∀ k, (K i).has k → k < w0.heap.size := fun k hk => hS5.kl i k hi3 hk
                  have hsz6 := hC6.size
                  replace htv := own_off htv hC6 (fun k hk hp => by have := hge.out k hk; have := hKe k hp; omega)
                  replace hdv5 := own_off hdv5 hC6 (fun k hk hp => by have := own_ge hdv5 k hk; have := hKe k hp; omega)
                  replace hcv5 := own_off hcv5 hC6 (fun k hk hp => by have := own_ge hcv5 k hk; have := hKe k hp; omega)
                  rcases hor with ⟨rfl, hN6, hfull⟩ | ⟨rfl, u', hN6⟩
                  · have hnU : ¬ ∀ j, j < 3 → U j = 0 := fun h => by
                      have := frec_size 1 id data
                      have := h i hi3
                      omega
                    have hS6 := hS5.fail hap hi3 hnk hC6 hN6
                    have hS7 := hS6.refuse hi3 hnk hnU
                    have hC7 : Chg (fun k => k = rb) w6 (w6.setCell ⟨rb, i, none⟩ (.bool true)) := (Chg.refl (fun k => k = rb) w6).setCell (p := ⟨rb, i, none⟩) (.inl rfl) _
                    have hrc : w6.cell? ⟨rb, i, none⟩ = some (.bool (rf' i)) := by
                      rw [hS6.ref.cell i]
                      rcases (show i = 0 ∨ i = 1 ∨ i = 2 by omega) with rfl | rfl | rfl <;> rfl
                    have hrz := hS6.ref.frozen i
                    have hA6 := hS6.ref
                    replace htv := own_off htv hC7 (fun k hk hp => own_noat htv ⟨_, hA6⟩ (by decide) k hk hp)
                    replace hdv5 := own_off hdv5 hC7 (fun k hk hp => own_noat hdv5 ⟨_, hA6⟩ (by decide) k hk hp)
                    replace hcv5 := own_off hcv5 hC7 (fun k hk hp => own_noat hcv5 ⟨_, hA6⟩ (by decide) k hk hp)
                    clear hS5 hS6 hA6 hC6 hN6 hfull hN hUU
                    go_wp2_with fail
                    go_roundw
                    case rel =>
                      obtain ⟨hq1, hq2, hq3, hq4, htk, hdrop, hit⟩ := HQ.out
                      refine ⟨k + 1, tk, _, U2, by omega, by go_num, hS7, htv, hdv5, hcv5, by have := hC7.size; omega, by omega, ?_, ?_, ?_, ?_⟩
                      · intro j hj; rw [htk]; exact List.mem_append_left _ (hq1 j hj)
                      · intro j hj
                        rw [htk] at hj
                        rcases List.mem_append.1 hj with q | q
                        · rcases hq2 j q with h | h | h
                          · exact .inl h
                          · exact .inr (.inl h)
                          · exact .inr (.inr (by split; rfl; exact h))
                        · simp at q; subst q; exact .inr (.inr (by simp))
                      · intro j hj; split; rfl; exact hq3 j hj
                      · intro j hj
                        have : j ≠ i := fun e => hir (e ▸ hj)
                        rw [if_neg this]
                        exact hq4 j (List.mem_cons_of_mem _ hj)
                    case measure => simp [intOf]; omega
                  · have hS6 := hS5.put hap hi3 hnk hrf hC6 hN6
                    rw [List.append_assoc] at hS6
                    clear hS5 hC6 hN6 hN hUU hKe
                    obtain ⟨i0, hi0, hz0, hz1, hz2⟩ := info_parts int_info
                    go_wp2_with (at_builtin; refine wpList_append_own _ rfl _ _ 30 rfl w4.heap.size 3 i0 (.int .i64 0) 1 8 Tryz.underlying30 hi0 hz0 hz1 hz2 rfl (by decide) _ _ _ rfl (htv.alloc _) ⟨w6.heap.size, 0, none⟩ 1 1 [.int .i64 (i : Int)] rfl rfl ?c1 ?c2 ?c3 ?c4 ?c5 ?_)
                    case c1 => exact cell_one
                    case c2 => simp [Value.oneCell']
                    case c3 => unfold maxLen; omega
                    case c4 => omega
                    case c5 => simp; omega
                    intro v1 w7 htv7 hg7 _
                    have hEa : Ext w6 (w6.alloc (.cells #[.int .i64 (i : Int)] 3)) := (Ext.refl w6).alloc _
                    have hC7 := Chg.of_grown hg7
                    have hge7 : ∀ k, some k = u16.ownBlock → w4.heap.size ≤ k := own_ge htv
                    have hA6 := hS6.ref
                    have hS7 := (hS6.ext hEa).off hC7 (fun k hk => ⟨by have := hge7 k hk; omega, by have := hge7 k hk; omega⟩)
                    have hdv7 := own_off (own_chg hdv5 hEa (fun _ h => h.elim)) hC7 (fun k hk hp => by have := hge7 k hp; have := hdlt k hk; omega)
                    have hcv7 := own_off (own_chg hcv5 hEa (fun _ h => h.elim)) hC7 (fun k hk hp => by have := hge7 k hp; have := hclt k hk; omega)
                    have hs7 : w4.heap.size ≤ w7.heap.size := by have := hEa.size; have := hC7.size; omega
                    clear hg7 hEa hC7 hge7 hA6 hS6 hdv5 hcv5 htv
                    go_wp2
                    go_roundw
                    case rel =>
                      obtain ⟨hq1, hq2, hq3, hq4, htk, hdrop, hit⟩ := HQ.out
                      refine ⟨k + 1, tk ++ [i], rf', _, by omega, by go_num, hS7, by simpa using htv7, hdv7, hcv7, hs7, by simp; omega, ?_, ?_, hq3, fun j hj => hq4 j (List.mem_cons_of_mem _ hj)⟩
                      · intro j hj
                        rw [htk]
                        rcases List.mem_append.1 hj with q | q
                        · exact List.mem_append_left _ (hq1 j q)
                        · exact List.mem_append_right _ q
                      · intro j hj
                        rw [htk] at hj
                        rcases List.mem_append.1 hj with q | q
                        · rcases hq2 j q with h | h | h
                          · exact .inl h
                          · exact .inr (.inl (List.mem_append_left _ h))
                          · exact .inr (.inr h)
                        · exact .inr (.inl (List.mem_append_right _ q))
                    case measure => simp [intOf]; omega
              · obtain rfl : k = 2 := by omega
                rename World => w7
                have hrt : rn.take 2 = rn := List.take_of_length_le (by omega)
                rw [hrt] at hq1 hq2
                have hdr5 : ∀ x ∈ dn ++ tk, x ∈ rn := fun x hx => by
                  rcases List.mem_append.1 hx with q | q
                  · exact hdr x q
                  · exact hq1 x q
                have hdt := nodup_len hS5.nod hdr5
                rw [List.length_append, h2] at hdt
                go_wp2_with (at_builtin; refine wpList_append_sln hdv5 (Sl.of_own htv).sln (one_lenI _) (ints_oneI _) 30 Tryz.underlying30 int_info rfl (by decide) (by decide) (by simp; omega) (by omega) rfl _ _ rfl rfl rfl ?_)
                intro v1 w8 hdv8 hC8
                have hge8 := own_ge hdv5
                have hS8 := hS5.off hC8 (fun k hk => ⟨hge8 k hk, by have := own_noat hdv5 ⟨_, hS5.ref⟩ (by decide) k hk; exact this⟩)
                have hfl : ∀ q : List Nat, (q.map ((fun x => [x]) ∘ Value.int .i64 ∘ Int.ofNat)).flatten = (q.map Int.ofNat).map (Value.int .i64) := fun q => by
                  induction q with
                  | nil => rfl
                  | cons a q ih => rw [List.map_cons, List.flatten_cons, ih]; rfl
                rw [hfl] at hdv8
                have hdv9 : w8.ownsRow w0.heap.size 3 1 v1 (dn ++ tk).length (((dn ++ tk).map Int.ofNat).map (Value.int .i64)) := by simpa using hdv8
                have hlV : lenV v1 = dn.length + tk.length := by obtain ⟨_, _, rfl⟩ := own_slc hdv9; simp [lenV]
                have hnew : ∃ i ∈ rn, i ∉ dn := by
                  refine Classical.byContradiction fun hx => ?_
                  have := nodup_len hrnd (m := dn) (fun y hy => Classical.byContradiction fun hy2 => hx ⟨y, hy, hy2⟩)
                  omega
                clear hfl hdv8 hC8 hge8 hS5 hdv5 hcv5 htv hdr5 hbe
                go_wp2
                go_roundw
                case rel => exact ⟨dn ++ tk, rf', U2, hS8, hdv9, by rw [List.length_append]; exact hdt⟩
                case measure =>
                  rw [hS8.open_, hop.out, hlV]
                  simp only [lenV]
                  obtain ⟨i, hi, hin⟩ := hnew
                  have hi3 := (hrlt i hi).1
                  have h0 := (hrlt i hi).2.resolve_left hin
                  rcases hq2 i hi with q | q | q
                  · exact absurd q hin
                  · have h1 := open_le hq3
                    have h3 := List.length_pos_of_mem q
                    omega
                  · have h1 := open_less hq3 hi3 h0 q
                    omega
        · have hb : decide ((2 : Int) ≤ (rn.length : Int)) = false := by simp; omega
          rw [hb]
          have hnU : ¬ ∀ i, i < 3 → U i = 0 := fun h => h2 (hrall fun i hi hn => ⟨hfr h i hi, by rw [hU0 i hi hn, h i hi]; omega⟩)
          clear hb hrnd hrlt hdr hrl hr2 hreq hrall hU0 hfr hcv h2
          have hfar : ∀ k, some k = (Value.slice dA dn.length dc).ownBlock → w0.heap.size ≤ k := own_ge hdv4
          have hD := hS4.drs hap hid hfar
          have hnd := hS4.nod
          have hlt3 := hS4.lt
          have hsl := Sl.of_own hdv4
          have hbl : ∀ k, some k = (Value.slice dA dn.length dc).ownBlock → k < w4.heap.size := own_lt hdv4
          clear hdv4 hS4 hfar
          go_wp2_with fail
          go_loopw [73] (fun iv wr => ∃ (k : Nat) (K' : Nat → Ks) (M' : Nat → List (Nat × ByteArray)) (U2 : Nat → Int), k ≤ dn.length ∧ iv = .int .i64 (k : Int) ∧ DrS w0 wr A K B id (.slice dA dn.length dc) (dn.drop k) K' M' U2 ∧ Sl wr (.slice dA dn.length dc) ((dn.map Int.ofNat).map (Value.int .i64)) ∧ w4.heap.size ≤ wr.heap.size) (fun iv _ => dn.length - (intOf iv).toNat)
          case atStart => exact ⟨0, _, _, _, Nat.zero_le _, rfl, hD, hsl, Nat.le_refl _⟩
          case round =>
            clear hD hsl
            obtain ⟨k, K', M', U2, hk, rfl, hD, hsl, hsz⟩ := hrel
            by_cases hkl : k < dn.length
            · obtain ⟨i, hi⟩ : ∃ i, dn[k]? = some i := ⟨_, List.getElem?_eq_getElem hkl⟩
              obtain ⟨him, _, hdrop, _, hir⟩ := split_at hi hnd
              have hi3 := hlt3 i him
              rw [hdrop] at hD
              obtain ⟨b', o', rfl, hcell⟩ := hsl.pick (k := k) (x := .int .i64 (i : Int)) (by simp [hi])
              obtain ⟨b, hN, hbB, hrest, _⟩ := hD.nd i hi3
              obtain ⟨hb1, hmem⟩ := hrest (List.mem_cons_self ..)
              have b9 := hD.fix.b9
              have bnd := hD.fix.nd i hi3
              have cdr := ndrop_any wr (K' i) (M' i) b (U2 i) hN (by omega) id hi64 hmem hD.tab (hD.ap.st i hi3)
              have HH := Lib.hid (And.intro hdrop (And.intro hbB (And.intro hb1 hbl)))
              clear hi him hdrop hN hbB hrest hb1 hmem hbl hnd hlt3
              go_wp2_with fail
              refine cdr.mono ?_
              rintro e w5 ⟨r, c', u', L', rfl, hC, hc', hN', hL⟩
              clear cdr
              go_wp2_with fail
              go_roundw
              case rel =>
                obtain ⟨hdrop, hbB, hb1, hbl⟩ := HH.out
                refine ⟨k + 1, _, _, _, by omega, by go_num, hD.drop hi3 hir hC hc' hN' (by omega) ?_ (fun k hk => by have := hbl k hk; omega), hsl.chg hC (fun b o n c hv hne hp => hD.far i b hi3 hp (by rw [hv]; rfl)), by have := hC.size; omega⟩
                rcases hL with rfl | rfl
                · exact fun y hy => hy
                · exact fun y hy => (List.mem_filter.1 hy).1
              case measure => simp [intOf]; omega
            · obtain rfl : k = dn.length := by omega
              go_wp2_with fail
              go_ret2
              exact ⟨_, K', M', U2, hD.site, fun i hi y hy => by obtain ⟨_, _, _, _, q⟩ := hD.nd i hi; exact q y hy, hD.chg, hD.old, .inl ⟨rfl, hnU⟩⟩
end Go.Proofs.YtapodcmjggmgmaaGreatDoor
