/-
  Ranging over a map that reads as a list: what is left, one step, the entry.
-/
import Derived.Test.YtchnejfdompfpaaBase
import Derived.Maps.RangeRun
namespace Go.Proofs.Ytchnejfdompfpaa
open Go.RowKit Go.MapKept
open Go.ChangeMaps (setBlock)

section
variable {κ ν : Type}

/-- The iterator in block r goes over the map in block b, which reads as L; of it 'left' is still to come. -/
def RangeAt (K : KeyWay κ) (vv : ν → Value) (w : World) (b r : Nat) (L left : List (κ × ν)) : Prop :=
  ∃ es clk seen, w.heap[b]? = some (.map es clk) ∧ Stamped es clk ∧ (es.toList.map fun e => (e.key, e.val)).Perm (L.map fun p => (K.val p.1, vv p.2)) ∧
    w.heap[r]? = some (.mapIter (some b) clk seen clk) ∧ ((leftOf es seen).toList.map fun e => (e.key, e.val)).Perm (left.map fun p => (K.val p.1, vv p.2))

variable {K : KeyWay κ} {vv : ν → Value} {w w' : World} {b r : Nat} {L left : List (κ × ν)}

theorem RangeAt.lt (h : RangeAt K vv w b r L left) : b < w.heap.size ∧ r < w.heap.size := by
  obtain ⟨es, clk, seen, h1, _, _, h2, _⟩ := h
  exact ⟨lt_of_block h1, lt_of_block h2⟩
theorem RangeAt.of_blocks (h : RangeAt K vv w b r L left) (hb : w'.heap[b]? = w.heap[b]?) (hr : w'.heap[r]? = w.heap[r]?) : RangeAt K vv w' b r L left := by
  obtain ⟨es, clk, seen, h1, h2, h3, h4, h5⟩ := h
  exact ⟨es, clk, seen, hb.trans h1, h2, h3, hr.trans h4, h5⟩
theorem RangeAt.chg {S : Nat → Prop} (h : RangeAt K vv w b r L left) (hc : Chg S w w') (hb : ¬ S b) (hr : ¬ S r) : RangeAt K vv w' b r L left :=
  h.of_blocks (hc.block b h.lt.1 hb) (hc.block r h.lt.2 hr)
theorem RangeAt.ext (h : RangeAt K vv w b r L left) (hc : Ext w w') : RangeAt K vv w' b r L left := h.of_blocks (Ext.block hc h.lt.1) (Ext.block hc h.lt.2)
theorem RangeAt.mapAt (h : RangeAt K vv w b r L left) : MapAt K vv w b L := by
  obtain ⟨es, clk, seen, h1, h2, h3, _⟩ := h
  exact ⟨es, clk, h1, h2, h3⟩

theorem MapAt.range {P : Program} {t kt et : TypeId} (h : MapAt K vv w b L) (ht : P.underlying t = some (.map kt et)) :
    ∃ w', (Instr.range t (.map (some b))).run P w = .ok (.pointer (some ⟨w.heap.size, 0, none⟩)) w' ∧ RangeAt K vv w' b w.heap.size L L ∧ Ext w w' := by
  obtain ⟨es, clk, h1, h2, h3⟩ := h
  refine ⟨w.alloc (.mapIter (some b) clk #[] clk), ?_, ⟨es, clk, #[], (Below.heap_alloc w _ b (lt_of_block h1)).trans h1, h2, h3, ?_, ?_⟩, (Ext.refl w).alloc _⟩
  · simp [Instr.range, run_underlying ht, MapKept.run_getObj_map h1, Result.andThen]
  · show (w.heap.push _)[w.heap.size]? = _
    simp
  · have : leftOf es #[] = es := by unfold leftOf; simp
    rw [this]; exact h3

theorem RangeAt.next {P : Program} (h : RangeAt K vv w b r L left) (ty : TypeId) :
    (left = [] ∧ (Instr.next (.pointer (some ⟨r, 0, none⟩)) false ty).run P w = .ok (.tuple #[.bool false]) w) ∨
    ∃ p left' w', left.Perm (p :: left') ∧ (Instr.next (.pointer (some ⟨r, 0, none⟩)) false ty).run P w = .ok (.tuple #[.bool true, K.val p.1, vv p.2]) w' ∧
      RangeAt K vv w' b r L left' ∧ Chg (· = r) w w' ∧ (Instr.entry (.pointer (some ⟨r, 0, none⟩))).run P w' = .ok (.tuple #[K.val p.1, vv p.2]) w' := by
  classical
  obtain ⟨es, clk, seen, h1, h2, h3, h4, h5⟩ := h
  have hst := (stamped_iff es clk).1 h2
  have hne : b ≠ r := by rintro rfl; rw [h1] at h4; cases h4
  rcases run_next_at (P := P) w ty r b clk clk seen es clk h4 h1 hst.1 (Nat.le_refl _) with ⟨h0, hrun⟩ | ⟨e, he, w1, hw1, hrun⟩
  · refine .inl ⟨?_, hrun⟩
    have := h5.length_eq
    simp only [List.length_map, Array.length_toList, h0] at this
    exact List.eq_nil_of_length_eq_zero this.symm
  · right
    have hmem := h5.mem_iff.1 (List.mem_map.2 ⟨e, he, rfl⟩)
    obtain ⟨p, hp, hpe⟩ := List.mem_map.1 hmem
    have hk : K.val p.1 = e.key := congrArg Prod.fst hpe
    have hv : vv p.2 = e.val := congrArg Prod.snd hpe
    obtain ⟨l1, l2, hl⟩ := List.append_of_mem hp
    have hperm : left.Perm (p :: (l1 ++ l2)) := by rw [hl]; exact List.perm_middle
    have hem : e ∈ es.toList := by
      unfold leftOf at he
      simp at he ⊢; exact he.1
    have b1 : w1.heap[b]? = some (.map es clk) := by rcases hw1 with rfl | rfl <;> exact h1
    have r1 : w1.heap[r]? = some (.mapIter (some b) clk seen clk) := by rcases hw1 with rfl | rfl <;> exact h4
    have c1 : Chg (· = r) w w1 := by
      rcases hw1 with rfl | rfl
      · exact Chg.refl _ _
      · exact (Chg.refl _ _).drew
    have b2 : (setBlock w1 r (.mapIter (some b) clk (seen.push e.born) clk)).heap[b]? = some (.map es clk) := by
      have := (heap_set (o' := .mapIter (some b) clk (seen.push e.born) clk) r1).2 b hne
      exact this.trans b1
    have r2 : (setBlock w1 r (.mapIter (some b) clk (seen.push e.born) clk)).heap[r]? = some (.mapIter (some b) clk (seen.push e.born) clk) := (heap_set r1).1
    refine ⟨p, l1 ++ l2, _, hperm, by rw [hk, hv]; exact hrun, ⟨es, clk, seen.push e.born, b2, h2, h3, r2, ?_⟩, ?_, ?_⟩
    · -- what is left behind the step
      have hnb : (es.toList.map (·.born)).Nodup := hst.2.1
      have hA : (leftOf es seen).toList.Perm (e :: (leftOf es (seen.push e.born)).toList) := by
        have e1 : (leftOf es (seen.push e.born)).toList = (leftOf es seen).toList.filter fun x => decide (x.born ≠ e.born) := by
          unfold leftOf
          simp only [Array.toList_filter, List.filter_filter]
          refine List.filter_congr fun x _ => ?_
          by_cases hx : x.born = e.born
          · simp [hx]
          · simp [hx]
        rw [e1]
        have hnl : ((leftOf es seen).toList.map (·.born)).Nodup := by
          have hs : (leftOf es seen).toList.Sublist es.toList := by
            unfold leftOf; simp only [Array.toList_filter]; exact List.filter_sublist
          exact (hs.map _).nodup hnb
        generalize (leftOf es seen).toList = l at he hnl
        clear e1
        induction l with
        | nil => cases he
        | cons y l ih =>
          simp only [List.map_cons, List.nodup_cons] at hnl
          rcases List.mem_cons.1 he with rfl | he'
          · have e3 : (e :: l).filter (fun x => decide (x.born ≠ e.born)) = l := by
              rw [List.filter_cons, if_neg (by simp)]
              refine List.filter_eq_self.2 fun x hx => ?_
              have : x.born ≠ e.born := fun h => hnl.1 (List.mem_map.2 ⟨x, hx, h⟩)
              simpa using this
            rw [e3]
          · have hyb : y.born ≠ e.born := fun h => hnl.1 (List.mem_map.2 ⟨e, he', h.symm⟩)
            rw [List.filter_cons, if_pos (by simpa using hyb)]
            exact ((ih he' hnl.2).cons y).trans (List.Perm.swap _ _ _)
      have hB := (hA.map fun e => (e.key, e.val)).symm.trans (h5.trans (hperm.map _))
      simp only [List.map_cons] at hB
      rw [hk, hv] at hB
      exact (List.perm_cons _).1 hB
    · exact c1.trans (chg_setBlock w1 r) (fun _ _ h => h)
    · rw [hk, hv]
      exact run_entry_at _ r b clk seen es clk e r2 b2 hem hst.2.1
end
end Go.Proofs.Ytchnejfdompfpaa
