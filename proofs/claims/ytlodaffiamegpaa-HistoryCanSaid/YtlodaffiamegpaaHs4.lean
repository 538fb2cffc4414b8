/-
  Layer 18: quiet.
-/
import Derived.Test.YtlodaffiamegpaaHs3
namespace Go.Proofs.Ytlodaffiamegpaa
open Go.RowKit Go.Sort

/-- the names among the first j that have a value -/
def liveN (names : List ByteArray) (st : List Nat) (j : Nat) : List ByteArray := ((List.range j).filter fun n => decide (st.getD n 0 ≠ 0)).map fun n => names.getD n ByteArray.empty
theorem liveN_succ (names : List ByteArray) (st : List Nat) (j : Nat) : liveN names st (j + 1) = liveN names st j ++ (if st.getD j 0 = 0 then [] else [names.getD j ByteArray.empty]) := by
  unfold liveN
  rw [List.range_succ, List.filter_append, List.map_append]
  by_cases h : st.getD j 0 = 0
  · rw [if_pos h, List.filter_cons_of_neg (by simpa using h)]; simp
  · rw [if_neg h, List.filter_cons_of_pos (by simpa using h)]; simp
theorem liveN_pre (names : List ByteArray) (st : List Nat) (j : Nat) : ∀ k, ∃ t, liveN names st (j + k) = liveN names st j ++ t
  | 0 => ⟨[], by simp⟩
  | k + 1 => by
    obtain ⟨t, ht⟩ := liveN_pre names st j k
    rw [← Nat.add_assoc, liveN_succ, ht, List.append_assoc]
    exact ⟨_, rfl⟩
theorem liveN_len (names : List ByteArray) (st : List Nat) (j : Nat) : (liveN names st j).length ≤ j := by
  unfold liveN
  rw [List.length_map]
  have := List.length_filter_le (fun n => decide (st.getD n 0 ≠ 0)) (List.range j)
  simpa using this

def lastB (T : HTab) (nw got : Nat) : Option Int → Bool
  | some (.ofNat n) => (T.vals.getD n []).getD (nw - 1) 0 == got
  | _ => false
def quietB (T : HTab) (st : List Nat) (i : Nat) (x : HOp) : Bool :=
  if x.ans = false ∨ x.kind = 1 then false
  else if x.kind = 4 then decide (liveN T.names st T.names.length = x.names)
  else if x.err = 5 then nowV T st i == 0
  else if x.readsB = true ∧ 0 < nowV T st i then lastB T (nowV T st i) x.got T.name[i]? else false

theorem quiet_list {S : Nat → Prop} (w : World) (g : Nat) (l : List HRow) (T : HTab) (X : HLoc) (st : List Nat) (hT : TabAt S w g l T X) (hst : At w X.st 3 (stCells st)) (hsl : st.length = T.names.length)
    (i : Nat) (hi : i < l.length) (hl : l.length ≤ 20) (hnn : T.names.length ≤ 20) (hxn : (rowAt l i).1.names.length ≤ 9223372036854775807) (hk : (rowAt l i).1.kind = 4) (ha : (rowAt l i).1.ans = true) :
    Calls Try.prog 32 #[.pointer (some ⟨g, 0, none⟩), .int .i64 (i : Int)] w fun e w' => e = .returned (.bool (decide (liveN T.names st T.names.length = (rowAt l i).1.names))) ∧ Ext w w' := by
  obtain ⟨LA, lc, hov⟩ := sln_slice hT.ops
  have hO := hT.ops
  rw [hov] at hO
  obtain ⟨b, o, rfl⟩ := sln_some hO (fun e => by have := List.map_eq_nil_iff.1 e; subst this; simp at hi)
  obtain ⟨r0, r1, r2, r3, r4, r5, r6, r7⟩ := row_cells hO hi
  obtain ⟨NA, nc, hnv⟩ := (show ∃ A c, X.nv = .slice A T.names.length c from by obtain ⟨A, c, h, _⟩ := hT.names; exact ⟨A, c, by rw [h, List.length_map]⟩)
  have c0 := hT.blk.cell 0
  have c1 := hT.blk.cell 1
  have c7 := hT.blk.cell 7
  simp at c0 c1 c7
  rw [hov, List.length_map] at c0
  rw [hnv] at c1
  have hN := hT.names
  rw [hnv] at hN
  have hR := (hT.rows (rowAt l i) (List.mem_of_getElem? (rowAt_get hi))).1
  have hg0 := hT.blk.lt
  generalize rowAt l i = x at *
  have hX := At.new w 37 #[.int .i64 x.1.kind, .string x.1.name, .int .u64 x.1.value, .int .i64 x.1.start, .int .i64 x.1.fin, .int .i64 x.1.err, .int .u64 x.1.got, .slice x.2.1 x.1.names.length x.2.2]
  have hE := (Ext.refl w).alloc (.cells #[.int .i64 x.1.kind, .string x.1.name, .int .u64 x.1.value, .int .i64 x.1.start, .int .i64 x.1.fin, .int .i64 x.1.err, .int .u64 x.1.got, .slice x.2.1 x.1.names.length x.2.2] 37)
  have hk4 : (x.1.kind == 4) = true := by simp [hk]
  have hk1 : (x.1.kind == 1) = false := by simp [hk]
  have HK := Lib.hid hk
  clear hk hT hO hov hnv
  go_enter Try.func32, Try.ntmps32
  go_wp2_with fail
  refine (answered_any _ x).mono ?_
  rintro e w1 ⟨rfl, hE1⟩
  rw [ha]
  have hX1 := hX.ext hE1
  replace hE := hE.trans hE1
  have hR1 := hR.ext hE
  have hN1 := hN.ext hE
  have hst1 := hst.ext hE
  have g0 := (Ext.cell (p := ⟨g, 0, none⟩) hE (cell_lt c0)).trans c0
  have g1 := (Ext.cell (p := ⟨g, 1, none⟩) hE (cell_lt c1)).trans c1
  have g7 := (Ext.cell (p := ⟨g, 7, none⟩) hE (cell_lt c7)).trans c7
  have d0 := hX1.cell 0
  have d7 := hX1.cell 7
  simp at d0 d7
  generalize w.heap.size = xb at *
  clear hX hX1 hE1 hR hN hst r0 r1 r2 r3 r4 r5 r6 r7 c0 c1 c7 hg0 g0
  go_wp2_with fail
  have hsl20 : st.length ≤ 20 := by omega
  have HSL := Lib.hid hsl
  clear hsl
  have hq : ∀ j, j ≤ T.names.length → ∃ t, liveN T.names st T.names.length = liveN T.names st j ++ t := fun j hj => by
    have := liveN_pre T.names st j (T.names.length - j)
    rwa [show j + (T.names.length - j) = T.names.length by omega] at this
  have HQ := Lib.hid hq
  clear hq
  go_loopw [6, 33] (fun kv iv wx => ∃ (j k : Nat), j ≤ T.names.length ∧ iv = .int .i64 (j : Int) ∧ kv = .int .i64 (k : Int) ∧ k ≤ x.1.names.length ∧ k ≤ j ∧ Hid (liveN T.names st j = x.1.names.take k) ∧ wx = w1) (fun _ iv _ => T.names.length - (intOf iv).toNat)
  case atStart => exact ⟨0, 0, Nat.zero_le _, rfl, rfl, Nat.zero_le _, Nat.le_refl _, Lib.hid (by simp [liveN]), rfl⟩
  case round =>
    obtain ⟨j, k, hj, rfl, rfl, hkl, hkj, HL, rfl⟩ := hrel
    have HS := Lib.hid (liveN_succ T.names st j)
    by_cases hlt : j < T.names.length
    · obtain ⟨nb, no, nc', hnv, hn0⟩ := sl_elem hN1 (x := .string (T.names.getD j ByteArray.empty)) (i := j) (by rw [List.getElem?_map, List.getElem?_eq_getElem hlt, List.getD_eq_getElem?_getD, List.getElem?_eq_getElem hlt]; rfl)
      simp only [Value.slice.injEq] at hnv
      obtain ⟨rfl, -, rfl⟩ := hnv
      have hs0 := (hst1.cell j).trans (stCells_at (n := st.getD j 0) (by rw [List.getD_eq_getElem?_getD, List.getElem?_eq_getElem (by have := HSL.out; omega)]; rfl))
      generalize T.names.getD j ByteArray.empty = nm at hn0 HS
      generalize st.getD j 0 = sj at hs0 HS
      clear hst1 hN1
      rcases Nat.eq_zero_or_pos sj with hz | hz
      · have t1 : ((sj : Int) == 0) = true := by simp [hz]
        have HZ := Lib.hid hz
        clear hz
        go_wp2_with fail
        go_roundw
        case rel => exact ⟨j + 1, k, by omega, by go_num, rfl, hkl, by omega, Lib.hid (by rw [HS.out, HZ.out, if_pos rfl, List.append_nil]; exact HL.out), trivial⟩
        case measure => simp [intOf]; omega
      · have t1 : ((sj : Int) == 0) = false := by simp; omega
        have hnz : ¬ sj = 0 := by omega
        have HZ := Lib.hid hnz
        clear hz hnz
        by_cases hkn : k = x.1.names.length
        · have t2 : ((k : Int) == (x.1.names.length : Int)) = true := by simp [hkn]
          have HKN := Lib.hid hkn
          clear hkn
          go_wp2_with fail
          go_ret
          refine ⟨ret_bool (decide_eq_false ?_).symm, hE⟩
          intro he
          obtain ⟨t, ht⟩ := HQ.out (j + 1) hlt
          rw [HS.out, if_neg HZ.out, HL.out, HKN.out, List.take_length] at ht
          rw [ht] at he
          have := congrArg List.length he
          simp at this
        · have hkl2 : k < x.1.names.length := by omega
          have t2 : ((k : Int) == (x.1.names.length : Int)) = false := by simp; omega
          obtain ⟨yb, yo, yc', hyv, hy0⟩ := sl_elem hR1 (x := .string x.1.names[k]) (i := k) (by rw [List.getElem?_map, List.getElem?_eq_getElem hkl2]; rfl)
          simp only [Value.slice.injEq] at hyv
          obtain ⟨hy1, -, hy2⟩ := hyv
          rw [hy1, hy2] at d7
          have HT := Lib.hid (List.take_succ_eq_append_getElem hkl2)
          have hge : x.1.names = x.1.names.take k ++ x.1.names[k] :: x.1.names.drop (k + 1) := by rw [List.getElem_cons_drop, List.take_append_drop]
          have HG := Lib.hid hge
          clear hge
          generalize x.1.names[k] = yk at hy0 HT HG
          cases hyb : (!yk.toList == nm.toList)
          · have hyn : yk.toList = nm.toList := by simpa using hyb
            have HY := Lib.hid hyn
            clear hyn
            go_wp2_with fail
            refine ⟨⟨j + 1, k + 1, by omega, by go_num, by go_num, by omega, by omega, Lib.hid ?_, trivial⟩, by simp [intOf]; omega⟩
            rw [HS.out, if_neg HZ.out, HL.out, HT.out, toList_inj.1 HY.out]
          · have hyn : ¬ yk.toList = nm.toList := by simpa using hyb
            have HY := Lib.hid hyn
            clear hyn
            go_wp2_with fail
            go_ret
            refine ⟨ret_bool (decide_eq_false ?_).symm, hE⟩
            intro he
            obtain ⟨t, ht⟩ := HQ.out (j + 1) hlt
            rw [HS.out, if_neg HZ.out, HL.out] at ht
            rw [ht] at he
            have hg := HG.out
            rw [hg] at he
            have hkt : (x.1.names.take k).length = k := by rw [List.length_take]; omega
            have h3 := congrArg (fun z : List ByteArray => z[k]?) he
            simp [hkt] at h3
            exact HY.out (by rw [h3])
    · obtain rfl : j = T.names.length := by omega
      clear hst1 hN1
      have hc : (decide (liveN T.names st T.names.length = x.1.names)) = ((k : Int) == (x.1.names.length : Int)) := by
        rw [HL.out, Bool.eq_iff_iff]
        simp only [decide_eq_true_eq, beq_iff_eq]
        constructor
        · intro h; have := congrArg List.length h; simp at this; omega
        · intro h; rw [show k = x.1.names.length by omega, List.take_length]
      have HC := Lib.hid hc
      clear hc
      go_wp2_with fail
      go_ret
      exact ⟨ret_bool HC.out.symm, hE⟩
end Go.Proofs.Ytlodaffiamegpaa
