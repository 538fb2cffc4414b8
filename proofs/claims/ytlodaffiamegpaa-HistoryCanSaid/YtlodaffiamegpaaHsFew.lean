/-
  Layer 18: few: calls that may be checked.
-/
import Derived.Test.YtlodaffiamegpaaHsRef5
import Derived.Test.YtlodaffiamegpaaCut
namespace Go.Proofs.Ytlodaffiamegpaa
open Go.RowKit Go.Sort

def fewStart (o : HOp) : Int := min (max o.start 0) 1000
def fewKind (o : HOp) : Int := 1 + ((o.kind.tmod 5 + 5).tmod 5)
/-- a call that may be checked -/
def fewOp (o : HOp) : HOp := ⟨fewKind o, cut o.name 2, o.value, fewStart o, if 0 ≤ o.fin then max (min o.fin 2000) (fewStart o) else o.fin, o.err, o.got, o.names.take 4⟩
theorem fewKind_le (o : HOp) : 1 ≤ fewKind o ∧ fewKind o ≤ 5 := by
  unfold fewKind
  have h1 := Int.tmod_lt_of_pos (o.kind.tmod 5 + 5) (show (0 : Int) < 5 by omega)
  have h2 : 0 ≤ (o.kind.tmod 5 + 5).tmod 5 := Int.tmod_nonneg 5 (by
    have := Int.lt_tmod_of_pos o.kind (show (0 : Int) < 5 by omega)
    omega)
  omega
theorem few_fine (o : HOp) : badB (fewOp o) = false := by
  have h1 := fewKind_le o
  have h2 := cut_size o.name 2
  unfold badB fewOp HOp.ans
  simp only [Bool.or_eq_false_iff, decide_eq_false_iff_not, Bool.and_eq_false_iff]
  refine ⟨⟨⟨by omega, by omega⟩, by omega⟩, ?_⟩
  split
  · right; omega
  · left; assumption
structure FewIn (w : World) (l : List HRow) (ov : Value) : Prop where
  ops : Sln w ov 8 (l.map hrow)
  rows : ∀ x ∈ l, Sl w (.slice x.2.1 x.1.names.length x.2.2) (x.1.names.map Value.string)
  xn : ∀ x ∈ l, x.1.names.length ≤ 9223372036854775807
  xs : ∀ x ∈ l, x.1.name.size ≤ maxLen
  caps : ∀ x ∈ l, x.1.names.length ≤ x.2.2
  len : l.length ≤ 9223372036854775807
theorem few_kind (k : Int) : wrap64 (1 + (wrap64 (k.tmod 5 + 5)).tmod 5) = 1 + ((k.tmod 5 + 5).tmod 5) := by
  have h1 := Int.tmod_lt_of_pos k (show (0 : Int) < 5 by omega)
  have h2 := Int.lt_tmod_of_pos k (show (0 : Int) < 5 by omega)
  have e : wrap64 (k.tmod 5 + 5) = k.tmod 5 + 5 := by unfold wrap64; omega
  rw [e]
  have h3 := Int.tmod_lt_of_pos (k.tmod 5 + 5) (show (0 : Int) < 5 by omega)
  have h4 : 0 ≤ (k.tmod 5 + 5).tmod 5 := Int.tmod_nonneg 5 (by omega)
  generalize (k.tmod 5 + 5).tmod 5 = j at *
  unfold wrap64; omega
theorem strs_one (ns : List ByteArray) : ∀ r ∈ (ns.map Value.string).map (fun x => [x]), r.all Value.oneCell' = true := by
  intro r hr
  obtain ⟨v, hv, rfl⟩ := List.mem_map.1 hr
  obtain ⟨n, _, rfl⟩ := List.mem_map.1 hv
  rfl
theorem ones_len (xs : List Value) : ∀ r ∈ xs.map (fun x => [x]), r.length = 1 := by
  intro r hr
  obtain ⟨v, _, rfl⟩ := List.mem_map.1 hr
  rfl

set_option maxRecDepth 100000 in
set_option maxHeartbeats 2000000 in
theorem few_any (w : World) (l : List HRow) (ov : Value) (n : Nat) (hI : FewIn w l ov) (hn : n ≤ 100) :
    Calls Try.prog 10 #[ov, .int .i64 (n : Int)] w fun e w' => ∃ v' rows, e = .returned v' ∧ w'.ownsRow w.heap.size 37 8 v' rows.length ((rows.map hrow).flatten) ∧ opsOf rows = ((opsOf l).take n).map fewOp ∧
      (∀ x ∈ rows, w'.ownsRow w.heap.size 9 1 (.slice x.2.1 x.1.names.length x.2.2) x.1.names.length (x.1.names.map Value.string)) ∧ Ext w w' := by
  obtain ⟨LA, lc, hov⟩ := sln_slice hI.ops
  rw [List.length_map] at hov
  subst hov
  have hl63 := hI.len
  go_enter Try.func10, Try.ntmps10
  go_wp2_with fail
  go_loopw [5, 6] (fun av iv wx => ∃ (k : Nat) (rows : List HRow), k ≤ l.length ∧ k ≤ n ∧ iv = .int .i64 (k : Int) ∧ rows.length = k ∧ wx.ownsRow w.heap.size 37 8 av k ((rows.map hrow).flatten) ∧ Hid (opsOf rows = ((opsOf l).take k).map fewOp) ∧
      Hid (∀ x ∈ rows, wx.ownsRow w.heap.size 9 1 (.slice x.2.1 x.1.names.length x.2.2) x.1.names.length (x.1.names.map Value.string)) ∧ Ext w wx) (fun _ iv _ => n - (intOf iv).toNat)
  case atStart => exact ⟨0, [], Nat.zero_le _, Nat.zero_le _, rfl, rfl, w.ownsRow_made #[] 0 (Nat.le_refl _) (by unfold maxLen; omega) rfl, Lib.hid rfl, Lib.hid (fun x h => by cases h), (Ext.refl w).alloc _⟩
  case round =>
    obtain ⟨k, rows, hk, hkn, rfl, hrl, hO, HOPS, HSL, hE⟩ := hrel
    by_cases hlt : k < l.length
    · by_cases hltn : k < n
      · have hS2 := hI.ops.ext hE
        obtain ⟨b, o, rfl⟩ := sln_some hS2 (fun e => by have := List.map_eq_nil_iff.1 e; subst this; simp at hlt)
        obtain ⟨r0, r1, r2, r3, r4, r5, r6, r7⟩ := row_cells hS2 hlt
        have hxm : rowAt l k ∈ l := List.mem_of_getElem? (rowAt_get hlt)
        have hxs := hI.xs _ hxm
        have hsl := (hI.rows _ hxm).ext hE
        have hxn := hI.xn _ hxm
        have hcap := hI.caps _ hxm
        have hop : (opsOf l).take (k + 1) = (opsOf l).take k ++ [(rowAt l k).1] := by rw [opsOf_take hlt, rowAt_op hlt]
        have HOP := Lib.hid hop
        clear hop
        generalize rowAt l k = x at *
        have hYb := At.new wr 37 (opCells x)
        have hO2 := hO.alloc (.cells (opCells x) 37)
        have hEr := (Ext.refl wr).alloc (.cells (opCells x) 37)
        have hE0 := hE
        have hbase := hE.size
        go_upto_region 6 with fail
        clear r0 r1 r2 r3 r4 r5 r6 r7
        generalize hyb : wr.heap.size = yb at *
        generalize wr.alloc _ = W1 at *
        have hOY : ∀ k', some k' = u5.ownBlock → ¬ k' = yb := fun k' hk' e => by
          have := own_lt hO k' hk'.symm; omega
        have HOY := Lib.hid hOY
        clear hOY hO hE hS2
        have q0 := hYb.cell 0
        have f0 := hYb.frozen 0
        have hy := hYb.lt
        simp at q0
        go_upto_region 7 with fail
        rw [few_kind]
        have hY2 : At (W1.setCell ⟨yb, 0, none⟩ (.int .i64 (1 + ((x.1.kind.tmod 5 + 5).tmod 5)))) yb 37 #[.int .i64 (1 + ((x.1.kind.tmod 5 + 5).tmod 5)), .string x.1.name, .int .u64 x.1.value, .int .i64 x.1.start, .int .i64 x.1.fin, .int .i64 x.1.err, .int .u64 x.1.got, .slice x.2.1 x.1.names.length x.2.2] := hYb.set 0 _
        have hC2 := (Chg.refl (· = yb) W1).setCell (p := ⟨yb, 0, none⟩) (.inl rfl) (.int .i64 (1 + ((x.1.kind.tmod 5 + 5).tmod 5)))
        have hkd : 1 + ((x.1.kind.tmod 5 + 5).tmod 5) = fewKind x.1 := rfl
        rw [hkd] at hY2 hC2 ⊢
        clear hkd q0 f0 hy hYb
        generalize World.setCell _ _ _ = W2 at hY2 hC2 ⊢
        have q1 := hY2.cell 1
        have f1 := hY2.frozen 1
        have hy := hY2.lt
        simp at q1
        go_wp2_with fail
        refine (cut_any x.1.name 2 W2 hxs (by omega)).mono ?_
        rintro e w3 ⟨rfl, hw3⟩
        subst hw3
        go_upto_region 8 with fail
        have hY3 : At (w3.setCell ⟨yb, 1, none⟩ (.string (cut x.1.name 2))) yb 37 #[.int .i64 (fewKind x.1), .string (cut x.1.name 2), .int .u64 x.1.value, .int .i64 x.1.start, .int .i64 x.1.fin, .int .i64 x.1.err, .int .u64 x.1.got, .slice x.2.1 x.1.names.length x.2.2] := hY2.set 1 _
        have hC3 := hC2.setCell (p := ⟨yb, 1, none⟩) (.inl rfl) (.string (cut x.1.name 2))
        clear q1 f1 hy hY2 hC2
        generalize World.setCell _ _ _ = W3 at hY3 hC3 ⊢
        have q3 := hY3.cell 3
        have f3 := hY3.frozen 3
        have hy := hY3.lt
        simp at q3
        go_upto_region 9 with fail
        have hY4 : At (W3.setCell ⟨yb, 3, none⟩ (.int .i64 (min (max x.1.start 0) 1000))) yb 37 #[.int .i64 (fewKind x.1), .string (cut x.1.name 2), .int .u64 x.1.value, .int .i64 (min (max x.1.start 0) 1000), .int .i64 x.1.fin, .int .i64 x.1.err, .int .u64 x.1.got, .slice x.2.1 x.1.names.length x.2.2] := hY3.set 3 _
        have hC4 := hC3.setCell (p := ⟨yb, 3, none⟩) (.inl rfl) (.int .i64 (min (max x.1.start 0) 1000))
        have hsd : min (max x.1.start 0) 1000 = fewStart x.1 := rfl
        rw [hsd] at hY4 hC4 ⊢
        clear hsd q3 f3 hy hY3 hC3
        generalize World.setCell _ _ _ = W4 at hY4 hC4 ⊢
        have q3 := hY4.cell 3
        have q4 := hY4.cell 4
        have f4 := hY4.frozen 4
        have hy := hY4.lt
        simp at q3 q4
        go_upto_if 42 with fail
        go_cut [] from 42 to 49 (fun wx => Chg (· = yb) W1 wx ∧ At wx yb 37 #[.int .i64 (fewKind x.1), .string (cut x.1.name 2), .int .u64 x.1.value, .int .i64 (fewStart x.1), .int .i64 (fewOp x.1).fin, .int .i64 x.1.err, .int .u64 x.1.got, .slice x.2.1 x.1.names.length x.2.2])
        case first =>
          have hfd : (fewOp x.1).fin = if 0 ≤ x.1.fin then max (min x.1.fin 2000) (fewStart x.1) else x.1.fin := rfl
          generalize (fewOp x.1).fin = ff at *
          by_cases hf : 0 ≤ x.1.fin
          · rw [if_pos hf] at hfd
            have HF := Lib.hid hfd
            clear hfd
            go_wp2_with fail
            go_meet
            case rel => exact ⟨hC4.setCell (.inl rfl) _, by rw [HF.out]; exact hY4.set 4 _⟩
          · rw [if_neg hf] at hfd
            have HF := Lib.hid hfd
            clear hfd
            go_wp2_with fail
            go_meet
            case rel => exact ⟨hC4, by rw [HF.out]; exact hY4⟩
        case rest =>
          clear q3 q4 f4 hy hY4 hC4
          obtain ⟨hC5, hY5⟩ := hcut
          have hE5 : Ext wr wc := Chg.mono (hEr.chg_trans hC5) fun j hj h => by
            have h' : j = yb := h
            omega
          have hO5 := own_far hO2 hC5 (fun k' hk' h => HOY.out k' hk' h)
          have hEw := hE0.trans hE5
          have hnsl := (hsl.ext hE5).ext ((Ext.refl wc).alloc (.cells #[] 9))
          have q7 := (hY5.alloc (.cells #[] 9)).cell 7
          have f7 := hY5.frozen 7
          have hy := hY5.lt
          have hY5lt := hY5.lt
          simp at q7
          obtain ⟨mm, hmm⟩ : ∃ m : Nat, m = min x.1.names.length 4 := ⟨_, rfl⟩
          have hmi : min (x.1.names.length : Int) 4 = (mm : Int) := by omega
          have hcap2 : mm ≤ x.2.2 := by omega
          have hpre := hnsl.sln.pre (k := mm) (c' := x.2.2) (by omega)
          rw [← List.map_take, ← List.map_take] at hpre
          have htk : x.1.names.take mm = (fewOp x.1).names := by
            show _ = x.1.names.take 4
            rw [hmm]
            by_cases h4 : x.1.names.length ≤ 4
            · rw [Nat.min_eq_left h4, List.take_length, List.take_of_length_le h4]
            · rw [Nat.min_eq_right (by omega)]
          have hfn : (fewOp x.1).names.length = mm := by rw [← htk, List.length_take]; omega
          have hm4 : mm ≤ 4 := by omega
          rw [htk] at hpre
          have HFN := Lib.hid hfn
          clear htk hmm hfn
          have hnO := wc.ownsRow_made (e := 9) (size := 1) (base := wc.heap.size) #[] 0 (Nat.le_refl _) (by unfold maxLen; omega) rfl
          go_wp2_with (at_builtin; refine wpList_append_sln hnO hpre (ones_len _) (strs_one _) 35 Try.underlying35 str_info rfl (by decide) (by decide) (by simp; have := HFN.out; omega) (by simp) rfl _ _ rfl rfl rfl ?_)
          intro v1 w4 hN4 hC4
          have hN5 : w4.ownsRow wc.heap.size 9 1 v1 (fewOp x.1).names.length ((fewOp x.1).names.map Value.string) := by
            have e : (List.map ((fun x => [x]) ∘ Value.string) (fewOp x.1).names).flatten = (fewOp x.1).names.map Value.string := by
              rw [← List.map_map]; exact flat_ones _
            rw [← e]; exact hN4
          obtain ⟨vA, vc, rfl⟩ := own_slice' hN5
          have hE6 : Ext wc w4 := Chg.mono (((Ext.refl wc).alloc (.cells #[] 9)).chg_trans hC4) fun j hj h => by
            have h' : some j = some wc.heap.size := h
            injection h' with h'; omega
          have hY6 := hY5.ext hE6
          have hO6 := own_ext hO5 hE6
          have f7 := hY6.frozen 7
          have hy := hY6.lt
          have hEwr := hE5.trans hE6
          clear hN4 hC4 hnO hpre hY5 hO5 q7 hnsl hE5
          have q7 := hY6.cell 7
          simp at q7
          go_upto_region 12 with fail
          clear q7
          have hCs := (Chg.refl (· = yb) w4).setCell (p := ⟨yb, 7, none⟩) (.inl rfl) (.slice vA (fewOp x.1).names.length vc)
          have hY7 : At (w4.setCell ⟨yb, 7, none⟩ (.slice vA (fewOp x.1).names.length vc)) yb 37 #[.int .i64 (fewKind x.1), .string (cut x.1.name 2), .int .u64 x.1.value, .int .i64 (fewStart x.1), .int .i64 (fewOp x.1).fin, .int .i64 x.1.err, .int .u64 x.1.got, .slice vA (fewOp x.1).names.length vc] := hY6.set 7 _
          have hsz6 := hE6.size
          have hszr := hEwr.size
          have hbz : w.heap.size ≤ wc.heap.size := by have := hEw.size; exact this
          have hN7 := own_far hN5 hCs (fun k' hk' h => by
            have := own_ge hN5 k' hk'
            have h' : k' = yb := h
            have := hY5lt
            omega)
          have hO7 := own_far hO6 hCs (fun k' hk' h => HOY.out k' hk' h)
          have hE7 : Ext wr (w4.setCell ⟨yb, 7, none⟩ (.slice vA (fewOp x.1).names.length vc)) := Chg.mono (hEwr.chg_trans hCs) fun j hj h => by
            have h' : j = yb := h
            omega
          clear hN5 hO6 hEwr hE6 hY6 f7 hy hCs
          generalize World.setCell _ _ _ = W8 at hY7 hN7 hO7 hE7 ⊢
          have q0 := hY7.cell 0
          have q1 := hY7.cell 1
          have q2 := hY7.cell 2
          have q3 := hY7.cell 3
          have q4 := hY7.cell 4
          have q5 := hY7.cell 5
          have q6 := hY7.cell 6
          have q7 := hY7.cell 7
          simp at q0 q1 q2 q3 q4 q5 q6 q7
          have hrow8 : ∀ x' : HRow, x' = (fewOp x.1, vA, vc) → (opCells x' = #[.int .i64 (fewKind x.1), .string (cut x.1.name 2), .int .u64 x.1.value, .int .i64 (fewStart x.1), .int .i64 (fewOp x.1).fin, .int .i64 x.1.err, .int .u64 x.1.got, .slice vA (fewOp x.1).names.length vc] ∧ x'.1 = fewOp x.1) := by rintro _ rfl; exact ⟨rfl, rfl⟩
          have HRW := Lib.hid hrow8
          clear hrow8
          obtain ⟨oA, oc, rfl⟩ := own_slice' hO7
          have hsz8 := hE7.size
          go_wp2_with (at_builtin; refine wpList_append_row _ hO7 22 Try.underlying22 op_info rfl rfl (by decide) (by decide) rfl (by omega) (by omega) rfl _ _ rfl rfl rfl ?_)
          intro v2 w9 hO9 hC9
          have hE9 := Chg.own_ext (hE0.trans hE7) hC9 hO7 (Nat.le_refl _)
          have hbw : w.heap.size ≤ w9.heap.size := hE9.size
          have hN9 := own_base (own_far hN7 hC9 (fun k' hk' h => own_own hO7 hN7 (by decide) k' h hk')) hbz
          have HSL9 : Hid (∀ y ∈ rows ++ [(fewOp x.1, vA, vc)], w9.ownsRow w.heap.size 9 1 (.slice y.2.1 y.1.names.length y.2.2) y.1.names.length (y.1.names.map Value.string)) := Lib.hid (fun y hy => by
            rcases List.mem_append.1 hy with hy | hy
            · have h0 := own_ext (HSL.out y hy) hE7
              exact own_far h0 hC9 (fun k' hk' h => own_own hO7 h0 (by decide) k' h hk')
            · rw [List.mem_singleton] at hy; subst hy; exact hN9)
          have HOPS9 : Hid (opsOf (rows ++ [(fewOp x.1, vA, vc)]) = ((opsOf l).take (k + 1)).map fewOp) := Lib.hid (by
            rw [HOP.out, List.map_append, ← HOPS.out]
            unfold opsOf
            rw [List.map_append]; rfl)
          have HO9 : Hid (w9.ownsRow w.heap.size 37 8 v2 (k + 1) (((rows ++ [(fewOp x.1, vA, vc)]).map hrow).flatten)) := Lib.hid (by
            have e : ((rows ++ [(fewOp x.1, vA, vc)]).map hrow).flatten = (rows.map hrow).flatten ++ [.int .i64 (fewKind x.1), .string (cut x.1.name 2), .int .u64 x.1.value, .int .i64 (fewStart x.1), .int .i64 (fewOp x.1).fin, .int .i64 x.1.err, .int .u64 x.1.got, .slice vA (fewOp x.1).names.length vc] := by
              rw [List.map_append, List.flatten_append]; rfl
            rw [e]; exact hO9)
          clear hO9 hN9 hN7 hO7 hC9 hY7 hE7 HSL HOPS hEw q0 q1 q2 q3 q4 q5 q6 q7
          go_wp2_with fail
          exact ⟨⟨k + 1, rows ++ [(fewOp x.1, vA, vc)], by omega, by omega, by go_num, by simp; omega, HO9.out, HOPS9, HSL9, hE9⟩, by simp [intOf]; omega⟩
      · obtain rfl : k = n := by omega
        go_wp2_with fail
        go_ret
        exact ⟨_, rows, rfl, by rw [hrl]; exact hO, HOPS.out, HSL.out, hE⟩
    · obtain rfl : k = l.length := by omega
      go_wp2_with fail
      go_ret
      refine ⟨_, rows, rfl, by rw [hrl]; exact hO, ?_, HSL.out, hE⟩
      rw [HOPS.out, List.take_of_length_le (by rw [opsOf_len]; exact Nat.le_refl _), List.take_of_length_le (by rw [opsOf_len]; exact hkn)]
end Go.Proofs.Ytlodaffiamegpaa
