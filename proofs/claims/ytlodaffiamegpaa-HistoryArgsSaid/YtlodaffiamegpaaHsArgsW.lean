/-
  Layer 18: HistoryArgs, walked.
-/
import Derived.Test.YtlodaffiamegpaaHsTurnedW
namespace Go.Proofs.Ytlodaffiamegpaa
open Go.RowKit Go.Sort

def cutOp (o : HOp) : HOp := ⟨o.kind, cut o.name 40, o.value, o.start, o.fin, o.err, o.got, o.names⟩
def cutRow (x : HRow) : HRow := (cutOp x.1, x.2)
/-- the first k names are cut -/
def cutK (l : List HRow) (k : Nat) : List HRow := (l.take k).map cutRow ++ l.drop k
theorem cutK_len (l : List HRow) (k : Nat) : (cutK l k).length = l.length := by unfold cutK; simp; omega
theorem cutK_all (l : List HRow) : cutK l l.length = l.map cutRow := by unfold cutK; simp
theorem cutK_at {l : List HRow} {k : Nat} (h : k < l.length) : (cutK l k)[k]? = some (rowAt l k) := by
  unfold cutK
  rw [List.getElem?_append_right (by simp; omega)]
  have e : ((l.take k).map cutRow).length = k := by simp; omega
  rw [e, Nat.sub_self, List.getElem?_drop, Nat.add_zero, rowAt_get h]
theorem cutK_set {l : List HRow} {k : Nat} (h : k < l.length) : (cutK l k).set k (cutRow (rowAt l k)) = cutK l (k + 1) := by
  unfold cutK
  have e : ((l.take k).map cutRow).length = k := by simp; omega
  rw [List.set_append_right _ _ (by omega), e, Nat.sub_self]
  have h2 := rowAt_get h
  rw [List.getElem?_eq_getElem h] at h2
  have h3 : l.drop k = rowAt l k :: l.drop (k + 1) := by rw [← Option.some.inj h2, List.getElem_cons_drop]
  have h4 : l.take (k + 1) = l.take k ++ [rowAt l k] := by rw [List.take_add_one, rowAt_get h]; rfl
  rw [h3, h4]
  simp
theorem cutK_next {l : List HRow} {k : Nat} (h : k < l.length) : rowAt (cutK l (k + 1)) k = cutRow (rowAt l k) := by
  unfold rowAt
  rw [← cutK_set h, List.getD_eq_getElem?_getD, List.getElem?_set_self (by rw [cutK_len]; exact h)]; rfl
theorem flat_cut {l : List HRow} {k : Nat} (h : k < l.length) (s : ByteArray) (hs : s = cut (rowAt l k).1.name 40) : ((cutK l k).map hrow).flatten.set (k * 8 + 1) (.string s) = ((cutK l (k + 1)).map hrow).flatten := by
  subst hs
  rw [flat_set (rows_8 _) _ (by rw [List.getElem?_map, cutK_at h]; rfl) (by omega), ← cutK_set h, List.map_set]
  rfl
/-- what is wanted -/
def wantN (l : List HRow) (k : Nat) : Int := if (l.take k).any (fun x => badB (cutRow x).1) then 1 else 0
theorem wantN_next {l : List HRow} {k : Nat} (h : k < l.length) : wantN l (k + 1) = if badB (cutRow (rowAt l k)).1 then 1 else wantN l k := by
  unfold wantN
  rw [any_take_succ (fun x => badB (cutRow x).1) h]
  cases (l.take k).any fun x => badB (cutRow x).1 <;> cases badB (cutRow (rowAt l k)).1 <;> rfl

set_option maxRecDepth 100000 in
set_option maxHeartbeats 2000000 in
theorem argsw_any (w : World) (l0 : List HRow) (ov : Value) (hI : OpsIn w l0 ov) :
    Calls Try.prog 4 #[ov] w fun e w' => e = .returned (.bool true) ∧ Ext w w' := by
  obtain ⟨LA, lc, rfl, hlc, _⟩ := hI.cap
  have hl63 := hI.len
  unfold maxLen at hl63
  obtain ⟨mm, hmm⟩ : ∃ m : Nat, m = min l0.length 25 := ⟨_, rfl⟩
  have hmi : min (l0.length : Int) 25 = (mm : Int) := by omega
  have hml : mm ≤ l0.length := by omega
  have hmc : mm ≤ lc := by omega
  have hm25 : mm ≤ 25 := by omega
  have hS0 := hI.ops.pre (k := mm) (c' := lc) hml
  rw [← List.map_take] at hS0
  have hll : (l0.take mm).length = mm := by rw [List.length_take]; omega
  have hrow : ∀ x ∈ l0.take mm, x.In w := fun x hx => hI.row x (List.mem_of_mem_take hx)
  clear hmm hI
  generalize l0.take mm = l at *
  have HROW := Lib.hid hrow
  clear hrow
  go_enter Try.func4, Try.ntmps4
  have hnO := w.ownsRow_made (e := 37) (size := 8) (base := w.heap.size) #[] 0 (Nat.le_refl _) (by unfold maxLen; omega) rfl
  have hE0 := (Ext.refl w).alloc (.cells #[] 37)
  go_wp2_with (at_builtin; refine wpList_append_sln hnO (hS0.ext hE0) (rows_8 _) (rows_one _) 22 Try.underlying22 op_info rfl (by decide) (by decide) (by simp; omega) (by simp) rfl _ _ rfl rfl rfl ?_)
  intro v1 w1 hO1 hC1
  have hE1 : Ext w w1 := Chg.mono (hE0.chg_trans hC1) fun j hj h => by
    have h' : some j = some w.heap.size := h
    injection h' with h'; omega
  have hO : w1.ownsRow w.heap.size 37 8 v1 mm (((cutK l 0).map hrow).flatten) := by
    have e : cutK l 0 = l := by unfold cutK; simp
    rw [e]
    simpa [hll] using hO1
  obtain ⟨A1, c1, rfl⟩ := own_slice' hO
  clear hO1 hC1 hnO hE0 hS0
  go_wp2_with fail
  go_loopw [3, 17] (fun nv iv wx => ∃ k : Nat, k ≤ mm ∧ iv = .int .i64 (k : Int) ∧ nv = .int .i64 (wantN l k) ∧ wx.ownsRow w.heap.size 37 8 (.slice A1 mm c1) mm (((cutK l k).map hrow).flatten) ∧ Ext w wx) (fun _ iv _ => mm - (intOf iv).toNat)
  case atStart => exact ⟨0, Nat.zero_le _, rfl, rfl, hO, hE1⟩
  case round =>
    clear hO hE1
    obtain ⟨k, hk, rfl, rfl, hO, hE⟩ := hrel
    by_cases hlt : k < mm
    · have hkl : k < l.length := by omega
      obtain ⟨g, cap, hv, hgb, hgl, hnc, hcm, hfz⟩ := own_some hO (by omega)
      injection hv with hv1 _ hv3
      subst hv1 hv3
      have hS := Sln.of_own hO (rows_8 _) (by rw [List.length_map, cutK_len]; omega)
      have hg1 : ((cutK l k).map hrow)[k]? = some (hrow (rowAt l k)) := by rw [List.getElem?_map, cutK_at hkl]; rfl
      have r1 := sln_cell hS hg1 (j := 1) rfl
      rw [Nat.zero_add] at r1
      have f1 := hfz (k * 8 + 1)
      have hnm : (rowAt l k).1.name.size ≤ maxLen := (HROW.out _ (List.mem_of_getElem? (rowAt_get hkl))).nm
      have hO2 := own_set hO (j := k * 8 + 1) (by omega) (.string (cut (rowAt l k).1.name 40))
      rw [flat_cut hkl _ rfl] at hO2
      have hC2 := (Chg.refl (· = g) wr).setCell (p := ⟨g, k * 8 + 1, none⟩) (.inl rfl) (.string (cut (rowAt l k).1.name 40))
      have hE2 : Ext w (wr.setCell ⟨g, k * 8 + 1, none⟩ (.string (cut (rowAt l k).1.name 40))) := Chg.mono (hE.chg_trans hC2) fun j hj h => by
        have h' : j = g := h
        omega
      have HW := Lib.hid (wantN_next hkl)
      have HNX := Lib.hid (cutK_next hkl)
      clear hS hg1 hC2
      generalize hx : rowAt l k = x at *
      clear hx
      go_wp2_with fail
      refine (cut_any x.1.name 40 wr hnm (by omega)).mono ?_
      rintro e w3 ⟨rfl, hw3⟩
      subst hw3
      go_upto_region 7 with fail
      clear r1 f1 hO hE hnm
      generalize World.setCell _ _ _ = W2 at hO2 hE2 ⊢
      have hS2 := Sln.of_own hO2 (rows_8 _) (by rw [List.length_map, cutK_len]; omega)
      obtain ⟨r0, r1, r2, r3, r4, r5, r6, r7⟩ := row_cells hS2 (show k < (cutK l (k + 1)).length by rw [cutK_len]; omega)
      rw [HNX.out] at r0 r1 r2 r3 r4 r5 r6 r7
      rw [Nat.zero_add] at r0 r1 r2 r3 r4 r5 r6 r7
      generalize cutRow x = y at *
      have hYb := At.new W2 37 (opCells y)
      have hO3 := hO2.alloc (.cells (opCells y) 37)
      have hE3 := hE2.alloc (.cells (opCells y) 37)
      clear hS2 hO2 hE2
      go_upto_region 8 with fail
      clear r0 r1 r2 r3 r4 r5 r6 r7
      generalize hyb : W2.heap.size = yb at *
      generalize W2.alloc _ = W3 at *
      have q0 := hYb.cell 0
      have q1 := hYb.cell 1
      have q3 := hYb.cell 3
      have q4 := hYb.cell 4
      simp at q0 q1 q3 q4
      go_cut [59] from 34 to 59 (fun bv wx => bv = .bool (badB y.1) ∧ wx = W3)
      case first =>
        by_cases h1 : y.1.kind < 1
        · have hb : badB y.1 = true := by unfold badB; simp [h1]
          go_wp2_with fail
          go_meet
          case rel => exact ⟨by rw [hb], rfl⟩
        by_cases h2 : 5 < y.1.kind
        · have hb : badB y.1 = true := by unfold badB; simp [h2]
          go_wp2_with fail
          go_meet
          case rel => exact ⟨by rw [hb], rfl⟩
        by_cases h3 : (32 : Int) < (y.1.name.size : Int)
        · have hb : badB y.1 = true := by
            have : 32 < y.1.name.size := by omega
            unfold badB; simp [this]
          go_wp2_with fail
          go_meet
          case rel => exact ⟨by rw [hb], rfl⟩
        have hb : badB y.1 = (decide (0 ≤ y.1.fin) && decide (y.1.fin < y.1.start)) := by
          have : ¬ 32 < y.1.name.size := by omega
          unfold badB HOp.ans; simp [h1, h2, this]
        have HB := Lib.hid hb
        clear hb
        by_cases h4 : 0 ≤ y.1.fin
        · go_wp2_with fail
          go_meet
          case rel => exact ⟨by rw [HB.out]; simp [h4], rfl⟩
        · go_wp2_with fail
          go_meet
          case rel => exact ⟨by
            rw [HB.out]
            have h5 : ¬ 0 ≤ y.1.fin := by omega
            have h6 : ¬ (32 : Int) < (y.1.name.size : Int) := by omega
            simp [h5], rfl⟩
      case rest =>
        obtain ⟨rfl, rfl⟩ := hcut
        clear q0 q1 q3 q4 hYb
        cases hbad : badB y.1
        · rw [hbad, if_neg (by simp)] at HW
          go_wp2_with fail
          exact ⟨⟨k + 1, by omega, by go_num, by rw [HW.out], hO3, hE3⟩, by simp [intOf]; omega⟩
        · rw [hbad, if_pos rfl] at HW
          go_wp2_with fail
          exact ⟨⟨k + 1, by omega, by go_num, by rw [HW.out], hO3, hE3⟩, by simp [intOf]; omega⟩
    · obtain rfl : k = mm := by omega
      have hckl : cutK l k = l.map cutRow := by rw [← hll]; exact cutK_all l
      have hwn : wantN l k = if (opsOf (l.map cutRow)).any badB then 1 else 0 := by
        unfold wantN opsOf
        rw [List.take_of_length_le (by omega), List.map_map, List.any_map]; rfl
      rw [hckl] at hO
      have hlr : (opsOf (l.map cutRow)).length = k := by rw [opsOf_len, List.length_map, hll]
      have hchk : ChkIn wr (l.map cutRow) (.slice A1 k c1) :=
        ⟨Sln.of_own hO (rows_8 _) (by rw [List.length_map, List.length_map, hll]), fun z hz => by
          obtain ⟨x, hx, rfl⟩ := List.mem_map.1 hz
          exact (HROW.out x hx).sl.ext hE, fun z hz => by
          obtain ⟨x, hx, rfl⟩ := List.mem_map.1 hz
          exact (HROW.out x hx).nl⟩
      have HC := Lib.hid (check_any wr _ _ hchk)
      have HWN := Lib.hid hwn
      have HLR := Lib.hid hlr
      clear hchk hwn hlr hckl hO
      generalize wantN l k = wn at *
      by_cases hbig : (20 : Int) < (k : Int)
      · go_wp2_with fail
        refine HC.out.mono ?_
        rintro e w5 ⟨⟨b2, n2, rfl, hres⟩, hE5⟩
        obtain ⟨rfl, rfl⟩ := hres.1 (by rw [HLR.out]; omega)
        clear hres
        go_wp2_with fail
        refine (awake_any w5).mono ?_
        rintro e w6 ⟨rfl, hE6⟩
        go_wp2_with fail
        go_ret
        exact ⟨ret_bool (by simp), hE.trans (hE5.trans hE6)⟩
      · have hk20 : (opsOf (l.map cutRow)).length ≤ 20 := by rw [HLR.out]; omega
        cases hany : (opsOf (l.map cutRow)).any badB
        · rw [hany, if_neg (by simp)] at HWN
          obtain rfl : wn = 0 := HWN.out
          have hf : ∀ x ∈ opsOf (l.map cutRow), badB x = false := fun x hx => by
            have := List.any_eq_false.1 hany x hx
            simpa using this
          have HF := Lib.hid hf
          clear hf hany
          by_cases h8 : (8 : Int) < (k : Int)
          · go_wp2_with fail
            refine (awake_any wr).mono ?_
            rintro e w6 ⟨rfl, hE6⟩
            go_wp2_with fail
            go_ret
            exact ⟨rfl, hE.trans hE6⟩
          · go_wp2_with fail
            refine HC.out.mono ?_
            rintro e w5 ⟨⟨b2, n2, rfl, hres⟩, hE5⟩
            obtain ⟨rfl, _⟩ := res_fine hres hk20 HF.out
            clear hres
            go_wp2_with fail
            refine (awake_any w5).mono ?_
            rintro e w6 ⟨rfl, hE6⟩
            go_wp2_with fail
            go_ret
            exact ⟨ret_bool (by simp), hE.trans (hE5.trans hE6)⟩
        · rw [hany, if_pos rfl] at HWN
          obtain rfl : wn = 1 := HWN.out
          have hx : ∃ x ∈ opsOf (l.map cutRow), badB x = true := List.any_eq_true.1 hany
          have HX := Lib.hid hx
          clear hx hany
          go_wp2_with fail
          refine HC.out.mono ?_
          rintro e w5 ⟨⟨b2, n2, rfl, hres⟩, hE5⟩
          obtain ⟨rfl, rfl⟩ := (hres.2 hk20).1 HX.out
          clear hres
          go_wp2_with fail
          refine (awake_any w5).mono ?_
          rintro e w6 ⟨rfl, hE6⟩
          go_wp2_with fail
          go_ret
          exact ⟨ret_bool (by simp), hE.trans (hE5.trans hE6)⟩
end Go.Proofs.Ytlodaffiamegpaa
