/-
  Layer 18: HistoryWide, walked.
-/
import Derived.Test.YtlodaffiamegpaaHsChecksW
import Derived.Test.YtlodaffiamegpaaOwnSet
namespace Go.Proofs.Ytlodaffiamegpaa
open Go.RowKit Go.Sort

theorem FewOut.bounds {w w' : World} {v : Value} {ops : List HOp} {rows : List HRow} {n : Nat} (h : FewOut w w' v ops rows n) : ∀ x ∈ rows, (0 ≤ x.1.start ∧ x.1.start ≤ 1000) ∧ (x.1.fin < 0 ∨ x.1.start ≤ x.1.fin ∧ x.1.fin ≤ 2000) := by
  intro x hx
  have : x.1 ∈ opsOf rows := List.mem_map.2 ⟨x, hx, rfl⟩
  rw [h.ops] at this
  obtain ⟨y, _, e⟩ := List.mem_map.1 this
  rw [← e]
  unfold fewOp fewStart
  simp only
  split <;> omega
theorem opsOf_set (rows : List HRow) (m : Nat) (y : HRow) : opsOf (rows.set m y) = (opsOf rows).set m y.1 := by
  unfold opsOf; rw [List.map_set]
/-- the call, wider -/
def wideOp (o : HOp) (a b : Int) : HOp := ⟨o.kind, o.name, o.value, max (o.start - min (max a 0) 1000) 0, if 0 ≤ o.fin then o.fin + min (max b 0) 1000 else o.fin, o.err, o.got, o.names⟩
theorem wide_ans (o : HOp) (a b : Int) : (wideOp o a b).ans = o.ans := by
  unfold wideOp HOp.ans
  rw [Bool.eq_iff_iff]
  simp only [decide_eq_true_eq]
  split <;> omega
theorem wide_fine {o : HOp} {a b : Int} (h : badB o = false) (_hs : 0 ≤ o.start) : badB (wideOp o a b) = false := by
  have hw := fine_wide h
  have ha := wide_ans o a b
  unfold badB at h ⊢
  simp only [Bool.or_eq_false_iff, decide_eq_false_iff_not, Bool.and_eq_false_iff] at h ⊢
  refine ⟨h.1, ?_⟩
  cases hans : o.ans
  · left; rw [ha, hans]
  · right
    have h1 := hw hans
    have h2 : 0 ≤ o.fin := by unfold HOp.ans at hans; simpa using hans
    unfold wideOp
    simp only
    rw [if_pos h2]
    omega
theorem wide_lin {l : List HOp} {m : Nat} {o : HOp} {a b : Int} (hx : l[m]? = some o) (hs : 0 ≤ o.start) (h : Lin l hnone) : Lin (l.set m (wideOp o a b)) hnone := by
  refine lin_set hx rfl rfl rfl rfl rfl rfl (wide_ans o a b) ?_ (fun ha => ?_) h
  · unfold wideOp; simp only; omega
  · have h2 : 0 ≤ o.fin := by unfold HOp.ans at ha; simpa using ha
    unfold wideOp
    simp only
    rw [if_pos h2]
    omega

set_option maxRecDepth 100000 in
set_option maxHeartbeats 2000000 in
theorem widew_any (w : World) (l : List HRow) (ov : Value) (n a b : Int) (hI : OpsIn w l ov) :
    Calls Try.prog 9 #[ov, .int .i64 n, .int .i64 a, .int .i64 b] w fun e w' => e = .returned (.bool true) ∧ Ext w w' := by
  go_enter Try.func9, Try.ntmps9
  go_wp2_with fail
  refine (few_c w l ov 7 hI.few (by omega)).mono ?_
  rintro e w1 ⟨v1, rows, rfl, hF⟩
  have HF := Lib.hid hF
  have hE1 := hF.ext
  have hlen := hF.len
  obtain ⟨A1, c1, rfl⟩ := few_slice hF
  clear hF
  go_wp2_with fail
  refine (check_few HF.out (by omega) w1 (Ext.refl _)).mono ?_
  rintro e w2 ⟨ok, rfl, hb, hE2⟩
  have HB := Lib.hid hb
  clear hb
  go_wp2_with fail
  refine (awake_any w2).mono ?_
  rintro e w3 ⟨rfl, hE3⟩
  have hE23 := hE2.trans hE3
  clear hE2 hE3
  by_cases hgo : ok = false ∨ n < 0 ∨ (rows.length : Int) ≤ n
  · have hgo2 : ok = false ∨ ok = true ∧ (n < 0 ∨ ¬ n < 0 ∧ (rows.length : Int) ≤ n) := by
      cases ok
      · exact .inl rfl
      · refine .inr ⟨rfl, ?_⟩
        rcases hgo with h | h | h
        · cases h
        · exact .inl h
        · by_cases h2 : n < 0
          · exact .inl h2
          · exact .inr ⟨h2, h⟩
    clear hgo
    rcases hgo2 with rfl | ⟨rfl, hg | ⟨hg, hg2⟩⟩
    all_goals
      go_wp2_with fail
      refine (awake_any w3).mono ?_
      rintro e w4 ⟨rfl, hE4⟩
      go_wp2_with fail
      go_ret
      exact ⟨ret_bool (by simp), hE1.trans (hE23.trans hE4)⟩
  · obtain rfl : ok = true := by cases ok <;> simp_all
    have hn0 : 0 ≤ n := by omega
    obtain ⟨m, rfl⟩ := Int.eq_ofNat_of_zero_le hn0
    have hm : m < rows.length := by omega
    have hg1 : ¬ (m : Int) < 0 := by omega
    have hg2 : ¬ (rows.length : Int) ≤ (m : Int) := by omega
    have hO := own_ext HF.out.own hE23
    obtain ⟨g, cap, hv, hgb, hgl, hnc, hcm, hfz⟩ := own_some hO (by omega)
    injection hv with hv1 _ hv3
    subst hv1 hv3
    have hS := Sln.of_own hO (rows_8 rows) (by simp)
    obtain ⟨r0, r1, r2, r3, r4, r5, r6, r7⟩ := row_cells hS hm
    have hxm : rowAt rows m ∈ rows := List.mem_of_getElem? (rowAt_get hm)
    have hbd := HF.out.bounds _ hxm
    have hop : (opsOf rows)[m]? = some (rowAt rows m).1 := by rw [rowAt_op hm]; exact opAt_get (by rw [opsOf_len]; exact hm)
    have hrow : (rows.map hrow)[m]? = some (hrow (rowAt rows m)) := by rw [List.getElem?_map, rowAt_get hm]; rfl
    have HOP := Lib.hid hop
    have HROW := Lib.hid hrow
    have HXM := Lib.hid hxm
    generalize rowAt rows m = x at *
    rw [Nat.zero_add] at r0 r1 r2 r3 r4 r5 r6 r7
    have f3 := hfz (m * 8 + 3)
    clear r0 r1 r2 r5 r6 r7 hgo hn0 hS hop hrow hxm
    go_upto_region 6 with fail
    have hO2 := own_set hO (j := m * 8 + 3) (by omega) (.int .i64 (max (x.1.start - min (max a 0) 1000) 0))
    have hC2 := (Chg.refl (· = g) w3).setCell (p := ⟨g, m * 8 + 3, none⟩) (.inl rfl) (.int .i64 (max (x.1.start - min (max a 0) 1000) 0))
    have hw4 := hO2.cellAt (m * 8 + 4) (by omega)
    have hw0 := hO.cellAt (m * 8 + 4) (by omega)
    rw [List.getElem?_set_ne (by omega), ← hw0, r4] at hw4
    have f4 := (own_fz hO2 (m * 8 + 4)).1
    have HO := Lib.hid hO
    have HN := Lib.hid (fun z hz => own_ext (HF.out.rows z hz) hE23)
    have hgl2 : g < (w3.setCell ⟨g, m * 8 + 3, none⟩ (.int .i64 (max (x.1.start - min (max a 0) 1000) 0))).heap.size := by
      have := hC2.size; omega
    clear hw0 hO r3 r4 f3 hgl
    generalize World.setCell _ _ _ = W4 at *
    go_upto_if 64 with fail
    clear hg1 hg2
    have hfl : ((rows.map hrow).flatten.set (m * 8 + 3) (.int .i64 (max (x.1.start - min (max a 0) 1000) 0))).set (m * 8 + 4) (.int .i64 (wideOp x.1 a b).fin) = ((rows.set m (wideOp x.1 a b, x.2)).map hrow).flatten := by
      rw [flat_set (rows_8 rows) _ HROW.out (by omega)]
      have h8 : ∀ r ∈ (rows.map hrow).set m ((hrow x).set 3 (.int .i64 (max (x.1.start - min (max a 0) 1000) 0))), r.length = 8 := by
        intro r hr
        rcases List.mem_or_eq_of_mem_set hr with hr | rfl
        · exact rows_8 rows r hr
        · rfl
      rw [flat_set h8 (r := (hrow x).set 3 (.int .i64 (max (x.1.start - min (max a 0) 1000) 0))) _ (by rw [List.getElem?_set_self (by rw [List.length_map]; exact hm)]) (by omega), List.set_set, List.map_set]
      rfl
    have HFL := Lib.hid hfl
    clear hfl
    go_cut [] from 20 to 75 (fun wx => wx.ownsRow w.heap.size 37 8 (.slice (some ⟨g, 0, none⟩) rows.length c1) rows.length (((rows.set m (wideOp x.1 a b, x.2)).map hrow).flatten) ∧ Chg (· = g) w3 wx)
    case first =>
      have hfd : (wideOp x.1 a b).fin = if 0 ≤ x.1.fin then x.1.fin + min (max b 0) 1000 else x.1.fin := rfl
      by_cases hf : 0 ≤ x.1.fin
      · rw [if_pos hf] at hfd
        have HFD := Lib.hid hfd
        clear hfd
        go_wp2_with fail
        go_meet
        case rel =>
          refine ⟨?_, hC2.setCell (.inl rfl) _⟩
          have := own_set hO2 (j := m * 8 + 4) (by omega) (.int .i64 (x.1.fin + min (max b 0) 1000))
          rw [← HFL.out, HFD.out]; exact this
      · rw [if_neg hf] at hfd
        have hset : ((rows.map hrow).flatten.set (m * 8 + 3) (.int .i64 (max (x.1.start - min (max a 0) 1000) 0))).set (m * 8 + 4) (.int .i64 x.1.fin) = (rows.map hrow).flatten.set (m * 8 + 3) (.int .i64 (max (x.1.start - min (max a 0) 1000) 0)) := by
          have h1 := hO2.cellAt (m * 8 + 4) (by omega)
          rw [hw4] at h1
          apply List.ext_getElem?
          intro i
          rw [List.getElem?_set]
          split
          · rename_i e
            subst e
            split
            · rw [← h1]
            · rename_i hl
              rw [List.getElem?_eq_none (by omega)]
          · rfl
        have HFD := Lib.hid hfd
        have HSET := Lib.hid hset
        clear hfd hset
        go_wp2_with fail
        go_meet
        case rel =>
          refine ⟨?_, hC2⟩
          rw [← HFL.out, HFD.out, HSET.out]; exact hO2
    case rest =>
      clear hO2 hC2 hw4 f4 hgl2
      obtain ⟨hO3, hC3⟩ := hcut
      have hchk : ChkIn wc (rows.set m (wideOp x.1 a b, x.2)) (.slice (some ⟨g, 0, none⟩) rows.length c1) := by
        have hnm : ∀ z ∈ rows, Sl wc (.slice z.2.1 z.1.names.length z.2.2) (z.1.names.map Value.string) := fun z hz =>
          Sl.of_own (own_far (HN.out z hz) hC3 (fun k' hk' h => by
            have h' : k' = g := h
            subst h'
            exact own_own HO.out (HN.out z hz) (by decide) k' rfl hk'))
        refine ⟨Sln.of_own hO3 (rows_8 _) (by simp), fun z hz => ?_, fun z hz => ?_⟩
        · rcases List.mem_or_eq_of_mem_set hz with hz | rfl
          · exact hnm z hz
          · exact hnm x HXM.out
        · rcases List.mem_or_eq_of_mem_set hz with hz | rfl
          · exact HF.out.names z hz
          · exact HF.out.names x HXM.out
      have hfine : ∀ o ∈ opsOf (rows.set m (wideOp x.1 a b, x.2)), badB o = false := by
        rw [opsOf_set]
        intro o ho
        rcases List.mem_or_eq_of_mem_set ho with ho | rfl
        · exact HF.out.fine o ho
        · exact wide_fine (HF.out.fine _ (List.mem_of_getElem? HOP.out)) hbd.1.1
      have hlin : Lin (opsOf (rows.set m (wideOp x.1 a b, x.2))) hnone := by
        rw [opsOf_set]
        exact wide_lin HOP.out hbd.1.1 (HB.out.1 (by simp))
      have HC := Lib.hid (check_any wc _ _ hchk)
      have HFI := Lib.hid hfine
      have HLI := Lib.hid hlin
      have hE4 : Ext w wc := Chg.mono ((hE1.trans hE23).chg_trans hC3) fun j hj h => by
        have h' : j = g := h
        omega
      clear hchk hfine hlin
      go_wp2_with fail
      refine HC.out.mono ?_
      rintro e w5 ⟨⟨b2, n2, rfl, hres⟩, hE5⟩
      obtain ⟨rfl, hb2⟩ := res_fine hres (by rw [opsOf_len, List.length_set]; omega) HFI.out
      obtain rfl : b2 = true := hb2.2 HLI.out
      clear hres hb2
      go_wp2_with fail
      go_ret
      exact ⟨rfl, hE4.trans hE5⟩
end Go.Proofs.Ytlodaffiamegpaa
