/-
  Layer 18: HistoryReads, walked.
-/
import Derived.Test.YtlodaffiamegpaaHsTurnedW
namespace Go.Proofs.Ytlodaffiamegpaa
open Go.RowKit Go.Sort

theorem GApp.on {W : World} {e : TypeId} {size j0 j1 j2 n1 n2 : Nat} {xs ys : List Value} {γ : Nat → Value} {L : Nat → Bool} {w w' : World} (h : GApp W e size j0 j1 j2 n1 n2 xs ys γ L w) (hE : Ext w w') : GApp W e size j0 j1 j2 n1 n2 xs ys γ L w' := by
  unfold GApp at h ⊢
  split
  · rename_i hh; rw [if_pos hh] at h; exact ⟨own_ext h.1 hE, h.2.trans hE⟩
  · rename_i hh; rw [if_neg hh] at h
    split
    · rename_i hh2; rw [if_pos hh2] at h; exact ⟨own_ext h.1 hE, h.2.trans hE⟩
    · rename_i hh2; rw [if_neg hh2] at h
      split
      · rename_i hh3; rw [if_pos hh3] at h; exact ⟨own_ext h.1 hE, h.2.trans hE⟩
      · rename_i hh3; rw [if_neg hh3] at h; exact h.trans hE
theorem opsOf_app (a b : List HRow) : opsOf (a ++ b) = opsOf a ++ opsOf b := by unfold opsOf; rw [List.map_append]
theorem erase_app (rows : List HRow) (m : Nat) : rows.take m ++ rows.drop (m + 1) = rows.eraseIdx m := (List.eraseIdx_eq_take_drop_succ rows m).symm

set_option maxRecDepth 100000 in
set_option maxHeartbeats 4000000 in
theorem readsw_any (w : World) (l : List HRow) (ov : Value) (n : Int) (hI : OpsIn w l ov) :
    Calls Try.prog 8 #[ov, .int .i64 n] w fun e w' => e = .returned (.bool true) ∧ Ext w w' := by
  go_enter Try.func8, Try.ntmps8
  go_wp2_with fail
  refine (few_c w l ov 7 hI.few (by omega)).mono ?_
  rintro e w1 ⟨v1, rows, rfl, hF⟩
  have HF := Lib.hid hF
  have hE1 := hF.ext
  have hlen := hF.len
  obtain ⟨A1, c1, rfl⟩ := few_slice hF
  clear hF
  go_wp2_with fail
  refine (check_few HF.out (by omega) w1 (Ext.refl _)).mono ?_
  rintro e w2 ⟨ok, rfl, hb, hE2⟩
  have HB := Lib.hid hb
  clear hb
  go_wp2_with fail
  refine (awake_any w2).mono ?_
  rintro e w3 ⟨rfl, hE3⟩
  replace hE3 := hE2.trans hE3
  clear hE2
  by_cases hgo : ok = false ∨ n < 0 ∨ (rows.length : Int) ≤ n
  · have hgo2 : ok = false ∨ ok = true ∧ (n < 0 ∨ ¬ n < 0 ∧ (rows.length : Int) ≤ n) := by
      cases ok
      · exact .inl rfl
      · refine .inr ⟨rfl, ?_⟩
        rcases hgo with h | h | h
        · cases h
        · exact .inl h
        · by_cases h2 : n < 0
          · exact .inl h2
          · exact .inr ⟨h2, h⟩
    clear hgo
    rcases hgo2 with rfl | ⟨rfl, hg | ⟨hg, hg2⟩⟩
    all_goals
      go_wp2_with fail
      refine (awake_any w3).mono ?_
      rintro e w4 ⟨rfl, hE4⟩
      go_wp2_with fail
      go_ret
      exact ⟨ret_bool (by simp), hE1.trans (hE3.trans hE4)⟩
  · obtain rfl : ok = true := by cases ok <;> simp_all
    have hn0 : 0 ≤ n := by omega
    obtain ⟨m, rfl⟩ := Int.eq_ofNat_of_zero_le hn0
    have hm : m < rows.length := by omega
    have hg1 : ¬ (m : Int) < 0 := by omega
    have hg2 : ¬ (rows.length : Int) ≤ (m : Int) := by omega
    have hO := own_ext HF.out.own hE3
    have hcap := own_cap hO
    have hS := Sln.of_own hO (rows_8 rows) (by simp)
    have hSd := Sln.lo (m := m + 1) hS hcap.1
    have hSt := hS.pre (k := m) (c' := c1) (by omega)
    rw [← List.map_drop] at hSd
    rw [← List.map_take] at hSt
    have hl1 : ((rows.drop (m + 1)).map hrow).length = rows.length - (m + 1) := by simp
    have hl2 : ((rows.take m).map hrow).length = m := by simp; omega
    have hS2 := hS
    obtain ⟨b, o, rfl⟩ := sln_some hS2 (fun e => by have := List.map_eq_nil_iff.1 e; subst this; simp at hm)
    obtain ⟨r0, r1, r2, r3, r4, r5, r6, r7⟩ := row_cells hS2 hm
    clear r1 r2 r3 r4 r5 r6 r7
    have hop : (opsOf rows)[m]? = some (rowAt rows m).1 := by rw [rowAt_op hm]; exact opAt_get (by rw [opsOf_len]; exact hm)
    have HOP := Lib.hid hop
    clear hop hgo hn0
    generalize rowAt rows m = x at *
    by_cases hkk : x.1.kind = 1 ∨ x.1.kind = 3
    · have hk2 : (x.1.kind == 1) = true ∨ (x.1.kind == 1) = false ∧ (x.1.kind == 3) = true := by
        rcases hkk with h | h
        · left; simp [h]
        · right; simp [h]
      clear hkk hcap hS hSd hSt hl1 hl2 hS2
      rcases hk2 with hk | ⟨hk, hk3⟩
      all_goals
        go_wp2_with fail
        refine (awake_any w3).mono ?_
        rintro e w4 ⟨rfl, hE4⟩
        go_wp2_with fail
        go_ret
        exact ⟨ret_bool (by simp), hE1.trans (hE3.trans hE4)⟩
    have hk1 : (x.1.kind == 1) = false := by
      have : ¬ x.1.kind = 1 := fun e => hkk (.inl e)
      simp [this]
    have hk3 : (x.1.kind == 3) = false := by
      have : ¬ x.1.kind = 3 := fun e => hkk (.inr e)
      simp [this]
    have hrd : x.1.reads := ⟨fun e => hkk (.inl e), fun e => hkk (.inr e)⟩
    have hlin : Lin (opsOf (rows.take m ++ rows.drop (m + 1))) hnone := by
      rw [erase_app, opsOf_erase]
      exact lin_without HOP.out hrd (HB.out.1 (by simp))
    have HLIN := Lib.hid hlin
    have hmem : ∀ z ∈ rows.take m ++ rows.drop (m + 1), z ∈ rows := fun z hz => by
      rcases List.mem_append.1 hz with hz | hz
      · exact List.mem_of_mem_take hz
      · exact List.mem_of_mem_drop hz
    have HMEM := Lib.hid hmem
    have hA1 : ∃ A, A = some (⟨b, o, none⟩ : Addr) := ⟨_, rfl⟩
    clear hrd hlin hmem hkk hS2 hS
    go_upto_region 5 with fail
    clear hg1 hg2 r0 hk1 hk3
    obtain ⟨A1, hA1⟩ := hA1
    rw [← hA1] at hO hSd hSt HF ⊢
    clear hA1
    obtain ⟨iO, hiO, hzO0, hzO1, hzO2⟩ := info_parts op_info
    refine wp_region_phi (Γ := Nat → Value) (sgφ [.g 0, .val (.slice A1 rows.length c1), .val (.int .i64 (m : Int)), .val (.slice A1 m c1), .g 1, .val (.slice A1 rows.length c1), .val (.int .i64 (m : Int)), .val (.int .i64 ((m + 1 : Nat) : Int)), .val (loV A1 rows.length c1 (m + 1) 8), .g 2, .val (.tuple #[.bool true, .int .i64 0]), .val (.tuple #[.bool true, .int .i64 0]), .val (.bool true), .val (.int .i64 0), .val (.bool true), .val (.int .i64 0)])
      (GApp w3 37 8 0 4 9 m (rows.length - (m + 1)) ((rows.take m).map hrow).flatten ((rows.drop (m + 1)).map hrow).flatten)
      (by kernel_rfl) (by kernel_rfl) (by kernel_rfl) (fun _ => undef) ((Ext.refl w3).drew) ?steps ?fin
    case steps =>
      show StepsTo _ _ _ _ _ _ 16
      refine ⟨⟨⟨⟨⟨⟨⟨⟨⟨⟨⟨⟨⟨⟨⟨⟨trivial, ?s0⟩, ?s1⟩, ?s2⟩, ?s3⟩, ?s4⟩, ?s5⟩, ?s6⟩, ?s7⟩, ?s8⟩, ?s9⟩, ?s10⟩, ?s11⟩, ?s12⟩, ?s13⟩, ?s14⟩, ?s15⟩
      case s0 =>
        refine sg_new (k := 0) rfl rfl rfl (by kernel_rfl) fun γ L v a w st => ?_
        have h9 : L 9 = false := by
          cases hq : L 9 with
          | false => rfl
          | true =>
            have q4 := st.down 9 4 hq (by kernel_rfl)
            have q0 := st.down 4 0 q4 (by kernel_rfl)
            have q99 := st.off; rw [q0] at q99; cases q99
        have h4 : L 4 = false := by
          cases hq : L 4 with
          | false => rfl
          | true =>
            have q0 := st.down 4 0 hq (by kernel_rfl)
            have q99 := st.off; rw [q0] at q99; cases q99
        have hE := st.inv.ext
        refine ⟨.slice (some ⟨w.heap.size, 0, none⟩) 0 0, w.alloc (.cells #[] 37), by go_simp, ?_⟩
        unfold GApp
        rw [if_neg (by simp [h9]), if_neg (by simp [h4]), if_pos (by simp)]
        exact ⟨w.ownsRow_made #[] 0 hE.size (by unfold maxLen; omega) rfl, hE.alloc _⟩
      case s1 =>
        refine sg_val (x := .slice A1 rows.length c1) rfl rfl rfl (GApp.keep (j := 1) (by decide) (by decide) (by decide)) fun γ L v a w st => ?_
        have e0 := st.far 0 (by kernel_rfl)
        simp at e0
        go_simp
      case s2 =>
        refine sg_val (x := .int .i64 (m : Int)) rfl rfl rfl (GApp.keep (j := 2) (by decide) (by decide) (by decide)) fun γ L v a w st => ?_
        have e1 := st.far 1 (by kernel_rfl)
        simp at e1
        go_simp
      case s3 =>
        refine sg_val (x := .slice A1 m c1) rfl rfl rfl (GApp.keep (j := 3) (by decide) (by decide) (by decide)) fun γ L v a w st => ?_
        have e1 := st.val 1 59 rfl (by kernel_rfl)
        rw [show v 1 = _ from st.φ 1 (by kernel_rfl)] at e1
        simp at e1
        have e2 := st.val 2 60 rfl (by kernel_rfl)
        rw [show v 2 = _ from st.φ 2 (by kernel_rfl)] at e2
        simp at e2
        have hr := run_hi (P := Try.prog) (A := A1) (n := rows.length) (c := c1) (m := m) Try.underlying22 hiO (by omega) w
        simp [execOp, Act.eval, e1, e2, hr, Result.andThen]
      case s4 =>
        refine sg_new (k := 1) rfl rfl rfl (by kernel_rfl) fun γ L v a w st => ?_
        have h9 : L 9 = false := by
          cases hq : L 9 with
          | false => rfl
          | true =>
            have q4 := st.down 9 4 hq (by kernel_rfl)
            have q99 := st.off; rw [q4] at q99; cases q99
        have h4 : L 4 = false := st.off
        have e0 := st.val 0 58 rfl (by kernel_rfl)
        rw [show v 0 = _ from st.φ 0 (by kernel_rfl)] at e0
        simp at e0
        have e3 := st.val 3 61 rfl (by kernel_rfl)
        rw [show v 3 = _ from st.φ 3 (by kernel_rfl)] at e3
        simp at e3
        have hinv := st.inv
        have hE := hinv.ext
        unfold GApp at hinv
        rw [if_neg (by rw [h9]; simp), if_neg (by rw [h4]; simp), if_pos (st.dep 0 (by kernel_rfl))] at hinv
        refine ex_append (P := Try.prog) hinv.1 (hSt.ext hE) (rows_8 _) (rows_one _) 22 Try.underlying22 op_info rfl (by decide) (by decide) (by rw [hl2]; omega) hE.size (.tmp 58) (.tmp 61) rfl (by simp [Act.eval, e0]) (by simp [Act.eval, e3]) fun v' w' hOw hC => ?_
        unfold GApp
        rw [if_neg (by simp [h9]), if_pos (by simp)]
        rw [hl2, Nat.zero_add, List.nil_append] at hOw
        exact ⟨by simpa [upd] using hOw, Chg.own_ext hE hC hinv.1 (Nat.le_refl _)⟩
      case s5 =>
        refine sg_val (x := .slice A1 rows.length c1) rfl rfl rfl (GApp.keep (j := 5) (by decide) (by decide) (by decide)) fun γ L v a w st => ?_
        have e0 := st.far 0 (by kernel_rfl)
        simp at e0
        go_simp
      case s6 =>
        refine sg_val (x := .int .i64 (m : Int)) rfl rfl rfl (GApp.keep (j := 6) (by decide) (by decide) (by decide)) fun γ L v a w st => ?_
        have e1 := st.far 1 (by kernel_rfl)
        simp at e1
        go_simp
      case s7 =>
        refine sg_val (x := .int .i64 ((m + 1 : Nat) : Int)) rfl rfl rfl (GApp.keep (j := 7) (by decide) (by decide) (by decide)) fun γ L v a w st => ?_
        have e6 := st.val 6 64 rfl (by kernel_rfl)
        rw [show v 6 = _ from st.φ 6 (by kernel_rfl)] at e6
        simp at e6
        have hw : IntKind.i64.wrap ((m : Int) + 1) = (m : Int) + 1 := by rw [IntKind.wrap_i64]; omega
        go_simp
      case s8 =>
        refine sg_val (x := loV A1 rows.length c1 (m + 1) 8) rfl rfl rfl (GApp.keep (j := 8) (by decide) (by decide) (by decide)) fun γ L v a w st => ?_
        have e5 := st.val 5 63 rfl (by kernel_rfl)
        rw [show v 5 = _ from st.φ 5 (by kernel_rfl)] at e5
        simp at e5
        have e7 := st.val 7 65 rfl (by kernel_rfl)
        rw [show v 7 = _ from st.φ 7 (by kernel_rfl)] at e7
        simp at e7
        have hr := run_lo (P := Try.prog) (A := A1) (c := c1) (m := m + 1) (size := 8) Try.underlying22 hiO hzO1 (show m + 1 ≤ rows.length by omega) w
        simp at hr
        simp [execOp, Act.eval, e5, e7, hr, Result.andThen]
      case s9 =>
        refine sg_new (k := 2) rfl rfl rfl (by kernel_rfl) fun γ L v a w st => ?_
        have h9 : L 9 = false := st.off
        have e4 := st.val 4 62 rfl (by kernel_rfl)
        rw [show v 4 = _ from st.φ 4 (by kernel_rfl)] at e4
        simp at e4
        have e8 := st.val 8 66 rfl (by kernel_rfl)
        rw [show v 8 = _ from st.φ 8 (by kernel_rfl)] at e8
        simp at e8
        have hinv := st.inv
        have hE := hinv.ext
        unfold GApp at hinv
        rw [if_neg (by rw [h9]; simp), if_pos (st.dep 4 (by kernel_rfl))] at hinv
        refine ex_append (P := Try.prog) hinv.1 (hSd.ext hE) (rows_8 _) (rows_one _) 22 Try.underlying22 op_info rfl (by decide) (by decide) (by rw [hl1]; omega) hE.size (.tmp 62) (.tmp 66) rfl (by simp [Act.eval, e4]) (by simp [Act.eval, e8]) fun v' w' hOw hC => ?_
        unfold GApp
        rw [if_pos (by simp)]
        rw [hl1] at hOw
        exact ⟨by simpa [upd] using hOw, Chg.own_ext hE hC hinv.1 (Nat.le_refl _)⟩
      case s10 =>
        refine sg_callv' (x := .tuple #[.bool true, .int .i64 0]) (f := 11) rfl rfl rfl fun γ L v a w st => ?_
        have e9 := st.val 9 67 rfl (by kernel_rfl)
        rw [show v 9 = _ from st.φ 9 (by kernel_rfl)] at e9
        simp at e9
        have hd9 := st.dep 9 (by kernel_rfl)
        have hinv := st.inv
        have hE := hinv.ext
        refine ⟨#[γ 2], by go_simp, ?_⟩
        have hOw := hinv
        unfold GApp at hOw
        rw [if_pos hd9] at hOw
        have hflt : ((rows.take m).map hrow).flatten ++ ((rows.drop (m + 1)).map hrow).flatten = ((rows.take m ++ rows.drop (m + 1)).map hrow).flatten := by rw [List.map_append, List.flatten_append]
        have hlr : (rows.take m ++ rows.drop (m + 1)).length = m + (rows.length - (m + 1)) := by simp; omega
        have hchk : ChkIn w (rows.take m ++ rows.drop (m + 1)) (γ 2) :=
          ⟨Sln.of_own (by rw [← hflt]; exact hOw.1) (rows_8 _) (by rw [List.length_map]; exact hlr), fun z hz => Sl.of_own (own_ext (HF.out.rows z (HMEM.out z hz)) (hE3.trans hE)), fun z hz => HF.out.names z (HMEM.out z hz)⟩
        refine (check_any w _ _ hchk).mono ?_
        rintro r w' ⟨⟨b2, n2, rfl, hres⟩, hE6⟩
        obtain ⟨rfl, hb2⟩ := res_fine hres (by rw [opsOf_len, hlr]; omega) (fun o ho => by
          obtain ⟨z, hz, rfl⟩ := List.mem_map.1 ho
          exact HF.out.fine z.1 (List.mem_map.2 ⟨z, HMEM.out z hz, rfl⟩))
        obtain rfl : b2 = true := hb2.2 HLIN.out
        exact ⟨rfl, GApp.keep (by decide) (by decide) (by decide) γ L w' (hinv.on hE6) st.off⟩
      case s11 =>
        refine sg_val (x := .tuple #[.bool true, .int .i64 0]) rfl rfl rfl (GApp.keep (j := 11) (by decide) (by decide) (by decide)) fun γ L v a w st => ?_
        have e10 := st.val 10 68 rfl (by kernel_rfl)
        rw [show v 10 = _ from st.φ 10 (by kernel_rfl)] at e10
        simp at e10
        go_simp
      case s12 =>
        refine sg_val (x := .bool true) rfl rfl rfl (GApp.keep (j := 12) (by decide) (by decide) (by decide)) fun γ L v a w st => ?_
        have e11 := st.val 11 57 rfl (by kernel_rfl)
        rw [show v 11 = _ from st.φ 11 (by kernel_rfl)] at e11
        simp at e11
        go_simp
      case s13 =>
        refine sg_val (x := .int .i64 0) rfl rfl rfl (GApp.keep (j := 13) (by decide) (by decide) (by decide)) fun γ L v a w st => ?_
        have e11 := st.val 11 57 rfl (by kernel_rfl)
        rw [show v 11 = _ from st.φ 11 (by kernel_rfl)] at e11
        simp at e11
        go_simp
      case s14 =>
        refine sg_val (x := .bool true) rfl rfl rfl (GApp.keep (j := 14) (by decide) (by decide) (by decide)) fun γ L v a w st => ?_
        have e12 := st.val 12 69 rfl (by kernel_rfl)
        rw [show v 12 = _ from st.φ 12 (by kernel_rfl)] at e12
        simp at e12
        go_simp
      case s15 =>
        refine sg_val (x := .int .i64 0) rfl rfl rfl (GApp.keep (j := 15) (by decide) (by decide) (by decide)) fun γ L v a w st => ?_
        have e13 := st.val 13 70 rfl (by kernel_rfl)
        rw [show v 13 = _ from st.φ 13 (by kernel_rfl)] at e13
        simp at e13
        go_simp
    case fin =>
      intro γ L v wx hall hG hφ
      have hE := hG.ext
      have h14 : v 14 = .bool true := hφ 14 (by decide)
      have h15 : v 15 = .int .i64 0 := hφ 15 (by decide)
      clear hall hφ hG hSd hSt hl1 hl2
      change Exit.then _ _ _ (putAll _ v _ 16) wx
      simp only [putAll, dstOf, Act.put]
      simp only [List.getElem?_toArray, List.getElem?_cons_zero, List.getElem?_cons_succ, Option.bind_some, List.setIfInBounds_toArray, List.set_cons_zero, List.set_cons_succ]
      rw [h14, h15]
      go_wp2_with fail
      go_ret
      exact ⟨rfl, hE1.trans (hE3.trans hE)⟩
end Go.Proofs.Ytlodaffiamegpaa
