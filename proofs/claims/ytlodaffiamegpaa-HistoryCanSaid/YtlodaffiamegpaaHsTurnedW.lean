/-
  Layer 18: HistoryTurned, walked.
-/
import Derived.Test.YtlodaffiamegpaaHsChecksW
import Derived.Test.YtlodaffiamegpaaOwnSet
import Derived.Test.YtlodaffiamegpaaRegN
namespace Go.Proofs.Ytlodaffiamegpaa
open Go.RowKit Go.Sort

theorem rows_one (rows : List HRow) : ∀ r ∈ rows.map hrow, r.all Value.oneCell' = true := by
  intro r hr; obtain ⟨x, _, rfl⟩ := List.mem_map.1 hr; rfl
theorem ops_parts : (Try.prog.info? 37).map (fun i => i.size) = some 8 := by kernel_rfl
theorem own_cap {w : World} {base : Nat} {e : TypeId} {size : Nat} {A : Option Addr} {n c : Nat} {xs : List Value} (h : w.ownsRow base e size (.slice A n c) n xs) : n ≤ c ∧ c ≤ maxLen := by
  rcases h.2 with ⟨h1, h2⟩ | ⟨g, cap, cur, h1, h3, h4, h5, h6, _⟩
  · injection h1 with _ h1 h3
    subst h3; exact ⟨by omega, by unfold maxLen; omega⟩
  · injection h1 with _ _ h3
    subst h3; exact ⟨h5, h6⟩

/-- .. and, assigned, as ghost 3 -/
def GAsg (W : World) (e : TypeId) (size j0 j1 j2 j3 n1 n2 : Nat) (xs ys : List Value) (γ : Nat → Value) (L : Nat → Bool) (w : World) : Prop :=
  if L j3 = true then w.ownsRow W.heap.size e size (γ 3) (n1 + n2) (xs ++ ys) ∧ Ext W w else GApp W e size j0 j1 j2 n1 n2 xs ys γ L w
theorem GAsg.keep {W : World} {e : TypeId} {size j0 j1 j2 j3 n1 n2 j : Nat} {xs ys : List Value} (h0 : j0 ≠ j) (h1 : j1 ≠ j) (h2 : j2 ≠ j) (h3 : j3 ≠ j) : ∀ γ L w, GAsg W e size j0 j1 j2 j3 n1 n2 xs ys γ L w → L j = false → GAsg W e size j0 j1 j2 j3 n1 n2 xs ys γ (fun i => i == j || L i) w := by
  intro γ L w h hj
  unfold GAsg at *
  have e3 : (j3 == j) = false := by simp [h3]
  simp only [e3, Bool.false_or]
  split
  · rename_i hh; rw [if_pos hh] at h; exact h
  · rename_i hh; rw [if_neg hh] at h; exact GApp.keep h0 h1 h2 γ L w h hj
theorem GAsg.ext {W : World} {e : TypeId} {size j0 j1 j2 j3 n1 n2 : Nat} {xs ys : List Value} {γ : Nat → Value} {L : Nat → Bool} {w : World} (h : GAsg W e size j0 j1 j2 j3 n1 n2 xs ys γ L w) : Ext W w := by
  unfold GAsg at h
  split at h
  · exact h.2
  · exact h.ext

set_option maxRecDepth 100000 in
set_option maxHeartbeats 2000000 in
theorem turnedw_any (w : World) (l : List HRow) (ov : Value) (n : Int) (hI : OpsIn w l ov) :
    Calls Try.prog 7 #[ov, .int .i64 n] w fun e w' => e = .returned (.bool true) ∧ Ext w w' := by
  go_enter Try.func7, Try.ntmps7
  go_wp2_with fail
  refine (few_c w l ov 7 hI.few (by omega)).mono ?_
  rintro e w1 ⟨v1, rows, rfl, hF⟩
  have HF := Lib.hid hF
  have hE1 := hF.ext
  have hlen := hF.len
  obtain ⟨A1, c1, rfl⟩ := few_slice hF
  clear hF
  go_wp2_with fail
  refine (awake_any w1).mono ?_
  rintro e w3 ⟨rfl, hE3⟩
  by_cases hgo : n < 0 ∨ (rows.length : Int) < n
  · have hgo2 : n < 0 ∨ ¬ n < 0 ∧ (rows.length : Int) < n := by omega
    clear hgo
    rcases hgo2 with hg | ⟨hg, hg2⟩
    all_goals
      go_wp2_with fail
      refine (awake_any w3).mono ?_
      rintro e w4 ⟨rfl, hE4⟩
      go_wp2_with fail
      go_ret
      exact ⟨rfl, hE1.trans (hE3.trans hE4)⟩
  · have hn0 : 0 ≤ n := by omega
    obtain ⟨m, rfl⟩ := Int.eq_ofNat_of_zero_le hn0
    have hm : m ≤ rows.length := by omega
    have hg1 : ¬ (m : Int) < 0 := by omega
    have hg2 : ¬ (rows.length : Int) < (m : Int) := by omega
    have hO := own_ext HF.out.own hE3
    have hcap := own_cap hO
    have hS := Sln.of_own hO (rows_8 rows) (by simp)
    have hSd := Sln.lo (m := m) hS hcap.1
    have hSt := hS.pre (k := m) (c' := c1) hm
    rw [← List.map_drop] at hSd
    rw [← List.map_take] at hSt
    have hl1 : ((rows.drop m).map hrow).length = rows.length - m := by simp
    have hl2 : ((rows.take m).map hrow).length = m := by simp; omega
    go_upto_region 4 with fail
    clear hg1 hg2
    obtain ⟨iO, hiO, hzO0, hzO1, hzO2⟩ := info_parts op_info
    refine wp_region_phi (Γ := Nat → Value) (sgφ [.g 0, .val (.slice A1 rows.length c1), .val (.int .i64 (m : Int)), .val (loV A1 rows.length c1 m 8), .g 1, .val (.slice A1 rows.length c1), .val (.int .i64 (m : Int)), .val (.slice A1 m c1), .g 2, .g 3])
      (GAsg w3 37 8 0 4 8 9 (rows.length - m) m ((rows.drop m).map hrow).flatten ((rows.take m).map hrow).flatten)
      (by kernel_rfl) (by kernel_rfl) (by kernel_rfl) (fun _ => undef) ((Ext.refl w3).drew) ?steps ?fin
    case steps =>
      show StepsTo _ _ _ _ _ _ 10
      refine ⟨⟨⟨⟨⟨⟨⟨⟨⟨⟨trivial, ?s0⟩, ?s1⟩, ?s2⟩, ?s3⟩, ?s4⟩, ?s5⟩, ?s6⟩, ?s7⟩, ?s8⟩, ?s9⟩
      case s0 =>
        refine sg_new (k := 0) rfl rfl rfl (by kernel_rfl) fun γ L v a w st => ?_
        have h9 : L 9 = false := by
          cases hq : L 9 with
          | false => rfl
          | true =>
            have q8 := st.down 9 8 hq (by kernel_rfl)
            have q4 := st.down 8 4 q8 (by kernel_rfl)
            have q0 := st.down 4 0 q4 (by kernel_rfl)
            have q99 := st.off; rw [q0] at q99; cases q99
        have h8 : L 8 = false := by
          cases hq : L 8 with
          | false => rfl
          | true =>
            have q4 := st.down 8 4 hq (by kernel_rfl)
            have q0 := st.down 4 0 q4 (by kernel_rfl)
            have q99 := st.off; rw [q0] at q99; cases q99
        have h4 : L 4 = false := by
          cases hq : L 4 with
          | false => rfl
          | true =>
            have q0 := st.down 4 0 hq (by kernel_rfl)
            have q99 := st.off; rw [q0] at q99; cases q99
        have hE := st.inv.ext
        refine ⟨.slice (some ⟨w.heap.size, 0, none⟩) 0 0, w.alloc (.cells #[] 37), by go_simp, ?_⟩
        unfold GAsg GApp
        rw [if_neg (by simp [h9]), if_neg (by simp [h8]), if_neg (by simp [h4]), if_pos (by simp)]
        exact ⟨w.ownsRow_made #[] 0 hE.size (by unfold maxLen; omega) rfl, hE.alloc _⟩
      case s1 =>
        refine sg_val (x := .slice A1 rows.length c1) rfl rfl rfl (GAsg.keep (j := 1) (by decide) (by decide) (by decide) (by decide)) fun γ L v a w st => ?_
        have e0 := st.far 0 (by kernel_rfl)
        simp at e0
        go_simp
      case s2 =>
        refine sg_val (x := .int .i64 (m : Int)) rfl rfl rfl (GAsg.keep (j := 2) (by decide) (by decide) (by decide) (by decide)) fun γ L v a w st => ?_
        have e1 := st.far 1 (by kernel_rfl)
        simp at e1
        go_simp
      case s3 =>
        refine sg_val (x := loV A1 rows.length c1 m 8) rfl rfl rfl (GAsg.keep (j := 3) (by decide) (by decide) (by decide) (by decide)) fun γ L v a w st => ?_
        have e1 := st.val 1 26 rfl (by kernel_rfl)
        rw [show v 1 = _ from st.φ 1 (by kernel_rfl)] at e1
        simp at e1
        have e2 := st.val 2 27 rfl (by kernel_rfl)
        rw [show v 2 = _ from st.φ 2 (by kernel_rfl)] at e2
        simp at e2
        have hr := run_lo (P := Try.prog) (A := A1) (c := c1) (size := 8) Try.underlying22 hiO hzO1 hm w
        simp [execOp, Act.eval, e1, e2, hr, Result.andThen]
      case s4 =>
        refine sg_new (k := 1) rfl rfl rfl (by kernel_rfl) fun γ L v a w st => ?_
        have h9 : L 9 = false := by
          cases hq : L 9 with
          | false => rfl
          | true =>
            have q8 := st.down 9 8 hq (by kernel_rfl)
            have q4 := st.down 8 4 q8 (by kernel_rfl)
            have q99 := st.off; rw [q4] at q99; cases q99
        have h8 : L 8 = false := by
          cases hq : L 8 with
          | false => rfl
          | true =>
            have q4 := st.down 8 4 hq (by kernel_rfl)
            have q99 := st.off; rw [q4] at q99; cases q99
        have h4 : L 4 = false := st.off
        have e0 := st.val 0 25 rfl (by kernel_rfl)
        rw [show v 0 = _ from st.φ 0 (by kernel_rfl)] at e0
        simp at e0
        have e3 := st.val 3 28 rfl (by kernel_rfl)
        rw [show v 3 = _ from st.φ 3 (by kernel_rfl)] at e3
        simp at e3
        have hinv := st.inv
        have hE := hinv.ext
        unfold GAsg GApp at hinv
        rw [if_neg (by rw [h9]; simp), if_neg (by rw [h8]; simp), if_neg (by rw [h4]; simp), if_pos (st.dep 0 (by kernel_rfl))] at hinv
        refine ex_append (P := Try.prog) hinv.1 (hSd.ext hE) (rows_8 _) (rows_one _) 22 Try.underlying22 op_info rfl (by decide) (by decide) (by rw [hl1]; omega) hE.size (.tmp 25) (.tmp 28) rfl (by simp [Act.eval, e0]) (by simp [Act.eval, e3]) fun v' w' hOw hC => ?_
        unfold GAsg GApp
        rw [if_neg (by simp [h9]), if_neg (by simp [h8]), if_pos (by simp)]
        rw [hl1, Nat.zero_add, List.nil_append] at hOw
        exact ⟨by simpa [upd] using hOw, Chg.own_ext hE hC hinv.1 (Nat.le_refl _)⟩
      case s5 =>
        refine sg_val (x := .slice A1 rows.length c1) rfl rfl rfl (GAsg.keep (j := 5) (by decide) (by decide) (by decide) (by decide)) fun γ L v a w st => ?_
        have e0 := st.far 0 (by kernel_rfl)
        simp at e0
        go_simp
      case s6 =>
        refine sg_val (x := .int .i64 (m : Int)) rfl rfl rfl (GAsg.keep (j := 6) (by decide) (by decide) (by decide) (by decide)) fun γ L v a w st => ?_
        have e1 := st.far 1 (by kernel_rfl)
        simp at e1
        go_simp
      case s7 =>
        refine sg_val (x := .slice A1 m c1) rfl rfl rfl (GAsg.keep (j := 7) (by decide) (by decide) (by decide) (by decide)) fun γ L v a w st => ?_
        have e5 := st.val 5 30 rfl (by kernel_rfl)
        rw [show v 5 = _ from st.φ 5 (by kernel_rfl)] at e5
        simp at e5
        have e6 := st.val 6 31 rfl (by kernel_rfl)
        rw [show v 6 = _ from st.φ 6 (by kernel_rfl)] at e6
        simp at e6
        have hr := run_hi (P := Try.prog) (A := A1) (n := rows.length) (c := c1) (m := m) Try.underlying22 hiO (by omega) w
        simp [execOp, Act.eval, e5, e6, hr, Result.andThen]
      case s8 =>
        refine sg_new (k := 2) rfl rfl rfl (by kernel_rfl) fun γ L v a w st => ?_
        have h9 : L 9 = false := by
          cases hq : L 9 with
          | false => rfl
          | true =>
            have q8 := st.down 9 8 hq (by kernel_rfl)
            have q99 := st.off; rw [q8] at q99; cases q99
        have h8 : L 8 = false := st.off
        have e4 := st.val 4 29 rfl (by kernel_rfl)
        rw [show v 4 = _ from st.φ 4 (by kernel_rfl)] at e4
        simp at e4
        have e7 := st.val 7 32 rfl (by kernel_rfl)
        rw [show v 7 = _ from st.φ 7 (by kernel_rfl)] at e7
        simp at e7
        have hinv := st.inv
        have hE := hinv.ext
        unfold GAsg GApp at hinv
        rw [if_neg (by rw [h9]; simp), if_neg (by rw [h8]; simp), if_pos (st.dep 4 (by kernel_rfl))] at hinv
        refine ex_append (P := Try.prog) hinv.1 (hSt.ext hE) (rows_8 _) (rows_one _) 22 Try.underlying22 op_info rfl (by decide) (by decide) (by rw [hl2]; omega) hE.size (.tmp 29) (.tmp 32) rfl (by simp [Act.eval, e4]) (by simp [Act.eval, e7]) fun v' w' hOw hC => ?_
        unfold GAsg GApp
        rw [if_neg (by simp [h9]), if_pos (by simp)]
        rw [hl2] at hOw
        exact ⟨by simpa [upd] using hOw, Chg.own_ext hE hC hinv.1 (Nat.le_refl _)⟩
      case s9 =>
        refine sg_new (k := 3) rfl rfl rfl (by kernel_rfl) fun γ L v a w st => ?_
        have h9 : L 9 = false := st.off
        have e8 := st.val 8 33 rfl (by kernel_rfl)
        rw [show v 8 = _ from st.φ 8 (by kernel_rfl)] at e8
        simp at e8
        have hinv := st.inv
        unfold GAsg GApp at hinv
        rw [if_neg (by rw [h9]; simp), if_pos (st.dep 8 (by kernel_rfl))] at hinv
        refine ⟨γ 2, w, by go_simp, ?_⟩
        unfold GAsg
        rw [if_pos (by simp)]
        exact ⟨by simpa [upd] using hinv.1, hinv.2⟩
    case fin =>
      intro γ L v wx hall hG hφ
      have hE := hG.ext
      unfold GAsg at hG
      rw [if_pos (hall 9 (by decide))] at hG
      have h9 : v 9 = γ 3 := hφ 9 (by decide)
      have hOw := hG.1
      have hflt : ((rows.drop m).map hrow).flatten ++ ((rows.take m).map hrow).flatten = ((rows.drop m ++ rows.take m).map hrow).flatten := by rw [List.map_append, List.flatten_append]
      rw [hflt] at hOw
      have hlr : (rows.drop m ++ rows.take m).length = rows.length - m + m := by simp; omega
      have hperm : (opsOf (rows.drop m ++ rows.take m)).Perm (opsOf rows) := by
        unfold opsOf
        refine List.Perm.map _ ?_
        have := List.perm_append_comm (l₁ := rows.drop m) (l₂ := rows.take m)
        rwa [List.take_append_drop] at this
      have hmem : ∀ z ∈ rows.drop m ++ rows.take m, z ∈ rows := fun z hz => by
        rcases List.mem_append.1 hz with hz | hz
        · exact List.mem_of_mem_drop hz
        · exact List.mem_of_mem_take hz
      have hchk : ChkIn wx (rows.drop m ++ rows.take m) (γ 3) :=
        ⟨Sln.of_own hOw (rows_8 _) (by rw [List.length_map]; exact hlr), fun z hz => Sl.of_own (own_ext (HF.out.rows z (hmem z hz)) (hE3.trans hE)), fun z hz => HF.out.names z (hmem z hz)⟩
      have HCHK := Lib.hid hchk
      have HPERM := Lib.hid hperm
      have HFINE := Lib.hid (fun (o : HOp) (ho : o ∈ opsOf (rows.drop m ++ rows.take m)) => HF.out.fine o (hperm.mem_iff.1 ho))
      have HLR := Lib.hid hlr
      clear hall hφ hG hOw hflt hperm hmem hchk hSd hSt hl1 hl2 hS hlr
      change Exit.then _ _ _ (putAll _ v _ 10) wx
      simp only [putAll, dstOf, Act.put]
      simp only [List.getElem?_toArray, List.getElem?_cons_zero, List.getElem?_cons_succ, Option.bind_some, List.setIfInBounds_toArray, List.set_cons_zero, List.set_cons_succ]
      rw [h9]
      go_wp2_with fail
      refine (check_few HF.out (by omega) wx (hE3.trans hE)).mono ?_
      rintro e w5 ⟨b1, rfl, hb1, hE5⟩
      have HB1 := Lib.hid hb1
      clear hb1
      have HC2 := Lib.hid (check_any w5 _ _ ⟨HCHK.out.ops.ext hE5, fun z hz => (HCHK.out.rows z hz).ext hE5, HCHK.out.xn⟩)
      go_wp2_with fail
      refine HC2.out.mono ?_
      rintro e w6 ⟨⟨b2, n2, rfl, hres⟩, hE6⟩
      obtain ⟨rfl, hb2⟩ := res_fine hres (by rw [opsOf_len, HLR.out]; omega) HFINE.out
      have hbb : b1 = b2 := by rw [Bool.eq_iff_iff, HB1.out, hb2]; exact (lin_perm HPERM.out).symm
      subst hbb
      clear hres hb2
      go_wp2_with fail
      all_goals
        go_ret
        exact ⟨ret_bool (by simp), hE1.trans (hE3.trans (hE.trans (hE5.trans hE6)))⟩
end Go.Proofs.Ytlodaffiamegpaa
