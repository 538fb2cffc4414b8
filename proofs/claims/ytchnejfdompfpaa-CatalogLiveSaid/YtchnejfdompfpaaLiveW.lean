/-
  CatalogLive: the walk.
-/
import Derived.Test.YtchnejfdompfpaaCatLvC
import Derived.Test.YtchnejfdompfpaaLvPlain
namespace Go.Proofs.Ytchnejfdompfpaa
open Go.RowKit Go.Sort

theorem copies_le (L : List Bl) : copiesL L ≤ 2 * L.length := by
  induction L with
  | nil => exact Nat.zero_le _
  | cons b r ih =>
    have : cpN b ≤ 2 := by
      unfold cpN
      have h1 := Bool.toNat_le b.a.there
      have h2 := Bool.toNat_le b.b.there
      omega
    show copiesL r + cpN b ≤ 2 * (r.length + 1)
    omega
theorem lv_le (L : List Bl) : ∀ v, lvL L v ≤ v * L.length
  | 0 => Nat.zero_le _
  | v + 1 => by
    have h1 := lv_le L v
    have h2 := List.length_filter_le (onV v) L
    show lvL L v + _ ≤ _
    rw [Nat.add_mul]; omega
def part (b : Bl) : Nat → Nat
  | 0 => 0
  | 1 => b.a.there.toNat
  | _ => cpN b
theorem part1 {b : Bl} : part b 1 = b.a.there.toNat := rfl
theorem part2 {b : Bl} : part b 2 = b.a.there.toNat + b.b.there.toNat := rfl
theorem putK_wf {m : ByteArray} : (putK m).Wf := ⟨by simp [putK], by simp [putK], by simp [putK], by simp [putK], by simp [putK], by simp [putK], by simp [putK], by simp [putK], by simp [putK], by simp [putK]⟩
theorem delK_wf {m : ByteArray} : (delK m).Wf := ⟨by simp [delK], by simp [delK], by simp [delK], by simp [delK], by simp [delK], by simp [delK], by simp [delK], by simp [delK], by simp [delK], by simp [delK]⟩
set_option maxRecDepth 100000 in
theorem idx0 (a0 a1 a2 a3 a4 a5 : Value) : ∀ w, (Instr.index 42 (.agg #[a0, a1, a2, a3, a4, a5]) (.int .i64 0)).run Try.prog w = .ok (.agg #[a0, a1, a2]) w := fun _ => by first | kernel_rfl | rfl
set_option maxRecDepth 100000 in
theorem idx1 (a0 a1 a2 a3 a4 a5 : Value) : ∀ w, (Instr.index 42 (.agg #[a0, a1, a2, a3, a4, a5]) (.int .i64 1)).run Try.prog w = .ok (.agg #[a3, a4, a5]) w := fun _ => by first | kernel_rfl | rfl
set_option maxRecDepth 100000 in
set_option maxHeartbeats 8000000 in
theorem live_law (w : World) (l : List CRow) (lv : Value) (m : ByteArray) (hl : CmdsIn w l lv) (hm : m.size ≤ maxLen) :
    Calls Try.prog 5 #[lv, .string m] w fun e w' => e = .returned (.bool true) ∧ Ext w w' := by
  obtain ⟨LA, lc, rfl, hlc, hlm⟩ := hl.cap
  have hll := hl.len
  unfold maxLen at hll hlm hm
  have HL := Lib.hid hl
  clear hl
  go_enter Try.func5, Try.ntmps5
  go_wp2_with fail
  obtain ⟨B, hBe⟩ : ∃ B, w.heap.size = B := ⟨_, rfl⟩
  have hwB : w.heap.size ≤ B := by omega
  have hN := cnew_any w
  rw [hBe] at hN
  clear hBe
  refine hN.mono ?_
  rintro e w0 ⟨c, mb, mn, rfl, hC0, hE0⟩
  clear hN
  go_wp2_with fail
  refine (awake_any w0).mono ?_
  rintro e w1 ⟨rfl, hE1⟩
  have X1 := hE0.trans hE1
  have hC1 := hC0.ext hE1
  clear hC0 hE0 hE1
  go_wp2_with fail
  go_loopw [6] (fun kv wr => ∃ (k : Nat) (P : Pm), kv = .int .i64 (k : Int) ∧ k ≤ l.length ∧ k ≤ 30 ∧ CatIn wr B c mb mn P ∧ PInv k P ∧ Ext w wr) (fun kv _ => 30 - (intOf kv).toNat)
  case atStart => exact ⟨0, _, rfl, Nat.zero_le _, Nat.zero_le _, hC1, PInv.empty 0, X1⟩
  case round =>
    clear hC1 X1
    obtain ⟨k, P, rfl, hkl, hk30, hCk, hPk, Xk⟩ := hrel
    obtain ⟨fk, hfk⟩ : ∃ fk : Bool, fk = decide (k < l.length ∧ k < 30) := ⟨_, rfl⟩
    obtain ⟨wo, hwo⟩ : ∃ wo : World, wo = wr := ⟨_, rfl⟩
    go_upto_region 5 with fail
    go_cut [35] from 28 to 35 (fun tv wx => tv = .bool fk ∧ wx = wo)
    case first =>
      clear hCk hPk Xk
      by_cases h1 : k < l.length
      · by_cases h2 : k < 30
        · obtain rfl : fk = true := by rw [hfk]; simp; omega
          clear hfk
          go_wp2_with fail
          go_meet
          case rel => exact ⟨by first | rfl | (simp <;> omega), hwo.symm⟩
        · obtain rfl : fk = false := by rw [hfk]; simp; omega
          clear hfk
          go_wp2_with fail
          go_meet
          case rel => exact ⟨by first | rfl | (simp <;> omega), hwo.symm⟩
      · obtain rfl : fk = false := by rw [hfk]; simp; omega
        clear hfk
        go_wp2_with fail
        go_meet
        case rel => exact ⟨by first | rfl | (simp <;> omega), hwo.symm⟩
    case rest =>
      obtain ⟨rfl, hwc⟩ := hcut
      subst hwc
      subst hwo
      cases fk
      · clear hfk
        go_wp2_with fail
        have hlen := hPk.len
        go_loopw [9, 7] (fun vv nv wr => ∃ v : Nat, vv = .int .i64 (v : Int) ∧ v ≤ 12 ∧ nv = .int .i64 ((lvL P.L v : Nat) : Int) ∧ CatIn wr B c mb mn P ∧ Ext w wr) (fun vv _ _ => 12 - (intOf vv).toNat)
        case atStart => exact ⟨0, rfl, Nat.zero_le _, rfl, hCk, Xk⟩
        case round =>
          clear hCk Xk
          obtain ⟨v, rfl, hv, rfl, hCv, Xv⟩ := hrel
          by_cases hlt : v < 12
          · have HV := Lib.hid (clive_any hCv hPk (by omega) v hlt)
            have h1 := lv_le P.L v
            have h2 := List.length_filter_le (onV v) P.L
            have h3 : v * P.L.length ≤ 12 * 30 := Nat.mul_le_mul (by omega) (by omega)
            have HLV := Lib.hid (show lvL P.L (v + 1) = lvL P.L v + (P.L.filter (onV v)).length from rfl)
            have hb1 : lvL P.L v ≤ 360 := by omega
            have hb2 : (P.L.filter (onV v)).length ≤ 30 := by omega
            clear h1 h2 h3
            go_wp2_with fail
            refine HV.out.mono ?_
            rintro e w2 ⟨rfl, hE2⟩
            have hC2 := hCv.ext hE2
            have X2 := Xv.trans hE2
            clear HV hCv Xv hE2
            go_wp2_with fail
            go_roundw
            case rel => exact ⟨v + 1, by go_num, by omega, by rw [HLV.out]; go_num, hC2, X2⟩
            case measure => simp [intOf]; omega
          · obtain rfl : v = 12 := by omega
            rw [live_sum hPk.bl]
            obtain ⟨q, hq⟩ : ∃ q, copiesL P.L = q := ⟨_, rfl⟩
            have HQ := Lib.hid hq
            rw [hq]
            clear hq
            have HB := Lib.hid (cblobs_any hCv hPk (by omega))
            go_wp2_with fail
            refine HB.out.mono ?_
            rintro e w2 ⟨bA, bc, rfl, hBI, hE2⟩
            obtain ⟨DV, hDV, hSB, hDD⟩ := bl_rows hBI
            have hC2 := hCv.ext hE2
            have X2 := Xv.trans hE2
            have HDV := Lib.hid hDV
            have HDD := Lib.hid hDD
            clear HB hCv Xv hE2 hBI hDV hDD
            go_wp2_with fail
            go_loopw [8, 61] (fun nv iv wr => ∃ i : Nat, iv = .int .i64 (i : Int) ∧ i ≤ P.L.length ∧ nv = .int .i64 ((copiesL (P.L.take i) : Nat) : Int) ∧ Ext w2 wr) (fun _ iv _ => P.L.length - (intOf iv).toNat)
            case atStart => exact ⟨0, rfl, Nat.zero_le _, rfl, Ext.refl w2⟩
            case round =>
              obtain ⟨i, rfl, hil, rfl, hEi⟩ := hrel
              by_cases hlt : i < P.L.length
              · obtain ⟨b, hb⟩ : ∃ b, P.L[i]? = some b := ⟨_, List.getElem?_eq_getElem hlt⟩
                obtain ⟨dv, hdv⟩ : ∃ dv, DV[i]? = some (b, dv) := by
                  have e := hb
                  rw [← HDV.out, List.getElem?_map] at e
                  obtain ⟨⟨b', dv⟩, h1, h2⟩ := Option.map_eq_some_iff.1 e
                  have h2' : b' = b := h2
                  subst h2'
                  exact ⟨dv, h1⟩
                obtain ⟨dA, dc, rfl⟩ : ∃ A c, dv = .slice A b.disks.length c := own_slc (HDD.out _ (List.mem_of_getElem? hdv))
                have hS := hSB.ext hEi
                obtain ⟨rb, ro, rfl⟩ := cmds_some hS (fun e => by
                  have h0 := List.map_eq_nil_iff.1 e
                  rw [h0] at hdv; simp at hdv)
                obtain ⟨r0, r1, r2, r3, r4, r5, r6, r7, r8, r9, r10, r11, r12⟩ := bl_cells hS hdv
                have hYb := At.new wr 44 (blCells b (.slice dA b.disks.length dc))
                have hEb := hEi.alloc (.cells (blCells b (.slice dA b.disks.length dc)) 44)
                have htk : copiesL (P.L.take (i + 1)) = copiesL (P.L.take i) + cpN b := by
                  rw [List.take_add_one, hb]; exact copies_snoc _ _
                have hcl := copies_le (P.L.take i)
                have hql : copiesL (P.L.take i) ≤ 60 := by
                  rw [List.length_take] at hcl; omega
                have HTK := Lib.hid htk
                clear htk hcl hb hdv hS
                generalize copiesL (P.L.take i) = q0 at *
                go_upto_region 17 with fail
                clear r0 r1 r2 r3 r4 r5 r6 r7 r8 r9 r10 r11 r12
                generalize hyb : wr.heap.size = yb at *
                generalize wr.alloc _ = W1 at *
                have q5 := hYb.cell 5
                have q6 := hYb.cell 6
                have q7 := hYb.cell 7
                have q8 := hYb.cell 8
                have q9 := hYb.cell 9
                have q10 := hYb.cell 10
                simp at q5 q6 q7 q8 q9 q10
                go_wp2_with fail
                clear q5 q6 q7 q8 q9 q10 hYb
                have i0 := idx0 (.bool b.a.there) (.int .i64 b.a.vol) (.int .i64 b.a.at_) (.bool b.b.there) (.int .i64 b.b.vol) (.int .i64 b.b.at_)
                have i1 := idx1 (.bool b.a.there) (.int .i64 b.a.vol) (.int .i64 b.a.at_) (.bool b.b.there) (.int .i64 b.b.vol) (.int .i64 b.b.at_)
                go_loopw [8, 67] (fun nv jv wx => ∃ j : Nat, jv = .int .i64 (j : Int) ∧ j ≤ 2 ∧ nv = .int .i64 ((q0 + part b j : Nat) : Int) ∧ Ext w2 wx) (fun _ jv _ => 2 - (intOf jv).toNat)
                case atStart => exact ⟨0, rfl, Nat.zero_le _, rfl, hEb⟩
                case round =>
                  clear hEb
                  obtain ⟨j, rfl, hj, rfl, hEj⟩ := hrel
                  have hj3 : j = 0 ∨ j = 1 ∨ j = 2 := by omega
                  rcases hj3 with rfl | rfl | rfl
                  · have e0 : part b 0 = 0 := rfl
                    have HP := Lib.hid (part1 (b := b))
                    have hEc := hEj.alloc (.cells #[.bool b.a.there, .int .i64 b.a.vol, .int .i64 b.a.at_] 41)
                    rw [e0]
                    clear e0
                    cases ha : b.a.there
                    · rw [ha] at HP hEc i0 i1
                      have HP1 := HP.out
                      clear HP
                      go_wp2_with fail
                      go_roundw
                      case rel => exact ⟨1, by go_num, by omega, by rw [HP1]; go_num, hEc⟩
                      case measure => simp [intOf]
                    · rw [ha] at HP hEc i0 i1
                      have HP1 := HP
                      clear HP
                      go_wp2_with fail
                      go_roundw
                      case rel => exact ⟨1, by go_num, by omega, by rw [HP1.out]; go_num, hEc⟩
                      case measure => simp [intOf]
                  · have HP := Lib.hid (part2 (b := b))
                    have hp1 : part b 1 ≤ 1 := Bool.toNat_le _
                    have HP1 := Lib.hid (part1 (b := b))
                    generalize part b 1 = p1 at *
                    have hEc := hEj.alloc (.cells #[.bool b.b.there, .int .i64 b.b.vol, .int .i64 b.b.at_] 41)
                    cases ha : b.b.there
                    · rw [ha] at HP hEc i0 i1
                      go_wp2_with fail
                      go_roundw
                      case rel => exact ⟨2, by go_num, by omega, by rw [HP.out, ← HP1.out]; go_num, hEc⟩
                      case measure => simp [intOf]
                    · rw [ha] at HP hEc i0 i1
                      go_wp2_with fail
                      go_roundw
                      case rel => exact ⟨2, by go_num, by omega, by rw [HP.out, ← HP1.out]; go_num, hEc⟩
                      case measure => simp [intOf]
                  · have hpc : part b 2 = cpN b := rfl
                    rw [hpc]
                    have HC : Hid (q0 + cpN b = copiesL (P.L.take (i + 1))) := Lib.hid HTK.out.symm
                    rw [HC.out]
                    clear hpc
                    go_wp2_with fail
                    go_roundw
                    case rel => exact ⟨i + 1, by go_num, by omega, rfl, hEj⟩
                    case measure => simp [intOf]; omega
              · obtain rfl : i = P.L.length := by omega
                rw [List.take_of_length_le (Nat.le_refl _), HQ.out]
                have hC3 := hC2.ext hEi
                have X3 := X2.trans hEi
                clear hC2 X2 hEi
                cases hfd : P.find 1152921504606846976 with
                | some b6 =>
                  have HB6 := Lib.hid (cblob_some hC3 hPk 1152921504606846976 hfd)
                  clear hC3 hSB hfd
                  go_wp2_with fail
                  refine HB6.out.mono ?_
                  rintro e w4 ⟨A4, c4, rfl, _, hE4⟩
                  have X4 := (X3.trans hE4).alloc (.cells (blCells b6 (.slice A4 b6.disks.length c4)) 44)
                  clear HB6 X3 hE4
                  go_wp2_with fail
                  go_ret
                  exact ⟨ret_bool (by simp), X4⟩
                | none =>
                  have HB6 := Lib.hid (cblob_none hC3 hPk 1152921504606846976 hfd)
                  clear hSB
                  go_wp2_with fail
                  refine HB6.out.mono ?_
                  rintro e w4 ⟨rfl, hE4⟩
                  have hC5 := hC3.ext (hE4.alloc (.cells blZero 44))
                  have X5 := X3.trans (hE4.alloc (.cells blZero 44))
                  clear HB6 X3 hE4 hC3
                  by_cases h0 : m = ByteArray.empty
                  · have e1 : m.toList.isEmpty = true := by rw [h0, Lib.toList_data]; rfl
                    clear h0
                    go_wp2_with fail
                    go_ret
                    exact ⟨ret_bool (by simp), X5⟩
                  · have e1 : m.toList.isEmpty = false := by
                      cases he : m.toList.isEmpty
                      · rfl
                      · exact absurd (toList_inj.1 (by rw [List.isEmpty_iff.1 he, Lib.toList_data]; rfl)) h0
                    by_cases h1 : m.size ≤ 32
                    · obtain ⟨P1, P2, e2, hi1, e3, hi2, hn⟩ := put_del hPk h0 h1 hfd putK_wf delK_wf
                      clear hfd h0
                      have HE2 := Lib.hid e2
                      have HE3 := Lib.hid e3
                      clear e2 e3
                      have h33 : ¬ (32 : Int) < (m.size : Int) := by omega
                      go_upto_region 27 with fail
                      generalize w4.alloc _ = W5 at hC5 X5 ⊢
                      go_wp2_with fail
                      refine (disk_any _ _ [1] (sl_one W5 1) (by decide)).mono ?_
                      rintro e w6 ⟨v, rfl, hown, hE6⟩
                      rw [disk_1] at hown
                      obtain ⟨dA, dc, rfl⟩ := own_slc hown
                      have hE56 := ((Ext.refl W5).alloc (.cells #[.int .i64 1] 3)).trans hE6
                      have X6 := X5.trans hE56
                      have hC6 := hC5.ext hE56
                      have H1 := Lib.hid (capply_lit 0 0 hC6 hPk (by omega) (putK m) _ (own_base0 hown) putK_wf (by show (1 : Nat) ≤ 6; omega) (by show m.size ≤ 100; omega) (args := .agg #[.int .i64 1, .int .i64 0, .int .i64 0, .string m, .int .u64 1152921504606846976, .int .i64 0, .int .u32 0, .slice dA 1 dc, .int .i64 0, .int .i64 0, .int .i64 0]) rfl HE2.out rfl rfl)
                      clear hE6 hE56 hown hC5 hC6 X5
                      go_wp2_with fail
                      refine H1.out.mono ?_
                      rintro e w7 ⟨A7, c7, rfl, hC7, hK7⟩
                      have X7 : Ext w w7 := Kp.ext X6 hK7 hwB
                      have H2 := Lib.hid (capply_lit 1152921504606846976 0 hC7 hi1 (by omega) (delK m) _ (own_nil _ 0 _) delK_wf (by show (0 : Nat) ≤ 6; omega) (by show m.size ≤ 100; omega) (args := .agg #[.int .i64 3, .int .i64 0, .int .i64 0, .string m, .int .u64 0, .int .i64 0, .int .u32 0, .slice none 0 0, .int .i64 0, .int .i64 0, .int .i64 0]) rfl HE3.out rfl rfl)
                      clear H1 hK7 hC7 X6
                      go_wp2_with fail
                      refine H2.out.mono ?_
                      rintro e w8 ⟨A8, c8, rfl, hC8, hK8⟩
                      have X8 : Ext w w8 := Kp.ext X7 hK8 hwB
                      have hR8 := At.new w8 31 (rCells 0 1152921504606846976 0 0 A8 c8)
                      have hE8 := (Ext.refl w8).alloc (.cells (rCells 0 1152921504606846976 0 0 A8 c8) 31)
                      have X9 := X8.trans hE8
                      have HN := Lib.hid (cnamed_none (hC8.ext hE8) hi2 m hn)
                      clear H2 hK8 X7 hC8 X8 hE8
                      go_wp2_with fail
                      refine HN.out.mono ?_
                      rintro e w9 ⟨rfl, hE9⟩
                      have hR9 := (hR8.ext hE9).alloc (.cells blZero 44)
                      have r0 := hR9.cell 0
                      simp at r0
                      have X10 := (X9.trans hE9).alloc (.cells blZero 44)
                      clear HN hR8 hR9 X9 hE9
                      go_wp2_with fail
                      go_ret
                      exact ⟨ret_bool (by simp), X10⟩
                    · go_wp2_with fail
                      go_ret
                      exact ⟨ret_bool (by simp), X5⟩
      · have hfk2 : k < l.length ∧ k < 30 := by simpa using hfk.symm
        obtain ⟨hlt, hlt30⟩ := hfk2
        clear hfk
        obtain ⟨⟨x, dv⟩, hx⟩ : ∃ x, l[k]? = some x := ⟨_, List.getElem?_eq_getElem hlt⟩
        have hin : x.In dv wc := (HL.out.row _ (List.mem_of_getElem? hx)).ext Xk
        have hS := HL.out.ops.ext Xk
        obtain ⟨lb, lo, rfl⟩ := cmds_some hS (fun e => by
          have := List.map_eq_nil_iff.1 e
          subst this; simp at hlt)
        obtain ⟨r0, r1, r2, r3, r4, r5, r6, r7, r8, r9, r10⟩ := crow_cells hS hx
        have HF := Lib.hid (few_any wc x dv hin)
        have HIN := Lib.hid hin
        have HX := Lib.hid hx
        clear hin hx hS
        go_wp2_with fail
        refine HF.out.mono ?_
        rintro e w2 ⟨fA, fc, rfl, hO2, hE2⟩
        have hdl := fewC_dl x
        have hnl : (fewC x).name.size ≤ 40 := cut_size x.name 40
        have HA := Lib.hid (capply_any (hCk.ext hE2) hPk (by omega) (fewC x) _ (own_base0 hO2) (by omega) (by omega) (fewC_wf HIN.out.wf))
        have X2 := Xk.trans hE2
        clear r0 r1 r2 r3 r4 r5 r6 r7 r8 r9 r10 HF hCk hO2 hE2 hdl hnl Xk
        go_wp2_with fail
        refine HA.out.mono ?_
        rintro e w3 ⟨A3, c3, rfl, _, hC3, hK3⟩
        have X3 : Ext w w3 := Kp.ext X2 hK3 hwB
        clear HA hK3 X2
        go_wp2_with fail
        go_roundw
        case rel => exact ⟨k + 1, _, by go_num, by omega, by omega, hC3, hPk.app (fewC_wf HIN.out.wf), X3⟩
        case measure => simp [intOf]; omega
end Go.Proofs.Ytchnejfdompfpaa
