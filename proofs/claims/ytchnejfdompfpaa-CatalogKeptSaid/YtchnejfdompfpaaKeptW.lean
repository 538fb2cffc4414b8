/-
  CatalogKept: the walk.
-/
import Derived.Test.YtchnejfdompfpaaCatLvC
import Derived.Test.YtchnejfdompfpaaKeptPlain
namespace Go.Proofs.Ytchnejfdompfpaa
open Go.RowKit Go.Sort

theorem field_erase (a b : Bool) (g : Int) (w : World) : (Instr.field 47 (.agg #[.bool a, .bool b, .int .i64 g]) 1).run Try.prog w = .ok (.bool b) w := by kernel_rfl
set_option maxRecDepth 100000 in
theorem kidx0 (a0 a1 a2 a3 a4 a5 : Value) : ∀ w, (Instr.index 42 (.agg #[a0, a1, a2, a3, a4, a5]) (.int .i64 0)).run Try.prog w = .ok (.agg #[a0, a1, a2]) w := fun _ => by first | kernel_rfl | rfl
set_option maxRecDepth 100000 in
theorem kidx1 (a0 a1 a2 a3 a4 a5 : Value) : ∀ w, (Instr.index 42 (.agg #[a0, a1, a2, a3, a4, a5]) (.int .i64 1)).run Try.prog w = .ok (.agg #[a3, a4, a5]) w := fun _ => by first | kernel_rfl | rfl
/-- the command that asks for all names -/
def l4 : Cmd := ⟨4, 0, 0, ⟨#[]⟩, 0, 0, 0, [], 0, 0, 0⟩
theorem l4_app (P : Pm) : P.app l4 = (P, ⟨0, 0, 0, 0, namesL P.L⟩) := by kernel_rfl
theorem l4_wf : l4.Wf := ⟨by decide, by decide, by decide, by decide, by decide, by decide, by decide, by decide, by decide, fun d h => by cases h⟩
theorem S_lt {w : World} {B c mb mn : Nat} {C : Ct} (h : CtAt w B c mb mn C) : ∀ k, C.S c mb mn k → k < w.heap.size := by
  rintro k (rfl | rfl | rfl | ⟨r, hr, rfl⟩)
  · exact h.blk.lt
  · exact h.bm.lt
  · exact h.nm.lt
  · exact (h.bl r hr).1.lt
theorem clist_any {w0 w : World} {B c mb mn n : Nat} {P : Pm} (h0 : CatIn w0 B c mb mn P) (hE : Ext w0 w) (hi : PInv n P) (hn : n ≤ 1000000) :
    Calls Try.prog 9 #[.pointer (some ⟨c, 0, none⟩), .agg #[.int .i64 4, .int .i64 0, .int .i64 0, .string ⟨#[]⟩, .int .u64 0, .int .i64 0, .int .u32 0, .slice none 0 0, .int .i64 0, .int .i64 0, .int .i64 0]] w
      fun e w' => ∃ A cp, e = .returned (.agg #[.int .i64 0, .int .u64 0, .int .i64 0, .int .u32 0, .slice A (liveN P.L) cp]) ∧ CatIn w' B c mb mn P ∧ Kp B w w' ∧ Chg (fun k => k < w0.heap.size) w w' := by
  obtain ⟨C, hC, hR⟩ := h0
  refine (app_any w B c mb mn C P n (hC.ext hE) hR hi hn l4 _ (own_nil _ 0 _) (by decide) (by decide) l4_wf).mono ?_
  rintro e w' ⟨nv, rfl, hON, C', h1, h2, h3⟩
  rw [l4_app] at hON h2
  obtain ⟨A, cp, rfl⟩ := own_slc hON
  rw [l4_app]
  refine ⟨A, cp, ?_, ⟨C', h1, h2⟩, Kp.of_S (hC.ext hE) h3, h3.mono fun k _ hk => S_lt hC k hk⟩
  show Ending.returned (resV 0 0 0 0 (.slice A (namesL P.L).length cp)) = _
  rw [names_len]
  rfl
set_option maxRecDepth 100000 in
set_option maxHeartbeats 8000000 in
theorem kept_law (w : World) (l : List CRow) (lv : Value) (hl : CmdsIn w l lv) :
    Calls Try.prog 3 #[lv] w fun e w' => e = .returned (.bool true) ∧ Ext w w' := by
  obtain ⟨LA, lc, rfl, hlc, hlm⟩ := hl.cap
  have hll := hl.len
  unfold maxLen at hll hlm
  have HL := Lib.hid hl
  clear hl
  go_enter Try.func3, Try.ntmps3
  go_wp2_with fail
  obtain ⟨B, hBe⟩ : ∃ B, w.heap.size = B := ⟨_, rfl⟩
  have hwB : w.heap.size ≤ B := by omega
  have hN := cnew_any w
  rw [hBe] at hN
  clear hBe
  refine hN.mono ?_
  rintro e w0 ⟨c, mb, mn, rfl, hC0, hE0⟩
  clear hN
  go_wp2_with fail
  refine (awake_any w0).mono ?_
  rintro e w1 ⟨rfl, hE1⟩
  have X1 := hE0.trans hE1
  have hC1 := hC0.ext hE1
  clear hC0 hE0 hE1
  go_wp2_with fail
  go_loopw [4] (fun kv wr => ∃ (k : Nat) (P : Pm), kv = .int .i64 (k : Int) ∧ k ≤ l.length ∧ k ≤ 40 ∧ CatIn wr B c mb mn P ∧ PInv k P ∧ KInv P ∧ Ext w wr) (fun kv _ => 40 - (intOf kv).toNat)
  case atStart => exact ⟨0, _, rfl, Nat.zero_le _, Nat.zero_le _, hC1, PInv.empty 0, KInv.empty, X1⟩
  case round =>
    clear hC1 X1
    obtain ⟨k, P, rfl, hkl, hk40, hCk, hPk, hKk, Xk⟩ := hrel
    obtain ⟨fk, hfk⟩ : ∃ fk : Bool, fk = decide (k < l.length ∧ k < 40) := ⟨_, rfl⟩
    obtain ⟨wo, hwo⟩ : ∃ wo : World, wo = wr := ⟨_, rfl⟩
    go_upto_region 5 with fail
    go_cut [25] from 18 to 25 (fun tv wx => tv = .bool fk ∧ wx = wo)
    case first =>
      clear hCk hPk hKk Xk
      by_cases h1 : k < l.length
      · by_cases h2 : k < 40
        · obtain rfl : fk = true := by rw [hfk]; simp; omega
          clear hfk
          go_wp2_with fail
          go_meet
          case rel => exact ⟨by first | rfl | (simp <;> omega), hwo.symm⟩
        · obtain rfl : fk = false := by rw [hfk]; simp; omega
          clear hfk
          go_wp2_with fail
          go_meet
          case rel => exact ⟨by first | rfl | (simp <;> omega), hwo.symm⟩
      · obtain rfl : fk = false := by rw [hfk]; simp; omega
        clear hfk
        go_wp2_with fail
        go_meet
        case rel => exact ⟨by first | rfl | (simp <;> omega), hwo.symm⟩
    case rest =>
      obtain ⟨rfl, hwc⟩ := hcut
      subst hwc
      subst hwo
      cases fk
      · clear hfk
        go_wp2_with fail
        go_ret
        exact ⟨rfl, Xk⟩
      · have hfk2 : k < l.length ∧ k < 40 := by simpa using hfk.symm
        obtain ⟨hlt, hlt40⟩ := hfk2
        clear hfk
        obtain ⟨⟨x, dv⟩, hx⟩ : ∃ x, l[k]? = some x := ⟨_, List.getElem?_eq_getElem hlt⟩
        have hin : x.In dv wc := (HL.out.row _ (List.mem_of_getElem? hx)).ext Xk
        have hS := HL.out.ops.ext Xk
        obtain ⟨lb, lo, rfl⟩ := cmds_some hS (fun e => by
          have := List.map_eq_nil_iff.1 e
          subst this; simp at hlt)
        obtain ⟨r0, r1, r2, r3, r4, r5, r6, r7, r8, r9, r10⟩ := crow_cells hS hx
        have HF := Lib.hid (few_any wc x dv hin)
        have HIN := Lib.hid hin
        have HX := Lib.hid hx
        clear hin hx hS
        go_wp2_with fail
        refine HF.out.mono ?_
        rintro e w2 ⟨fA, fc, rfl, hO2, hE2⟩
        have hdl := fewC_dl x
        have hnl : (fewC x).name.size ≤ 40 := cut_size x.name 40
        have HA := Lib.hid (capply_any (hCk.ext hE2) hPk (by omega) (fewC x) _ (own_base0 hO2) (by omega) (by omega) (fewC_wf HIN.out.wf))
        have X2 := Xk.trans hE2
        clear r0 r1 r2 r3 r4 r5 r6 r7 r8 r9 r10 HF hCk hO2 hE2 hdl hnl Xk
        go_wp2_with fail
        refine HA.out.mono ?_
        rintro e w3 ⟨A3, c3, rfl, _, hC3, hK3⟩
        have X3 : Ext w w3 := Kp.ext X2 hK3 hwB
        clear HA hK3 X2
        have hK4 := hKk.app hPk (fewC x)
        have hP4 := hPk.app (fewC_wf HIN.out.wf)
        clear hKk hPk HIN HX
        generalize (P.app (fewC x)).1 = P4 at *
        have hmm := @run_makeMap Try.prog
        go_upto_region 9 with fail
        clear hmm
        have hM4 := MapAt.new strWay Value.bool w3
        have hE4 := (Ext.refl w3).alloc (.map #[] 0)
        generalize hnb : w3.heap.size = nb at *
        generalize w3.alloc _ = w4 at *
        have HB := Lib.hid (cblobs_any (hC3.ext hE4) hP4 (by omega))
        go_wp2_with fail
        refine HB.out.mono ?_
        rintro e w5 ⟨bA, bc, rfl, hBI, hE5⟩
        obtain ⟨DV, hDV, hSB, hDD⟩ := bl_rows hBI
        have hE35 := hE4.trans hE5
        have hM5 := hM4.ext hE5
        have HDV := Lib.hid hDV
        have HDD := Lib.hid hDD
        clear HB hBI hDV hDD hE4 hE5 hM4
        go_wp2_with fail
        go_loopw [39] (fun iv wr => ∃ (i : Nat) (NL : List (ByteArray × Bool)), iv = .int .i64 (i : Int) ∧ i ≤ P4.L.length ∧ MapAt strWay Value.bool wr nb NL ∧ NL.map (·.1) = nmUp P4.L i ∧ Sln wr (.slice bA P4.L.length bc) 13 (DV.map blRow) ∧ Ext w3 wr) (fun iv _ => P4.L.length - (intOf iv).toNat)
        case atStart => exact ⟨0, [], rfl, Nat.zero_le _, hM5, rfl, hSB, hE35⟩
        case round =>
          clear hM5 hSB hE35
          obtain ⟨i, NL, rfl, hil, hMi, hNL, hSi, hEi⟩ := hrel
          by_cases hlt : i < P4.L.length
          · obtain ⟨b, hb⟩ : ∃ b, P4.L[i]? = some b := ⟨_, List.getElem?_eq_getElem hlt⟩
            obtain ⟨dv, hdv⟩ : ∃ dv, DV[i]? = some (b, dv) := by
              have e := hb
              rw [← HDV.out, List.getElem?_map] at e
              obtain ⟨⟨b', dv⟩, h1, h2⟩ := Option.map_eq_some_iff.1 e
              have h2' : b' = b := h2
              subst h2'
              exact ⟨dv, h1⟩
            obtain ⟨dA, dc, rfl⟩ : ∃ A c, dv = .slice A b.disks.length c := own_slc (HDD.out _ (List.mem_of_getElem? hdv))
            obtain ⟨rb, ro, rfl⟩ := cmds_some hSi (fun e => by
              have h0 := List.map_eq_nil_iff.1 e
              rw [h0] at hdv; simp at hdv)
            obtain ⟨r0, r1, r2, r3, r4, r5, r6, r7, r8, r9, r10, r11, r12⟩ := bl_cells hSi hdv
            have hbm := List.mem_of_getElem? hb
            have kb := hK4.bl b hbm
            have bk := hP4.bl b hbm
            have HBH := Lib.hid (And.intro hb (And.intro kb bk))
            have hYb := At.new wr 44 (blCells b (.slice dA b.disks.length dc))
            have hEb := (Ext.refl wr).alloc (.cells (blCells b (.slice dA b.disks.length dc)) 44)
            have HDI := Lib.hid hdv
            clear hb hdv hbm kb bk
            go_upto_region 12 with fail
            clear r0 r1 r2 r3 r4 r5 r6 r7 r8 r9 r10 r11 r12
            generalize hyb : wr.heap.size = yb at *
            generalize wr.alloc _ = W1 at *
            have q4 := hYb.cell 4
            have q5 := hYb.cell 5
            have q8 := hYb.cell 8
            have hyl := hYb.lt
            simp at q4 q5 q8
            go_cut [60] from 43 to 60 (fun tv wx => tv = .bool false ∧ wx = W1)
            case first =>
              have ks := HBH.out.2.1.some_
              clear hMi hNL hSi hEi hYb hEb hK4 hP4
              by_cases hd : b.disks = []
              · have hdl : (b.disks.length : Int) = 0 := by rw [hd]; rfl
                rcases Bool.eq_false_or_eq_true b.a.there with ha | ha
                · rw [ha] at q5
                  clear ks hd ha
                  go_wp2_with fail
                  go_meet
                  case rel => exact ⟨rfl, rfl⟩
                · have hbt : b.b.there = true := by
                    rcases ks with k | k | k
                    · exact absurd hd k
                    · rw [ha] at k; cases k
                    · exact k
                  rw [ha] at q5
                  rw [hbt] at q8
                  clear ks hd ha hbt
                  go_wp2_with fail
                  go_meet
                  case rel => exact ⟨rfl, rfl⟩
              · have hdl : ((b.disks.length : Int) == 0) = false := by
                  rw [beq_eq_false_iff_ne]
                  intro e
                  exact hd (List.length_eq_zero_iff.1 (by omega))
                clear ks hd
                go_wp2_with fail
                go_meet
                case rel => exact ⟨rfl, rfl⟩
            case rest =>
              obtain ⟨rfl, hwc⟩ := hcut
              subst hwc
              clear q4 q5 q8
              obtain ⟨va, hva, hva2, hva3⟩ := cpa HBH.out.2.2
              obtain ⟨vb, hvb, hvb2, hvb3⟩ := cpb HBH.out.2.2
              have q5 := hYb.cell 5
              have q6 := hYb.cell 6
              have q7 := hYb.cell 7
              have q8 := hYb.cell 8
              have q9 := hYb.cell 9
              have q10 := hYb.cell 10
              simp at q5 q6 q7 q8 q9 q10
              rw [hva] at q6
              rw [hvb] at q9
              have HVA := Lib.hid (And.intro hva hva3)
              have HVB := Lib.hid (And.intro hvb hvb3)
              clear hva hvb hva3 hvb3
              have i0 := kidx0 (.bool b.a.there) (.int .i64 (va : Int)) (.int .i64 b.a.at_) (.bool b.b.there) (.int .i64 (vb : Int)) (.int .i64 b.b.at_)
              have i1 := kidx1 (.bool b.a.there) (.int .i64 (va : Int)) (.int .i64 b.a.at_) (.bool b.b.there) (.int .i64 (vb : Int)) (.int .i64 b.b.at_)
              go_wp2_with fail
              clear q5 q6 q7 q8 q9 q10
              go_loopw [63] (fun jv wx => ∃ j : Nat, jv = .int .i64 (j : Int) ∧ j ≤ 2 ∧ Ext wc wx) (fun jv _ => 2 - (intOf jv).toNat)
              case atStart => exact ⟨0, rfl, Nat.zero_le _, Ext.refl wc⟩
              case round =>
                obtain ⟨j, rfl, hj, hEj⟩ := hrel
                have hj3 : j = 0 ∨ j = 1 ∨ j = 2 := by omega
                rcases hj3 with rfl | rfl | rfl
                · have hEc := hEj.alloc (.cells #[.bool b.a.there, .int .i64 (va : Int), .int .i64 b.a.at_] 41)
                  have HK := Lib.hid HBH.out.2.1.a
                  rcases Bool.eq_false_or_eq_true b.a.there with ha | ha
                  · have h0 : va % 2 = 0 := HVA.out.2 ha
                    have her := HK.out ha
                    rw [HVA.out.1] at her
                    have hex : (P4.vol va).erase = false := her
                    have HP : Hid (∀ W, Calls Try.prog 12 #[.int .i64 (va : Int)] W fun e w' => e = .returned (.int .i64 0) ∧ W = w') := Lib.hid (fun W => by
                      have h := pool_any W va hva2
                      rw [h0] at h
                      exact h)
                    have HV : Hid (∀ W, Ext w3 W → Calls Try.prog 13 #[.pointer (some ⟨c, 0, none⟩), .int .i64 (va : Int)] W fun e w' => e = .returned (.agg #[.bool (P4.vol va).closed, .bool false, .int .i64 (P4.vol va).gen]) ∧ Ext W w') := Lib.hid (fun W hW => by
                      have h := cvol_any (hC3.ext hW) va hva2
                      unfold vlAgg at h
                      rw [hex] at h
                      exact h)
                    have i0' : ∀ w, (Instr.index 42 (.agg #[.bool b.a.there, .int .i64 (va : Int), .int .i64 b.a.at_, .bool b.b.there, .int .i64 (vb : Int), .int .i64 b.b.at_]) (.int .i64 0)).run Try.prog w = .ok (.agg #[.bool true, .int .i64 (va : Int), .int .i64 b.a.at_]) w := fun w => by rw [i0 w, ha]
                    rw [ha] at hEc
                    clear i0 i1 ha
                    clear h0 her hex HK HVB
                    go_wp2_with fail
                    refine (HP.out _).mono ?_
                    rintro e w6 ⟨rfl, hw⟩
                    subst hw
                    go_wp2_with fail
                    refine (HV.out _ (hEi.trans (hEb.trans hEc))).mono ?_
                    rintro e w7 ⟨rfl, hE7⟩
                    have hfe := field_erase
                    have hE8 := hEc.trans hE7
                    go_wp2_with fail
                    go_roundw
                    case rel => exact ⟨0+1, by go_num, by omega, hE8⟩
                    case measure => simp [intOf]
                  · have i0' : ∀ w, (Instr.index 42 (.agg #[.bool b.a.there, .int .i64 (va : Int), .int .i64 b.a.at_, .bool b.b.there, .int .i64 (vb : Int), .int .i64 b.b.at_]) (.int .i64 0)).run Try.prog w = .ok (.agg #[.bool false, .int .i64 (va : Int), .int .i64 b.a.at_]) w := fun w => by rw [i0 w, ha]
                    rw [ha] at hEc
                    clear i0 i1 ha
                    go_wp2_with fail
                    go_roundw
                    case rel => exact ⟨0+1, by go_num, by omega, hEc⟩
                    case measure => simp [intOf]
                · have hEc := hEj.alloc (.cells #[.bool b.b.there, .int .i64 (vb : Int), .int .i64 b.b.at_] 41)
                  have HK := Lib.hid HBH.out.2.1.b
                  rcases Bool.eq_false_or_eq_true b.b.there with ha | ha
                  · have h0 : vb % 2 = 1 := HVB.out.2 ha
                    have her := HK.out ha
                    rw [HVB.out.1] at her
                    have hex : (P4.vol vb).erase = false := her
                    have HP : Hid (∀ W, Calls Try.prog 12 #[.int .i64 (vb : Int)] W fun e w' => e = .returned (.int .i64 1) ∧ W = w') := Lib.hid (fun W => by
                      have h := pool_any W vb hvb2
                      rw [h0] at h
                      exact h)
                    have HV : Hid (∀ W, Ext w3 W → Calls Try.prog 13 #[.pointer (some ⟨c, 0, none⟩), .int .i64 (vb : Int)] W fun e w' => e = .returned (.agg #[.bool (P4.vol vb).closed, .bool false, .int .i64 (P4.vol vb).gen]) ∧ Ext W w') := Lib.hid (fun W hW => by
                      have h := cvol_any (hC3.ext hW) vb hvb2
                      unfold vlAgg at h
                      rw [hex] at h
                      exact h)
                    have i0' : ∀ w, (Instr.index 42 (.agg #[.bool b.a.there, .int .i64 (va : Int), .int .i64 b.a.at_, .bool b.b.there, .int .i64 (vb : Int), .int .i64 b.b.at_]) (.int .i64 1)).run Try.prog w = .ok (.agg #[.bool true, .int .i64 (vb : Int), .int .i64 b.b.at_]) w := fun w => by rw [i1 w, ha]
                    rw [ha] at hEc
                    clear i0 i1 ha
                    clear h0 her hex HK HVA
                    go_wp2_with fail
                    refine (HP.out _).mono ?_
                    rintro e w6 ⟨rfl, hw⟩
                    subst hw
                    go_wp2_with fail
                    refine (HV.out _ (hEi.trans (hEb.trans hEc))).mono ?_
                    rintro e w7 ⟨rfl, hE7⟩
                    have hfe := field_erase
                    have hE8 := hEc.trans hE7
                    go_wp2_with fail
                    go_roundw
                    case rel => exact ⟨1+1, by go_num, by omega, hE8⟩
                    case measure => simp [intOf]
                  · have i0' : ∀ w, (Instr.index 42 (.agg #[.bool b.a.there, .int .i64 (va : Int), .int .i64 b.a.at_, .bool b.b.there, .int .i64 (vb : Int), .int .i64 b.b.at_]) (.int .i64 1)).run Try.prog w = .ok (.agg #[.bool false, .int .i64 (vb : Int), .int .i64 b.b.at_]) w := fun w => by rw [i1 w, ha]
                    rw [ha] at hEc
                    clear i0 i1 ha
                    go_wp2_with fail
                    go_roundw
                    case rel => exact ⟨1+1, by go_num, by omega, hEc⟩
                    case measure => simp [intOf]
                · have hC6 := (hYb.ext hEj).cell 12
                  have hC1 := (hYb.ext hEj).cell 1
                  simp at hC6 hC1
                  have hMj := (hMi.ext (hEb.trans hEj))
                  have hSj := hSi.ext (hEb.trans hEj)
                  have hEj3 := hEi.trans (hEb.trans hEj)
                  have hylt := (hYb.ext hEj).lt
                  have hi50 : i < 50 := by have := hP4.len; omega
                  clear i0 i1 hMi hSi hEi hYb
                  rcases Bool.eq_false_or_eq_true b.dead with hd | hd
                  · rw [hd] at hC6
                    have HD := Lib.hid hd
                    clear hd
                    go_wp2_with fail
                    go_roundw
                    case rel => exact ⟨i + 1, NL, by go_num, by omega, hMj, by rw [nm_dead HBH.out.1 HD.out]; exact hNL, hSj, hEj3⟩
                    case measure => simp [intOf]; omega
                  · rw [hd] at hC6
                    have hfr := live_fresh hP4 HBH.out.1 hd hNL
                    have hlk := hMj.lookup (P := Try.prog) Try.underlying37 Try.underlying9 (z := .bool false) (fun w => by kernel_rfl) b.name
                    rw [hfr, show strWay.val b.name = .string b.name from rfl] at hlk
                    simp only [Option.elim] at hlk
                    obtain ⟨w8, hup, hM8, hC8⟩ := hMj.update (P := Try.prog) Try.underlying37 Try.underlying9 b.name true
                    rw [show strWay.val b.name = .string b.name from rfl] at hup
                    rw [ldel_fresh hfr] at hM8
                    have hNL8 : ((b.name, true) :: NL).map (·.1) = nmUp P4.L (i + 1) := by
                      rw [nm_live HBH.out.1 hd, List.map_cons, hNL]
                    have e1 : b.name.toList.isEmpty = false := by
                      cases he : b.name.toList.isEmpty
                      · rfl
                      · exact absurd (toList_inj.1 (by rw [List.isEmpty_iff.1 he, Lib.toList_data]; rfl)) HBH.out.2.2.name.1
                    have hS8 := hSj.chg hC8 (fun b' o' n' c' hv _ e => by
                      have e' : b' = nb := e
                      injection hv with hv1 _ _
                      injection hv1 with hv1
                      injection hv1 with hv1 _ _
                      obtain ⟨r0, _⟩ := bl_cells hSj HDI.out
                      obtain ⟨es, clk, hb0, _⟩ := hMj
                      rw [hv1, e'] at r0
                      simp [World.cell?, hb0] at r0)
                    have hE8 : Ext w3 w8 := Chg.mono (hEj3.chg_trans hC8) fun k' hk' e => by
                      have e' : k' = nb := e
                      omega
                    clear hd hfr hMj hSj hEj3 hC8
                    go_wp2_with fail
                    go_roundw
                    case rel => exact ⟨i + 1, _, by go_num, by omega, hM8, hNL8, hS8, hE8⟩
                    case measure => simp [intOf]; omega
          · obtain rfl : i = P4.L.length := by omega
            have hln : NL.length = liveN P4.L := by
              have := congrArg List.length hNL
              rw [nm_len, List.length_map] at this
              exact this
            have HLi := Lib.hid (clist_any hC3 hEi hP4 (by omega))
            have hlv : liveN P4.L ≤ 41 := by
              have h1 : liveN P4.L ≤ P4.L.length := List.length_filter_le _ _
              have := hP4.len
              omega
            have hl3 : w3.heap.size ≤ nb := by omega
            have X6 := X3.trans hEi
            have HNL := Lib.hid hNL
            clear hlt hSi hNL X3 hEi hC3
            go_wp2_with fail
            refine HLi.out.mono ?_
            rintro e w9 ⟨A9, c9, rfl, hC9, hK9, hG9⟩
            have X9 : Ext w w9 := Kp.ext X6 hK9 hwB
            have hM9 := hMi.chg hG9 (fun e => by have e' : nb < w3.heap.size := e; omega)
            generalize hrc : #[Value.int .i64 0, .int .u64 0, .int .i64 0, .int .u32 0, .slice A9 (liveN P4.L) c9] = rc
            have hA10 := At.new w9 31 rc
            have hE10 := (Ext.refl w9).alloc (.cells rc 31)
            have X10 := X9.trans hE10
            have hC10 := hC9.ext hE10
            have hlen := (hM9.ext hE10).len (P := Try.prog) Try.underlying37
            rw [hln] at hlen
            clear hln
            have r4 := hA10.cell 4
            rw [← hrc] at r4
            simp at r4
            subst hrc
            clear HLi hC9 hK9 hG9 X6 X9 hMi hM9 hE10 hA10
            go_wp2_with fail
            go_roundw
            case rel => exact ⟨k + 1, P4, by go_num, by omega, by omega, hC10, hP4, hK4, X10⟩
            case measure => simp [intOf]; omega
end Go.Proofs.Ytchnejfdompfpaa
