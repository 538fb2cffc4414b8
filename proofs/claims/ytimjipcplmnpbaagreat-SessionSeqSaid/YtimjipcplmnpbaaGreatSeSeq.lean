/-
  SessionSeq: the walk.
-/
import Derived.Test.YtimjipcplmnpbaaGreatSe6
import Derived.Test.YtimjipcplmnpbaaGreatOpenCmdS
namespace Go.Proofs.YtimjipcplmnpbaaGreat
open Go.RowKit Go.Sort

theorem sseq_re {W : World} {B m : Nat} {M : Mach} (h : MachIn W B m M) (k v : Int) (hv : M.seq k = v) (dd : Nat) (os : Array Obj) : Calls Tryz.prog 11 #[.pointer (some ⟨m, 0, none⟩), .int .i64 k] (grow (redrawn W dd) os) fun e w'' => e = .returned (.int .i64 v) ∧ ∃ p : Regrown, w'' = grow (redrawn W p.d) p.os := by
  subst hv
  exact Calls.ext_of (sseq_any (h.ext (ext_regrown W dd os)) k)
set_option maxRecDepth 100000 in
set_option maxHeartbeats 8000000 in
theorem seq_law (w : World) (l : List CRow) (lv : Value) (hl : CmdsIn w l lv) (hd : ∀ x ∈ l, x.1.disks.length ≤ 17592186043904) :
    Calls Tryz.prog 3 #[lv] w fun e w' => e = .returned (.bool true) ∧ Ext w w' := by
  obtain ⟨LA, lc, rfl, hlc, hlm⟩ := hl.cap
  have hll := hl.len
  unfold maxLen at hll hlm
  have HL := Lib.hid hl
  have HDL := Lib.hid hd
  clear hl hd
  go_enter Tryz.func3, Tryz.ntmps3
  go_wp2_with fail
  obtain ⟨B, hBe⟩ : ∃ B, w.heap.size = B := ⟨_, rfl⟩
  have HwB := Lib.hid (show w.heap.size ≤ B by omega)
  have hN := snew_any w
  rw [hBe] at hN
  clear hBe
  refine hN.mono ?_
  rintro e w0 ⟨m, rfl, hM0, hE0⟩
  clear hN
  go_wp2_with fail
  refine (sawake_any w0).mono ?_
  rintro e w1 ⟨rfl, hE1⟩
  have X1 := hE0.trans hE1
  have hM1 := hM0.ext hE1
  clear hM0 hE0 hE1
  go_wp2_with fail
  go_loopw [4] (fun kv wr => ∃ (k : Nat) (M : Mach), kv = .int .i64 (k : Int) ∧ k ≤ l.length ∧ k ≤ 30 ∧ MachIn wr B m M ∧ MInv k M ∧ Ext w wr) (fun kv _ => 30 - (intOf kv).toNat)
  case atStart => exact ⟨0, _, rfl, Nat.zero_le _, Nat.zero_le _, hM1, MInv.empty, X1⟩
  case round =>
    clear hM1 X1
    obtain ⟨k, M, rfl, hkl, hk30, hM, hI, Xk⟩ := hrel
    obtain ⟨fk, hfk⟩ : ∃ fk : Bool, fk = decide (k < l.length ∧ k < 30) := ⟨_, rfl⟩
    obtain ⟨wo, hwo⟩ : ∃ wo : World, wo = wr := ⟨_, rfl⟩
    go_upto_region 5 with fail
    go_cut [26] from 19 to 26 (fun tv wx => tv = .bool fk ∧ wx = wo)
    case first =>
      clear hM hI Xk
      by_cases h1 : k < l.length
      · by_cases h2 : k < 30
        · obtain rfl : fk = true := by rw [hfk]; simp; omega
          clear hfk
          go_wp2_with fail
          go_meet
          case rel => exact ⟨by first | rfl | (simp <;> omega), hwo.symm⟩
        · obtain rfl : fk = false := by rw [hfk]; simp; omega
          clear hfk
          go_wp2_with fail
          go_meet
          case rel => exact ⟨by first | rfl | (simp <;> omega), hwo.symm⟩
      · obtain rfl : fk = false := by rw [hfk]; simp; omega
        clear hfk
        go_wp2_with fail
        go_meet
        case rel => exact ⟨by first | rfl | (simp <;> omega), hwo.symm⟩
    case rest =>
      obtain ⟨rfl, hwc⟩ := hcut
      subst hwc
      subst hwo
      cases fk
      · have hfk2 : ¬ (k < l.length ∧ k < 30) := by simpa using hfk.symm
        clear hfk
        have hnum := hI.num
        have HS0 := Lib.hid ((hI.seq_nn 0).2 (Int.le_refl 0))
        go_wp2_with fail
        refine (scount_any hM).mono ?_
        rintro e w2 ⟨rfl, hE2⟩
        have hM2 := hM.ext hE2
        rw [hnum]
        clear hnum hI
        have hmi : min (l.length : Int) 30 = (k : Int) := by omega
        clear hfk2 hkl hk30
        go_wp2_with fail
        refine (sseq_any hM2 0).mono ?_
        rintro e w3 ⟨rfl, hE3⟩
        rw [HS0.out]
        go_wp2_with fail
        go_ret
        exact ⟨rfl, (Xk.trans hE2).trans hE3⟩
      · have hfk2 : k < l.length ∧ k < 30 := by simpa using hfk.symm
        obtain ⟨hlt, hlt30⟩ := hfk2
        clear hfk
        go_wp2_with fail
        refine (sseq_any hM 0).mono ?_
        rintro e w2 ⟨rfl, hE2⟩
        go_wp2_with fail
        refine (sseq_any (hM.ext hE2) 1).mono ?_
        rintro e w3 ⟨rfl, hE3⟩
        replace hE3 := hE2.trans hE3
        go_wp2_with fail
        refine (sseq_any (hM.ext hE3) 2).mono ?_
        rintro e w4 ⟨rfl, hE4⟩
        replace hE4 := hE3.trans hE4
        go_wp2_with fail
        refine (sseq_any (hM.ext hE4) 3).mono ?_
        rintro e w5 ⟨rfl, hE5⟩
        replace hE5 := hE4.trans hE5
        clear hE2 hE3 hE4
        have hWs := At.new w5 3 #[.int .i64 (M.seq 0), .int .i64 (M.seq 1), .int .i64 (M.seq 2), .int .i64 (M.seq 3)]
        have hEw := (Ext.refl w5).alloc (.cells #[.int .i64 (M.seq 0), .int .i64 (M.seq 1), .int .i64 (M.seq 2), .int .i64 (M.seq 3)] 3)
        go_upto_region 8 with fail
        generalize w5.heap.size = sb at hWs ⊢
        generalize w5.alloc _ = w6 at hWs hEw ⊢
        have hE6 := hE5.trans hEw
        have X6 := Xk.trans hE6
        have hM6 := hM.ext hE6
        clear hE5 hEw hE6 hM Xk
        obtain ⟨⟨x, dv⟩, hx⟩ : ∃ x, l[k]? = some x := ⟨_, List.getElem?_eq_getElem hlt⟩
        have hin : x.In dv w6 := (HL.out.row _ (List.mem_of_getElem? hx)).ext X6
        have hdx := HDL.out _ (List.mem_of_getElem? hx)
        have hS := HL.out.ops.ext X6
        obtain ⟨lb, lo, rfl⟩ := cmds_some hS (fun e => by
          have := List.map_eq_nil_iff.1 e
          subst this; simp at hlt)
        obtain ⟨r0, r1, r2, r3, r4, r5, r6, r7, r8, r9, r10⟩ := crow_cells hS hx
        have HF := Lib.hid (sbytes_any w6 x dv ⟨#[]⟩ hin hdx (by decide))
        have hsl := seBytes_len x ⟨#[]⟩
        clear hin hdx hx hS
        go_wp2_with fail
        refine HF.out.mono ?_
        rintro e w7 ⟨rfl, hE7⟩
        clear r0 r1 r2 r3 r4 r5 r6 r7 r8 r9 r10 HF
        generalize seBytes x ⟨#[]⟩ = bs at hsl ⊢
        have hM7 := hM6.ext hE7
        have X7 := X6.trans hE7
        have hW7 := hWs.ext hE7
        clear hM6 X6 hWs hE7
        have hsz : (⟨bs.toArray⟩ : ByteArray).size ≤ 1000 := by
          show bs.toArray.size ≤ 1000
          rw [List.size_toArray]; omega
        have HA := Lib.hid (mapply_any w7 B m M k hM7 hI (by omega) ⟨bs.toArray⟩ hsz)
        go_wp2_with fail
        refine HA.out.mono ?_
        rintro e w8 ⟨A8, c8, rfl, _, hM8, hK8⟩
        have hbs : (⟨bs.toArray⟩ : ByteArray).data.toList = bs := rfl
        try rw [hbs] at hM8
        have X8 : Ext w w8 := Km.ext X7 hK8 HwB.out
        have hW8 := hK8.at_ _ _ _ (by decide) (by decide) (by decide) hW7
        have HI := Lib.hid hI
        have HI8 := Lib.hid (hI.app bs)
        have HSQ : Hid (∀ j : Int, (M.app bs).1.seq j = if (cread bs).2 = 0 ∧ (cread bs).1.isCl = true ∧ (cread bs).1.client = j ∧ 0 < j ∧ M.seq j < (cread bs).1.seq then (cread bs).1.seq else M.seq j) := Lib.hid fun j => Mach.app_seq hI bs j
        clear HA hM7 X7 hW7 hK8 hI
        have HR := Lib.hid (cmdread_any w8 ⟨bs.toArray⟩ (by omega))
        try rw [hbs] at HR
        clear hbs
        generalize (M.app bs).1 = M8 at hM8 HI8 HSQ
        generalize cread bs = q at HR HSQ
        clear hsz hsl
        go_wp2_with fail
        refine HR.out.mono ?_
        rintro e w9 ⟨dq, rfl, hO9, hE9⟩
        obtain ⟨dA, dc, rfl⟩ := own_slc hO9
        obtain ⟨y, qe⟩ := q
        simp only at HSQ ⊢
        have hT := At.new w9 32 (cmdCells y (.slice dA y.disks.length dc))
        have hEt := (Ext.refl w9).alloc (.cells (cmdCells y (.slice dA y.disks.length dc)) 32)
        clear HR hO9
        unfold cmdVal
        go_upto_region 11 with fail
        generalize w9.heap.size = tb at hT ⊢
        generalize w9.alloc _ = w10 at hT hEt ⊢
        have hE10 := hE9.trans hEt
        have X10 := X8.trans hE10
        have hM10 := hM8.ext hE10
        have hW10 := hW8.ext hE10
        clear hE9 hEt hE10 X8 hM8 hW8
        have HJ : Hid (∀ j : Nat, j < 4 → (#[.int .i64 (M.seq 0), .int .i64 (M.seq 1), .int .i64 (M.seq 2), .int .i64 (M.seq 3)] : Array Value)[j]? = some (.int .i64 (M.seq (j : Int)))) := Lib.hid fun j hj => by
          match j, hj with
          | 0, _ => rfl
          | 1, _ => rfl
          | 2, _ => rfl
          | 3, _ => rfl
        generalize (#[.int .i64 (M.seq 0), .int .i64 (M.seq 1), .int .i64 (M.seq 2), .int .i64 (M.seq 3)] : Array Value) = SA at hW10 HJ
        go_upto_region 12 with fail
        go_loopw [53] (fun jv wr => ∃ j : Nat, jv = .int .i64 (j : Int) ∧ j ≤ 4 ∧ Ext w10 wr) (fun jv _ => 4 - (intOf jv).toNat)
        case atStart => exact ⟨0, rfl, Nat.zero_le _, Ext.refl _⟩
        case round =>
          obtain ⟨j, rfl, hj, hEj⟩ := hrel
          by_cases hj4 : j < 4
          · have hwj := (hW10.ext hEj).cell j
            rw [HJ.out j hj4] at hwj
            have hTj := hT.ext hEj
            have HSJ := Lib.hid (HSQ.out (j : Int))
            obtain ⟨mi, hmi⟩ : ∃ mi : Bool, mi = decide (qe = 0 ∧ y.isCl = true ∧ y.client = (j : Int) ∧ 0 < (j : Int) ∧ M.seq (j : Int) < y.seq) := ⟨_, rfl⟩
            have HMJ := Lib.hid ((hM10.ext hEj))
            generalize hmj : M.seq (j : Int) = sj at hwj HSJ hmi
            go_upto_region 14 with fail
            clear hwj
            try rw [show decide ((j : Int) < 4) = true from decide_eq_true (by omega)]
            go_cut [11] from 58 to 79 (fun tv wx => tv = .bool mi ∧ Ext wr wx)
            case first =>
              have t1 := hTj.cell 1
              have t2 := hTj.cell 2
              simp [cmdCells] at t1 t2
              clear hM10 hW10 HSJ
              by_cases hq : qe = 0
              · have hq1 : (qe == 0) = true := by simpa using hq
                have HQ := Lib.hid hq
                clear hq
                have HCL := Lib.hid (scl_any wr y (.slice dA y.disks.length dc))
                have HRT := Lib.hid hTj.range
                go_wp2_with (refine wpList_load_on rfl 32 _ rfl tb 0 rfl _ _ HRT.out Tryz.underlying32 rfl ccmd_info ?_)
                refine HCL.out.mono ?_
                rintro e w11 ⟨rfl, hE11⟩
                have hTk := hTj.ext hE11
                clear t1 t2 HCL HRT
                have t1 := hTk.cell 1
                have t2 := hTk.cell 2
                simp [cmdCells] at t1 t2
                clear hTj hTk
                rcases Bool.eq_false_or_eq_true y.isCl with hcl | hcl
                · rw [hcl] at hmi ⊢
                  by_cases hc : y.client = (j : Int)
                  · have hc1 : (y.client == (j : Int)) = true := by simpa using hc
                    by_cases h0 : 0 < (j : Int)
                    · by_cases hs : sj < y.seq
                      · obtain rfl : mi = true := by rw [hmi]; simp [HQ.out, hc]; omega
                        clear hmi hcl hc
                        go_wp2_with fail
                        go_meet
                        case rel => exact ⟨by first | rfl | (simp <;> omega), hE11⟩
                      · obtain rfl : mi = false := by rw [hmi]; simp; omega
                        clear hmi hcl hc
                        go_wp2_with fail
                        go_meet
                        case rel => exact ⟨by first | rfl | (simp <;> omega), hE11⟩
                    · obtain rfl : mi = false := by rw [hmi]; simp; omega
                      clear hmi hcl hc
                      go_wp2_with fail
                      go_meet
                      case rel => exact ⟨by first | rfl | (simp <;> omega), hE11⟩
                  · have hc1 : (y.client == (j : Int)) = false := by rw [beq_eq_false_iff_ne]; exact hc
                    obtain rfl : mi = false := by rw [hmi]; simp [hc]
                    clear hmi hcl hc
                    go_wp2_with fail
                    go_meet
                    case rel => exact ⟨by first | rfl | (simp <;> omega), hE11⟩
                · rw [hcl] at hmi ⊢
                  obtain rfl : mi = false := by rw [hmi]; simp
                  clear hmi hcl
                  go_wp2_with fail
                  go_meet
                  case rel => exact ⟨by first | rfl | (simp <;> omega), hE11⟩
              · have hq1 : (qe == 0) = false := by rw [beq_eq_false_iff_ne]; exact hq
                obtain rfl : mi = false := by rw [hmi]; simp [hq]
                clear hmi hq hTj
                go_wp2_with fail
                go_meet
                case rel => exact ⟨rfl, Ext.refl _⟩
            case rest =>
              obtain ⟨rfl, hEc⟩ := hcut
              have hTk := hTj.ext hEc
              have rt2 := hTk.cell_regrown 2
              simp [cmdCells] at rt2
              have hEk := hEj.trans hEc
              cases mi
              · have hno : ¬ (qe = 0 ∧ y.isCl = true ∧ y.client = (j : Int) ∧ 0 < (j : Int) ∧ M.seq (j : Int) < y.seq) := by rw [hmj]; simpa using hmi.symm
                have cw := sseq_re (hM10.ext hEk) (j : Int) sj (by rw [HSJ.out, if_neg (by rw [← hmj]; exact hno)])
                clear hmi hmj hno hTj hTk HMJ
                go_upto_region 15 with fail
                refine wp_region_quiet_ext (by kernel_rfl) (by kernel_rfl) ?_
                repeat (go_big_quiet_step (first | with_reducible exact cw _ _))
                refine wpQuiet_nil ?_
                intro W12 hE12
                clear cw rt2
                go_wp2_with fail
                go_roundw
                case rel => exact ⟨j + 1, by go_num, by omega, hEk.trans hE12⟩
                case measure => simp [intOf]; omega
              · have hyes : qe = 0 ∧ y.isCl = true ∧ y.client = (j : Int) ∧ 0 < (j : Int) ∧ M.seq (j : Int) < y.seq := by rw [hmj]; simpa using hmi.symm
                have cw := sseq_re (hM10.ext hEk) (j : Int) y.seq (by rw [HSJ.out, if_pos (by rw [← hmj]; exact hyes)])
                clear hmi hmj hyes hTj hTk HMJ
                go_upto_region 15 with fail
                refine wp_region_quiet_ext (by kernel_rfl) (by kernel_rfl) ?_
                repeat (go_big_quiet_step (first | with_reducible exact cw _ _))
                refine wpQuiet_nil ?_
                intro W12 hE12
                clear cw rt2
                go_wp2_with fail
                go_roundw
                case rel => exact ⟨j + 1, by go_num, by omega, hEk.trans hE12⟩
                case measure => simp [intOf]; omega
          · obtain rfl : j = 4 := by omega
            have X11 := X10.trans hEj
            have hM11 := hM10.ext hEj
            clear hM10 hW10 hT
            go_wp2_with fail
            go_roundw
            case rel => exact ⟨k + 1, M8, by go_num, by omega, by omega, hM11, HI8.out, X11⟩
            case measure => simp [intOf]; omega
end Go.Proofs.YtimjipcplmnpbaaGreat
