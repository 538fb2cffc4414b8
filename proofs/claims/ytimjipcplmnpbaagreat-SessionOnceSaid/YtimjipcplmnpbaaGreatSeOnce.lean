/-
  SessionOnce: the walk.
-/
import Derived.Test.YtimjipcplmnpbaaGreatSe6
import Derived.Test.YtimjipcplmnpbaaGreatSeMv
import Derived.Test.YtimjipcplmnpbaaGreatOpenCmdS
import Derived.Test.YtimjipcplmnpbaaGreatCatWrite
import Derived.Test.YtimjipcplmnpbaaGreatCmdRd
namespace Go.Proofs.YtimjipcplmnpbaaGreat
open Go.RowKit Go.Sort

theorem strO_info : (Tryz.prog.info? 9).map (fun i => (i.zero, i.size, i.bytes)) = some (some (.string ByteArray.empty), 1, 16) := by kernel_rfl
/-- what is known of bytes that a machine was told -/
def Said (M : Mach) (s : List UInt8) : Prop := (cread s).2 = 0 → (cread s).1.isCl = true → (cread s).1.client ≠ 0 → (cread s).1.seq ≤ M.seq (cread s).1.client
theorem Said.app {n : Nat} {M : Mach} (h : MInv n M) {s : List UInt8} (hs : Said M s) (b : List UInt8) : Said (M.app b).1 s := fun h0 h1 h2 => Int.le_trans (hs h0 h1 h2) (Mach.seq_mono h b _)
theorem said_new {n : Nat} {M : Mach} (h : MInv n M) (b : List UInt8) : Said (M.app b).1 b := fun h0 h1 h2 => Mach.seq_there h h0 h1 h2
set_option maxRecDepth 100000 in
set_option maxHeartbeats 8000000 in
theorem once_law (w : World) (l : List CRow) (lv : Value) (wh : Int) (hl : CmdsIn w l lv) (hd : ∀ x ∈ l, x.1.disks.length ≤ 17592186043904) (hwh : -9223372036854775808 ≤ wh ∧ wh ≤ 9223372036854775807) :
    Calls Tryz.prog 5 #[lv, .int .i64 wh] w fun e w' => e = .returned (.bool true) ∧ Ext w w' := by
  obtain ⟨LA, lc, rfl, hlc, hlm⟩ := hl.cap
  have hll := hl.len
  unfold maxLen at hll hlm
  have HL := Lib.hid hl
  have HDL := Lib.hid hd
  have HWH := Lib.hid hwh
  clear hl hd hwh
  go_enter Tryz.func5, Tryz.ntmps5
  go_wp2_with fail
  have hN := snew_any w
  obtain ⟨n0, hn0⟩ : ∃ n, n = w.heap.size := ⟨_, rfl⟩
  rw [← hn0] at hN
  have HN0 := Lib.hid hn0
  refine hN.mono ?_
  rintro e w0 ⟨m, rfl, hM0, hE0⟩
  clear hN
  go_wp2_with fail
  refine (sawake_any w0).mono ?_
  rintro e w1 ⟨rfl, hE1⟩
  have X1 := hE0.trans hE1
  have hM1 := hM0.ext hE1
  clear hM0 hE0 hE1
  have hOS := w1.ownsRow_made (e := 9) (size := 1) (base := n0) #[] 0 (by have := X1.size; omega) (by unfold maxLen; omega) rfl
  have hE2 := (Ext.refl w1).alloc (.cells #[] 9)
  have hMs := hM1.beside (n := n0) (fun b hb => hb) (by have := X1.size; omega) hE2 (v := .slice (some ⟨w1.heap.size, 0, none⟩) 0 0) (fun k hk => by
    have e : k = w1.heap.size := by injection hk with hk; exact hk.symm
    subst e
    simp)
  have X2 := X1.trans hE2
  go_upto_region 5 with fail
  clear hM1 X1 hE2 hn0
  go_wp2_with fail
  go_loopw [6, 7] (fun sv kv wr => ∃ (k : Nat) (M : Mach) (A : Option Addr) (c : Nat) (SL : List ByteArray), kv = .int .i64 (k : Int) ∧ sv = .slice A k c ∧ k ≤ l.length ∧ k ≤ 25 ∧ SL.length = k ∧ wr.ownsRow n0 9 1 (.slice A k c) k (SL.map Value.string) ∧ MachIn wr (Bs n0 (.slice A k c)) m M ∧ MInv k M ∧ Ext w wr ∧ ∀ s ∈ SL, s.size ≤ 1000 ∧ Said M s.data.toList) (fun _ kv _ => 25 - (intOf kv).toNat)
  case atStart => exact ⟨0, _, _, 0, [], rfl, rfl, Nat.zero_le _, Nat.zero_le _, rfl, hOS, hMs, MInv.empty, X2, fun s hs => by cases hs⟩
  case round =>
    clear hOS hMs X2
    obtain ⟨k, M, A, c, SL, rfl, rfl, hkl, hk25, hSL, hO, hM, hI, Xk, hSd⟩ := hrel
    have HSD := Lib.hid hSd
    clear hSd
    obtain ⟨fk, hfk⟩ : ∃ fk : Bool, fk = decide (k < l.length ∧ k < 25) := ⟨_, rfl⟩
    obtain ⟨wo, hwo⟩ : ∃ wo : World, wo = wr := ⟨_, rfl⟩
    go_upto_region 6 with fail
    go_cut [30] from 23 to 30 (fun tv wx => tv = .bool fk ∧ wx = wo)
    case first =>
      clear hM hI Xk hO
      by_cases h1 : k < l.length
      · by_cases h2 : k < 25
        · obtain rfl : fk = true := by rw [hfk]; simp; omega
          clear hfk
          go_wp2_with fail
          go_meet
          case rel => exact ⟨by first | rfl | (simp <;> omega), hwo.symm⟩
        · obtain rfl : fk = false := by rw [hfk]; simp; omega
          clear hfk
          go_wp2_with fail
          go_meet
          case rel => exact ⟨by first | rfl | (simp <;> omega), hwo.symm⟩
      · obtain rfl : fk = false := by rw [hfk]; simp; omega
        clear hfk
        go_wp2_with fail
        go_meet
        case rel => exact ⟨by first | rfl | (simp <;> omega), hwo.symm⟩
    case rest =>
      obtain ⟨rfl, hwc⟩ := hcut
      subst hwc
      subst hwo
      cases fk
      · clear hfk
        by_cases hw0 : wh < 0
        · go_wp2_with fail
          go_ret
          exact ⟨rfl, Xk⟩
        by_cases hwk : (k : Int) ≤ wh
        · have hw2 : ¬ wh < 0 := hw0
          go_wp2_with fail
          go_ret
          exact ⟨rfl, Xk⟩
        obtain ⟨j, rfl⟩ : ∃ j : Nat, wh = (j : Int) := ⟨wh.toNat, by omega⟩
        have hjk : j < k := by omega
        obtain ⟨s, hs⟩ : ∃ s, SL[j]? = some s := ⟨_, List.getElem?_eq_getElem (by omega)⟩
        obtain ⟨hs1, hsd⟩ := HSD.out s (List.mem_of_getElem? hs)
        obtain ⟨g1, k1, hg1, _⟩ := own_some hO (by omega)
        injection hg1 with hg1a _ hg1c
        subst hg1a hg1c
        have i1 := hO.cellAt j (by omega)
        rw [List.getElem?_map, hs] at i1
        simp only [Option.map_some] at i1
        have HR := Lib.hid (fun W : World => cmdread_any W s (by omega))
        have HSS := Lib.hid (And.intro hs1 hsd)
        have HSJ := Lib.hid hs
        clear hs hs1 hsd HSD
        go_wp2_with fail
        refine (HR.out _).mono ?_
        rintro e w2 ⟨dq, rfl, hO2, hE2⟩
        obtain ⟨q, hq⟩ : ∃ q, cread s.data.toList = q := ⟨_, rfl⟩
        rw [hq] at hO2 ⊢
        obtain ⟨y, qe⟩ := q
        have HCR := Lib.hid hq
        simp only at hO2 ⊢
        obtain ⟨dA, dc, rfl⟩ := own_slc hO2
        have hT := At.new w2 32 (cmdCells y (.slice dA y.disks.length dc))
        have hEt := (Ext.refl w2).alloc (.cells (cmdCells y (.slice dA y.disks.length dc)) 32)
        clear HR hO2 hq
        unfold cmdVal
        go_upto_region 14 with fail
        generalize w2.heap.size = tb at hT ⊢
        generalize w2.alloc _ = w3 at hT hEt ⊢
        have hE3 := hE2.trans hEt
        have X3 := Xk.trans hE3
        have hM3 := hM.ext hE3
        have hO3 := own_keep hO hE3 (fun _ _ hh => hh)
        have HJK := Lib.hid hjk
        have hk50 : k + 1 < 50 := by omega
        clear hE2 hEt hE3 Xk hM hO i1 hkl hk25 hw0 hwk
        obtain ⟨ng, hng⟩ : ∃ ng : Bool, ng = decide (qe ≠ 0 ∨ y.isCl = false ∨ y.client = 0 ∨ y.seq = 0) := ⟨_, rfl⟩
        go_cut [77] from 61 to 77 (fun tv wx => tv = .bool ng ∧ Ext w3 wx)
        case first =>
          have t1 := hT.cell 1
          have t2 := hT.cell 2
          simp [cmdCells] at t1 t2
          clear hM3 hO3 hI hjk hk50
          by_cases hq : qe = 0
          · have hq1 : (qe != 0) = false := by rw [hq]; rfl
            have HQ := Lib.hid hq
            clear hq
            have HCL := Lib.hid (scl_any w3 y (.slice dA y.disks.length dc))
            have HRT := Lib.hid hT.range
            go_wp2_with (refine wpList_load_on rfl 32 _ rfl tb 0 rfl _ _ HRT.out Tryz.underlying32 rfl ccmd_info ?_)
            refine HCL.out.mono ?_
            rintro e w11 ⟨rfl, hE11⟩
            have hTk := hT.ext hE11
            clear t1 t2 HCL HRT
            have t1 := hTk.cell 1
            have t2 := hTk.cell 2
            simp [cmdCells] at t1 t2
            clear hT hTk
            rcases Bool.eq_false_or_eq_true y.isCl with hcl | hcl
            · rw [hcl] at hng ⊢
              by_cases hc : y.client = 0
              · have hc1 : (y.client == 0) = true := by simpa using hc
                obtain rfl : ng = true := by rw [hng]; simp [hc]
                clear hng hcl hc
                go_wp2_with fail
                go_meet
                case rel => exact ⟨by first | rfl | (simp <;> omega), hE11⟩
              · have hc1 : (y.client == 0) = false := by rw [beq_eq_false_iff_ne]; exact hc
                by_cases h0 : y.seq = 0
                · have h01 : (y.seq == 0) = true := by simpa using h0
                  obtain rfl : ng = true := by rw [hng]; simp [h0]
                  clear hng hcl hc h0
                  go_wp2_with fail
                  go_meet
                  case rel => exact ⟨by first | rfl | (simp <;> omega), hE11⟩
                · have h01 : (y.seq == 0) = false := by rw [beq_eq_false_iff_ne]; exact h0
                  obtain rfl : ng = false := by rw [hng]; simp [HQ.out, hc, h0]
                  clear hng hcl hc h0
                  go_wp2_with fail
                  go_meet
                  case rel => exact ⟨by first | rfl | (simp <;> omega), hE11⟩
            · rw [hcl] at hng ⊢
              obtain rfl : ng = true := by rw [hng]; simp
              clear hng hcl
              go_wp2_with fail
              go_meet
              case rel => exact ⟨by first | rfl | (simp <;> omega), hE11⟩
          · have hq1 : (qe != 0) = true := by rw [bne_iff_ne]; exact hq
            obtain rfl : ng = true := by rw [hng]; simp [hq]
            clear hng hq hT
            go_wp2_with fail
            go_meet
            case rel => exact ⟨rfl, Ext.refl _⟩
        case rest =>
          obtain ⟨rfl, hEc⟩ := hcut
          have X4 := X3.trans hEc
          cases ng
          rotate_left
          · clear hng hM3 hO3 hI hT
            go_wp2_with fail
            go_ret
            exact ⟨rfl, X4⟩
          have hyes : qe = 0 ∧ y.isCl = true ∧ y.client ≠ 0 ∧ y.seq ≠ 0 := by
            have := hng.symm
            simp only [decide_eq_false_iff_not, not_or] at this
            exact ⟨by simpa using this.1, by simpa using this.2.1, this.2.2.1, this.2.2.2⟩
          obtain ⟨y0, y1, y2, y3⟩ := hyes
          have hsay := HSS.out.2
          unfold Said at hsay
          rw [HCR.out] at hsay
          have hne : s.data.toList ≠ [] := fun e => by
            have := HCR.out
            rw [e] at this
            exact cread_nil (by rw [this]; exact y0)
          have hon := Mach.once (M := M) (s := s.data.toList) hne (by rw [HCR.out]; exact y0) (by rw [HCR.out]; exact y1) (by rw [HCR.out]; exact y2) (by rw [HCR.out]; exact y3) (by rw [HCR.out]; exact hsay y0 y1 y2)
          rw [HCR.out] at hon
          obtain ⟨on1, on2⟩ := hon
          simp only at on2
          have HON1 := Lib.hid on1
          have HON2 := Lib.hid on2
          have hM4 := hM3.ext hEc
          have hO4 := own_keep hO3 hEc (fun _ _ hh => hh)
          have hT4 := hT.ext hEc
          clear hng y0 y1 y2 y3 hsay hne on1 on2 hM3 hO3 hT hEc X3
          obtain ⟨cc, mb, mn, mc, rows, hA⟩ := hM4
          go_wp2_with fail
          refine (scat_any hA).mono ?_
          rintro e w5 ⟨rfl, hE5⟩
          have hA5 := hA.ext hE5
          go_wp2_with fail
          refine (cwrite_any hA5.cat hI.cat (by omega)).mono ?_
          rintro e w6 ⟨rfl, hE6⟩
          have hE56 := hE5.trans hE6
          have hM6 : MachIn w6 _ m M := ⟨cc, mb, mn, mc, rows, hA5.ext hE6⟩
          have hO6 := own_keep hO4 hE56 (fun _ _ hh => hh)
          have hT6 := hT4.ext hE56
          have X6 := X4.trans hE56
          clear hA hA5 hE5 hE6 hE56 hO4 hT4 X4
          have t1 := hT6.cell 1
          have t2 := hT6.cell 2
          simp [cmdCells] at t1 t2
          have hS1 := stold_any hM6 hI (by omega) y.client y.seq
          go_wp2_with fail
          refine hS1.mono ?_
          rintro e w7 ⟨bf, bA, bc, rfl, hbf, _, hE7⟩
          clear hS1 t1 t2
          have HBF := Lib.hid hbf
          generalize M.told y.client y.seq = tl at HON2 HBF
          clear hbf
          unfold resV
          have hM7 := hM6.ext hE7
          have hO7 := own_keep hO6 hE7 (fun _ _ hh => hh)
          have X7 := X6.trans hE7
          have hQ := At.new w7 36 #[.int .i64 bf.err, .int .u64 (bf.blob : Int), .int .i64 bf.size, .int .u32 (bf.sum : Int), .slice bA bf.names.length bc]
          have hEq := (Ext.refl w7).alloc (.cells #[.int .i64 bf.err, .int .u64 (bf.blob : Int), .int .i64 bf.size, .int .u32 (bf.sum : Int), .slice bA bf.names.length bc] 36)
          clear hM6 hO6 hT6 X6 hE7
          go_upto_region 18 with fail
          generalize w7.heap.size = qb at hQ ⊢
          generalize w7.alloc _ = w8 at hQ hEq ⊢
          have hM8 := hM7.ext hEq
          have hO8 := own_keep hO7 hEq (fun _ _ hh => hh)
          have X8 := X7.trans hEq
          clear hM7 hO7 X7 hEq
          have i1 := hO8.cellAt j (by have := HJK.out; omega)
          rw [List.getElem?_map, HSJ.out] at i1
          simp only [Option.map_some] at i1
          have HA := Lib.hid (mapply_any w8 _ m M k hM8 hI (by omega) s HSS.out.1)
          have HI8 := Lib.hid (hI.app s.data.toList)
          go_wp2_with fail
          refine HA.out.mono ?_
          rintro e w9 ⟨A8, c8, rfl, _, hM9, hK9⟩
          have X9 : Ext w w9 := Km.ext X8 hK9 (fun b hb => HN0.out ▸ hb.1)
          have hQ9 := hK9.at_ _ _ _ (by decide) (by decide) (by decide) hQ
          clear HA hM8 hO8 X8 hK9 hQ i1
          generalize (M.app s.data.toList).1 = M9 at hM9 HI8 HON1
          generalize (M.app s.data.toList).2 = R at HON2 ⊢
          unfold resV
          have hP := At.new w9 36 #[.int .i64 R.err, .int .u64 (R.blob : Int), .int .i64 R.size, .int .u32 (R.sum : Int), .slice A8 R.names.length c8]
          have hEp := (Ext.refl w9).alloc (.cells #[.int .i64 R.err, .int .u64 (R.blob : Int), .int .i64 R.size, .int .u32 (R.sum : Int), .slice A8 R.names.length c8] 36)
          go_upto_region 19 with fail
          generalize w9.heap.size = pb at hP ⊢
          generalize w9.alloc _ = w10 at hP hEp ⊢
          have hM10 := hM9.ext hEp
          have hQ10 := hQ9.ext hEp
          have X10 := X9.trans hEp
          clear hM9 hQ9 X9 hEp
          obtain ⟨cc, mb, mn, mc, rows, hA⟩ := hM10
          go_wp2_with fail
          refine (scat_any hA).mono ?_
          rintro e w11 ⟨rfl, hE11⟩
          have hA5 := hA.ext hE11
          have hW := cwrite_any hA5.cat HI8.out.cat (by omega)
          rw [HON1.out] at hW
          go_wp2_with fail
          refine hW.mono ?_
          rintro e w12 ⟨rfl, hE12⟩
          have hE1 := hE11.trans hE12
          have hQ12 := hQ10.ext hE1
          have hP12 := hP.ext hE1
          have X12 := X10.trans hE1
          clear hA hA5 hW hE11 hE12 hE1 hQ10 hP X10 hI HI8 HON1
          have q0 := hQ12.cell 0
          have q1 := hQ12.cell 1
          have q2 := hQ12.cell 2
          have q4 := hQ12.cell 4
          have p0 := hP12.cell 0
          have p1 := hP12.cell 1
          have p2 := hP12.cell 2
          have p4 := hP12.cell 4
          simp at q0 q1 q2 q4 p0 p1 p2 p4
          clear hQ12 hP12
          cases tl with
          | some r =>
            have e1 : R = r := HON2.out
            have e2 : bf = r := HBF.out
            subst e1
            subst e2
            go_wp2_with fail
            go_ret
            exact ⟨by simp, X12⟩
          | none =>
            have e1 : R = Rs.er 16 := HON2.out
            have e2 : bf = Rs.er 0 := HBF.out
            subst e1
            subst e2
            have p0 : w12.cell? ⟨pb, 0, none⟩ = some (.int .i64 16) := p0
            go_wp2_with fail
            go_ret
            exact ⟨by simp [Rs.er], X12⟩
      · have hfk2 : k < l.length ∧ k < 25 := by simpa using hfk.symm
        obtain ⟨hlt, hlt25⟩ := hfk2
        clear hfk
        obtain ⟨⟨x, dv⟩, hx⟩ : ∃ x, l[k]? = some x := ⟨_, List.getElem?_eq_getElem hlt⟩
        have hin : x.In dv _ := (HL.out.row _ (List.mem_of_getElem? hx)).ext Xk
        have hdx := HDL.out _ (List.mem_of_getElem? hx)
        have hS := HL.out.ops.ext Xk
        obtain ⟨lb, lo, rfl⟩ := cmds_some hS (fun e => by
          have := List.map_eq_nil_iff.1 e
          subst this; simp at hlt)
        obtain ⟨r0, r1, r2, r3, r4, r5, r6, r7, r8, r9, r10⟩ := crow_cells hS hx
        have HF := Lib.hid (sbytes_any _ x dv ⟨#[]⟩ hin hdx (by decide))
        have hsl := seBytes_len x ⟨#[]⟩
        clear hin hdx hx hS
        go_wp2_with fail
        refine HF.out.mono ?_
        rintro e w7 ⟨rfl, hE7⟩
        clear r0 r1 r2 r3 r4 r5 r6 r7 r8 r9 r10 HF
        generalize seBytes x ⟨#[]⟩ = bs at hsl ⊢
        have hM7 := hM.ext hE7
        have hO7 := own_keep hO hE7 (fun _ _ hh => hh)
        have X7 := Xk.trans hE7
        clear hM Xk hO hE7
        have hsz : (⟨bs.toArray⟩ : ByteArray).size ≤ 1000 := by
          show bs.toArray.size ≤ 1000
          rw [List.size_toArray]; omega
        have HSZ := Lib.hid hsz
        have HA := Lib.hid (mapply_any w7 _ m M k hM7 hI (by omega) ⟨bs.toArray⟩ hsz)
        clear hsz hsl
        go_wp2_with fail
        refine HA.out.mono ?_
        rintro e w8 ⟨A8, c8, rfl, _, hM8, hK8⟩
        have hbs : (⟨bs.toArray⟩ : ByteArray).data.toList = bs := rfl
        try rw [hbs] at hM8
        have X8 : Ext w w8 := Km.ext X7 hK8 (fun b hb => HN0.out ▸ hb.1)
        have hO8 := hK8.own hO7 (by decide) (by decide) (by decide)
        have HI8 := Lib.hid (hI.app bs)
        have HSD8 : Hid (∀ s ∈ SL ++ [(⟨bs.toArray⟩ : ByteArray)], s.size ≤ 1000 ∧ Said (M.app bs).1 s.data.toList) := Lib.hid fun s hs => by
          rcases List.mem_append.1 hs with hs | hs
          · exact ⟨(HSD.out s hs).1, (HSD.out s hs).2.app hI bs⟩
          · rw [List.mem_singleton.1 hs]
            exact ⟨HSZ.out, said_new hI bs⟩
        have hn8 : n0 ≤ w8.heap.size := by have := X8.size; have := HN0.out; omega
        clear HA hM7 X7 hI hO7 hK8
        go_wp2_with (at_builtin; refine wpList_append_row2 _ hO8 34 Tryz.underlying34 strO_info rfl rfl (by decide) (by decide) rfl (by omega) hn8 rfl _ _ rfl rfl rfl ?_)
        intro v9 w9 hO9 hC9 hb9
        have hM9 := hM8.grown hO8 hC9 hO9 hb9 hn8
        have X9 : Ext w w9 := X8.chg_trans hC9 |>.mono (fun b hb e => by have := (hO8.lt b e.symm).1; have := HN0.out; omega)
        obtain ⟨A9, c9, rfl⟩ := own_slc hO9
        clear hM8 hO8 X8 hC9 hb9 hn8
        go_wp2_with fail
        go_roundw
        case rel => exact ⟨k + 1, _, A9, c9, SL ++ [⟨bs.toArray⟩], by go_num, by first | rfl | simp, by omega, by omega, by simp [hSL], by simpa using hO9, hM9, HI8.out, X9, HSD8.out⟩
        case measure => simp [intOf]; omega
end Go.Proofs.YtimjipcplmnpbaaGreat
