/-
  SessionNames: the walk.
-/
import Derived.Test.YtimjipcplmnpbaaGreatSe6
import Derived.Test.YtimjipcplmnpbaaGreatOpenCmdS
namespace Go.Proofs.YtimjipcplmnpbaaGreat
open Go.RowKit Go.Sort

/-- the bytes of another client's command leave a client's entry -/
theorem se_other {M : Mach} {x : Cmd} (hw : x.Wf) {k : Int} (hk : x.client ≠ k) : lget k (M.app (seBytes x ⟨#[]⟩)).1.cl = lget k M.cl := by
  refine Mach.told_stays fun h0 _ => ?_
  by_cases hg : (seCmd x).good = true
  · rw [cread_se hw hg]; exact hk
  · refine absurd h0 ?_
    unfold seBytes
    rw [if_neg hg]
    exact cread_nil
def lcmd : Cmd := ⟨4, 77, 3, ⟨#[]⟩, 0, 0, 0, [], 0, 0, 0⟩
theorem lcmd_wf : lcmd.Wf := ⟨by decide, by decide, by decide, by decide, by decide, by decide, by decide, by decide, by decide, fun d h => by cases h⟩
theorem lcmd_good : lcmd.good = true := by kernel_rfl
theorem lcmd_told {M : Mach} (h : lget 77 M.cl = none) : lget 77 (M.app lcmd.enc).1.cl = some ⟨3, (M.app lcmd.enc).2⟩ := by
  rw [app_enc lcmd_good lcmd_wf]
  have h1 : lcmd.isCl = true := by kernel_rfl
  have h2 : M.seq lcmd.client = 0 := by unfold Mach.seq; rw [show lcmd.client = 77 from rfl, h]; rfl
  have h3 : M.told lcmd.client lcmd.seq = none := by unfold Mach.told; rw [show lcmd.client = 77 from rfl, h]
  have h4 : ¬ (lcmd.client = 0 ∨ lcmd.seq = 0 ∨ lcmd.seq < M.seq lcmd.client) := by
    rw [h2]; unfold lcmd; simp
  have hc : M.cmd lcmd = ({ M with P := (M.P.app lcmd).1, cl := (lcmd.client, ⟨lcmd.seq, (M.P.app lcmd).2⟩) :: ldel lcmd.client M.cl }, (M.P.app lcmd).2) := by
    unfold Mach.cmd
    rw [if_neg (by rw [h1]; decide), if_neg h4, h3]
  rw [hc]
  show lget 77 ((lcmd.client, (⟨lcmd.seq, (M.P.app lcmd).2⟩ : Last)) :: ldel lcmd.client M.cl) = _
  rw [lget_put]
  rfl
theorem MInv.mono {n k : Nat} {M : Mach} (h : MInv n M) (hk : n ≤ k) (e : M.n = (k : Int)) : MInv k M :=
  ⟨h.cat.mono hk, e, fun p hp => ⟨(h.cl p hp).1, (h.cl p hp).2.1, (h.cl p hp).2.2.le hk⟩, Nat.le_trans h.len hk, h.nd⟩
set_option maxRecDepth 100000 in
set_option maxHeartbeats 8000000 in
theorem names_law (w : World) (l l2 : List CRow) (lv lv2 : Value) (hl : CmdsIn w l lv) (hl2 : CmdsIn w l2 lv2) (hd : ∀ x ∈ l, x.1.disks.length ≤ 17592186043904) (hd2 : ∀ x ∈ l2, x.1.disks.length ≤ 17592186043904) :
    Calls Tryz.prog 4 #[lv, lv2] w fun e w' => e = .returned (.bool true) ∧ Ext w w' := by
  obtain ⟨LA, lc, rfl, hlc, hlm⟩ := hl.cap
  obtain ⟨LB, lc2, rfl, hlc2, hlm2⟩ := hl2.cap
  have hll := hl.len
  have hll2 := hl2.len
  unfold maxLen at hll hlm hll2 hlm2
  have HL := Lib.hid hl
  have HDL := Lib.hid hd
  have HL2 := Lib.hid hl2
  have HDL2 := Lib.hid hd2
  clear hl hd hl2 hd2
  go_enter Tryz.func4, Tryz.ntmps4
  go_wp2_with fail
  obtain ⟨B, hBe⟩ : ∃ B, w.heap.size = B := ⟨_, rfl⟩
  have HwB := Lib.hid (show w.heap.size ≤ B by omega)
  have hN := snew_any w
  rw [hBe] at hN
  clear hBe
  refine hN.mono ?_
  rintro e w0 ⟨m, rfl, hM0, hE0⟩
  clear hN
  go_wp2_with fail
  refine (sawake_any w0).mono ?_
  rintro e w1 ⟨rfl, hE1⟩
  have X1 := hE0.trans hE1
  have hM1 := hM0.ext hE1
  clear hM0 hE0 hE1
  go_wp2_with fail
  go_loopw [6] (fun kv wr => ∃ (k n : Nat) (M : Mach), kv = .int .i64 (k : Int) ∧ k ≤ l.length ∧ k ≤ 15 ∧ n ≤ k + 0 ∧ MachIn wr B m M ∧ MInv n M ∧ lget 77 M.cl = none ∧ Ext w wr) (fun kv _ => 15 - (intOf kv).toNat)
  case atStart => exact ⟨0, 0, _, rfl, Nat.zero_le _, Nat.zero_le _, Nat.le_refl _, hM1, MInv.empty, rfl, X1⟩
  case round =>
    clear hM1 X1 
    obtain ⟨k, n, M, rfl, hkl, hk15, hnk, hM, hI, hG, Xk⟩ := hrel
    obtain ⟨fk, hfk⟩ : ∃ fk : Bool, fk = decide (k < l.length ∧ k < 15) := ⟨_, rfl⟩
    obtain ⟨wo, hwo⟩ : ∃ wo : World, wo = wr := ⟨_, rfl⟩
    go_upto_region 5 with fail
    go_cut [28] from 21 to 28 (fun tv wx => tv = .bool fk ∧ wx = wo)
    case first =>
      clear hM hI Xk hnk
      by_cases h1 : k < l.length
      · by_cases h2 : k < 15
        · obtain rfl : fk = true := by rw [hfk]; simp; omega
          clear hfk
          go_wp2_with fail
          go_meet
          case rel => exact ⟨by first | rfl | (simp <;> omega), hwo.symm⟩
        · obtain rfl : fk = false := by rw [hfk]; simp; omega
          clear hfk
          go_wp2_with fail
          go_meet
          case rel => exact ⟨by first | rfl | (simp <;> omega), hwo.symm⟩
      · obtain rfl : fk = false := by rw [hfk]; simp; omega
        clear hfk
        go_wp2_with fail
        go_meet
        case rel => exact ⟨by first | rfl | (simp <;> omega), hwo.symm⟩
    case rest =>
      obtain ⟨rfl, hwc⟩ := hcut
      subst hwc
      subst hwo
      cases fk
      · clear hfk
        have HTL := Lib.hid (lcmd_told hG)
        have HW : Hid (∀ W : World, Calls Tryz.prog 17 #[.agg #[.int .i64 4, .int .i64 77, .int .i64 3, .string ⟨#[]⟩, .int .u64 0, .int .i64 0, .int .u32 0, .slice none 0 0, .int .i64 0, .int .i64 0, .int .i64 0]] W fun r w' => r = .returned (.string ⟨lcmd.enc.toArray⟩) ∧ Ext W w') := Lib.hid fun W => write_any (w := W) (dv := .slice none 0 0) (c := lcmd) lcmd_wf (Sl.nil W 0) (by decide) (by decide)
        have hll := enc_len lcmd_good
        have hn3 : n + 1 ≤ 16 := by omega
        generalize lcmd.enc = ls at HTL HW hll
        clear hG hkl hk15 hnk
        go_wp2_with fail
        refine (HW.out _).mono ?_
        rintro e w2 ⟨rfl, hE2⟩
        have hM2 := hM.ext hE2
        have X2 := Xk.trans hE2
        have hsz : (⟨ls.toArray⟩ : ByteArray).size ≤ 1000 := by
          show ls.toArray.size ≤ 1000
          rw [List.size_toArray]; omega
        have HA := Lib.hid (mapply_any w2 B m M n hM2 hI (by omega) ⟨ls.toArray⟩ hsz)
        have HI3 := Lib.hid (hI.app ls)
        clear hsz hll hM hE2 Xk hI HW hM2
        go_wp2_with fail
        refine HA.out.mono ?_
        rintro e w3 ⟨A8, c8, rfl, hO3, hM3, hK3⟩
        have hbs : (⟨ls.toArray⟩ : ByteArray).data.toList = ls := rfl
        try rw [hbs] at hM3 hO3 ⊢
        have X3 : Ext w w3 := Km.ext X2 hK3 HwB.out
        clear HA X2 hK3 hbs
        generalize (M.app ls).1 = Mz at hM3 HI3 HTL
        generalize (M.app ls).2 = R at hO3 HTL ⊢
        unfold resV
        have hQ := At.new w3 36 #[.int .i64 R.err, .int .u64 (R.blob : Int), .int .i64 R.size, .int .u32 (R.sum : Int), .slice A8 R.names.length c8]
        have hEq := (Ext.refl w3).alloc (.cells #[.int .i64 R.err, .int .u64 (R.blob : Int), .int .i64 R.size, .int .u32 (R.sum : Int), .slice A8 R.names.length c8] 36)
        go_upto_region 10 with fail
        generalize w3.heap.size = rb at hQ ⊢
        generalize w3.alloc _ = w4 at hQ hEq ⊢
        have hM4 := hM3.ext hEq
        have hO4 := own_keep hO3 hEq (fun _ _ hh => hh)
        have X4 := X3.trans hEq
        clear hM3 hO3 X3 hEq
        go_wp2_with fail
        go_loopw [8] (fun kv wr => ∃ (k n : Nat) (M : Mach), kv = .int .i64 (k : Int) ∧ k ≤ l2.length ∧ k ≤ 15 ∧ n ≤ k + 16 ∧ MachIn wr B m M ∧ MInv n M ∧ lget 77 M.cl = some ⟨3, R⟩ ∧ At wr rb 36 #[.int .i64 R.err, .int .u64 (R.blob : Int), .int .i64 R.size, .int .u32 (R.sum : Int), .slice A8 R.names.length c8] ∧ wr.ownsRow 0 9 1 (.slice A8 R.names.length c8) R.names.length (R.names.map Value.string) ∧ Ext w wr) (fun kv _ => 15 - (intOf kv).toNat)
        case atStart => exact ⟨0, n + 1, _, rfl, Nat.zero_le _, Nat.zero_le _, by omega, hM4, HI3.out, HTL.out, hQ, hO4, X4⟩
        case round =>
          clear hM4 X4 HI3 HTL hQ hO4 hn3
          obtain ⟨k, n, M, rfl, hkl, hk15, hnk, hM, hI, hG, hRr, hRo, Xk⟩ := hrel
          obtain ⟨fk, hfk⟩ : ∃ fk : Bool, fk = decide (k < l2.length ∧ k < 15) := ⟨_, rfl⟩
          obtain ⟨wo, hwo⟩ : ∃ wo : World, wo = wr := ⟨_, rfl⟩
          go_upto_region 11 with fail
          go_cut [55] from 48 to 55 (fun tv wx => tv = .bool fk ∧ wx = wo)
          case first =>
            clear hM hI Xk hnk
            by_cases h1 : k < l2.length
            · by_cases h2 : k < 15
              · obtain rfl : fk = true := by rw [hfk]; simp; omega
                clear hfk
                go_wp2_with fail
                go_meet
                case rel => exact ⟨by first | rfl | (simp <;> omega), hwo.symm⟩
              · obtain rfl : fk = false := by rw [hfk]; simp; omega
                clear hfk
                go_wp2_with fail
                go_meet
                case rel => exact ⟨by first | rfl | (simp <;> omega), hwo.symm⟩
            · obtain rfl : fk = false := by rw [hfk]; simp; omega
              clear hfk
              go_wp2_with fail
              go_meet
              case rel => exact ⟨by first | rfl | (simp <;> omega), hwo.symm⟩
          case rest =>
            obtain ⟨rfl, hwc⟩ := hcut
            subst hwc
            subst hwo
            cases fk
            · clear hfk
              have hnum := hI.num
              have hT : M.told 77 3 = some R := by unfold Mach.told; rw [hG]; rfl
              have HT2 : Hid (M.told 77 2 = none) := Lib.hid (by unfold Mach.told; rw [hG]; rfl)
              have HI := Lib.hid hI
              have HN0 := Lib.hid (show n ≤ 1000 by omega)
              have hS1 := stold_any hM hI (by omega) 77 3
              rw [hT] at hS1
              clear hT hG hI hkl hk15 hnk hnum
              go_wp2_with fail
              refine hS1.mono ?_
              rintro e w2 ⟨r, A2, c2, rfl, hr, hO2, hE2⟩
              simp only [Option.getD_some] at hr
              subst hr
              clear hS1
              have hM2 := hM.ext hE2
              have hRr2 := hRr.ext hE2
              have HOR := Lib.hid (own_keep hRo hE2 (fun _ _ hh => hh))
              have X2 := Xk.trans hE2
              clear hM hRr hRo hE2 Xk
              unfold resV
              have hQ := At.new w2 36 #[.int .i64 r.err, .int .u64 (r.blob : Int), .int .i64 r.size, .int .u32 (r.sum : Int), .slice A2 r.names.length c2]
              have hEq := (Ext.refl w2).alloc (.cells #[.int .i64 r.err, .int .u64 (r.blob : Int), .int .i64 r.size, .int .u32 (r.sum : Int), .slice A2 r.names.length c2] 36)
              go_upto_region 16 with fail
              generalize w2.heap.size = qb at hQ ⊢
              generalize w2.alloc _ = w3 at hQ hEq ⊢
              have hM3 := hM2.ext hEq
              have hR3 := hRr2.ext hEq
              have hOR3 := own_keep HOR.out hEq (fun _ _ hh => hh)
              have hO3 := own_keep hO2 hEq (fun _ _ hh => hh)
              have X3 := X2.trans hEq
              clear hM2 hRr2 HOR hO2 X2 hEq
              have q4 := hQ.cell 4
              have p4 := hR3.cell 4
              simp at q4 p4
              generalize r.names = ns at hOR3 hO3 p4 q4 hQ hR3 ⊢
              go_upto_region 18 with fail
              go_wp2_with fail
              clear p4 q4
              go_loopw [90] (fun jv wr => ∃ j : Nat, jv = .int .i64 (j : Int) ∧ j ≤ ns.length ∧ Ext w3 wr) (fun jv _ => ns.length - (intOf jv).toNat)
              case atStart => exact ⟨0, rfl, Nat.zero_le _, Ext.refl _⟩
              case round =>
                obtain ⟨j, rfl, hj, hE3⟩ := hrel
                have hmx : maxLen = 9223372036854775807 := rfl
                have hM3 := hM3.ext hE3
                have hQ := hQ.ext hE3
                have hR3 := hR3.ext hE3
                have hOR3 := own_keep hOR3 hE3 (fun _ _ hh => hh)
                have hO3 := own_keep hO3 hE3 (fun _ _ hh => hh)
                have q4 := hQ.cell 4
                have p4 := hR3.cell 4
                simp at q4 p4
                by_cases hjn : j < ns.length
                · obtain ⟨x, hx⟩ : ∃ x, ns[j]? = some x := ⟨_, List.getElem?_eq_getElem hjn⟩
                  obtain ⟨g1, k1, hg1, _⟩ := own_some hOR3 (by omega)
                  obtain ⟨g2, k2, hg2, _⟩ := own_some hO3 (by omega)
                  injection hg1 with hg1a _ hg1c
                  injection hg2 with hg2a _ hg2c
                  subst hg1a hg1c hg2a hg2c
                  have i1 := hOR3.cellAt j (by simpa using hjn)
                  have i2 := hO3.cellAt j (by simpa using hjn)
                  rw [List.getElem?_map, hx] at i1 i2
                  simp only [Option.map_some] at i1 i2
                  clear hx hQ hR3 hM3 hOR3 hO3
                  go_upto_region 21 with fail
                  go_quiet (fail)
                  go_wp2_with fail
                  go_roundw
                  case rel => exact ⟨j + 1, by go_num, by omega, hE3.drewN _⟩
                  case measure => simp [intOf]; omega
                · obtain rfl : j = ns.length := by omega
                  have hS2 := stold_any hM3 HI.out HN0.out 77 2
                  rw [HT2.out] at hS2
                  clear hR3 hOR3 hO3 hM3 q4 p4 hQ HI HT2
                  go_wp2_with fail
                  refine hS2.mono ?_
                  rintro e w4 ⟨r', A', c', rfl, hr', _, hE4⟩
                  simp only [Option.getD_none] at hr'
                  subst hr'
                  have X4 := (X3.trans hE3).trans hE4
                  clear hS2 hE4
                  unfold resV
                  go_wp2_with fail
                  go_ret
                  exact ⟨rfl, X4.alloc _⟩
            · have hfk2 : k < l2.length ∧ k < 15 := by simpa using hfk.symm
              obtain ⟨hlt, hlt15⟩ := hfk2
              clear hfk
              obtain ⟨⟨x, dv⟩, hx⟩ : ∃ x, l2[k]? = some x := ⟨_, List.getElem?_eq_getElem hlt⟩
              have hin : x.In dv _ := (HL2.out.row _ (List.mem_of_getElem? hx)).ext Xk
              have hdx := HDL2.out _ (List.mem_of_getElem? hx)
              have hS := HL2.out.ops.ext Xk
              obtain ⟨lb, lo, rfl⟩ := cmds_some hS (fun e => by
                have := List.map_eq_nil_iff.1 e
                subst this; simp at hlt)
              obtain ⟨r0, r1, r2, r3, r4, r5, r6, r7, r8, r9, r10⟩ := crow_cells hS hx
              have HF := Lib.hid (sbytes_any _ x dv ⟨#[]⟩ hin hdx (by decide))
              have HWf := Lib.hid hin.wf
              have hsl := seBytes_len x ⟨#[]⟩
              clear hin hdx hx hS
              by_cases hc : x.client = 77
              · have hc1 : (x.client != 77) = false := by rw [hc]; rfl
                have HC := Lib.hid hc
                clear hc hsl
                go_wp2_with fail
                go_roundw
                case rel => exact ⟨k + 1, n, M, by go_num, by omega, by omega, by omega, hM, hI, hG, hRr, hRo, Xk⟩
                case measure => simp [intOf]; omega
              · have hc1 : (x.client != 77) = true := by rw [bne_iff_ne]; exact hc
                have HC := Lib.hid hc
                clear hc
                go_wp2_with fail
                refine HF.out.mono ?_
                rintro e w7 ⟨rfl, hE7⟩
                clear r0 r1 r2 r3 r4 r5 r6 r7 r8 r9 r10 HF
                have HSO := Lib.hid (se_other (M := M) HWf.out HC.out)
                generalize seBytes x ⟨#[]⟩ = bs at hsl HSO ⊢
                have hM7 := hM.ext hE7
                have X7 := Xk.trans hE7
                clear hM Xk
                have hsz : (⟨bs.toArray⟩ : ByteArray).size ≤ 1000 := by
                  show bs.toArray.size ≤ 1000
                  rw [List.size_toArray]; omega
                have HA := Lib.hid (mapply_any w7 B m M n hM7 hI (by omega) ⟨bs.toArray⟩ hsz)
                clear hsz hsl
                go_wp2_with fail
                refine HA.out.mono ?_
                rintro e w8 ⟨A8, c8, rfl, _, hM8, hK8⟩
                have hbs : (⟨bs.toArray⟩ : ByteArray).data.toList = bs := rfl
                try rw [hbs] at hM8
                have X8 : Ext w w8 := Km.ext X7 hK8 HwB.out
                have HI8 := Lib.hid (hI.app bs)
                clear HA hM7 X7 hI
                go_wp2_with fail
                go_roundw
                case rel => exact ⟨k + 1, n + 1, _, by go_num, by omega, by omega, by omega, hM8, HI8.out, by rw [HSO.out]; exact hG, hK8.at_ _ _ _ (by decide) (by decide) (by decide) (hRr.ext hE7), hK8.own (own_keep hRo hE7 (fun _ _ hh => hh)) (by decide) (by decide) (by decide), X8⟩
                case measure => simp [intOf]; omega
      · have hfk2 : k < l.length ∧ k < 15 := by simpa using hfk.symm
        obtain ⟨hlt, hlt15⟩ := hfk2
        clear hfk
        obtain ⟨⟨x, dv⟩, hx⟩ : ∃ x, l[k]? = some x := ⟨_, List.getElem?_eq_getElem hlt⟩
        have hin : x.In dv _ := (HL.out.row _ (List.mem_of_getElem? hx)).ext Xk
        have hdx := HDL.out _ (List.mem_of_getElem? hx)
        have hS := HL.out.ops.ext Xk
        obtain ⟨lb, lo, rfl⟩ := cmds_some hS (fun e => by
          have := List.map_eq_nil_iff.1 e
          subst this; simp at hlt)
        obtain ⟨r0, r1, r2, r3, r4, r5, r6, r7, r8, r9, r10⟩ := crow_cells hS hx
        have HF := Lib.hid (sbytes_any _ x dv ⟨#[]⟩ hin hdx (by decide))
        have HWf := Lib.hid hin.wf
        have hsl := seBytes_len x ⟨#[]⟩
        clear hin hdx hx hS
        by_cases hc : x.client = 77
        · have hc1 : (x.client != 77) = false := by rw [hc]; rfl
          have HC := Lib.hid hc
          clear hc hsl
          go_wp2_with fail
          go_roundw
          case rel => exact ⟨k + 1, n, M, by go_num, by omega, by omega, by omega, hM, hI, hG, Xk⟩
          case measure => simp [intOf]; omega
        · have hc1 : (x.client != 77) = true := by rw [bne_iff_ne]; exact hc
          have HC := Lib.hid hc
          clear hc
          go_wp2_with fail
          refine HF.out.mono ?_
          rintro e w7 ⟨rfl, hE7⟩
          clear r0 r1 r2 r3 r4 r5 r6 r7 r8 r9 r10 HF
          have HSO := Lib.hid (se_other (M := M) HWf.out HC.out)
          generalize seBytes x ⟨#[]⟩ = bs at hsl HSO ⊢
          have hM7 := hM.ext hE7
          have X7 := Xk.trans hE7
          clear hM Xk
          have hsz : (⟨bs.toArray⟩ : ByteArray).size ≤ 1000 := by
            show bs.toArray.size ≤ 1000
            rw [List.size_toArray]; omega
          have HA := Lib.hid (mapply_any w7 B m M n hM7 hI (by omega) ⟨bs.toArray⟩ hsz)
          clear hsz hsl
          go_wp2_with fail
          refine HA.out.mono ?_
          rintro e w8 ⟨A8, c8, rfl, _, hM8, hK8⟩
          have hbs : (⟨bs.toArray⟩ : ByteArray).data.toList = bs := rfl
          try rw [hbs] at hM8
          have X8 : Ext w w8 := Km.ext X7 hK8 HwB.out
          have HI8 := Lib.hid (hI.app bs)
          clear HA hM7 X7 hI
          go_wp2_with fail
          go_roundw
          case rel => exact ⟨k + 1, n + 1, _, by go_num, by omega, by omega, by omega, hM8, HI8.out, by rw [HSO.out]; exact hG, X8⟩
          case measure => simp [intOf]; omega
end Go.Proofs.YtimjipcplmnpbaaGreat
