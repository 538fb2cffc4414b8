/-
  CatalogErr: the plain law, the walk.
-/
import Derived.Test.YtchnejfdompfpaaCatLvC
import Derived.Test.YtchnejfdompfpaaCatWrite
namespace Go.Proofs.Ytchnejfdompfpaa
open Go.RowKit Go.Sort

theorem rs1_err {P : Pm} {q : Pm × Int} (h : q.2 ≠ 0 → q.1 = P) (h2 : (rs1 q).2.err ≠ 0) : (rs1 q).1 = P ∧ (rs1 q).2 = Rs.er (rs1 q).2.err := ⟨h h2, rfl⟩
theorem put_err {P : Pm} {x : Cmd} : (P.put x).2 ≠ 0 → (P.put x).1 = P := by
  unfold Pm.put
  split
  · intro _; rfl
  · split
    · intro _; rfl
    · intro h; exact absurd rfl h
theorem volume_err {P : Pm} {x : Cmd} : (P.volume x).2 ≠ 0 → (P.volume x).1 = P := by
  unfold Pm.volume
  split
  · intro h; exact absurd rfl h
  · split
    · split
      · intro h; exact absurd rfl h
      · intro _; rfl
    · split
      · intro h; exact absurd rfl h
      · intro _; rfl
theorem byBlob_err {P : Pm} {x : Cmd} : (P.byBlob x).2 ≠ 0 → (P.byBlob x).1 = P := by
  unfold Pm.byBlob
  cases P.find x.blob with
  | none => intro _; rfl
  | some b =>
    show (if x.kind = 10 then (if !b.dead || decide (0 < b.pins) then (P, (16 : Int)) else (P.drop b.id, 0)) else if (chgB (P.vol x.vol.toNat).closed b x).2 = 0 then (P.set (chgB (P.vol x.vol.toNat).closed b x).1, 0) else (P, (chgB (P.vol x.vol.toNat).closed b x).2)).2 ≠ 0 → (if x.kind = 10 then (if !b.dead || decide (0 < b.pins) then (P, (16 : Int)) else (P.drop b.id, 0)) else if (chgB (P.vol x.vol.toNat).closed b x).2 = 0 then (P.set (chgB (P.vol x.vol.toNat).closed b x).1, 0) else (P, (chgB (P.vol x.vol.toNat).closed b x).2)).1 = P
    split
    · split
      · intro _; rfl
      · intro h; exact absurd rfl h
    · split
      · intro h; exact absurd rfl h
      · intro _; rfl
theorem app_err {P : Pm} {x : Cmd} (h : (P.app x).2.err ≠ 0) : (P.app x).1 = P ∧ (P.app x).2 = Rs.er (P.app x).2.err := by
  revert h
  unfold Pm.app
  split
  · intro _; exact ⟨rfl, rfl⟩
  · split
    · exact rs1_err put_err
    · split
      · intro h; exact absurd rfl h
      · split
        · unfold Pm.byName
          cases P.named x.name with
          | none => intro _; exact ⟨rfl, rfl⟩
          | some b => intro h; exact absurd rfl h
        · split
          · exact rs1_err volume_err
          · exact rs1_err byBlob_err

set_option maxRecDepth 100000 in
set_option maxHeartbeats 8000000 in
theorem err_law (w : World) (l : List CRow) (lv : Value) (y : Cmd) (dy : Value) (hl : CmdsIn w l lv) (hy : y.In dy w) :
    Calls Try.prog 6 #[lv, cmdVal y dy] w fun e w' => e = .returned (.bool true) ∧ Ext w w' := by
  obtain ⟨LA, lc, rfl, hlc, hlm⟩ := hl.cap
  have hll := hl.len
  unfold maxLen at hll hlm
  have HL := Lib.hid hl
  have HY := Lib.hid hy
  clear hl hy
  unfold cmdVal
  go_enter Try.func6, Try.ntmps6
  go_upto_region 1 with fail
  have hYb := At.new w 35 #[.int .i64 y.kind, .int .i64 y.client, .int .i64 y.seq, .string y.name, .int .u64 (y.blob : Int), .int .i64 y.size, .int .u32 (y.sum : Int), dy, .int .i64 y.pool, .int .i64 y.vol, .int .i64 y.at_]
  have hEy := (Ext.refl w).alloc (.cells #[.int .i64 y.kind, .int .i64 y.client, .int .i64 y.seq, .string y.name, .int .u64 (y.blob : Int), .int .i64 y.size, .int .u32 (y.sum : Int), dy, .int .i64 y.pool, .int .i64 y.vol, .int .i64 y.at_] 35)
  generalize hyb : w.heap.size = yb at hYb ⊢
  generalize w.alloc (.cells #[.int .i64 y.kind, .int .i64 y.client, .int .i64 y.seq, .string y.name, .int .u64 (y.blob : Int), .int .i64 y.size, .int .u32 (y.sum : Int), dy, .int .i64 y.pool, .int .i64 y.vol, .int .i64 y.at_] 35) = wy at *
  obtain ⟨B, hBe⟩ : ∃ B, wy.heap.size = B := ⟨_, rfl⟩
  have hwB : wy.heap.size ≤ B := by omega
  have hyB : yb < B := by have := hYb.lt; omega
  have hN := cnew_any wy
  rw [hBe] at hN
  clear hBe hyb
  go_wp2_with fail
  refine hN.mono ?_
  rintro e w0 ⟨c, mb, mn, rfl, hC0, hE0⟩
  clear hN
  go_wp2_with fail
  refine (awake_any w0).mono ?_
  rintro e w1 ⟨rfl, hE1⟩
  have X1 := hE0.trans hE1
  have hC1 := hC0.ext hE1
  clear hC0 hE0 hE1
  go_wp2_with fail
  go_loopw [6] (fun kv wr => ∃ (k : Nat) (P : Pm), kv = .int .i64 (k : Int) ∧ k ≤ l.length ∧ k ≤ 25 ∧ CatIn wr B c mb mn P ∧ PInv k P ∧ Ext wy wr) (fun kv _ => 25 - (intOf kv).toNat)
  case atStart => exact ⟨0, _, rfl, Nat.zero_le _, Nat.zero_le _, hC1, PInv.empty 0, X1⟩
  case round =>
    clear hC1 X1
    obtain ⟨k, P, rfl, hkl, hk30, hCk, hPk, Xk⟩ := hrel
    obtain ⟨fk, hfk⟩ : ∃ fk : Bool, fk = decide (k < l.length ∧ k < 25) := ⟨_, rfl⟩
    obtain ⟨wo, hwo⟩ : ∃ wo : World, wo = wr := ⟨_, rfl⟩
    go_upto_region 5 with fail
    go_cut [23] from 16 to 23 (fun tv wx => tv = .bool fk ∧ wx = wo)
    case first =>
      clear hCk hPk Xk hYb
      by_cases h1 : k < l.length
      · by_cases h2 : k < 25
        · obtain rfl : fk = true := by rw [hfk]; simp; omega
          clear hfk
          go_wp2_with fail
          go_meet
          case rel => exact ⟨by first | rfl | (simp <;> omega), hwo.symm⟩
        · obtain rfl : fk = false := by rw [hfk]; simp; omega
          clear hfk
          go_wp2_with fail
          go_meet
          case rel => exact ⟨by first | rfl | (simp <;> omega), hwo.symm⟩
      · obtain rfl : fk = false := by rw [hfk]; simp; omega
        clear hfk
        go_wp2_with fail
        go_meet
        case rel => exact ⟨by first | rfl | (simp <;> omega), hwo.symm⟩
    case rest =>
      obtain ⟨rfl, hwc⟩ := hcut
      subst hwc
      subst hwo
      cases fk
      · clear hfk
        have HW := Lib.hid (cwrite_any hCk hPk (by omega))
        go_wp2_with fail
        refine HW.out.mono ?_
        rintro e w2 ⟨rfl, hE2⟩
        have X2 := Xk.trans hE2
        have hY2 := hYb.ext X2
        have hC2 := hCk.ext hE2
        have q0 := hY2.cell 0
        have q1 := hY2.cell 1
        have q2 := hY2.cell 2
        have q3 := hY2.cell 3
        have q4 := hY2.cell 4
        have q5 := hY2.cell 5
        have q6 := hY2.cell 6
        have q7 := hY2.cell 7
        have q8 := hY2.cell 8
        have q9 := hY2.cell 9
        have q10 := hY2.cell 10
        simp at q0 q1 q2 q3 q4 q5 q6 q7 q8 q9 q10
        have HF := Lib.hid (few_any w2 y dy (HY.out.ext (hEy.trans X2)))
        clear HW hE2 Xk hCk hY2
        go_wp2_with fail
        refine HF.out.mono ?_
        rintro e w3 ⟨fA, fc, rfl, hO3, hE3⟩
        have hdl := fewC_dl y
        have hnl : (fewC y).name.size ≤ 40 := cut_size y.name 40
        have HA := Lib.hid (capply_any (hC2.ext hE3) hPk (by omega) (fewC y) _ (own_base0 hO3) (by omega) (by omega) (fewC_wf HY.out.wf))
        have X3 := X2.trans hE3
        have hPn := hPk.app (fewC_wf HY.out.wf)
        have hae := app_err (P := P) (x := fewC y)
        clear q0 q1 q2 q3 q4 q5 q6 q7 q8 q9 q10 HF hC2 hE3 hO3 hdl hnl X2
        generalize P.app (fewC y) = R at HA hae hPn
        obtain ⟨P2, er, bl, sz, sm, nl⟩ := R
        simp only at hae hPn
        go_wp2_with fail
        refine HA.out.mono ?_
        rintro e w4 ⟨A4, c4, rfl, _, hC4, hK4⟩
        have X4 : Ext wy w4 := Kp.ext X3 hK4 hwB
        have XW := hEy.trans X4
        clear HA hK4 X3 hYb
        simp only [resV] at hC4 ⊢
        by_cases he : er = 0
        · subst he
          go_wp2_with fail
          go_ret
          exact ⟨rfl, XW.alloc _⟩
        · obtain ⟨h1, h2⟩ := hae he
          subst h1
          injection h2 with _ h3 h4 h5 h6
          subst h3 h4 h5 h6
          have hn0 : (er == 0) = false := by simpa using he
          clear hae he
          simp only [List.length_nil]
          have HW := Lib.hid (fun W (hE : Ext w4 W) => cwrite_any (hC4.ext hE) hPn (by omega))
          have hR5 := At.new w4 31 #[.int .i64 er, .int .u64 0, .int .i64 0, .int .u32 0, .slice A4 0 c4]
          have hE5 := (Ext.refl w4).alloc (.cells #[.int .i64 er, .int .u64 0, .int .i64 0, .int .u32 0, .slice A4 0 c4] 31)
          go_upto_region 10 with fail
          generalize w4.alloc _ = w5 at *
          generalize w4.heap.size = rb at *
          have r0 := hR5.cell 0
          simp at r0
          clear hC4
          go_wp2_with fail
          refine (HW.out _ hE5).mono ?_
          rintro e w6 ⟨rfl, hE6⟩
          have hR6 := hR5.ext hE6
          have r1 := hR6.cell 1
          have r2 := hR6.cell 2
          have r3 := hR6.cell 3
          have r4 := hR6.cell 4
          simp at r1 r2 r3 r4
          have X6 := (XW.trans hE5).trans hE6
          clear HW hR5 hR6 hE5 hE6
          go_wp2_with fail
          go_ret
          exact ⟨ret_bool (by simp), X6⟩
      · have hfk2 : k < l.length ∧ k < 25 := by simpa using hfk.symm
        obtain ⟨hlt, hlt30⟩ := hfk2
        clear hfk
        obtain ⟨⟨x, dv⟩, hx⟩ : ∃ x, l[k]? = some x := ⟨_, List.getElem?_eq_getElem hlt⟩
        have hin : x.In dv wc := (HL.out.row _ (List.mem_of_getElem? hx)).ext (hEy.trans Xk)
        have hS := HL.out.ops.ext (hEy.trans Xk)
        obtain ⟨lb, lo, rfl⟩ := cmds_some hS (fun e => by
          have := List.map_eq_nil_iff.1 e
          subst this; simp at hlt)
        obtain ⟨r0, r1, r2, r3, r4, r5, r6, r7, r8, r9, r10⟩ := crow_cells hS hx
        have HF := Lib.hid (few_any wc x dv hin)
        have HIN := Lib.hid hin
        have HX := Lib.hid hx
        clear hin hx hS
        go_wp2_with fail
        refine HF.out.mono ?_
        rintro e w2 ⟨fA, fc, rfl, hO2, hE2⟩
        have hdl := fewC_dl x
        have hnl : (fewC x).name.size ≤ 40 := cut_size x.name 40
        have HA := Lib.hid (capply_any (hCk.ext hE2) hPk (by omega) (fewC x) _ (own_base0 hO2) (by omega) (by omega) (fewC_wf HIN.out.wf))
        have X2 := Xk.trans hE2
        clear r0 r1 r2 r3 r4 r5 r6 r7 r8 r9 r10 HF hCk hO2 hE2 hdl hnl Xk
        go_wp2_with fail
        refine HA.out.mono ?_
        rintro e w3 ⟨A3, c3, rfl, _, hC3, hK3⟩
        have X3 : Ext wy w3 := Kp.ext X2 hK3 hwB
        clear HA hK3 X2
        go_wp2_with fail
        go_roundw
        case rel => exact ⟨k + 1, _, by go_num, by omega, by omega, hC3, hPk.app (fewC_wf HIN.out.wf), X3⟩
        case measure => simp [intOf]; omega
end Go.Proofs.Ytchnejfdompfpaa
