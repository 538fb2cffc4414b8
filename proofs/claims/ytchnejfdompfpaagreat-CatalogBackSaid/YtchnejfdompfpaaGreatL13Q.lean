/-
  CatalogBack: the walk.
-/
import Derived.Test.YtchnejfdompfpaaGreatL13G
import Derived.Test.YtchnejfdompfpaaGreatRdCat
namespace Go.Proofs.YtchnejfdompfpaaGreat
open Go.RowKit Go.Sort

theorem cread_back (w : World) (P : Pm) (n : Nat) (hi : PInv n P) (hn : n ≤ 1000) (hpl : P.L.length < 50) : Calls Tryz.prog 15 #[.string ⟨P.enc.toArray⟩] w fun e w' => ∃ B c mb mn, w.heap.size ≤ B ∧ e = .returned (.tuple #[.pointer (some ⟨c, 0, none⟩), .int .i64 0]) ∧ CatIn w' B c mb mn P ∧ Ext w w' := by
  have h1 := enc_pre2 hi hpl 12
  rw [List.take_of_length_le (by rw [hi.vlen]; omega)] at h1
  have hs : (⟨P.enc.toArray⟩ : ByteArray).size ≤ 140737488355328 := by
    show P.enc.toArray.size ≤ _
    rw [List.size_toArray]
    exact Nat.le_trans h1 (by decide)
  refine (cread_any w ⟨P.enc.toArray⟩ hs).mono ?_
  rintro e w' ⟨h2, _, hE⟩
  have e1 : (⟨P.enc.toArray⟩ : ByteArray).data.toList = P.enc := rfl
  rw [e1, rdCat_enc hi (by omega)] at h2
  obtain ⟨B, c, mb, mn, hB, he, hC⟩ := h2 rfl
  exact ⟨B, c, mb, mn, hB, he, hC, hE⟩
theorem rf_empty2 (w : World) : RfIn w (.agg #[.slice none 0 0, .bool false, .bool false, .int .i64 0, .bool false, .bool false, .int .i64 0, .bool false, .bool false, .int .i64 0, .bool false, .bool false, .int .i64 0, .bool false, .bool false, .int .i64 0, .bool false, .bool false, .int .i64 0, .bool false, .bool false, .int .i64 0, .bool false, .bool false, .int .i64 0, .bool false, .bool false, .int .i64 0, .bool false, .bool false, .int .i64 0, .bool false, .bool false, .int .i64 0, .bool false, .bool false, .int .i64 0]) Pm.empty := ⟨.slice none 0 0, [], rfl, rfl, ⟨⟨by simp, .inl ⟨rfl, rfl⟩⟩, fun p hp => by cases hp⟩⟩
set_option maxRecDepth 100000 in
set_option maxHeartbeats 8000000 in
theorem back_law (w : World) (l l2 : List CRow) (lv lv2 : Value) (hl : CmdsIn w l lv) (hl2 : CmdsIn w l2 lv2) :
    Calls Tryz.prog 5 #[lv, lv2] w fun e w' => e = .returned (.bool true) ∧ Ext w w' := by
  obtain ⟨LA, lc, rfl, hlc, hlm⟩ := hl.cap
  have hll := hl.len
  unfold maxLen at hll hlm
  have HL := Lib.hid hl
  obtain ⟨LA2, lc2, rfl, hlc2, hlm2⟩ := hl2.cap
  have hll2 := hl2.len
  unfold maxLen at hll2 hlm2
  have HL2 := Lib.hid hl2
  clear hl hl2
  go_enter Tryz.func5, Tryz.ntmps5
  go_wp2_with fail
  obtain ⟨B, hBe⟩ : ∃ B, w.heap.size = B := ⟨_, rfl⟩
  have HwB := Lib.hid (show w.heap.size ≤ B by omega)
  have hN := cnew_any w
  rw [hBe] at hN
  clear hBe
  refine hN.mono ?_
  rintro e w0 ⟨c, mb, mn, rfl, hC0, hE0⟩
  clear hN
  have hX0 := At.new w0 31 #[.slice none 0 0, .bool false, .bool false, .int .i64 0, .bool false, .bool false, .int .i64 0, .bool false, .bool false, .int .i64 0, .bool false, .bool false, .int .i64 0, .bool false, .bool false, .int .i64 0, .bool false, .bool false, .int .i64 0, .bool false, .bool false, .int .i64 0, .bool false, .bool false, .int .i64 0, .bool false, .bool false, .int .i64 0, .bool false, .bool false, .int .i64 0, .bool false, .bool false, .int .i64 0, .bool false, .bool false, .int .i64 0]
  have hEx := (Ext.refl w0).alloc (.cells #[.slice none 0 0, .bool false, .bool false, .int .i64 0, .bool false, .bool false, .int .i64 0, .bool false, .bool false, .int .i64 0, .bool false, .bool false, .int .i64 0, .bool false, .bool false, .int .i64 0, .bool false, .bool false, .int .i64 0, .bool false, .bool false, .int .i64 0, .bool false, .bool false, .int .i64 0, .bool false, .bool false, .int .i64 0, .bool false, .bool false, .int .i64 0, .bool false, .bool false, .int .i64 0, .bool false, .bool false, .int .i64 0] 31)
  have HT0 := Lib.hid hX0.there
  go_upto_region 3 with (refine wpList_store_mid rfl 31 _ _ rfl w0.heap.size 0 #[.slice none 0 0, .bool false, .bool false, .int .i64 0, .bool false, .bool false, .int .i64 0, .bool false, .bool false, .int .i64 0, .bool false, .bool false, .int .i64 0, .bool false, .bool false, .int .i64 0, .bool false, .bool false, .int .i64 0, .bool false, .bool false, .int .i64 0, .bool false, .bool false, .int .i64 0, .bool false, .bool false, .int .i64 0, .bool false, .bool false, .int .i64 0, .bool false, .bool false, .int .i64 0, .bool false, .bool false, .int .i64 0] rfl rfl HT0.out rf_cinfo (by simp [Value.oneCell']) ?_)
  have hX1 := At.cells_all (cs := #[.slice none 0 0, .bool false, .bool false, .int .i64 0, .bool false, .bool false, .int .i64 0, .bool false, .bool false, .int .i64 0, .bool false, .bool false, .int .i64 0, .bool false, .bool false, .int .i64 0, .bool false, .bool false, .int .i64 0, .bool false, .bool false, .int .i64 0, .bool false, .bool false, .int .i64 0, .bool false, .bool false, .int .i64 0, .bool false, .bool false, .int .i64 0, .bool false, .bool false, .int .i64 0, .bool false, .bool false, .int .i64 0]) hX0 rfl
  have hE1 : Ext w0 ((w0.alloc (.cells #[.slice none 0 0, .bool false, .bool false, .int .i64 0, .bool false, .bool false, .int .i64 0, .bool false, .bool false, .int .i64 0, .bool false, .bool false, .int .i64 0, .bool false, .bool false, .int .i64 0, .bool false, .bool false, .int .i64 0, .bool false, .bool false, .int .i64 0, .bool false, .bool false, .int .i64 0, .bool false, .bool false, .int .i64 0, .bool false, .bool false, .int .i64 0, .bool false, .bool false, .int .i64 0, .bool false, .bool false, .int .i64 0] 31)).setCells w0.heap.size 0 (#[.slice none 0 0, .bool false, .bool false, .int .i64 0, .bool false, .bool false, .int .i64 0, .bool false, .bool false, .int .i64 0, .bool false, .bool false, .int .i64 0, .bool false, .bool false, .int .i64 0, .bool false, .bool false, .int .i64 0, .bool false, .bool false, .int .i64 0, .bool false, .bool false, .int .i64 0, .bool false, .bool false, .int .i64 0, .bool false, .bool false, .int .i64 0, .bool false, .bool false, .int .i64 0, .bool false, .bool false, .int .i64 0] : Array Value).toList) := hEx.setCells (Nat.le_refl _) _ _
  clear HT0 hX0 hEx
  have HXB := Lib.hid (show w.heap.size ≤ w0.heap.size from hE0.size)
  generalize w0.heap.size = xb at hX1 hE1 HXB ⊢
  generalize (w0.alloc (.cells #[.slice none 0 0, .bool false, .bool false, .int .i64 0, .bool false, .bool false, .int .i64 0, .bool false, .bool false, .int .i64 0, .bool false, .bool false, .int .i64 0, .bool false, .bool false, .int .i64 0, .bool false, .bool false, .int .i64 0, .bool false, .bool false, .int .i64 0, .bool false, .bool false, .int .i64 0, .bool false, .bool false, .int .i64 0, .bool false, .bool false, .int .i64 0, .bool false, .bool false, .int .i64 0, .bool false, .bool false, .int .i64 0] 31)).setCells xb 0 (#[.slice none 0 0, .bool false, .bool false, .int .i64 0, .bool false, .bool false, .int .i64 0, .bool false, .bool false, .int .i64 0, .bool false, .bool false, .int .i64 0, .bool false, .bool false, .int .i64 0, .bool false, .bool false, .int .i64 0, .bool false, .bool false, .int .i64 0, .bool false, .bool false, .int .i64 0, .bool false, .bool false, .int .i64 0, .bool false, .bool false, .int .i64 0, .bool false, .bool false, .int .i64 0, .bool false, .bool false, .int .i64 0] : Array Value).toList = W1 at hX1 hE1 ⊢
  have hR1 : RfIn W1 (.agg #[.slice none 0 0, .bool false, .bool false, .int .i64 0, .bool false, .bool false, .int .i64 0, .bool false, .bool false, .int .i64 0, .bool false, .bool false, .int .i64 0, .bool false, .bool false, .int .i64 0, .bool false, .bool false, .int .i64 0, .bool false, .bool false, .int .i64 0, .bool false, .bool false, .int .i64 0, .bool false, .bool false, .int .i64 0, .bool false, .bool false, .int .i64 0, .bool false, .bool false, .int .i64 0, .bool false, .bool false, .int .i64 0]) Pm.empty := rf_empty2 W1
  have hz37 : (#[.slice none 0 0, .bool false, .bool false, .int .i64 0, .bool false, .bool false, .int .i64 0, .bool false, .bool false, .int .i64 0, .bool false, .bool false, .int .i64 0, .bool false, .bool false, .int .i64 0, .bool false, .bool false, .int .i64 0, .bool false, .bool false, .int .i64 0, .bool false, .bool false, .int .i64 0, .bool false, .bool false, .int .i64 0, .bool false, .bool false, .int .i64 0, .bool false, .bool false, .int .i64 0, .bool false, .bool false, .int .i64 0] : Array Value).size = 37 := rfl
  generalize (#[.slice none 0 0, .bool false, .bool false, .int .i64 0, .bool false, .bool false, .int .i64 0, .bool false, .bool false, .int .i64 0, .bool false, .bool false, .int .i64 0, .bool false, .bool false, .int .i64 0, .bool false, .bool false, .int .i64 0, .bool false, .bool false, .int .i64 0, .bool false, .bool false, .int .i64 0, .bool false, .bool false, .int .i64 0, .bool false, .bool false, .int .i64 0, .bool false, .bool false, .int .i64 0, .bool false, .bool false, .int .i64 0] : Array Value) = ZX at hX1 hR1 hz37
  go_wp2_with fail
  refine (awake_any W1).mono ?_
  rintro e w2 ⟨rfl, hE2⟩
  have X1 := (hE0.trans hE1).trans hE2
  have hC1 := hC0.ext (hE1.trans hE2)
  have hX2 := hX1.ext hE2
  have hR2 := hR1.ext hE2
  clear hC0 hE0 hE1 hE2 hX1 hR1
  go_wp2_with fail
  go_loopw [7] (fun kv wr => ∃ (k : Nat) (P : Pm) (X : Array Value), kv = .int .i64 (k : Int) ∧ k ≤ l.length ∧ k ≤ 25 ∧ CatIn wr B c mb mn P ∧ PInv k P ∧ At wr xb 31 X ∧ X.size = 37 ∧ RfIn wr (.agg X) P ∧ Ext w wr) (fun kv _ => 25 - (intOf kv).toNat)
  case atStart => exact ⟨0, _, ZX, rfl, Nat.zero_le _, Nat.zero_le _, hC1, PInv.empty 0, hX2, hz37, hR2, X1⟩
  case round =>
    clear hC1 X1 hX2 hR2 hz37
    obtain ⟨k, P, X, rfl, hkl, hk40, hCk, hPk, hXk, h37, hRk, Xk⟩ := hrel
    have HI1 : Hid ((Tryz.prog.info? 31).map (·.size) = some X.toList.length) := Lib.hid (by rw [Array.length_toList, h37]; exact rf_cinfo)
    obtain ⟨fk, hfk⟩ : ∃ fk : Bool, fk = decide (k < l.length ∧ k < 25) := ⟨_, rfl⟩
    obtain ⟨wo, hwo⟩ : ∃ wo : World, wo = wr := ⟨_, rfl⟩
    go_upto_region 6 with fail
    go_cut [30] from 23 to 30 (fun tv wx => tv = .bool fk ∧ wx = wo)
    case first =>
      clear hCk hPk hXk hRk Xk HI1 h37
      by_cases h1 : k < l.length
      · by_cases h2 : k < 25
        · obtain rfl : fk = true := by rw [hfk]; simp; omega
          clear hfk
          go_wp2_with fail
          go_meet
          case rel => exact ⟨by first | rfl | (simp <;> omega), hwo.symm⟩
        · obtain rfl : fk = false := by rw [hfk]; simp; omega
          clear hfk
          go_wp2_with fail
          go_meet
          case rel => exact ⟨by first | rfl | (simp <;> omega), hwo.symm⟩
      · obtain rfl : fk = false := by rw [hfk]; simp; omega
        clear hfk
        go_wp2_with fail
        go_meet
        case rel => exact ⟨by first | rfl | (simp <;> omega), hwo.symm⟩
    case rest =>
      obtain ⟨rfl, hwc⟩ := hcut
      subst hwc
      subst hwo
      cases fk
      · clear hfk
        obtain ⟨K1, hK1⟩ : ∃ K1, K1 = k := ⟨_, rfl⟩
        have hpl : P.L.length < 50 := by have := hPk.len; omega
        have HWR := Lib.hid (cwrite_any hCk hPk (by omega))
        go_wp2_with fail
        refine HWR.out.mono ?_
        rintro e w3 ⟨rfl, hE3⟩
        have HRD := Lib.hid (cread_back w3 P k hPk (by omega) hpl)
        clear HWR
        go_wp2_with fail
        refine HRD.out.mono ?_
        rintro e w4 ⟨B2, c2, mb2, mn2, hB2, rfl, hC4, hE4⟩
        have X4 := (Xk.trans hE3).trans hE4
        have hR4 := (hRk.ext hE3).ext hE4
        have hX4 := (hXk.ext hE3).ext hE4
        have HwB2 := Lib.hid (Nat.le_trans (Xk.trans hE3).size hB2)
        clear HRD hE3 hE4 hCk hRk hXk Xk hB2
        have HIS := Lib.hid (is_any w4 B2 c2 mb2 mn2 P k (.agg X) hC4 hR4 hPk (by omega))
        have HRX := Lib.hid hX4.range
        go_wp2_with (refine wpList_load_on rfl 31 _ rfl xb 0 rfl _ _ HRX.out Tryz.underlying31 rfl HI1.out ?_)
        refine HIS.out.mono ?_
        rintro e w5 ⟨rfl, hE5⟩
        have X5 := X4.trans hE5
        have hC5 := hC4.ext hE5
        have hR5 := hR4.ext hE5
        have hX5 := hX4.ext hE5
        have hP5 : PInv (K1 + 0) P := by rw [hK1]; exact hPk
        clear HIS HRX hC4 hR4 hX4 X4 hE5 hPk
        go_upto_region 15 with fail
        rw [← hK1] at hk40
        generalize hkk : (k : Int) = kk
        clear hkk hK1 hkl HI1
        go_wp2_with fail
        go_loopw [12] (fun kv wr => ∃ (k : Nat) (P : Pm) (X : Array Value), kv = .int .i64 (k : Int) ∧ k ≤ l2.length ∧ k ≤ 15 ∧ CatIn wr B2 c2 mb2 mn2 P ∧ PInv (K1 + k) P ∧ At wr xb 31 X ∧ X.size = 37 ∧ RfIn wr (.agg X) P ∧ Ext w wr) (fun kv _ => 15 - (intOf kv).toNat)
        case atStart => exact ⟨0, P, X, rfl, Nat.zero_le _, Nat.zero_le _, hC5, hP5, hX5, h37, hR5, X5⟩
        case round =>
          clear hC5 hP5 hX5 h37 hR5 X5
          obtain ⟨k, P, X, rfl, hkl, hk40b, hCk, hPk, hXk, h37, hRk, Xk⟩ := hrel
          have HI1 : Hid ((Tryz.prog.info? 31).map (·.size) = some X.toList.length) := Lib.hid (by rw [Array.length_toList, h37]; exact rf_cinfo)
          obtain ⟨fk, hfk⟩ : ∃ fk : Bool, fk = decide (k < l2.length ∧ k < 15) := ⟨_, rfl⟩
          obtain ⟨wo, hwo⟩ : ∃ wo : World, wo = wr := ⟨_, rfl⟩
          go_upto_region 16 with fail
          go_cut [71] from 64 to 71 (fun tv wx => tv = .bool fk ∧ wx = wo)
          case first =>
            clear hCk hPk hXk hRk Xk HI1 h37
            by_cases h1 : k < l2.length
            · by_cases h2 : k < 15
              · obtain rfl : fk = true := by rw [hfk]; simp; omega
                clear hfk
                go_wp2_with fail
                go_meet
                case rel => exact ⟨by first | rfl | (simp <;> omega), hwo.symm⟩
              · obtain rfl : fk = false := by rw [hfk]; simp; omega
                clear hfk
                go_wp2_with fail
                go_meet
                case rel => exact ⟨by first | rfl | (simp <;> omega), hwo.symm⟩
            · obtain rfl : fk = false := by rw [hfk]; simp; omega
              clear hfk
              go_wp2_with fail
              go_meet
              case rel => exact ⟨by first | rfl | (simp <;> omega), hwo.symm⟩
          case rest =>
            obtain ⟨rfl, hwc⟩ := hcut
            subst hwc
            subst hwo
            cases fk
            · clear hfk
              have HIS := Lib.hid (is_any wc B2 c2 mb2 mn2 P (K1 + k) (.agg X) hCk hRk hPk (by omega))
              have HRX := Lib.hid hXk.range
              go_wp2_with (refine wpList_load_mid rfl 31 _ rfl xb 0 rfl _ _ HRX.out Tryz.underlying31 rfl HI1.out ?_)
              refine HIS.out.mono ?_
              rintro e w5 ⟨rfl, hE5⟩
              have X5 := Xk.trans hE5
              clear HIS HRX
              go_wp2_with fail
              go_ret
              exact ⟨rfl, X5⟩
            · have hfk2 : k < l2.length ∧ k < 15 := by simpa using hfk.symm
              obtain ⟨hlt, hlt40⟩ := hfk2
              clear hfk
              obtain ⟨⟨x, dv⟩, hx⟩ : ∃ x, l2[k]? = some x := ⟨_, List.getElem?_eq_getElem hlt⟩
              have hin : x.In dv wc := (HL2.out.row _ (List.mem_of_getElem? hx)).ext Xk
              have hS := HL2.out.ops.ext Xk
              obtain ⟨lb, lo, rfl⟩ := cmds_some hS (fun e => by
                have := List.map_eq_nil_iff.1 e
                subst this; simp at hlt)
              have HIN := Lib.hid (fun w1 (hc : Ext wc w1) => hin.ext hc)
              have HRW : Hid (∀ w1, Ext wc w1 → w1.rangeAt lb (lo + k * 11) (crow (x, dv))) := Lib.hid fun w1 hc j u hu => sln_get (hS.ext hc) (by rw [List.getElem?_map, hx]; rfl) j u hu
              have HWF := Lib.hid hin.wf
              have HXW := Lib.hid (fun w1 (hc : Ext wc w1) => hXk.ext hc)
              have HCW := Lib.hid (fun w1 (hc : Ext wc w1) => hCk.ext hc)
              have HRFW := Lib.hid (fun w1 (hc : Ext wc w1) => hRk.ext hc)
              have HPA := Lib.hid (hPk.app (fewC_wf hin.wf))
              have HVL := Lib.hid (hPk.app (fewC_wf hin.wf)).vlen
              have HBW := Lib.hid (cat_lt hCk)
              have HEW := Lib.hid Xk
              have HPK := Lib.hid hPk
              clear hin hx hS hCk hRk hXk Xk hPk
              go_upto_region 18 with fail
              refine wp_region_phi (Γ := Nat → Value) (sgφ [.val (.pointer (some ⟨c2, 0, none⟩)), .val (.agg X), .val (.slice (some ⟨lb, lo, none⟩) l2.length lc2), .val (.int .i64 (k : Int)), .val (.pointer (some ⟨lb, lo + k * 11, none⟩)), .val (cmdVal x dv), .g 0, .g 3, .g 2, .val (.bool true), .g 1, .any, .val (.bool true)])
                (GPl wc B2 c2 mb2 mn2 P (P.app (fewC x)).1) (by kernel_rfl) (by kernel_rfl) (by kernel_rfl) (fun _ => undef) ?inv ?steps ?fin
              case inv => exact ⟨fun _ => (Ext.refl wc).drew, Kp.of_ext (Ext.refl wc).drew, fun hh => (by cases hh), fun hh => (by cases hh), fun hh => (by cases hh), fun hh => (by cases hh)⟩
              case steps =>
                show StepsTo _ _ _ _ _ _ 13
                refine ⟨⟨⟨⟨⟨⟨⟨⟨⟨⟨⟨⟨⟨trivial, ?s0⟩, ?s1⟩, ?s2⟩, ?s3⟩, ?s4⟩, ?s5⟩, ?s6⟩, ?s7⟩, ?s8⟩, ?s9⟩, ?s10⟩, ?s11⟩, ?s12⟩
                case s0 =>
                  refine sg_val (x := .pointer (some ⟨c2, 0, none⟩)) rfl rfl rfl (GPl.keep (j := 0) (by omega)) fun γ L v a w1 st => ?_
                  have e10 := st.far 10 (by kernel_rfl)
                  simp at e10
                  go_simp
                case s1 =>
                  refine sg_val (x := .agg X) rfl rfl rfl (GPl.keep (j := 1) (by omega)) fun γ L v a w1 st => ?_
                  have e6 := st.far 6 (by kernel_rfl)
                  simp at e6
                  have h6 : L 6 = false := by
                    cases hq : L 6 with
                    | false => rfl
                    | true =>
                      have q1 := st.down 6 1 hq (by kernel_rfl)
                      have q99 := st.off; rw [q1] at q99; cases q99
                  exact exec_load_mid rfl (b := xb) (off := 0) (by simp [Act.eval, e6]) (HXW.out w1 (st.inv.pre h6)).range Tryz.underlying31 rfl HI1.out
                case s2 =>
                  refine sg_val (x := .slice (some ⟨lb, lo, none⟩) l2.length lc2) rfl rfl rfl (GPl.keep (j := 2) (by omega)) fun γ L v a w1 st => ?_
                  have e1 := st.far 1 (by kernel_rfl)
                  simp at e1
                  go_simp
                case s3 =>
                  refine sg_val (x := .int .i64 (k : Int)) rfl rfl rfl (GPl.keep (j := 3) (by omega)) fun γ L v a w1 st => ?_
                  have e12 := st.far 12 (by kernel_rfl)
                  simp at e12
                  go_simp
                case s4 =>
                  refine sg_val (x := .pointer (some ⟨lb, lo + k * 11, none⟩)) rfl rfl rfl (GPl.keep (j := 4) (by omega)) fun γ L v a w1 st => ?_
                  have e2 := st.val 2 77 rfl (by kernel_rfl)
                  rw [show v 2 = _ from st.φ 2 (by kernel_rfl)] at e2
                  simp at e2
                  have e3 := st.val 3 78 rfl (by kernel_rfl)
                  rw [show v 3 = _ from st.φ 3 (by kernel_rfl)] at e3
                  simp at e3
                  go_simp
                case s5 =>
                  refine sg_val (x := cmdVal x dv) rfl rfl rfl (GPl.keep (j := 5) (by omega)) fun γ L v a w1 st => ?_
                  have e4 := st.val 4 79 rfl (by kernel_rfl)
                  rw [show v 4 = _ from st.φ 4 (by kernel_rfl)] at e4
                  simp at e4
                  have h6 : L 6 = false := by
                    cases hq : L 6 with
                    | false => rfl
                    | true =>
                      have q5 := st.down 6 5 hq (by kernel_rfl)
                      have q99 := st.off; rw [q5] at q99; cases q99
                  exact exec_load_mid rfl (b := lb) (off := lo + k * 11) (by simp [Act.eval, e4]) (HRW.out w1 (st.inv.pre h6)) Tryz.underlying38 rfl cc_info
                case s6 =>
                  refine sg_call (k := 0) (f := 8) rfl rfl rfl (by kernel_rfl) fun γ L v a w1 st => ?_
                  have e0 := st.val 0 75 rfl (by kernel_rfl)
                  rw [show v 0 = _ from st.φ 0 (by kernel_rfl)] at e0
                  simp at e0
                  have e1 := st.val 1 76 rfl (by kernel_rfl)
                  rw [show v 1 = _ from st.φ 1 (by kernel_rfl)] at e1
                  simp at e1
                  have e5 := st.val 5 80 rfl (by kernel_rfl)
                  rw [show v 5 = _ from st.φ 5 (by kernel_rfl)] at e5
                  simp at e5
                  have h6 : L 6 = false := st.off
                  have h7 : L 7 = false := by
                    cases hq : L 7 with
                    | false => rfl
                    | true =>
                      have q6 := st.down 7 6 hq (by kernel_rfl)
                      have q99 := st.off; rw [q6] at q99; cases q99
                  have h8 : L 8 = false := by
                    cases hq : L 8 with
                    | false => rfl
                    | true =>
                      have q7 := st.down 8 7 hq (by kernel_rfl)
                      have q6 := st.down 7 6 q7 (by kernel_rfl)
                      have q99 := st.off; rw [q6] at q99; cases q99
                  have h11 : L 11 = false := by
                    cases hq : L 11 with
                    | false => rfl
                    | true =>
                      have q8 := st.down 11 8 hq (by kernel_rfl)
                      have q7 := st.down 8 7 q8 (by kernel_rfl)
                      have q6 := st.down 7 6 q7 (by kernel_rfl)
                      have q99 := st.off; rw [q6] at q99; cases q99
                  have hEx := st.inv.pre h6
                  refine ⟨#[.pointer (some ⟨c2, 0, none⟩), .agg X, cmdVal x dv], by go_simp, ?_⟩
                  refine (does_any w1 B2 c2 mb2 mn2 P (K1 + k) (.agg X) x dv (HCW.out w1 hEx) (HRFW.out w1 hEx) HPK.out (by omega) (HIN.out w1 hEx)).mono ?_
                  rintro e w2 ⟨v', rfl, hc2, hr2, hk2⟩
                  obtain ⟨X2, rfl, x37, xone⟩ := hr2.open HVL.out
                  exact ⟨_, rfl, GPl.called st.inv hk2 h7 h8 h11 hr2 x37 xone hc2⟩
                case s7 =>
                  refine sg_new (k := 3) rfl rfl rfl (by kernel_rfl) fun γ L v a w1 st => ?_
                  have e6 := st.val 6 81 rfl (by kernel_rfl)
                  rw [show v 6 = _ from st.φ 6 (by kernel_rfl)] at e6
                  simp at e6
                  exact ⟨γ 0, w1, by go_simp, GPl.moved st.inv⟩
                case s8 =>
                  refine sg_new (k := 2) rfl rfl rfl (by kernel_rfl) fun γ L v a w1 st => ?_
                  have e7 := st.val 7 74 rfl (by kernel_rfl)
                  have hd7 := st.dep 7 (by kernel_rfl)
                  rw [show v 7 = _ from st.φ 7 (by kernel_rfl), st.inv.mv hd7] at e7
                  simp at e7
                  obtain ⟨X2, hγ, _⟩ := st.inv.call (st.down 7 6 hd7 (by kernel_rfl))
                  refine ⟨tupAt (γ 0) 0, w1, ?_, GPl.got st.inv⟩
                  rw [hγ] at e7 ⊢
                  simp [tupAt]
                  go_simp
                case s9 =>
                  refine sg_val (x := .bool true) rfl rfl rfl (GPl.keep (j := 9) (by omega)) fun γ L v a w1 st => ?_
                  have e7 := st.val 7 74 rfl (by kernel_rfl)
                  have hd7 := st.dep 7 (by kernel_rfl)
                  rw [show v 7 = _ from st.φ 7 (by kernel_rfl), st.inv.mv hd7] at e7
                  simp at e7
                  obtain ⟨X2, hγ, _⟩ := st.inv.call (st.down 7 6 hd7 (by kernel_rfl))
                  rw [hγ] at e7
                  go_simp
                case s10 =>
                  refine sg_new (k := 1) rfl rfl rfl (by kernel_rfl) fun γ L v a w1 st => ?_
                  have h11 : L 11 = false := by
                    cases hq : L 11 with
                    | false => rfl
                    | true =>
                      have q10 := st.down 11 10 hq (by kernel_rfl)
                      have q99 := st.off; rw [q10] at q99; cases q99
                  exact ⟨.pointer (some ⟨w1.heap.size, 0, none⟩), w1.alloc (.cells #[.slice none 0 0, .bool false, .bool false, .int .i64 0, .bool false, .bool false, .int .i64 0, .bool false, .bool false, .int .i64 0, .bool false, .bool false, .int .i64 0, .bool false, .bool false, .int .i64 0, .bool false, .bool false, .int .i64 0, .bool false, .bool false, .int .i64 0, .bool false, .bool false, .int .i64 0, .bool false, .bool false, .int .i64 0, .bool false, .bool false, .int .i64 0, .bool false, .bool false, .int .i64 0, .bool false, .bool false, .int .i64 0] 31), by go_simp, GPl.new st.inv h11 rfl⟩
                case s11 =>
                  refine sg_skip rfl rfl rfl fun γ L v a w1 st => ?_
                  have d8 := st.dep 8 (by kernel_rfl)
                  have d10 := st.dep 10 (by kernel_rfl)
                  have d7 := st.down 8 7 d8 (by kernel_rfl)
                  have d6 := st.down 7 6 d7 (by kernel_rfl)
                  obtain ⟨X2, hγ, a2, a3, _⟩ := st.inv.call d6
                  obtain ⟨g, g1, g2, ⟨Z, g3, g4⟩, _⟩ := st.inv.n1 d10
                  have e1 := st.val 8 82 rfl (by kernel_rfl)
                  rw [show v 8 = _ from st.φ 8 (by kernel_rfl), st.inv.e1 d8] at e1
                  have e2 := st.val 10 13 rfl (by kernel_rfl)
                  rw [show v 10 = _ from st.φ 10 (by kernel_rfl), g1] at e2
                  simp at e2
                  have hta : tupAt (γ 0) 0 = .agg (aggArr (tupAt (γ 0) 0)) := by rw [hγ]; rfl
                  have hsz : (aggArr (tupAt (γ 0) 0)).size = 37 := by rw [hγ]; exact a2
                  have hon : (aggArr (tupAt (γ 0) 0)).all (·.oneCell') = true := by rw [hγ]; exact a3
                  refine ⟨_, exec_store_mid rfl (b := g) (off := 0) (cells := aggArr (tupAt (γ 0) 0)) (by simp [Act.eval, e2]) (by show a.tmps.getD 82 undef = _; rw [e1]; exact hta) (by rw [hsz, ← g4]; exact g3.there) (by rw [hsz]; exact rf_cinfo) hon, ?_⟩
                  exact GPl.stored st.inv HBW.out d6 d10 g1
                case s12 =>
                  refine sg_val (x := .bool true) rfl rfl rfl (GPl.keep (j := 12) (by omega)) fun γ L v a w1 st => ?_
                  have e9 := st.val 9 83 rfl (by kernel_rfl)
                  rw [show v 9 = _ from st.φ 9 (by kernel_rfl)] at e9
                  simp at e9
                  go_simp
              case fin =>
                intro γ L v wx hall hG hφ
                have h10 : v 10 = γ 1 := hφ 10 (by decide)
                have h12 : v 12 = .bool true := hφ 12 (by decide)
                obtain ⟨X2, hγ, x37, xone, hCx, hRx⟩ := hG.call (hall 6 (by decide))
                obtain ⟨gb, g1, g2, _, g4⟩ := hG.n1 (hall 10 (by decide))
                have hG1 : At wx gb 31 X2 := by have h := g4 (hall 11 (by decide)); rw [hγ] at h; exact h
                rw [g1] at h10
                have hKx := hG.kp
                have hXx := hKx.at_ _ _ _ (by decide) (by decide) (HXW.out _ (Ext.refl _))
                have hgx : gb ≠ xb := by have := (HXW.out _ (Ext.refl _)).lt; omega
                have HI2 : Hid ((Tryz.prog.info? 31).map (·.size) = some X2.toList.length) := Lib.hid (by rw [Array.length_toList, x37]; exact rf_cinfo)
                clear hG hφ hall g1 g2 g4 hγ HI1
                change Exit.then _ _ _ (putAll _ v _ 13) wx
                simp only [putAll, dstOf, Act.put]
                simp only [List.getElem?_toArray, List.getElem?_cons_zero, List.getElem?_cons_succ, Option.bind_some, List.setIfInBounds_toArray, List.set_cons_zero, List.set_cons_succ]
                rw [h10, h12]
                clear h10 h12
                have HGR := Lib.hid hG1.range
                have HXT := Lib.hid hXx.there
                go_upto_region 20 with (first | (refine wpList_load_mid rfl 31 _ rfl gb 0 rfl _ _ HGR.out Tryz.underlying31 rfl HI2.out ?_) | (refine wpList_store_mid rfl 31 _ _ rfl xb 0 X2 rfl rfl (by rw [x37]; have h := HXT.out; rw [h37] at h; exact h) (by rw [x37]; exact rf_cinfo) xone ?_))
                have hch : Chg (· = xb) wx (wx.setCells xb 0 X2.toList) := chg_setCells _ _
                have hX3 : At (wx.setCells xb 0 X2.toList) xb 31 X2 := At.cells_all hXx (by rw [x37, h37])
                have hC3 := hCx.fresh hXx (by decide) (by decide) (by decide) hch
                have hR3 := hRx.chgT hXx (by decide) (by decide) hch
                have HE3 := Lib.hid (show Ext w (wx.setCells xb 0 X2.toList) from (Kp.ext HEW.out hKx HwB2.out).setCells HXB.out _ _)
                clear hXx hG1 hCx hRx hKx hch HGR HXT hgx
                generalize wx.setCells xb 0 X2.toList = W3 at hX3 hC3 hR3 HE3 ⊢
                go_wp2_with fail
                go_roundw
                case rel => exact ⟨k + 1, _, X2, by go_num, by omega, by omega, hC3, by have h := HPA.out; rwa [Nat.add_assoc] at h, hX3, x37, hR3, HE3.out⟩
                case measure => simp [intOf]; omega
      · have hfk2 : k < l.length ∧ k < 25 := by simpa using hfk.symm
        obtain ⟨hlt, hlt40⟩ := hfk2
        clear hfk
        obtain ⟨⟨x, dv⟩, hx⟩ : ∃ x, l[k]? = some x := ⟨_, List.getElem?_eq_getElem hlt⟩
        have hin : x.In dv wc := (HL.out.row _ (List.mem_of_getElem? hx)).ext Xk
        have hS := HL.out.ops.ext Xk
        obtain ⟨lb, lo, rfl⟩ := cmds_some hS (fun e => by
          have := List.map_eq_nil_iff.1 e
          subst this; simp at hlt)
        have HIN := Lib.hid (fun w1 (hc : Ext wc w1) => hin.ext hc)
        have HRW : Hid (∀ w1, Ext wc w1 → w1.rangeAt lb (lo + k * 11) (crow (x, dv))) := Lib.hid fun w1 hc j u hu => sln_get (hS.ext hc) (by rw [List.getElem?_map, hx]; rfl) j u hu
        have HWF := Lib.hid hin.wf
        have HXW := Lib.hid (fun w1 (hc : Ext wc w1) => hXk.ext hc)
        have HCW := Lib.hid (fun w1 (hc : Ext wc w1) => hCk.ext hc)
        have HRFW := Lib.hid (fun w1 (hc : Ext wc w1) => hRk.ext hc)
        have HPA := Lib.hid (hPk.app (fewC_wf hin.wf))
        have HVL := Lib.hid (hPk.app (fewC_wf hin.wf)).vlen
        have HBW := Lib.hid (cat_lt hCk)
        have HEW := Lib.hid Xk
        have HPK := Lib.hid hPk
        clear hin hx hS hCk hRk hXk Xk hPk
        go_upto_region 8 with fail
        refine wp_region_phi (Γ := Nat → Value) (sgφ [.val (.pointer (some ⟨c, 0, none⟩)), .val (.agg X), .val (.slice (some ⟨lb, lo, none⟩) l.length lc), .val (.int .i64 (k : Int)), .val (.pointer (some ⟨lb, lo + k * 11, none⟩)), .val (cmdVal x dv), .g 0, .g 3, .g 2, .val (.bool true), .g 1, .any, .val (.bool true)])
          (GPl wc B c mb mn P (P.app (fewC x)).1) (by kernel_rfl) (by kernel_rfl) (by kernel_rfl) (fun _ => undef) ?inv ?steps ?fin
        case inv => exact ⟨fun _ => (Ext.refl wc).drew, Kp.of_ext (Ext.refl wc).drew, fun hh => (by cases hh), fun hh => (by cases hh), fun hh => (by cases hh), fun hh => (by cases hh)⟩
        case steps =>
          show StepsTo _ _ _ _ _ _ 13
          refine ⟨⟨⟨⟨⟨⟨⟨⟨⟨⟨⟨⟨⟨trivial, ?s0⟩, ?s1⟩, ?s2⟩, ?s3⟩, ?s4⟩, ?s5⟩, ?s6⟩, ?s7⟩, ?s8⟩, ?s9⟩, ?s10⟩, ?s11⟩, ?s12⟩
          case s0 =>
            refine sg_val (x := .pointer (some ⟨c, 0, none⟩)) rfl rfl rfl (GPl.keep (j := 0) (by omega)) fun γ L v a w1 st => ?_
            have e5 := st.far 5 (by kernel_rfl)
            simp at e5
            go_simp
          case s1 =>
            refine sg_val (x := .agg X) rfl rfl rfl (GPl.keep (j := 1) (by omega)) fun γ L v a w1 st => ?_
            have e6 := st.far 6 (by kernel_rfl)
            simp at e6
            have h6 : L 6 = false := by
              cases hq : L 6 with
              | false => rfl
              | true =>
                have q1 := st.down 6 1 hq (by kernel_rfl)
                have q99 := st.off; rw [q1] at q99; cases q99
            exact exec_load_mid rfl (b := xb) (off := 0) (by simp [Act.eval, e6]) (HXW.out w1 (st.inv.pre h6)).range Tryz.underlying31 rfl HI1.out
          case s2 =>
            refine sg_val (x := .slice (some ⟨lb, lo, none⟩) l.length lc) rfl rfl rfl (GPl.keep (j := 2) (by omega)) fun γ L v a w1 st => ?_
            have e0 := st.far 0 (by kernel_rfl)
            simp at e0
            go_simp
          case s3 =>
            refine sg_val (x := .int .i64 (k : Int)) rfl rfl rfl (GPl.keep (j := 3) (by omega)) fun γ L v a w1 st => ?_
            have e7 := st.far 7 (by kernel_rfl)
            simp at e7
            go_simp
          case s4 =>
            refine sg_val (x := .pointer (some ⟨lb, lo + k * 11, none⟩)) rfl rfl rfl (GPl.keep (j := 4) (by omega)) fun γ L v a w1 st => ?_
            have e2 := st.val 2 36 rfl (by kernel_rfl)
            rw [show v 2 = _ from st.φ 2 (by kernel_rfl)] at e2
            simp at e2
            have e3 := st.val 3 37 rfl (by kernel_rfl)
            rw [show v 3 = _ from st.φ 3 (by kernel_rfl)] at e3
            simp at e3
            go_simp
          case s5 =>
            refine sg_val (x := cmdVal x dv) rfl rfl rfl (GPl.keep (j := 5) (by omega)) fun γ L v a w1 st => ?_
            have e4 := st.val 4 38 rfl (by kernel_rfl)
            rw [show v 4 = _ from st.φ 4 (by kernel_rfl)] at e4
            simp at e4
            have h6 : L 6 = false := by
              cases hq : L 6 with
              | false => rfl
              | true =>
                have q5 := st.down 6 5 hq (by kernel_rfl)
                have q99 := st.off; rw [q5] at q99; cases q99
            exact exec_load_mid rfl (b := lb) (off := lo + k * 11) (by simp [Act.eval, e4]) (HRW.out w1 (st.inv.pre h6)) Tryz.underlying38 rfl cc_info
          case s6 =>
            refine sg_call (k := 0) (f := 8) rfl rfl rfl (by kernel_rfl) fun γ L v a w1 st => ?_
            have e0 := st.val 0 34 rfl (by kernel_rfl)
            rw [show v 0 = _ from st.φ 0 (by kernel_rfl)] at e0
            simp at e0
            have e1 := st.val 1 35 rfl (by kernel_rfl)
            rw [show v 1 = _ from st.φ 1 (by kernel_rfl)] at e1
            simp at e1
            have e5 := st.val 5 39 rfl (by kernel_rfl)
            rw [show v 5 = _ from st.φ 5 (by kernel_rfl)] at e5
            simp at e5
            have h6 : L 6 = false := st.off
            have h7 : L 7 = false := by
              cases hq : L 7 with
              | false => rfl
              | true =>
                have q6 := st.down 7 6 hq (by kernel_rfl)
                have q99 := st.off; rw [q6] at q99; cases q99
            have h8 : L 8 = false := by
              cases hq : L 8 with
              | false => rfl
              | true =>
                have q7 := st.down 8 7 hq (by kernel_rfl)
                have q6 := st.down 7 6 q7 (by kernel_rfl)
                have q99 := st.off; rw [q6] at q99; cases q99
            have h11 : L 11 = false := by
              cases hq : L 11 with
              | false => rfl
              | true =>
                have q8 := st.down 11 8 hq (by kernel_rfl)
                have q7 := st.down 8 7 q8 (by kernel_rfl)
                have q6 := st.down 7 6 q7 (by kernel_rfl)
                have q99 := st.off; rw [q6] at q99; cases q99
            have hEx := st.inv.pre h6
            refine ⟨#[.pointer (some ⟨c, 0, none⟩), .agg X, cmdVal x dv], by go_simp, ?_⟩
            refine (does_any w1 B c mb mn P k (.agg X) x dv (HCW.out w1 hEx) (HRFW.out w1 hEx) HPK.out (by omega) (HIN.out w1 hEx)).mono ?_
            rintro e w2 ⟨v', rfl, hc2, hr2, hk2⟩
            obtain ⟨X2, rfl, x37, xone⟩ := hr2.open HVL.out
            exact ⟨_, rfl, GPl.called st.inv hk2 h7 h8 h11 hr2 x37 xone hc2⟩
          case s7 =>
            refine sg_new (k := 3) rfl rfl rfl (by kernel_rfl) fun γ L v a w1 st => ?_
            have e6 := st.val 6 40 rfl (by kernel_rfl)
            rw [show v 6 = _ from st.φ 6 (by kernel_rfl)] at e6
            simp at e6
            exact ⟨γ 0, w1, by go_simp, GPl.moved st.inv⟩
          case s8 =>
            refine sg_new (k := 2) rfl rfl rfl (by kernel_rfl) fun γ L v a w1 st => ?_
            have e7 := st.val 7 33 rfl (by kernel_rfl)
            have hd7 := st.dep 7 (by kernel_rfl)
            rw [show v 7 = _ from st.φ 7 (by kernel_rfl), st.inv.mv hd7] at e7
            simp at e7
            obtain ⟨X2, hγ, _⟩ := st.inv.call (st.down 7 6 hd7 (by kernel_rfl))
            refine ⟨tupAt (γ 0) 0, w1, ?_, GPl.got st.inv⟩
            rw [hγ] at e7 ⊢
            simp [tupAt]
            go_simp
          case s9 =>
            refine sg_val (x := .bool true) rfl rfl rfl (GPl.keep (j := 9) (by omega)) fun γ L v a w1 st => ?_
            have e7 := st.val 7 33 rfl (by kernel_rfl)
            have hd7 := st.dep 7 (by kernel_rfl)
            rw [show v 7 = _ from st.φ 7 (by kernel_rfl), st.inv.mv hd7] at e7
            simp at e7
            obtain ⟨X2, hγ, _⟩ := st.inv.call (st.down 7 6 hd7 (by kernel_rfl))
            rw [hγ] at e7
            go_simp
          case s10 =>
            refine sg_new (k := 1) rfl rfl rfl (by kernel_rfl) fun γ L v a w1 st => ?_
            have h11 : L 11 = false := by
              cases hq : L 11 with
              | false => rfl
              | true =>
                have q10 := st.down 11 10 hq (by kernel_rfl)
                have q99 := st.off; rw [q10] at q99; cases q99
            exact ⟨.pointer (some ⟨w1.heap.size, 0, none⟩), w1.alloc (.cells #[.slice none 0 0, .bool false, .bool false, .int .i64 0, .bool false, .bool false, .int .i64 0, .bool false, .bool false, .int .i64 0, .bool false, .bool false, .int .i64 0, .bool false, .bool false, .int .i64 0, .bool false, .bool false, .int .i64 0, .bool false, .bool false, .int .i64 0, .bool false, .bool false, .int .i64 0, .bool false, .bool false, .int .i64 0, .bool false, .bool false, .int .i64 0, .bool false, .bool false, .int .i64 0, .bool false, .bool false, .int .i64 0] 31), by go_simp, GPl.new st.inv h11 rfl⟩
          case s11 =>
            refine sg_skip rfl rfl rfl fun γ L v a w1 st => ?_
            have d8 := st.dep 8 (by kernel_rfl)
            have d10 := st.dep 10 (by kernel_rfl)
            have d7 := st.down 8 7 d8 (by kernel_rfl)
            have d6 := st.down 7 6 d7 (by kernel_rfl)
            obtain ⟨X2, hγ, a2, a3, _⟩ := st.inv.call d6
            obtain ⟨g, g1, g2, ⟨Z, g3, g4⟩, _⟩ := st.inv.n1 d10
            have e1 := st.val 8 41 rfl (by kernel_rfl)
            rw [show v 8 = _ from st.φ 8 (by kernel_rfl), st.inv.e1 d8] at e1
            have e2 := st.val 10 8 rfl (by kernel_rfl)
            rw [show v 10 = _ from st.φ 10 (by kernel_rfl), g1] at e2
            simp at e2
            have hta : tupAt (γ 0) 0 = .agg (aggArr (tupAt (γ 0) 0)) := by rw [hγ]; rfl
            have hsz : (aggArr (tupAt (γ 0) 0)).size = 37 := by rw [hγ]; exact a2
            have hon : (aggArr (tupAt (γ 0) 0)).all (·.oneCell') = true := by rw [hγ]; exact a3
            refine ⟨_, exec_store_mid rfl (b := g) (off := 0) (cells := aggArr (tupAt (γ 0) 0)) (by simp [Act.eval, e2]) (by show a.tmps.getD 41 undef = _; rw [e1]; exact hta) (by rw [hsz, ← g4]; exact g3.there) (by rw [hsz]; exact rf_cinfo) hon, ?_⟩
            exact GPl.stored st.inv HBW.out d6 d10 g1
          case s12 =>
            refine sg_val (x := .bool true) rfl rfl rfl (GPl.keep (j := 12) (by omega)) fun γ L v a w1 st => ?_
            have e9 := st.val 9 42 rfl (by kernel_rfl)
            rw [show v 9 = _ from st.φ 9 (by kernel_rfl)] at e9
            simp at e9
            go_simp
        case fin =>
          intro γ L v wx hall hG hφ
          have h10 : v 10 = γ 1 := hφ 10 (by decide)
          have h12 : v 12 = .bool true := hφ 12 (by decide)
          obtain ⟨X2, hγ, x37, xone, hCx, hRx⟩ := hG.call (hall 6 (by decide))
          obtain ⟨gb, g1, g2, _, g4⟩ := hG.n1 (hall 10 (by decide))
          have hG1 : At wx gb 31 X2 := by have h := g4 (hall 11 (by decide)); rw [hγ] at h; exact h
          rw [g1] at h10
          have hKx := hG.kp
          have hXx := hKx.at_ _ _ _ (by decide) (by decide) (HXW.out _ (Ext.refl _))
          have hgx : gb ≠ xb := by have := (HXW.out _ (Ext.refl _)).lt; omega
          have HI2 : Hid ((Tryz.prog.info? 31).map (·.size) = some X2.toList.length) := Lib.hid (by rw [Array.length_toList, x37]; exact rf_cinfo)
          clear hG hφ hall g1 g2 g4 hγ HI1
          change Exit.then _ _ _ (putAll _ v _ 13) wx
          simp only [putAll, dstOf, Act.put]
          simp only [List.getElem?_toArray, List.getElem?_cons_zero, List.getElem?_cons_succ, Option.bind_some, List.setIfInBounds_toArray, List.set_cons_zero, List.set_cons_succ]
          rw [h10, h12]
          clear h10 h12
          have HGR := Lib.hid hG1.range
          have HXT := Lib.hid hXx.there
          go_upto_region 10 with (first | (refine wpList_load_mid rfl 31 _ rfl gb 0 rfl _ _ HGR.out Tryz.underlying31 rfl HI2.out ?_) | (refine wpList_store_mid rfl 31 _ _ rfl xb 0 X2 rfl rfl (by rw [x37]; have h := HXT.out; rw [h37] at h; exact h) (by rw [x37]; exact rf_cinfo) xone ?_))
          have hch : Chg (· = xb) wx (wx.setCells xb 0 X2.toList) := chg_setCells _ _
          have hX3 : At (wx.setCells xb 0 X2.toList) xb 31 X2 := At.cells_all hXx (by rw [x37, h37])
          have hC3 := hCx.fresh hXx (by decide) (by decide) (by decide) hch
          have hR3 := hRx.chgT hXx (by decide) (by decide) hch
          have HE3 := Lib.hid (show Ext w (wx.setCells xb 0 X2.toList) from (Kp.ext HEW.out hKx HwB.out).setCells HXB.out _ _)
          clear hXx hG1 hCx hRx hKx hch HGR HXT hgx
          generalize wx.setCells xb 0 X2.toList = W3 at hX3 hC3 hR3 HE3 ⊢
          go_wp2_with fail
          go_roundw
          case rel => exact ⟨k + 1, _, X2, by go_num, by omega, by omega, hC3, HPA.out, hX3, x37, hR3, HE3.out⟩
          case measure => simp [intOf]; omega
end Go.Proofs.YtchnejfdompfpaaGreat
