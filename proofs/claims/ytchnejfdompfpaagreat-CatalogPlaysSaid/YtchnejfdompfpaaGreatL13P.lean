/-
  CatalogPlays: the walk.
-/
import Derived.Test.YtchnejfdompfpaaGreatL13G
import Derived.Test.YtchnejfdompfpaaGreatRw3
namespace Go.Proofs.YtchnejfdompfpaaGreat
open Go.RowKit Go.Sort

theorem rf_empty (w : World) : RfIn w (.agg #[.slice none 0 0, .bool false, .bool false, .int .i64 0, .bool false, .bool false, .int .i64 0, .bool false, .bool false, .int .i64 0, .bool false, .bool false, .int .i64 0, .bool false, .bool false, .int .i64 0, .bool false, .bool false, .int .i64 0, .bool false, .bool false, .int .i64 0, .bool false, .bool false, .int .i64 0, .bool false, .bool false, .int .i64 0, .bool false, .bool false, .int .i64 0, .bool false, .bool false, .int .i64 0, .bool false, .bool false, .int .i64 0]) Pm.empty := ⟨.slice none 0 0, [], rfl, rfl, ⟨⟨by simp, .inl ⟨rfl, rfl⟩⟩, fun p hp => by cases hp⟩⟩
set_option maxRecDepth 100000 in
set_option maxHeartbeats 8000000 in
theorem plays_law (w : World) (l : List CRow) (lv : Value) (id : Nat) (hid : id < 18446744073709551616) (hl : CmdsIn w l lv) :
    Calls Tryz.prog 3 #[lv, .int .u64 (id : Int)] w fun e w' => e = .returned (.bool true) ∧ Ext w w' := by
  obtain ⟨LA, lc, rfl, hlc, hlm⟩ := hl.cap
  have hll := hl.len
  unfold maxLen at hll hlm
  have HL := Lib.hid hl
  clear hl
  go_enter Tryz.func3, Tryz.ntmps3
  go_wp2_with fail
  obtain ⟨B, hBe⟩ : ∃ B, w.heap.size = B := ⟨_, rfl⟩
  have HwB := Lib.hid (show w.heap.size ≤ B by omega)
  have hN := cnew_any w
  rw [hBe] at hN
  clear hBe
  refine hN.mono ?_
  rintro e w0 ⟨c, mb, mn, rfl, hC0, hE0⟩
  clear hN
  have hX0 := At.new w0 31 #[.slice none 0 0, .bool false, .bool false, .int .i64 0, .bool false, .bool false, .int .i64 0, .bool false, .bool false, .int .i64 0, .bool false, .bool false, .int .i64 0, .bool false, .bool false, .int .i64 0, .bool false, .bool false, .int .i64 0, .bool false, .bool false, .int .i64 0, .bool false, .bool false, .int .i64 0, .bool false, .bool false, .int .i64 0, .bool false, .bool false, .int .i64 0, .bool false, .bool false, .int .i64 0, .bool false, .bool false, .int .i64 0]
  have hEx := (Ext.refl w0).alloc (.cells #[.slice none 0 0, .bool false, .bool false, .int .i64 0, .bool false, .bool false, .int .i64 0, .bool false, .bool false, .int .i64 0, .bool false, .bool false, .int .i64 0, .bool false, .bool false, .int .i64 0, .bool false, .bool false, .int .i64 0, .bool false, .bool false, .int .i64 0, .bool false, .bool false, .int .i64 0, .bool false, .bool false, .int .i64 0, .bool false, .bool false, .int .i64 0, .bool false, .bool false, .int .i64 0, .bool false, .bool false, .int .i64 0] 31)
  have HT0 := Lib.hid hX0.there
  go_upto_region 3 with (refine wpList_store_mid rfl 31 _ _ rfl w0.heap.size 0 #[.slice none 0 0, .bool false, .bool false, .int .i64 0, .bool false, .bool false, .int .i64 0, .bool false, .bool false, .int .i64 0, .bool false, .bool false, .int .i64 0, .bool false, .bool false, .int .i64 0, .bool false, .bool false, .int .i64 0, .bool false, .bool false, .int .i64 0, .bool false, .bool false, .int .i64 0, .bool false, .bool false, .int .i64 0, .bool false, .bool false, .int .i64 0, .bool false, .bool false, .int .i64 0, .bool false, .bool false, .int .i64 0] rfl rfl HT0.out rf_cinfo (by simp [Value.oneCell']) ?_)
  have hX1 := At.cells_all (cs := #[.slice none 0 0, .bool false, .bool false, .int .i64 0, .bool false, .bool false, .int .i64 0, .bool false, .bool false, .int .i64 0, .bool false, .bool false, .int .i64 0, .bool false, .bool false, .int .i64 0, .bool false, .bool false, .int .i64 0, .bool false, .bool false, .int .i64 0, .bool false, .bool false, .int .i64 0, .bool false, .bool false, .int .i64 0, .bool false, .bool false, .int .i64 0, .bool false, .bool false, .int .i64 0, .bool false, .bool false, .int .i64 0]) hX0 rfl
  have hE1 : Ext w0 ((w0.alloc (.cells #[.slice none 0 0, .bool false, .bool false, .int .i64 0, .bool false, .bool false, .int .i64 0, .bool false, .bool false, .int .i64 0, .bool false, .bool false, .int .i64 0, .bool false, .bool false, .int .i64 0, .bool false, .bool false, .int .i64 0, .bool false, .bool false, .int .i64 0, .bool false, .bool false, .int .i64 0, .bool false, .bool false, .int .i64 0, .bool false, .bool false, .int .i64 0, .bool false, .bool false, .int .i64 0, .bool false, .bool false, .int .i64 0] 31)).setCells w0.heap.size 0 (#[.slice none 0 0, .bool false, .bool false, .int .i64 0, .bool false, .bool false, .int .i64 0, .bool false, .bool false, .int .i64 0, .bool false, .bool false, .int .i64 0, .bool false, .bool false, .int .i64 0, .bool false, .bool false, .int .i64 0, .bool false, .bool false, .int .i64 0, .bool false, .bool false, .int .i64 0, .bool false, .bool false, .int .i64 0, .bool false, .bool false, .int .i64 0, .bool false, .bool false, .int .i64 0, .bool false, .bool false, .int .i64 0] : Array Value).toList) := hEx.setCells (Nat.le_refl _) _ _
  clear HT0 hX0 hEx
  have HXB := Lib.hid (show w.heap.size ≤ w0.heap.size from hE0.size)
  generalize w0.heap.size = xb at hX1 hE1 HXB ⊢
  generalize (w0.alloc (.cells #[.slice none 0 0, .bool false, .bool false, .int .i64 0, .bool false, .bool false, .int .i64 0, .bool false, .bool false, .int .i64 0, .bool false, .bool false, .int .i64 0, .bool false, .bool false, .int .i64 0, .bool false, .bool false, .int .i64 0, .bool false, .bool false, .int .i64 0, .bool false, .bool false, .int .i64 0, .bool false, .bool false, .int .i64 0, .bool false, .bool false, .int .i64 0, .bool false, .bool false, .int .i64 0, .bool false, .bool false, .int .i64 0] 31)).setCells xb 0 (#[.slice none 0 0, .bool false, .bool false, .int .i64 0, .bool false, .bool false, .int .i64 0, .bool false, .bool false, .int .i64 0, .bool false, .bool false, .int .i64 0, .bool false, .bool false, .int .i64 0, .bool false, .bool false, .int .i64 0, .bool false, .bool false, .int .i64 0, .bool false, .bool false, .int .i64 0, .bool false, .bool false, .int .i64 0, .bool false, .bool false, .int .i64 0, .bool false, .bool false, .int .i64 0, .bool false, .bool false, .int .i64 0] : Array Value).toList = W1 at hX1 hE1 ⊢
  have hR1 : RfIn W1 (.agg #[.slice none 0 0, .bool false, .bool false, .int .i64 0, .bool false, .bool false, .int .i64 0, .bool false, .bool false, .int .i64 0, .bool false, .bool false, .int .i64 0, .bool false, .bool false, .int .i64 0, .bool false, .bool false, .int .i64 0, .bool false, .bool false, .int .i64 0, .bool false, .bool false, .int .i64 0, .bool false, .bool false, .int .i64 0, .bool false, .bool false, .int .i64 0, .bool false, .bool false, .int .i64 0, .bool false, .bool false, .int .i64 0]) Pm.empty := rf_empty W1
  have hz37 : (#[.slice none 0 0, .bool false, .bool false, .int .i64 0, .bool false, .bool false, .int .i64 0, .bool false, .bool false, .int .i64 0, .bool false, .bool false, .int .i64 0, .bool false, .bool false, .int .i64 0, .bool false, .bool false, .int .i64 0, .bool false, .bool false, .int .i64 0, .bool false, .bool false, .int .i64 0, .bool false, .bool false, .int .i64 0, .bool false, .bool false, .int .i64 0, .bool false, .bool false, .int .i64 0, .bool false, .bool false, .int .i64 0] : Array Value).size = 37 := rfl
  generalize (#[.slice none 0 0, .bool false, .bool false, .int .i64 0, .bool false, .bool false, .int .i64 0, .bool false, .bool false, .int .i64 0, .bool false, .bool false, .int .i64 0, .bool false, .bool false, .int .i64 0, .bool false, .bool false, .int .i64 0, .bool false, .bool false, .int .i64 0, .bool false, .bool false, .int .i64 0, .bool false, .bool false, .int .i64 0, .bool false, .bool false, .int .i64 0, .bool false, .bool false, .int .i64 0, .bool false, .bool false, .int .i64 0] : Array Value) = ZX at hX1 hR1 hz37
  go_wp2_with fail
  refine (awake_any W1).mono ?_
  rintro e w2 ⟨rfl, hE2⟩
  have X1 := (hE0.trans hE1).trans hE2
  have hC1 := hC0.ext (hE1.trans hE2)
  have hX2 := hX1.ext hE2
  have hR2 := hR1.ext hE2
  clear hC0 hE0 hE1 hE2 hX1 hR1
  go_wp2_with fail
  go_loopw [7] (fun kv wr => ∃ (k : Nat) (P : Pm) (X : Array Value), kv = .int .i64 (k : Int) ∧ k ≤ l.length ∧ k ≤ 40 ∧ CatIn wr B c mb mn P ∧ PInv k P ∧ At wr xb 31 X ∧ X.size = 37 ∧ RfIn wr (.agg X) P ∧ Ext w wr) (fun kv _ => 40 - (intOf kv).toNat)
  case atStart => exact ⟨0, _, ZX, rfl, Nat.zero_le _, Nat.zero_le _, hC1, PInv.empty 0, hX2, hz37, hR2, X1⟩
  case round =>
    clear hC1 X1 hX2 hR2 hz37
    obtain ⟨k, P, X, rfl, hkl, hk40, hCk, hPk, hXk, h37, hRk, Xk⟩ := hrel
    have HI1 : Hid ((Tryz.prog.info? 31).map (·.size) = some X.toList.length) := Lib.hid (by rw [Array.length_toList, h37]; exact rf_cinfo)
    obtain ⟨fk, hfk⟩ : ∃ fk : Bool, fk = decide (k < l.length ∧ k < 40) := ⟨_, rfl⟩
    obtain ⟨wo, hwo⟩ : ∃ wo : World, wo = wr := ⟨_, rfl⟩
    go_upto_region 6 with fail
    go_cut [27] from 20 to 27 (fun tv wx => tv = .bool fk ∧ wx = wo)
    case first =>
      clear hCk hPk hXk hRk Xk HI1 h37
      by_cases h1 : k < l.length
      · by_cases h2 : k < 40
        · obtain rfl : fk = true := by rw [hfk]; simp; omega
          clear hfk
          go_wp2_with fail
          go_meet
          case rel => exact ⟨by first | rfl | (simp <;> omega), hwo.symm⟩
        · obtain rfl : fk = false := by rw [hfk]; simp; omega
          clear hfk
          go_wp2_with fail
          go_meet
          case rel => exact ⟨by first | rfl | (simp <;> omega), hwo.symm⟩
      · obtain rfl : fk = false := by rw [hfk]; simp; omega
        clear hfk
        go_wp2_with fail
        go_meet
        case rel => exact ⟨by first | rfl | (simp <;> omega), hwo.symm⟩
    case rest =>
      obtain ⟨rfl, hwc⟩ := hcut
      subst hwc
      subst hwo
      cases fk
      · clear hfk
        have HRX := Lib.hid (fun w1 (hc : Ext wc w1) => (hXk.ext hc).range)
        have HWR := Lib.hid (fun W (hE : Ext wc W) => cwrite_any (hCk.ext hE) hPk (by omega))
        have HWX := Lib.hid (fun W (hE : Ext wc W) => rwrite_any W (.agg X) P k (hRk.ext hE) hPk (by have := hPk.len; omega) (by omega))
        have HFN := Lib.hid (fun W (hE : Ext wc W) => rfind_any W (.agg X) P (hRk.ext hE) id (by have := hPk.len; omega))
        rcases find_at (P := P) (id := id) with ⟨hf, hfn⟩ | ⟨i, q, hiq, hidq, hf⟩
        · have HBL := Lib.hid (cblob_none hCk hPk id hfn)
          go_wp2_with fail
          refine HBL.out.mono ?_
          rintro e w3 ⟨rfl, hE3⟩
          have hEb := hE3.alloc (.cells blZero 44)
          go_upto_region 13 with fail
          generalize w3.alloc _ = W4 at hEb ⊢
          rw [hf] at HFN
          clear HBL hE3 hCk hPk hXk hRk hfn hf
          refine wp_region_phi (Γ := Nat → Value) (sgφ [.val (.bool false), .val (.agg X), .val (.int .u64 (id : Int)), .val (.int .i64 (-1)), .val (.bool false), .val (.bool true), .val (.bool true), .val (.pointer (some ⟨c, 0, none⟩)), .val (.string ⟨P.enc.toArray⟩), .val (.agg X), .val (.string ⟨P.enc.toArray⟩), .val (.bool true), .val (.bool true), .val (.bool true)]) (fun _ _ w1 => Ext W4 w1) (by kernel_rfl) (by kernel_rfl) (by kernel_rfl) (fun _ => undef) (Ext.refl W4).drew ?steps ?fin
          case steps =>
            show StepsTo _ _ _ _ _ _ 14
            refine ⟨⟨⟨⟨⟨⟨⟨⟨⟨⟨⟨⟨⟨⟨trivial, ?f0⟩, ?f1⟩, ?f2⟩, ?f3⟩, ?f4⟩, ?f5⟩, ?f6⟩, ?f7⟩, ?f8⟩, ?f9⟩, ?f10⟩, ?f11⟩, ?f12⟩, ?f13⟩
            case f0 =>
              refine sg_val (x := .bool false) rfl rfl rfl (fun γ L w h _ => h) fun γ L v a w1 st => ?_
              have e11 := st.far 11 (by kernel_rfl)
              simp at e11
              go_simp
            case f1 =>
              refine sg_val (x := .agg X) rfl rfl rfl (fun γ L w h _ => h) fun γ L v a w1 st => ?_
              have e6 := st.far 6 (by kernel_rfl)
              simp at e6
              exact exec_load_mid rfl (b := xb) (off := 0) (by simp [Act.eval, e6]) (HRX.out w1 (hEb.trans st.inv)) Tryz.underlying31 rfl HI1.out
            case f2 =>
              refine sg_val (x := .int .u64 (id : Int)) rfl rfl rfl (fun γ L w h _ => h) fun γ L v a w1 st => ?_
              have e1 := st.far 1 (by kernel_rfl)
              simp at e1
              go_simp
            case f3 =>
              refine sg_callv' (x := .int .i64 (-1)) (f := 11) rfl rfl rfl fun γ L v a w1 st => ?_
              have e1 := st.val 1 56 rfl (by kernel_rfl)
              rw [show v 1 = _ from st.φ 1 (by kernel_rfl)] at e1
              simp at e1
              have e2 := st.val 2 57 rfl (by kernel_rfl)
              rw [show v 2 = _ from st.φ 2 (by kernel_rfl)] at e2
              simp at e2
              refine ⟨#[.agg X, .int .u64 (id : Int)], by go_simp, (HFN.out w1 (hEb.trans st.inv)).mono ?_⟩
              rintro e w2 ⟨rfl, hE2⟩
              exact ⟨rfl, Ext.trans st.inv hE2⟩
            case f4 =>
              refine sg_val (x := .bool false) rfl rfl rfl (fun γ L w h _ => h) fun γ L v a w1 st => ?_
              have e3 := st.val 3 58 rfl (by kernel_rfl)
              rw [show v 3 = _ from st.φ 3 (by kernel_rfl)] at e3
              simp at e3
              go_simp
            case f5 =>
              refine sg_val (x := .bool true) rfl rfl rfl (fun γ L w h _ => h) fun γ L v a w1 st => ?_
              have e0 := st.val 0 55 rfl (by kernel_rfl)
              rw [show v 0 = _ from st.φ 0 (by kernel_rfl)] at e0
              simp at e0
              have e4 := st.val 4 59 rfl (by kernel_rfl)
              rw [show v 4 = _ from st.φ 4 (by kernel_rfl)] at e4
              simp at e4
              go_simp
            case f6 =>
              refine sg_val (x := .bool true) rfl rfl rfl (fun γ L w h _ => h) fun γ L v a w1 st => ?_
              have e5 := st.val 5 60 rfl (by kernel_rfl)
              rw [show v 5 = _ from st.φ 5 (by kernel_rfl)] at e5
              simp at e5
              go_simp
            case f7 =>
              refine sg_val_on (x := .pointer (some ⟨c, 0, none⟩)) (on := 6) (t := 61) (b := true) rfl rfl (by kernel_rfl) rfl rfl rfl (fun γ L w h _ => h) fun γ L v a w1 st => ?_
              have e5 := st.far 5 (by kernel_rfl)
              simp at e5
              go_simp
            case f8 =>
              refine sg_callv_on (x := .string ⟨P.enc.toArray⟩) (f := 12) (on := 6) (t := 61) (b := true) rfl rfl (by kernel_rfl) rfl rfl rfl fun γ L v a w1 st => ?_
              have e7 := st.val 7 62 rfl (by kernel_rfl)
              rw [show v 7 = _ from st.φ 7 (by kernel_rfl)] at e7
              simp at e7
              refine ⟨#[.pointer (some ⟨c, 0, none⟩)], by go_simp, (HWR.out w1 (hEb.trans st.inv)).mono ?_⟩
              rintro e w2 ⟨rfl, hE2⟩
              exact ⟨rfl, Ext.trans st.inv hE2⟩
            case f9 =>
              refine sg_val_on (x := .agg X) (on := 6) (t := 61) (b := true) rfl rfl (by kernel_rfl) rfl rfl rfl (fun γ L w h _ => h) fun γ L v a w1 st => ?_
              have e6 := st.far 6 (by kernel_rfl)
              simp at e6
              exact exec_load_mid rfl (b := xb) (off := 0) (by simp [Act.eval, e6]) (HRX.out w1 (hEb.trans st.inv)) Tryz.underlying31 rfl HI1.out
            case f10 =>
              refine sg_callv_on (x := .string ⟨P.enc.toArray⟩) (f := 13) (on := 6) (t := 61) (b := true) rfl rfl (by kernel_rfl) rfl rfl rfl fun γ L v a w1 st => ?_
              have e9 := st.val 9 64 rfl (by kernel_rfl)
              rw [show v 9 = _ from st.φ 9 (by kernel_rfl)] at e9
              simp at e9
              refine ⟨#[.agg X], by go_simp, (HWX.out w1 (hEb.trans st.inv)).mono ?_⟩
              rintro e w2 ⟨rfl, hE2⟩
              exact ⟨rfl, Ext.trans st.inv hE2⟩
            case f11 =>
              refine sg_val_on (x := .bool true) (on := 6) (t := 61) (b := true) rfl rfl (by kernel_rfl) rfl rfl rfl (fun γ L w h _ => h) fun γ L v a w1 st => ?_
              have e8 := st.val 8 63 rfl (by kernel_rfl)
              rw [show v 8 = _ from st.φ 8 (by kernel_rfl)] at e8
              simp at e8
              have e10 := st.val 10 65 rfl (by kernel_rfl)
              rw [show v 10 = _ from st.φ 10 (by kernel_rfl)] at e10
              simp at e10
              go_simp
            case f12 =>
              refine sg_val (x := .bool true) rfl rfl rfl (fun γ L w h _ => h) fun γ L v a w1 st => ?_
              have e6 := st.val 6 61 rfl (by kernel_rfl)
              rw [show v 6 = _ from st.φ 6 (by kernel_rfl)] at e6
              simp at e6
              have e11 := st.val 11 66 rfl (by kernel_rfl)
              rw [show v 11 = _ from st.φ 11 (by kernel_rfl)] at e11
              simp at e11
              go_simp
            case f13 =>
              refine sg_val (x := .bool true) rfl rfl rfl (fun γ L w h _ => h) fun γ L v a w1 st => ?_
              have e12 := st.val 12 67 rfl (by kernel_rfl)
              rw [show v 12 = _ from st.φ 12 (by kernel_rfl)] at e12
              simp at e12
              go_simp
          case fin =>
            intro γ L v wx hall hG hφ
            have h13 : v 13 = .bool true := hφ 13 (by decide)
            have hEx : Ext w wx := (Xk.trans hEb).trans hG
            clear hφ hall hG HRX HWR HWX HFN hEb
            change Exit.then _ _ _ (putAll _ v _ 14) wx
            simp only [putAll, dstOf, Act.put]
            simp only [List.getElem?_toArray, List.getElem?_cons_zero, List.getElem?_cons_succ, Option.bind_some, List.setIfInBounds_toArray, List.set_cons_zero, List.set_cons_succ]
            rw [h13]
            go_wp2_with fail
            go_ret
            exact ⟨rfl, hEx⟩
        · have hfs : P.find id = some q := (pfind_some hPk.asc).2 ⟨List.mem_of_getElem? hiq, hidq⟩
          have HBL := Lib.hid (cblob_some hCk hPk id hfs)
          clear hidq
          go_wp2_with fail
          refine HBL.out.mono ?_
          rintro e w3 ⟨qA, qc, rfl, _, hE3⟩
          have hEb := hE3.alloc (.cells (blCells q (.slice qA q.disks.length qc)) 44)
          go_upto_region 13 with fail
          generalize w3.alloc _ = W4 at hEb ⊢
          rw [hf] at HFN
          clear HBL hE3 hCk hPk hXk hRk hfs hf hiq
          refine wp_region_phi (Γ := Nat → Value) (sgφ [.val (.bool true), .val (.agg X), .val (.int .u64 (id : Int)), .val (.int .i64 ((i : Int))), .val (.bool true), .val (.bool true), .val (.bool true), .val (.pointer (some ⟨c, 0, none⟩)), .val (.string ⟨P.enc.toArray⟩), .val (.agg X), .val (.string ⟨P.enc.toArray⟩), .val (.bool true), .val (.bool true), .val (.bool true)]) (fun _ _ w1 => Ext W4 w1) (by kernel_rfl) (by kernel_rfl) (by kernel_rfl) (fun _ => undef) (Ext.refl W4).drew ?steps ?fin
          case steps =>
            show StepsTo _ _ _ _ _ _ 14
            refine ⟨⟨⟨⟨⟨⟨⟨⟨⟨⟨⟨⟨⟨⟨trivial, ?f0⟩, ?f1⟩, ?f2⟩, ?f3⟩, ?f4⟩, ?f5⟩, ?f6⟩, ?f7⟩, ?f8⟩, ?f9⟩, ?f10⟩, ?f11⟩, ?f12⟩, ?f13⟩
            case f0 =>
              refine sg_val (x := .bool true) rfl rfl rfl (fun γ L w h _ => h) fun γ L v a w1 st => ?_
              have e11 := st.far 11 (by kernel_rfl)
              simp at e11
              go_simp
            case f1 =>
              refine sg_val (x := .agg X) rfl rfl rfl (fun γ L w h _ => h) fun γ L v a w1 st => ?_
              have e6 := st.far 6 (by kernel_rfl)
              simp at e6
              exact exec_load_mid rfl (b := xb) (off := 0) (by simp [Act.eval, e6]) (HRX.out w1 (hEb.trans st.inv)) Tryz.underlying31 rfl HI1.out
            case f2 =>
              refine sg_val (x := .int .u64 (id : Int)) rfl rfl rfl (fun γ L w h _ => h) fun γ L v a w1 st => ?_
              have e1 := st.far 1 (by kernel_rfl)
              simp at e1
              go_simp
            case f3 =>
              refine sg_callv' (x := .int .i64 ((i : Int))) (f := 11) rfl rfl rfl fun γ L v a w1 st => ?_
              have e1 := st.val 1 56 rfl (by kernel_rfl)
              rw [show v 1 = _ from st.φ 1 (by kernel_rfl)] at e1
              simp at e1
              have e2 := st.val 2 57 rfl (by kernel_rfl)
              rw [show v 2 = _ from st.φ 2 (by kernel_rfl)] at e2
              simp at e2
              refine ⟨#[.agg X, .int .u64 (id : Int)], by go_simp, (HFN.out w1 (hEb.trans st.inv)).mono ?_⟩
              rintro e w2 ⟨rfl, hE2⟩
              exact ⟨rfl, Ext.trans st.inv hE2⟩
            case f4 =>
              refine sg_val (x := .bool true) rfl rfl rfl (fun γ L w h _ => h) fun γ L v a w1 st => ?_
              have e3 := st.val 3 58 rfl (by kernel_rfl)
              rw [show v 3 = _ from st.φ 3 (by kernel_rfl)] at e3
              simp at e3
              have hi0 : (0 : Int) ≤ (i : Int) := by omega
              go_simp
            case f5 =>
              refine sg_val (x := .bool true) rfl rfl rfl (fun γ L w h _ => h) fun γ L v a w1 st => ?_
              have e0 := st.val 0 55 rfl (by kernel_rfl)
              rw [show v 0 = _ from st.φ 0 (by kernel_rfl)] at e0
              simp at e0
              have e4 := st.val 4 59 rfl (by kernel_rfl)
              rw [show v 4 = _ from st.φ 4 (by kernel_rfl)] at e4
              simp at e4
              go_simp
            case f6 =>
              refine sg_val (x := .bool true) rfl rfl rfl (fun γ L w h _ => h) fun γ L v a w1 st => ?_
              have e5 := st.val 5 60 rfl (by kernel_rfl)
              rw [show v 5 = _ from st.φ 5 (by kernel_rfl)] at e5
              simp at e5
              go_simp
            case f7 =>
              refine sg_val_on (x := .pointer (some ⟨c, 0, none⟩)) (on := 6) (t := 61) (b := true) rfl rfl (by kernel_rfl) rfl rfl rfl (fun γ L w h _ => h) fun γ L v a w1 st => ?_
              have e5 := st.far 5 (by kernel_rfl)
              simp at e5
              go_simp
            case f8 =>
              refine sg_callv_on (x := .string ⟨P.enc.toArray⟩) (f := 12) (on := 6) (t := 61) (b := true) rfl rfl (by kernel_rfl) rfl rfl rfl fun γ L v a w1 st => ?_
              have e7 := st.val 7 62 rfl (by kernel_rfl)
              rw [show v 7 = _ from st.φ 7 (by kernel_rfl)] at e7
              simp at e7
              refine ⟨#[.pointer (some ⟨c, 0, none⟩)], by go_simp, (HWR.out w1 (hEb.trans st.inv)).mono ?_⟩
              rintro e w2 ⟨rfl, hE2⟩
              exact ⟨rfl, Ext.trans st.inv hE2⟩
            case f9 =>
              refine sg_val_on (x := .agg X) (on := 6) (t := 61) (b := true) rfl rfl (by kernel_rfl) rfl rfl rfl (fun γ L w h _ => h) fun γ L v a w1 st => ?_
              have e6 := st.far 6 (by kernel_rfl)
              simp at e6
              exact exec_load_mid rfl (b := xb) (off := 0) (by simp [Act.eval, e6]) (HRX.out w1 (hEb.trans st.inv)) Tryz.underlying31 rfl HI1.out
            case f10 =>
              refine sg_callv_on (x := .string ⟨P.enc.toArray⟩) (f := 13) (on := 6) (t := 61) (b := true) rfl rfl (by kernel_rfl) rfl rfl rfl fun γ L v a w1 st => ?_
              have e9 := st.val 9 64 rfl (by kernel_rfl)
              rw [show v 9 = _ from st.φ 9 (by kernel_rfl)] at e9
              simp at e9
              refine ⟨#[.agg X], by go_simp, (HWX.out w1 (hEb.trans st.inv)).mono ?_⟩
              rintro e w2 ⟨rfl, hE2⟩
              exact ⟨rfl, Ext.trans st.inv hE2⟩
            case f11 =>
              refine sg_val_on (x := .bool true) (on := 6) (t := 61) (b := true) rfl rfl (by kernel_rfl) rfl rfl rfl (fun γ L w h _ => h) fun γ L v a w1 st => ?_
              have e8 := st.val 8 63 rfl (by kernel_rfl)
              rw [show v 8 = _ from st.φ 8 (by kernel_rfl)] at e8
              simp at e8
              have e10 := st.val 10 65 rfl (by kernel_rfl)
              rw [show v 10 = _ from st.φ 10 (by kernel_rfl)] at e10
              simp at e10
              go_simp
            case f12 =>
              refine sg_val (x := .bool true) rfl rfl rfl (fun γ L w h _ => h) fun γ L v a w1 st => ?_
              have e6 := st.val 6 61 rfl (by kernel_rfl)
              rw [show v 6 = _ from st.φ 6 (by kernel_rfl)] at e6
              simp at e6
              have e11 := st.val 11 66 rfl (by kernel_rfl)
              rw [show v 11 = _ from st.φ 11 (by kernel_rfl)] at e11
              simp at e11
              go_simp
            case f13 =>
              refine sg_val (x := .bool true) rfl rfl rfl (fun γ L w h _ => h) fun γ L v a w1 st => ?_
              have e12 := st.val 12 67 rfl (by kernel_rfl)
              rw [show v 12 = _ from st.φ 12 (by kernel_rfl)] at e12
              simp at e12
              go_simp
          case fin =>
            intro γ L v wx hall hG hφ
            have h13 : v 13 = .bool true := hφ 13 (by decide)
            have hEx : Ext w wx := (Xk.trans hEb).trans hG
            clear hφ hall hG HRX HWR HWX HFN hEb
            change Exit.then _ _ _ (putAll _ v _ 14) wx
            simp only [putAll, dstOf, Act.put]
            simp only [List.getElem?_toArray, List.getElem?_cons_zero, List.getElem?_cons_succ, Option.bind_some, List.setIfInBounds_toArray, List.set_cons_zero, List.set_cons_succ]
            rw [h13]
            go_wp2_with fail
            go_ret
            exact ⟨rfl, hEx⟩
      · have hfk2 : k < l.length ∧ k < 40 := by simpa using hfk.symm
        obtain ⟨hlt, hlt40⟩ := hfk2
        clear hfk
        obtain ⟨⟨x, dv⟩, hx⟩ : ∃ x, l[k]? = some x := ⟨_, List.getElem?_eq_getElem hlt⟩
        have hin : x.In dv wc := (HL.out.row _ (List.mem_of_getElem? hx)).ext Xk
        have hS := HL.out.ops.ext Xk
        obtain ⟨lb, lo, rfl⟩ := cmds_some hS (fun e => by
          have := List.map_eq_nil_iff.1 e
          subst this; simp at hlt)
        have HIN := Lib.hid (fun w1 (hc : Ext wc w1) => hin.ext hc)
        have HRW : Hid (∀ w1, Ext wc w1 → w1.rangeAt lb (lo + k * 11) (crow (x, dv))) := Lib.hid fun w1 hc j u hu => sln_get (hS.ext hc) (by rw [List.getElem?_map, hx]; rfl) j u hu
        have HWF := Lib.hid hin.wf
        have HXW := Lib.hid (fun w1 (hc : Ext wc w1) => hXk.ext hc)
        have HCW := Lib.hid (fun w1 (hc : Ext wc w1) => hCk.ext hc)
        have HRFW := Lib.hid (fun w1 (hc : Ext wc w1) => hRk.ext hc)
        have HPA := Lib.hid (hPk.app (fewC_wf hin.wf))
        have HVL := Lib.hid (hPk.app (fewC_wf hin.wf)).vlen
        have HBW := Lib.hid (cat_lt hCk)
        have HEW := Lib.hid Xk
        have HPK := Lib.hid hPk
        clear hin hx hS hCk hRk hXk Xk hPk
        go_upto_region 8 with fail
        refine wp_region_phi (Γ := Nat → Value) (sgφ [.val (.pointer (some ⟨c, 0, none⟩)), .val (.agg X), .val (.slice (some ⟨lb, lo, none⟩) l.length lc), .val (.int .i64 (k : Int)), .val (.pointer (some ⟨lb, lo + k * 11, none⟩)), .val (cmdVal x dv), .g 0, .g 3, .g 2, .val (.bool true), .g 1, .any, .val (.bool true)])
          (GPl wc B c mb mn P (P.app (fewC x)).1) (by kernel_rfl) (by kernel_rfl) (by kernel_rfl) (fun _ => undef) ?inv ?steps ?fin
        case inv => exact ⟨fun _ => (Ext.refl wc).drew, Kp.of_ext (Ext.refl wc).drew, fun hh => (by cases hh), fun hh => (by cases hh), fun hh => (by cases hh), fun hh => (by cases hh)⟩
        case steps =>
          show StepsTo _ _ _ _ _ _ 13
          refine ⟨⟨⟨⟨⟨⟨⟨⟨⟨⟨⟨⟨⟨trivial, ?s0⟩, ?s1⟩, ?s2⟩, ?s3⟩, ?s4⟩, ?s5⟩, ?s6⟩, ?s7⟩, ?s8⟩, ?s9⟩, ?s10⟩, ?s11⟩, ?s12⟩
          case s0 =>
            refine sg_val (x := .pointer (some ⟨c, 0, none⟩)) rfl rfl rfl (GPl.keep (j := 0) (by omega)) fun γ L v a w1 st => ?_
            have e5 := st.far 5 (by kernel_rfl)
            simp at e5
            go_simp
          case s1 =>
            refine sg_val (x := .agg X) rfl rfl rfl (GPl.keep (j := 1) (by omega)) fun γ L v a w1 st => ?_
            have e6 := st.far 6 (by kernel_rfl)
            simp at e6
            have h6 : L 6 = false := by
              cases hq : L 6 with
              | false => rfl
              | true =>
                have q1 := st.down 6 1 hq (by kernel_rfl)
                have q99 := st.off; rw [q1] at q99; cases q99
            exact exec_load_mid rfl (b := xb) (off := 0) (by simp [Act.eval, e6]) (HXW.out w1 (st.inv.pre h6)).range Tryz.underlying31 rfl HI1.out
          case s2 =>
            refine sg_val (x := .slice (some ⟨lb, lo, none⟩) l.length lc) rfl rfl rfl (GPl.keep (j := 2) (by omega)) fun γ L v a w1 st => ?_
            have e0 := st.far 0 (by kernel_rfl)
            simp at e0
            go_simp
          case s3 =>
            refine sg_val (x := .int .i64 (k : Int)) rfl rfl rfl (GPl.keep (j := 3) (by omega)) fun γ L v a w1 st => ?_
            have e7 := st.far 7 (by kernel_rfl)
            simp at e7
            go_simp
          case s4 =>
            refine sg_val (x := .pointer (some ⟨lb, lo + k * 11, none⟩)) rfl rfl rfl (GPl.keep (j := 4) (by omega)) fun γ L v a w1 st => ?_
            have e2 := st.val 2 33 rfl (by kernel_rfl)
            rw [show v 2 = _ from st.φ 2 (by kernel_rfl)] at e2
            simp at e2
            have e3 := st.val 3 34 rfl (by kernel_rfl)
            rw [show v 3 = _ from st.φ 3 (by kernel_rfl)] at e3
            simp at e3
            go_simp
          case s5 =>
            refine sg_val (x := cmdVal x dv) rfl rfl rfl (GPl.keep (j := 5) (by omega)) fun γ L v a w1 st => ?_
            have e4 := st.val 4 35 rfl (by kernel_rfl)
            rw [show v 4 = _ from st.φ 4 (by kernel_rfl)] at e4
            simp at e4
            have h6 : L 6 = false := by
              cases hq : L 6 with
              | false => rfl
              | true =>
                have q5 := st.down 6 5 hq (by kernel_rfl)
                have q99 := st.off; rw [q5] at q99; cases q99
            exact exec_load_mid rfl (b := lb) (off := lo + k * 11) (by simp [Act.eval, e4]) (HRW.out w1 (st.inv.pre h6)) Tryz.underlying38 rfl cc_info
          case s6 =>
            refine sg_call (k := 0) (f := 8) rfl rfl rfl (by kernel_rfl) fun γ L v a w1 st => ?_
            have e0 := st.val 0 31 rfl (by kernel_rfl)
            rw [show v 0 = _ from st.φ 0 (by kernel_rfl)] at e0
            simp at e0
            have e1 := st.val 1 32 rfl (by kernel_rfl)
            rw [show v 1 = _ from st.φ 1 (by kernel_rfl)] at e1
            simp at e1
            have e5 := st.val 5 36 rfl (by kernel_rfl)
            rw [show v 5 = _ from st.φ 5 (by kernel_rfl)] at e5
            simp at e5
            have h6 : L 6 = false := st.off
            have h7 : L 7 = false := by
              cases hq : L 7 with
              | false => rfl
              | true =>
                have q6 := st.down 7 6 hq (by kernel_rfl)
                have q99 := st.off; rw [q6] at q99; cases q99
            have h8 : L 8 = false := by
              cases hq : L 8 with
              | false => rfl
              | true =>
                have q7 := st.down 8 7 hq (by kernel_rfl)
                have q6 := st.down 7 6 q7 (by kernel_rfl)
                have q99 := st.off; rw [q6] at q99; cases q99
            have h11 : L 11 = false := by
              cases hq : L 11 with
              | false => rfl
              | true =>
                have q8 := st.down 11 8 hq (by kernel_rfl)
                have q7 := st.down 8 7 q8 (by kernel_rfl)
                have q6 := st.down 7 6 q7 (by kernel_rfl)
                have q99 := st.off; rw [q6] at q99; cases q99
            have hEx := st.inv.pre h6
            refine ⟨#[.pointer (some ⟨c, 0, none⟩), .agg X, cmdVal x dv], by go_simp, ?_⟩
            refine (does_any w1 B c mb mn P k (.agg X) x dv (HCW.out w1 hEx) (HRFW.out w1 hEx) HPK.out (by omega) (HIN.out w1 hEx)).mono ?_
            rintro e w2 ⟨v', rfl, hc2, hr2, hk2⟩
            obtain ⟨X2, rfl, x37, xone⟩ := hr2.open HVL.out
            exact ⟨_, rfl, GPl.called st.inv hk2 h7 h8 h11 hr2 x37 xone hc2⟩
          case s7 =>
            refine sg_new (k := 3) rfl rfl rfl (by kernel_rfl) fun γ L v a w1 st => ?_
            have e6 := st.val 6 37 rfl (by kernel_rfl)
            rw [show v 6 = _ from st.φ 6 (by kernel_rfl)] at e6
            simp at e6
            exact ⟨γ 0, w1, by go_simp, GPl.moved st.inv⟩
          case s8 =>
            refine sg_new (k := 2) rfl rfl rfl (by kernel_rfl) fun γ L v a w1 st => ?_
            have e7 := st.val 7 30 rfl (by kernel_rfl)
            have hd7 := st.dep 7 (by kernel_rfl)
            rw [show v 7 = _ from st.φ 7 (by kernel_rfl), st.inv.mv hd7] at e7
            simp at e7
            obtain ⟨X2, hγ, _⟩ := st.inv.call (st.down 7 6 hd7 (by kernel_rfl))
            refine ⟨tupAt (γ 0) 0, w1, ?_, GPl.got st.inv⟩
            rw [hγ] at e7 ⊢
            simp [tupAt]
            go_simp
          case s9 =>
            refine sg_val (x := .bool true) rfl rfl rfl (GPl.keep (j := 9) (by omega)) fun γ L v a w1 st => ?_
            have e7 := st.val 7 30 rfl (by kernel_rfl)
            have hd7 := st.dep 7 (by kernel_rfl)
            rw [show v 7 = _ from st.φ 7 (by kernel_rfl), st.inv.mv hd7] at e7
            simp at e7
            obtain ⟨X2, hγ, _⟩ := st.inv.call (st.down 7 6 hd7 (by kernel_rfl))
            rw [hγ] at e7
            go_simp
          case s10 =>
            refine sg_new (k := 1) rfl rfl rfl (by kernel_rfl) fun γ L v a w1 st => ?_
            have h11 : L 11 = false := by
              cases hq : L 11 with
              | false => rfl
              | true =>
                have q10 := st.down 11 10 hq (by kernel_rfl)
                have q99 := st.off; rw [q10] at q99; cases q99
            exact ⟨.pointer (some ⟨w1.heap.size, 0, none⟩), w1.alloc (.cells #[.slice none 0 0, .bool false, .bool false, .int .i64 0, .bool false, .bool false, .int .i64 0, .bool false, .bool false, .int .i64 0, .bool false, .bool false, .int .i64 0, .bool false, .bool false, .int .i64 0, .bool false, .bool false, .int .i64 0, .bool false, .bool false, .int .i64 0, .bool false, .bool false, .int .i64 0, .bool false, .bool false, .int .i64 0, .bool false, .bool false, .int .i64 0, .bool false, .bool false, .int .i64 0, .bool false, .bool false, .int .i64 0] 31), by go_simp, GPl.new st.inv h11 rfl⟩
          case s11 =>
            refine sg_skip rfl rfl rfl fun γ L v a w1 st => ?_
            have d8 := st.dep 8 (by kernel_rfl)
            have d10 := st.dep 10 (by kernel_rfl)
            have d7 := st.down 8 7 d8 (by kernel_rfl)
            have d6 := st.down 7 6 d7 (by kernel_rfl)
            obtain ⟨X2, hγ, a2, a3, _⟩ := st.inv.call d6
            obtain ⟨g, g1, g2, ⟨Z, g3, g4⟩, _⟩ := st.inv.n1 d10
            have e1 := st.val 8 38 rfl (by kernel_rfl)
            rw [show v 8 = _ from st.φ 8 (by kernel_rfl), st.inv.e1 d8] at e1
            have e2 := st.val 10 8 rfl (by kernel_rfl)
            rw [show v 10 = _ from st.φ 10 (by kernel_rfl), g1] at e2
            simp at e2
            have hta : tupAt (γ 0) 0 = .agg (aggArr (tupAt (γ 0) 0)) := by rw [hγ]; rfl
            have hsz : (aggArr (tupAt (γ 0) 0)).size = 37 := by rw [hγ]; exact a2
            have hon : (aggArr (tupAt (γ 0) 0)).all (·.oneCell') = true := by rw [hγ]; exact a3
            refine ⟨_, exec_store_mid rfl (b := g) (off := 0) (cells := aggArr (tupAt (γ 0) 0)) (by simp [Act.eval, e2]) (by show a.tmps.getD 38 undef = _; rw [e1]; exact hta) (by rw [hsz, ← g4]; exact g3.there) (by rw [hsz]; exact rf_cinfo) hon, ?_⟩
            exact GPl.stored st.inv HBW.out d6 d10 g1
          case s12 =>
            refine sg_val (x := .bool true) rfl rfl rfl (GPl.keep (j := 12) (by omega)) fun γ L v a w1 st => ?_
            have e9 := st.val 9 39 rfl (by kernel_rfl)
            rw [show v 9 = _ from st.φ 9 (by kernel_rfl)] at e9
            simp at e9
            go_simp
        case fin =>
          intro γ L v wx hall hG hφ
          have h10 : v 10 = γ 1 := hφ 10 (by decide)
          have h12 : v 12 = .bool true := hφ 12 (by decide)
          obtain ⟨X2, hγ, x37, xone, hCx, hRx⟩ := hG.call (hall 6 (by decide))
          obtain ⟨gb, g1, g2, _, g4⟩ := hG.n1 (hall 10 (by decide))
          have hG1 : At wx gb 31 X2 := by have h := g4 (hall 11 (by decide)); rw [hγ] at h; exact h
          rw [g1] at h10
          have hKx := hG.kp
          have hXx := hKx.at_ _ _ _ (by decide) (by decide) (HXW.out _ (Ext.refl _))
          have hgx : gb ≠ xb := by have := (HXW.out _ (Ext.refl _)).lt; omega
          have HI2 : Hid ((Tryz.prog.info? 31).map (·.size) = some X2.toList.length) := Lib.hid (by rw [Array.length_toList, x37]; exact rf_cinfo)
          clear hG hφ hall g1 g2 g4 hγ HI1
          change Exit.then _ _ _ (putAll _ v _ 13) wx
          simp only [putAll, dstOf, Act.put]
          simp only [List.getElem?_toArray, List.getElem?_cons_zero, List.getElem?_cons_succ, Option.bind_some, List.setIfInBounds_toArray, List.set_cons_zero, List.set_cons_succ]
          rw [h10, h12]
          clear h10 h12
          have HGR := Lib.hid hG1.range
          have HXT := Lib.hid hXx.there
          go_upto_region 10 with (first | (refine wpList_load_mid rfl 31 _ rfl gb 0 rfl _ _ HGR.out Tryz.underlying31 rfl HI2.out ?_) | (refine wpList_store_mid rfl 31 _ _ rfl xb 0 X2 rfl rfl (by rw [x37]; have h := HXT.out; rw [h37] at h; exact h) (by rw [x37]; exact rf_cinfo) xone ?_))
          have hch : Chg (· = xb) wx (wx.setCells xb 0 X2.toList) := chg_setCells _ _
          have hX3 : At (wx.setCells xb 0 X2.toList) xb 31 X2 := At.cells_all hXx (by rw [x37, h37])
          have hC3 := hCx.fresh hXx (by decide) (by decide) (by decide) hch
          have hR3 := hRx.chgT hXx (by decide) (by decide) hch
          have HE3 := Lib.hid (show Ext w (wx.setCells xb 0 X2.toList) from (Kp.ext HEW.out hKx HwB.out).setCells HXB.out _ _)
          clear hXx hG1 hCx hRx hKx hch HGR HXT hgx
          generalize wx.setCells xb 0 X2.toList = W3 at hX3 hC3 hR3 HE3 ⊢
          have HIS := Lib.hid (is_any W3 B c mb mn (P.app (fewC x)).1 (k + 1) (.agg X2) hC3 hR3 HPA.out (by omega))
          have HRX3 := Lib.hid hX3.range
          go_wp2_with (refine wpList_load_on rfl 31 _ rfl xb 0 rfl _ _ HRX3.out Tryz.underlying31 rfl HI2.out ?_)
          refine HIS.out.mono ?_
          rintro e w4 ⟨rfl, hE4⟩
          have hC4 := hC3.ext hE4
          have hR4 := hR3.ext hE4
          have hX4 := hX3.ext hE4
          have hE5 := HE3.out.trans hE4
          clear HIS HRX3 hC3 hR3 hX3
          go_wp2_with fail
          go_roundw
          case rel => exact ⟨k + 1, _, X2, by go_num, by omega, by omega, hC4, HPA.out, hX4, x37, hR4, hE5⟩
          case measure => simp [intOf]; omega
theorem plays_int (w : World) (l : List CRow) (lv : Value) (i : Int) (hi : 0 ≤ i ∧ i ≤ 18446744073709551615) (hl : CmdsIn w l lv) :
    Calls Tryz.prog 3 #[lv, .int .u64 i] w fun e w' => e = .returned (.bool true) ∧ Ext w w' := by
  obtain ⟨n, rfl⟩ := Int.eq_ofNat_of_zero_le hi.1
  exact plays_law w l lv n (by omega) hl
end Go.Proofs.YtchnejfdompfpaaGreat
