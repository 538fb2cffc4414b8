/-
  CatalogPins: the walk.
-/
import Derived.Test.YtchnejfdompfpaaCatAwake
namespace Go.Proofs.Ytchnejfdompfpaa
open Go.RowKit Go.Sort

theorem S_lt {w : World} {B c mb mn : Nat} {C : Ct} (h : CtAt w B c mb mn C) : ∀ k, C.S c mb mn k → k < w.heap.size := by
  rintro k (rfl | rfl | rfl | ⟨r, hr, rfl⟩)
  · exact h.blk.lt
  · exact h.bm.lt
  · exact h.nm.lt
  · exact (h.bl r hr).1.lt
/-- a command that is written out; what was made behind the catalog lies as it lay -/
theorem capply_old {w0 w : World} {B c mb mn : Nat} {P : Pm} {n : Nat} {P' : Pm} {err : Int} {blob : Nat} {size : Int} {sum : Nat} {args : Value} (bI sI : Int) (h : CatIn w0 B c mb mn P) (he : Ext w0 w) (hi : PInv n P) (hn : n ≤ 1000000) (x : Cmd) (dv : Value) (hS : w.ownsRow 0 3 1 dv x.disks.length (x.disks.map (Value.int .i64))) (hx : x.Wf) (hdl : x.disks.length ≤ 6) (hnl : x.name.size ≤ 100)
    (ha : args = cmdVal x dv) (hr : P.app x = (P', ⟨err, blob, size, sum, []⟩)) (hbI : (blob : Int) = bI) (hsI : (sum : Int) = sI) :
    Calls Try.prog 9 #[.pointer (some ⟨c, 0, none⟩), args] w fun e w' => ∃ A cp, e = .returned (.agg #[.int .i64 err, .int .u64 bI, .int .i64 size, .int .u32 sI, .slice A 0 cp]) ∧ CatIn w' B c mb mn P' ∧ Kp B w w' ∧ Chg (fun k => k < w0.heap.size) w w' := by
  subst ha hbI hsI
  obtain ⟨C, hC, hR⟩ := h
  refine (app_any w B c mb mn C P n (hC.ext he) hR hi hn x dv hS (by omega) (by omega) hx).mono ?_
  rintro e w' ⟨nv, rfl, hON, C', h1, h2, h3⟩
  rw [hr] at hON h2 ⊢
  obtain ⟨A, cp, rfl⟩ := own_slc hON
  exact ⟨A, cp, rfl, ⟨C', h1, h2⟩, Kp.of_S (hC.ext he) h3, h3.mono (fun k _ e => S_lt hC k e)⟩
def pp (k : Int) (d : Bool) : Pm := ⟨[⟨5, bA, 0, 0, [1], Cp.none, Cp.none, k, d⟩], List.replicate 12 Vl.zero⟩
def m1 : Cmd := ⟨1, 0, 0, bA, 5, 0, 0, [1], 0, 0, 0⟩
def m4 : Cmd := ⟨10, 0, 0, ⟨#[]⟩, 5, 0, 0, [], 0, 0, 0⟩
def m5 : Cmd := ⟨6, 0, 0, ⟨#[]⟩, 5, 0, 0, [], 0, 0, 0⟩
theorem m1_wf : m1.Wf := wf_small (k := 1) (by decide) (by decide) (by decide) (by decide) rfl
theorem m4_wf : m4.Wf := wf_small (k := 10) (by decide) (by decide) (by decide) (by decide) rfl
theorem m5_wf : m5.Wf := wf_small (k := 6) (by decide) (by decide) (by decide) (by decide) rfl
theorem f1 : Pm.empty.app m1 = (pp 0 false, ⟨0, 0, 0, 0, []⟩) := by kernel_rfl
theorem f2 (k : Int) : (pp k false).app k2 = (pp (k + 1) false, ⟨0, 5, 0, 0, []⟩) := by rfl
theorem f3 (k : Int) : (pp k false).app k3 = (pp k true, ⟨0, 5, 0, 0, []⟩) := by rfl
abbrev bl5 (k : Int) (d : Bool) : Bl := ⟨5, bA, 0, 0, [1], Cp.none, Cp.none, k, d⟩
theorem f5a (k : Int) : (pp k true).app m5 = rs1 (if (chgB false (bl5 k true) m5).2 = 0 then ((pp k true).set (chgB false (bl5 k true) m5).1, 0) else (pp k true, (chgB false (bl5 k true) m5).2)) := rfl
theorem f5 (k : Int) (h : k ≠ 0) : (pp k true).app m5 = (pp (k - 1) true, ⟨0, 0, 0, 0, []⟩) := by
  have hc : chgB false (bl5 k true) m5 = (bl5 (k - 1) true, 0) := by
    have h6 : m5.kind = 6 := rfl
    unfold chgB
    rw [if_pos h6, if_neg (show ¬ (bl5 k true).pins = 0 from h)]
  rw [f5a, hc]
  rfl
theorem f5z : (pp 0 true).app m5 = (pp 0 true, ⟨16, 0, 0, 0, []⟩) := by kernel_rfl
theorem f6a (k : Int) : (pp k true).app m4 = rs1 (if !true || decide (0 < k) then (pp k true, 16) else ((pp k true).drop 5, 0)) := rfl
theorem f6 (k : Int) (h : 0 < k) : (pp k true).app m4 = (pp k true, ⟨16, 0, 0, 0, []⟩) := by
  rw [f6a, decide_eq_true h]
  rfl
theorem f6z : (pp 0 true).app m4 = (Pm.empty, ⟨0, 0, 0, 0, []⟩) := by kernel_rfl
theorem pp_inv (k n : Nat) (d : Bool) (h : k ≤ n) (hn : 1 ≤ n) : PInv n (pp k d) where
  asc := List.pairwise_singleton _ _
  bl := fun b hb => by
    rw [show (pp k d).L = [⟨5, bA, 0, 0, [1], Cp.none, Cp.none, k, d⟩] from rfl, List.mem_singleton] at hb
    subst hb
    exact ⟨show (5 : Nat) ≠ 0 ∧ 5 < 18446744073709551616 by decide, show bA ≠ ByteArray.empty ∧ bA.size ≤ 32 by decide, show (0 : Int) ≤ 0 ∧ (0 : Int) ≤ 4000 by decide, show 0 < 4294967296 by decide, show risesB [1] = true by decide, .inl rfl, .inl rfl, ⟨show (0 : Int) ≤ (k : Int) by omega, show (k : Int) ≤ (n : Int) by omega⟩⟩
  uniq := fun b hb b' hb' _ _ _ => by
    rw [show (pp k d).L = [⟨5, bA, 0, 0, [1], Cp.none, Cp.none, k, d⟩] from rfl, List.mem_singleton] at hb hb'
    subst hb; subst hb'; rfl
  vlen := rfl
  gen := fun v hv => by
    rw [List.eq_of_mem_replicate hv]
    exact ⟨Int.le_refl _, Int.natCast_nonneg _⟩
  len := hn
theorem mod_fix (a : Int) (m : Int) (hm : m = 9 ∨ m = 12) : ∃ g : Nat, (a.tmod m + m).tmod m = (g : Int) ∧ (g : Int) < m ∧ -m < a.tmod m ∧ a.tmod m < m := by
  have h1 := Int.tmod_lt_of_pos a (show 0 < m by omega)
  have h2 : -m < a.tmod m := by
    have := Int.lt_tmod_of_pos a (show 0 < m by omega)
    omega
  have h3 : 0 ≤ a.tmod m + m := by omega
  have h4 := Int.tmod_lt_of_pos (a.tmod m + m) (show 0 < m by omega)
  obtain ⟨g, hg⟩ := Int.eq_ofNat_of_zero_le (Int.tmod_nonneg m h3)
  exact ⟨g, hg, by omega, h2, h1⟩
set_option maxRecDepth 100000 in
set_option maxHeartbeats 8000000 in
theorem pins_any (w : World) (a b : Int) (_ha : -9223372036854775808 ≤ a ∧ a ≤ 9223372036854775807) (_hb : -9223372036854775808 ≤ b ∧ b ≤ 9223372036854775807) :
    Calls Try.prog 4 #[.int .i64 a, .int .i64 b] w fun e w' => e = .returned (.bool true) ∧ Ext w w' := by
  obtain ⟨g, hg, hg9, hg1, hg2⟩ := mod_fix a 9 (.inl rfl)
  obtain ⟨u, hu, hu9, hu1, hu2⟩ := mod_fix b 12 (.inr rfl)
  obtain ⟨m9, hm9⟩ : ∃ m, a.tmod 9 = m := ⟨_, rfl⟩
  obtain ⟨m12, hm12⟩ : ∃ m, b.tmod 12 = m := ⟨_, rfl⟩
  rw [hm9] at hg hg1 hg2
  rw [hm12] at hu hu1 hu2
  go_enter Try.func4, Try.ntmps4
  go_wp2_with fail
  refine (awake_any w).mono ?_
  rintro e w0 ⟨rfl, hE0⟩
  go_wp2_with fail
  obtain ⟨B, hBe⟩ : ∃ B, w0.heap.size = B := ⟨_, rfl⟩
  have hwB : w.heap.size ≤ B := by have := hE0.size; omega
  have hN := cnew_any w0
  rw [hBe] at hN
  clear hBe hg hu hg1 hg2 hu1 hu2 hm9 hm12 _ha _hb
  refine hN.mono ?_
  rintro e w1 ⟨c, mb, mn, rfl, hC1, hE1⟩
  clear hN
  go_wp2_with fail
  refine (disk_any _ _ [1] (sl_one w1 1) (by decide)).mono ?_
  rintro e w2 ⟨v, rfl, hown, hE2⟩
  rw [disk_1] at hown
  obtain ⟨dA, dc, rfl⟩ := own_slc hown
  have X2 : Ext w w2 := (hE0.trans hE1).trans (((Ext.refl w1).alloc _).trans hE2)
  have hC2 := hC1.ext (((Ext.refl w1).alloc (.cells #[.int .i64 1] 3)).trans hE2)
  have H1 := Lib.hid (capply_lit 0 0 hC2 (PInv.empty 0) (by decide) m1 _ (own_base0 hown) m1_wf (by decide) (by decide) (args := .agg #[.int .i64 1, .int .i64 0, .int .i64 0, .string ⟨#[97]⟩, .int .u64 5, .int .i64 0, .int .u32 0, .slice dA 1 dc, .int .i64 0, .int .i64 0, .int .i64 0]) rfl f1 rfl rfl)
  clear hE0 hE1 hC1 hE2 hown hC2
  go_wp2_with fail
  refine H1.out.mono ?_
  rintro e w3 ⟨A1, p1, rfl, hC3, hK3⟩
  have X3 : Ext w w3 := Kp.ext X2 hK3 hwB
  clear H1 hK3 X2
  go_wp2_with fail
  go_loopw [6] (fun kv wr => ∃ k : Nat, kv = .int .i64 (k : Int) ∧ k ≤ g ∧ CatIn wr B c mb mn (pp k false) ∧ Ext w wr) (fun kv _ => g - (intOf kv).toNat)
  case atStart => exact ⟨0, rfl, Nat.zero_le _, hC3, X3⟩
  case round =>
    clear hC3 X3
    obtain ⟨k, rfl, hkg, hCk, Xk⟩ := hrel
    by_cases hlt : k < g
    · have H2 := Lib.hid (capply_lit 5 0 hCk (pp_inv k (k + 1) false (by omega) (by omega)) (by omega) k2 _ (own_nil _ 0 _) k2_wf (by decide) (by decide) (args := .agg #[.int .i64 2, .int .i64 0, .int .i64 0, .string ⟨#[97]⟩, .int .u64 0, .int .i64 0, .int .u32 0, .slice none 0 0, .int .i64 0, .int .i64 0, .int .i64 0]) rfl (f2 k) rfl rfl)
      clear hCk
      go_wp2_with fail
      refine H2.out.mono ?_
      rintro e w4 ⟨A2, p2, rfl, hC4, hK4⟩
      have X4 : Ext w w4 := Kp.ext Xk hK4 hwB
      clear H2 hK4 Xk
      go_wp2_with fail
      go_roundw
      case rel => exact ⟨k + 1, by go_num, by omega, hC4.ext ((Ext.refl w4).alloc _), X4.alloc _⟩
      case measure => simp [intOf]; omega
    · obtain rfl : k = g := by omega
      have H3 := Lib.hid (capply_lit 5 0 hCk (pp_inv k (k + 1) false (by omega) (by omega)) (by omega) k3 _ (own_nil _ 0 _) k3_wf (by decide) (by decide) (args := .agg #[.int .i64 3, .int .i64 0, .int .i64 0, .string ⟨#[97]⟩, .int .u64 0, .int .i64 0, .int .u32 0, .slice none 0 0, .int .i64 0, .int .i64 0, .int .i64 0]) rfl (f3 k) rfl rfl)
      clear hCk
      go_wp2_with fail
      refine H3.out.mono ?_
      rintro e w4 ⟨A2, p2, rfl, hC4, hK4⟩
      have X4 : Ext w w4 := Kp.ext Xk hK4 hwB
      clear H3 hK4 Xk
      go_wp2_with fail
      obtain ⟨wo, rfl⟩ : ∃ wo : World, wo = wr := ⟨_, rfl⟩
      go_loopw [8] (fun iv wx => ∃ i : Nat, iv = .int .i64 (i : Int) ∧ i ≤ u ∧ CatIn wx B c mb mn (pp ((k - i : Nat) : Int) true) ∧ Ext w wx) (fun iv _ => u - (intOf iv).toNat)
      case atStart => exact ⟨0, rfl, Nat.zero_le _, hC4, X4⟩
      case round =>
        clear hC4 X4
        obtain ⟨i, rfl, hiu, hCi, Xi⟩ := hrel
        by_cases hlu : i < u
        · by_cases hik : i < k
          · have H4 := Lib.hid (capply_lit 0 0 hCi (pp_inv (k - i) (k + 1) true (by omega) (by omega)) (by omega) m5 _ (own_nil _ 0 _) m5_wf (by decide) (by decide) (args := .agg #[.int .i64 6, .int .i64 0, .int .i64 0, .string ⟨#[]⟩, .int .u64 5, .int .i64 0, .int .u32 0, .slice none 0 0, .int .i64 0, .int .i64 0, .int .i64 0]) rfl (f5 ((k - i : Nat) : Int) (by omega)) rfl rfl)
            rw [show ((k - i : Nat) : Int) - 1 = ((k - (i + 1) : Nat) : Int) by omega] at H4
            clear hCi
            go_wp2_with fail
            refine H4.out.mono ?_
            rintro e w5 ⟨A3, p3, rfl, hC5, hK5⟩
            have X5 : Ext w w5 := Kp.ext Xi hK5 hwB
            clear H4 hK5 Xi
            go_wp2_with fail
            go_roundw
            case rel => exact ⟨i + 1, by go_num, by omega, hC5.ext ((Ext.refl w5).alloc _), X5.alloc _⟩
            case measure => simp [intOf]; omega
          · rw [show k - i = 0 by omega] at hCi
            have H4 := Lib.hid (capply_lit 0 0 hCi (pp_inv 0 1 true (by omega) (by omega)) (by omega) m5 _ (own_nil _ 0 _) m5_wf (by decide) (by decide) (args := .agg #[.int .i64 6, .int .i64 0, .int .i64 0, .string ⟨#[]⟩, .int .u64 5, .int .i64 0, .int .u32 0, .slice none 0 0, .int .i64 0, .int .i64 0, .int .i64 0]) rfl f5z rfl rfl)
            clear hCi
            go_wp2_with fail
            refine H4.out.mono ?_
            rintro e w5 ⟨A3, p3, rfl, hC5, hK5⟩
            have X5 : Ext w w5 := Kp.ext Xi hK5 hwB
            clear H4 hK5 Xi
            go_wp2_with fail
            go_roundw
            case rel => exact ⟨i + 1, by go_num, by omega, by rw [show k - (i + 1) = 0 by omega]; exact hC5.ext ((Ext.refl w5).alloc _), X5.alloc _⟩
            case measure => simp [intOf]; omega
        · obtain rfl : i = u := by omega
          have H5 : Hid (Calls Try.prog 15 #[.pointer (some ⟨c, 0, none⟩), .int .u64 5] wr fun e w' => ∃ A5 p5, e = .returned (.tuple #[.agg #[.int .u64 5, .string ⟨#[97]⟩, .int .i64 0, .int .u32 0, .slice A5 1 p5, .bool false, .int .i64 0, .int .i64 0, .bool false, .int .i64 0, .int .i64 0, .int .i64 ((k - i : Nat) : Int), .bool true], .bool true]) ∧ Ext wr w') := Lib.hid (by
            refine (cblob_some hCi (pp_inv (k - i) (k + 1) true (by omega) (by omega)) 5 (b := bl5 ((k - i : Nat) : Int) true) rfl).mono ?_
            rintro e w' ⟨A5, p5, rfl, _, hE5⟩
            exact ⟨A5, p5, rfl, hE5⟩)
          go_wp2_with fail
          refine H5.out.mono ?_
          rintro e w5 ⟨A5, p5, rfl, hE5⟩
          have hB5 := At.new w5 44 #[.int .u64 5, .string ⟨#[97]⟩, .int .i64 0, .int .u32 0, .slice A5 1 p5, .bool false, .int .i64 0, .int .i64 0, .bool false, .int .i64 0, .int .i64 0, .int .i64 ((k - i : Nat) : Int), .bool true]
          have hEb := hE5.alloc (.cells #[.int .u64 5, .string ⟨#[97]⟩, .int .i64 0, .int .u32 0, .slice A5 1 p5, .bool false, .int .i64 0, .int .i64 0, .bool false, .int .i64 0, .int .i64 0, .int .i64 ((k - i : Nat) : Int), .bool true] 44)
          have X5 := Xi.trans hEb
          have hgl := hE5.size
          have emax : max ((k : Int) - (i : Int)) 0 = ((k - i : Nat) : Int) := by omega
          clear hE5 Xi
          by_cases hik : i < k
          · skip
            have H6 := Lib.hid (capply_old 0 0 hCi hEb (pp_inv (k - i) (k + 1) true (by omega) (by omega)) (by omega) m4 _ (own_nil _ 0 _) m4_wf (by decide) (by decide) (args := .agg #[.int .i64 10, .int .i64 0, .int .i64 0, .string ⟨#[]⟩, .int .u64 5, .int .i64 0, .int .u32 0, .slice none 0 0, .int .i64 0, .int .i64 0, .int .i64 0]) rfl (f6 ((k - i : Nat) : Int) (by omega)) rfl rfl)
            clear hCi H5 hEb
            go_wp2_with fail
            refine H6.out.mono ?_
            rintro e w6 ⟨A6, p6, rfl, hC6, hK6, hQ6⟩
            have X6 : Ext w w6 := Kp.ext X5 hK6 hwB
            have hB6 := (hB5.chg hQ6 (fun e => by omega)).alloc (.cells (rCells 16 0 0 0 A6 p6) 31)
            have hR6 := At.new w6 31 (rCells 16 0 0 0 A6 p6)
            have b11 := hB6.cell 11
            have r0 := hR6.cell 0
            simp at b11 r0
            have X7 := X6.alloc (.cells (rCells 16 0 0 0 A6 p6) 31)
            clear H6 hC6 hK6 hQ6 hB5 hB6 hR6 X5 X6
            go_wp2_with fail
            go_ret
            exact ⟨ret_bool (by simp <;> omega), X7⟩
          · have h0 : k - i = 0 := by omega
            rw [h0] at hCi hB5 hEb X5 emax
            have H6 := Lib.hid (capply_old 0 0 hCi hEb (pp_inv 0 1 true (by omega) (by omega)) (by omega) m4 _ (own_nil _ 0 _) m4_wf (by decide) (by decide) (args := .agg #[.int .i64 10, .int .i64 0, .int .i64 0, .string ⟨#[]⟩, .int .u64 5, .int .i64 0, .int .u32 0, .slice none 0 0, .int .i64 0, .int .i64 0, .int .i64 0]) rfl f6z rfl rfl)
            clear hCi H5 hEb
            go_wp2_with fail
            refine H6.out.mono ?_
            rintro e w6 ⟨A6, p6, rfl, hC6, hK6, hQ6⟩
            have X6 : Ext w w6 := Kp.ext X5 hK6 hwB
            have hB6 := (hB5.chg hQ6 (fun e => by omega)).alloc (.cells (rCells 0 0 0 0 A6 p6) 31)
            have hR6 := At.new w6 31 (rCells 0 0 0 0 A6 p6)
            have b11 := hB6.cell 11
            have r0 := hR6.cell 0
            simp at b11 r0
            have X7 := X6.alloc (.cells (rCells 0 0 0 0 A6 p6) 31)
            clear H6 hC6 hK6 hQ6 hB5 hB6 hR6 X5 X6
            go_wp2_with fail
            go_ret
            exact ⟨ret_bool (by simp <;> omega), X7⟩
end Go.Proofs.Ytchnejfdompfpaa
