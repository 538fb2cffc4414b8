/-
  Layer 13: awake.
-/
import Derived.Test.YtchnejfdompfpaaGreatCatIn
namespace Go.Proofs.YtchnejfdompfpaaGreat
open Go.RowKit Go.Sort

abbrev bA : ByteArray := ⟨#[97]⟩
def k1 : Cmd := ⟨1, 0, 0, bA, 7, 3, 0, [0], 0, 0, 0⟩
def k2 : Cmd := ⟨2, 0, 0, bA, 0, 0, 0, [], 0, 0, 0⟩
def k3 : Cmd := ⟨3, 0, 0, bA, 0, 0, 0, [], 0, 0, 0⟩
def k4 : Cmd := ⟨10, 0, 0, ⟨#[]⟩, 7, 0, 0, [], 0, 0, 0⟩
def k5 : Cmd := ⟨6, 0, 0, ⟨#[]⟩, 7, 0, 0, [], 0, 0, 0⟩
def q1 : Pm := ⟨[⟨7, bA, 3, 0, [0], Cp.none, Cp.none, 0, false⟩], List.replicate 12 Vl.zero⟩
def q2 : Pm := ⟨[⟨7, bA, 3, 0, [0], Cp.none, Cp.none, 1, false⟩], List.replicate 12 Vl.zero⟩
def q3 : Pm := ⟨[⟨7, bA, 3, 0, [0], Cp.none, Cp.none, 1, true⟩], List.replicate 12 Vl.zero⟩
def q5 : Pm := ⟨[⟨7, bA, 3, 0, [0], Cp.none, Cp.none, 0, true⟩], List.replicate 12 Vl.zero⟩
theorem wf_small {k b s : Nat} {name : ByteArray} {d : List Int} {sz : Int} (hk : k < 100) (hb : b < 18446744073709551616) (hs : 0 ≤ sz ∧ sz < 5000) (hd : ∀ x ∈ d, 0 ≤ x ∧ x ≤ 5) (h0 : s = 0) : Cmd.Wf ⟨(k : Int), 0, 0, name, b, sz, s, d, 0, 0, 0⟩ := by
  subst h0
  exact ⟨⟨by show _ ≤ (k : Int); omega, by show (k : Int) ≤ _; omega⟩, by simp, by simp, hb, ⟨by show _ ≤ sz; omega, by show sz ≤ _; omega⟩, by simp, by simp, by simp, by simp, fun x hx => by have := hd x hx; omega⟩
theorem k1_wf : k1.Wf := wf_small (k := 1) (by decide) (by decide) (by decide) (by decide) rfl
theorem k2_wf : k2.Wf := wf_small (k := 2) (by decide) (by decide) (by decide) (by decide) rfl
theorem k3_wf : k3.Wf := wf_small (k := 3) (by decide) (by decide) (by decide) (by decide) rfl
theorem k4_wf : k4.Wf := wf_small (k := 10) (by decide) (by decide) (by decide) (by decide) rfl
theorem k5_wf : k5.Wf := wf_small (k := 6) (by decide) (by decide) (by decide) (by decide) rfl
theorem e1 : Pm.empty.app k1 = (q1, ⟨0, 0, 0, 0, []⟩) := by kernel_rfl
theorem e2 : q1.app k2 = (q2, ⟨0, 7, 3, 0, []⟩) := by kernel_rfl
theorem e3 : q2.app k3 = (q3, ⟨0, 7, 3, 0, []⟩) := by kernel_rfl
theorem e4 : q3.app k4 = (q3, ⟨16, 0, 0, 0, []⟩) := by kernel_rfl
theorem e5 : q3.app k5 = (q5, ⟨0, 0, 0, 0, []⟩) := by kernel_rfl
theorem e6 : q5.app k4 = (Pm.empty, ⟨0, 0, 0, 0, []⟩) := by kernel_rfl
theorem i0 : PInv 0 Pm.empty := PInv.empty 0
theorem i1 : PInv 1 q1 := by have := i0.app k1_wf; rw [e1] at this; exact this
theorem i2 : PInv 2 q2 := by have := i1.app k2_wf; rw [e2] at this; exact this
theorem i3 : PInv 3 q3 := by have := i2.app k3_wf; rw [e3] at this; exact this
theorem i4 : PInv 4 q3 := by have := i3.app k4_wf; rw [e4] at this; exact this
theorem i5 : PInv 5 q5 := by have := i4.app k5_wf; rw [e5] at this; exact this
theorem disk_0 : diskOf [0] = [0] := by rw [diskOf_eq]; decide
theorem disk_1 : diskOf [1] = [1] := by rw [diskOf_eq]; decide
theorem sl_one (w : World) (x : Int) : Sl (w.alloc (.cells #[.int .i64 x] 3)) (.slice (some ⟨w.heap.size, 0, none⟩) 1 1) (([x] : List Int).map (Value.int .i64)) := by
  refine ⟨_, 1, rfl, fun _ => ⟨_, 0, rfl, fun i u hi => ?_⟩⟩
  rw [(At.new w 3 #[.int .i64 x]).cell (0 + i), Nat.zero_add]
  simpa using hi
abbrev rCells (err : Int) (blob : Int) (size : Int) (sum : Int) (A : Option Addr) (cp : Nat) : Array Value := #[.int .i64 err, .int .u64 blob, .int .i64 size, .int .u32 sum, .slice A 0 cp]
set_option maxRecDepth 100000 in
set_option maxHeartbeats 8000000 in
theorem awake_any (w : World) : Calls Tryz.prog 7 #[] w fun e w' => e = .returned (.bool true) ∧ Ext w w' := by
  go_enter Tryz.func7, Tryz.ntmps7
  obtain ⟨B, hBe⟩ : ∃ B, w.heap.size = B := ⟨_, rfl⟩
  have hwB : w.heap.size ≤ B := by omega
  have hN := cnew_any w
  rw [hBe] at hN
  clear hBe
  go_wp2_with fail
  refine hN.mono ?_
  rintro e w0 ⟨c, mb, mn, rfl, hC0, hE0⟩
  clear hN
  go_wp2_with fail
  refine (disk_any _ _ [0] (sl_one w0 0) (by decide)).mono ?_
  rintro e w1 ⟨v, rfl, hown, hE1⟩
  rw [disk_0] at hown
  obtain ⟨dA, dc, rfl⟩ := own_slc hown
  have X1 : Ext w w1 := hE0.trans (((Ext.refl w0).alloc _).trans hE1)
  have hC1 := hC0.ext (((Ext.refl w0).alloc (.cells #[.int .i64 0] 3)).trans hE1)
  have H1 := Lib.hid (capply_lit 0 0 hC1 i0 (by decide) k1 _ (own_base0 hown) k1_wf (by decide) (by decide) (args := .agg #[.int .i64 1, .int .i64 0, .int .i64 0, .string ⟨#[97]⟩, .int .u64 7, .int .i64 3, .int .u32 0, .slice dA 1 dc, .int .i64 0, .int .i64 0, .int .i64 0]) rfl e1 rfl rfl)
  clear hE0 hC0 hE1 hown hC1
  go_wp2_with fail
  refine H1.out.mono ?_
  rintro e w2 ⟨A1, p1, rfl, hC2, hK2⟩
  have X2 : Ext w w2 := Kp.ext X1 hK2 hwB
  clear H1 hK2 X1
  have b1 := At.new w2 65 (rCells 0 0 0 0 A1 p1)
  have hD2 := hC2.ext ((Ext.refl w2).alloc (.cells (rCells 0 0 0 0 A1 p1) 65))
  have Z2 := X2.alloc (.cells (rCells 0 0 0 0 A1 p1) 65)
  have H2 := Lib.hid (capply_lit 7 0 hD2 i1 (by decide) k2 _ (own_nil _ 0 _) k2_wf (by decide) (by decide) (args := .agg #[.int .i64 2, .int .i64 0, .int .i64 0, .string ⟨#[97]⟩, .int .u64 0, .int .i64 0, .int .u32 0, .slice none 0 0, .int .i64 0, .int .i64 0, .int .i64 0]) rfl e2 rfl rfl)
  clear hC2 X2 
  go_wp2_with fail
  refine H2.out.mono ?_
  rintro e w3 ⟨A2, p2, rfl, hC3, hK3⟩
  have X3 : Ext w w3 := Kp.ext Z2 hK3 hwB
  replace b1 := hK3.at_ _ _ _ (by decide) (by decide) b1
  generalize w2.heap.size = g1 at *
  clear H2 hK3 Z2 hD2 
  have b2 := At.new w3 65 (rCells 0 7 3 0 A2 p2)
  have hD3 := hC3.ext ((Ext.refl w3).alloc (.cells (rCells 0 7 3 0 A2 p2) 65))
  have Z3 := X3.alloc (.cells (rCells 0 7 3 0 A2 p2) 65)
  have b1' := b1.alloc (.cells (rCells 0 7 3 0 A2 p2) 65)
  have H3 := Lib.hid (capply_lit 7 0 hD3 i2 (by decide) k3 _ (own_nil _ 0 _) k3_wf (by decide) (by decide) (args := .agg #[.int .i64 3, .int .i64 0, .int .i64 0, .string ⟨#[97]⟩, .int .u64 0, .int .i64 0, .int .u32 0, .slice none 0 0, .int .i64 0, .int .i64 0, .int .i64 0]) rfl e3 rfl rfl)
  clear hC3 X3 b1
  go_wp2_with fail
  refine H3.out.mono ?_
  rintro e w4 ⟨A3, p3, rfl, hC4, hK4⟩
  have X4 : Ext w w4 := Kp.ext Z3 hK4 hwB
  have b1 := hK4.at_ _ _ _ (by decide) (by decide) b1'
  replace b2 := hK4.at_ _ _ _ (by decide) (by decide) b2
  generalize w3.heap.size = g2 at *
  clear H3 hK4 Z3 hD3 b1'
  have b3 := At.new w4 65 (rCells 0 7 3 0 A3 p3)
  have hD4 := hC4.ext ((Ext.refl w4).alloc (.cells (rCells 0 7 3 0 A3 p3) 65))
  have Z4 := X4.alloc (.cells (rCells 0 7 3 0 A3 p3) 65)
  have b1' := b1.alloc (.cells (rCells 0 7 3 0 A3 p3) 65)
  have b2' := b2.alloc (.cells (rCells 0 7 3 0 A3 p3) 65)
  have H4 := Lib.hid (capply_lit 0 0 hD4 i3 (by decide) k4 _ (own_nil _ 0 _) k4_wf (by decide) (by decide) (args := .agg #[.int .i64 10, .int .i64 0, .int .i64 0, .string ⟨#[]⟩, .int .u64 7, .int .i64 0, .int .u32 0, .slice none 0 0, .int .i64 0, .int .i64 0, .int .i64 0]) rfl e4 rfl rfl)
  clear hC4 X4 b1 b2
  go_wp2_with fail
  refine H4.out.mono ?_
  rintro e w5 ⟨A4, p4, rfl, hC5, hK5⟩
  have X5 : Ext w w5 := Kp.ext Z4 hK5 hwB
  have b1 := hK5.at_ _ _ _ (by decide) (by decide) b1'
  have b2 := hK5.at_ _ _ _ (by decide) (by decide) b2'
  replace b3 := hK5.at_ _ _ _ (by decide) (by decide) b3
  generalize w4.heap.size = g3 at *
  clear H4 hK5 Z4 hD4 b1' b2'
  have b4 := At.new w5 65 (rCells 16 0 0 0 A4 p4)
  have hD5 := hC5.ext ((Ext.refl w5).alloc (.cells (rCells 16 0 0 0 A4 p4) 65))
  have Z5 := X5.alloc (.cells (rCells 16 0 0 0 A4 p4) 65)
  have b1' := b1.alloc (.cells (rCells 16 0 0 0 A4 p4) 65)
  have b2' := b2.alloc (.cells (rCells 16 0 0 0 A4 p4) 65)
  have b3' := b3.alloc (.cells (rCells 16 0 0 0 A4 p4) 65)
  have H5 := Lib.hid (capply_lit 0 0 hD5 i4 (by decide) k5 _ (own_nil _ 0 _) k5_wf (by decide) (by decide) (args := .agg #[.int .i64 6, .int .i64 0, .int .i64 0, .string ⟨#[]⟩, .int .u64 7, .int .i64 0, .int .u32 0, .slice none 0 0, .int .i64 0, .int .i64 0, .int .i64 0]) rfl e5 rfl rfl)
  clear hC5 X5 b1 b2 b3
  go_wp2_with fail
  refine H5.out.mono ?_
  rintro e w6 ⟨A5, p5, rfl, hC6, hK6⟩
  have X6 : Ext w w6 := Kp.ext Z5 hK6 hwB
  have b1 := hK6.at_ _ _ _ (by decide) (by decide) b1'
  have b2 := hK6.at_ _ _ _ (by decide) (by decide) b2'
  have b3 := hK6.at_ _ _ _ (by decide) (by decide) b3'
  replace b4 := hK6.at_ _ _ _ (by decide) (by decide) b4
  generalize w5.heap.size = g4 at *
  clear H5 hK6 Z5 hD5 b1' b2' b3'
  have b5 := At.new w6 65 (rCells 0 0 0 0 A5 p5)
  have hD6 := hC6.ext ((Ext.refl w6).alloc (.cells (rCells 0 0 0 0 A5 p5) 65))
  have Z6 := X6.alloc (.cells (rCells 0 0 0 0 A5 p5) 65)
  have b1' := b1.alloc (.cells (rCells 0 0 0 0 A5 p5) 65)
  have b2' := b2.alloc (.cells (rCells 0 0 0 0 A5 p5) 65)
  have b3' := b3.alloc (.cells (rCells 0 0 0 0 A5 p5) 65)
  have b4' := b4.alloc (.cells (rCells 0 0 0 0 A5 p5) 65)
  have H6 := Lib.hid (capply_lit 0 0 hD6 i5 (by decide) k4 _ (own_nil _ 0 _) k4_wf (by decide) (by decide) (args := .agg #[.int .i64 10, .int .i64 0, .int .i64 0, .string ⟨#[]⟩, .int .u64 7, .int .i64 0, .int .u32 0, .slice none 0 0, .int .i64 0, .int .i64 0, .int .i64 0]) rfl e6 rfl rfl)
  clear hC6 X6 b1 b2 b3 b4
  go_wp2_with fail
  refine H6.out.mono ?_
  rintro e w7 ⟨A6, p6, rfl, hC7, hK7⟩
  have X7 : Ext w w7 := Kp.ext Z6 hK7 hwB
  have b1 := hK7.at_ _ _ _ (by decide) (by decide) b1'
  have b2 := hK7.at_ _ _ _ (by decide) (by decide) b2'
  have b3 := hK7.at_ _ _ _ (by decide) (by decide) b3'
  have b4 := hK7.at_ _ _ _ (by decide) (by decide) b4'
  replace b5 := hK7.at_ _ _ _ (by decide) (by decide) b5
  generalize w6.heap.size = g5 at *
  clear H6 hK7 Z6 hD6 b1' b2' b3' b4'
  have b6 := At.new w7 65 (rCells 0 0 0 0 A6 p6)
  have hD7 := hC7.ext ((Ext.refl w7).alloc (.cells (rCells 0 0 0 0 A6 p6) 65))
  have Z7 := X7.alloc (.cells (rCells 0 0 0 0 A6 p6) 65)
  replace b1 := b1.alloc (.cells (rCells 0 0 0 0 A6 p6) 65)
  replace b2 := b2.alloc (.cells (rCells 0 0 0 0 A6 p6) 65)
  replace b3 := b3.alloc (.cells (rCells 0 0 0 0 A6 p6) 65)
  replace b4 := b4.alloc (.cells (rCells 0 0 0 0 A6 p6) 65)
  replace b5 := b5.alloc (.cells (rCells 0 0 0 0 A6 p6) 65)
  have H7 := Lib.hid (cblobs_any hD7 (PInv.empty 0) (by decide))
  have r10 := b1.cell 0
  have r21 := b2.cell 1
  have r22 := b2.cell 2
  have r30 := b3.cell 0
  have r40 := b4.cell 0
  have r50 := b5.cell 0
  have r60 := b6.cell 0
  simp at r10 r21 r22 r30 r40 r50 r60
  clear b1 b2 b3 b4 b5 b6 hC7 X7 hD7
  go_wp2_with fail
  refine H7.out.mono ?_
  rintro e w8 ⟨LA, lc, rfl, hBl, hE8⟩
  have X8 := Z7.trans hE8
  clear hBl H7 hE8 Z7
  go_wp2_with fail
  go_ret
  exact ⟨ret_bool (by rfl), X8⟩
end Go.Proofs.YtchnejfdompfpaaGreat
