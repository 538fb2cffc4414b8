/-
  Layer 14's laws: put; awake.
-/
import Derived.Test.YtimjipcplmnpbaaGreatSe5
namespace Go.Proofs.YtimjipcplmnpbaaGreat
open Go.RowKit Go.Sort

def putC (c s : Int) (nm : ByteArray) (b : Nat) : Cmd := ⟨1, c, s, nm, b, 1, 0, [0], 0, 0, 0⟩
theorem disk_0s : diskOf [0] = [0] := by rw [diskOf_eq]; decide
theorem sl_oneS (w : World) (x : Int) : Sl (w.alloc (.cells #[.int .i64 x] 3)) (.slice (some ⟨w.heap.size, 0, none⟩) 1 1) (([x] : List Int).map (Value.int .i64)) := by
  refine ⟨_, 1, rfl, fun _ => ⟨_, 0, rfl, fun i u hi => ?_⟩⟩
  rw [(At.new w 3 #[.int .i64 x]).cell (0 + i), Nat.zero_add]
  simpa using hi
set_option maxRecDepth 100000 in
set_option maxHeartbeats 1000000 in
theorem sput_any (w : World) (c s : Int) (nm : ByteArray) (b : Nat) (bI : Int) (hbI : (b : Int) = bI) (hw : (putC c s nm b).Wf) (hn : nm.size ≤ 100) :
    Calls Tryz.prog 28 #[.int .i64 c, .int .i64 s, .string nm, .int .u64 bI] w fun e w' => e = .returned (.string ⟨(putC c s nm b).enc.toArray⟩) ∧ Ext w w' := by
  have HD := Lib.hid (disk_any _ _ [0] (sl_oneS w 0) (by decide))
  have hE0 := (Ext.refl w).alloc (.cells #[.int .i64 0] 3)
  go_enter Tryz.func28, Tryz.ntmps28
  go_wp2_with fail
  refine HD.out.mono ?_
  rintro e w1 ⟨v, rfl, hO, hE1⟩
  rw [disk_0s] at hO
  obtain ⟨dA, dc, rfl⟩ := own_slc hO
  have HW := Lib.hid (write_any w1 (putC c s nm b) (.slice dA ([0] : List Int).length dc) hw (Sl.of_own hO) (by show ([0] : List Int).length ≤ _; decide) (by show nm.size ≤ _; omega))
  unfold cmdVal putC at HW
  rw [hbI] at HW
  clear HD hO
  go_wp2_with fail
  refine HW.out.mono ?_
  rintro e w2 ⟨rfl, hE2⟩
  go_wp2_with fail
  go_ret
  exact ⟨rfl, (hE0.trans hE1).trans hE2⟩
def na : ByteArray := ⟨#[97]⟩
def nb : ByteArray := ⟨#[98]⟩
def p1 : Cmd := putC 1 1 na 7
def p2 : Cmd := putC 1 2 nb 8
theorem p1_wf : p1.Wf := ⟨by decide, by decide, by decide, by decide, by decide, by decide, by decide, by decide, by decide, fun d h => by simp [p1, putC] at h; omega⟩
theorem p2_wf : p2.Wf := ⟨by decide, by decide, by decide, by decide, by decide, by decide, by decide, by decide, by decide, fun d h => by simp [p2, putC] at h; omega⟩
theorem p1_good : p1.good = true := by kernel_rfl
theorem p2_good : p2.good = true := by kernel_rfl
def bl7 : Bl := ⟨7, na, 1, 0, [0], Cp.none, Cp.none, 0, false⟩
def bl8 : Bl := ⟨8, nb, 1, 0, [0], Cp.none, Cp.none, 0, false⟩
def mP1 : Pm := ⟨[bl7], List.replicate 12 Vl.zero⟩
def mP2 : Pm := ⟨[bl7, bl8], List.replicate 12 Vl.zero⟩
def M1 : Mach := ⟨mP1, [(1, ⟨1, Rs.er 0⟩)], 1⟩
def M2 : Mach := ⟨mP1, [(1, ⟨1, Rs.er 0⟩)], 2⟩
def M3 : Mach := ⟨mP2, [(1, ⟨2, Rs.er 0⟩)], 3⟩
def M4 : Mach := ⟨mP2, [(1, ⟨2, Rs.er 0⟩)], 4⟩
theorem app_enc {M : Mach} {x : Cmd} (hg : x.good = true) (hw : x.Wf) : M.app x.enc = ((M.cmd x).1.inc, (M.cmd x).2) := by
  have hc := cread_enc hg hw
  unfold Mach.app
  rw [if_neg (fun e => by rw [e] at hc; exact cread_nil (by rw [hc])), hc]
  rfl
theorem c1 : Mach.empty.cmd p1 = (⟨mP1, [(1, ⟨1, Rs.er 0⟩)], 0⟩, Rs.er 0) := by kernel_rfl
theorem c2 : M1.cmd p1 = (M1, Rs.er 0) := by kernel_rfl
theorem c3 : M2.cmd p2 = (⟨mP2, [(1, ⟨2, Rs.er 0⟩)], 2⟩, Rs.er 0) := by kernel_rfl
theorem c4 : M3.cmd p1 = (M3, Rs.er 16) := by kernel_rfl
theorem a1 : Mach.empty.app p1.enc = (M1, Rs.er 0) := by rw [app_enc p1_good p1_wf, c1]; rfl
theorem a2 : M1.app p1.enc = (M2, Rs.er 0) := by rw [app_enc p1_good p1_wf, c2]; rfl
theorem a3 : M2.app p2.enc = (M3, Rs.er 0) := by rw [app_enc p2_good p2_wf, c3]; rfl
theorem a4 : M3.app p1.enc = (M4, Rs.er 16) := by rw [app_enc p1_good p1_wf, c4]; rfl
theorem i1 : MInv 1 M1 := by have := MInv.empty.app p1.enc; rw [a1] at this; exact this
theorem i2 : MInv 2 M2 := by have := i1.app p1.enc; rw [a2] at this; exact this
theorem i3 : MInv 3 M3 := by have := i2.app p2.enc; rw [a3] at this; exact this
theorem i4 : MInv 4 M4 := by have := i3.app p1.enc; rw [a4] at this; exact this
/-- Apply of a command's bytes of which a plain result comes -/
theorem mapply_er {w : World} {B : Nat → Prop} {m n : Nat} {M M' : Mach} {er : Int} {x : Cmd} (h : MachIn w B m M) (hi : MInv n M) (hn : n ≤ 1000) (hg : x.good = true) (ha : M.app x.enc = (M', Rs.er er)) :
    Calls Tryz.prog 13 #[.pointer (some ⟨m, 0, none⟩), .string ⟨x.enc.toArray⟩] w fun e w' => ∃ A c, e = .returned (.agg #[.int .i64 er, .int .u64 0, .int .i64 0, .int .u32 0, .slice A 0 c]) ∧ MachIn w' B m M' ∧ Km B w w' := by
  have hsz : (⟨x.enc.toArray⟩ : ByteArray).size ≤ 1000 := by
    show x.enc.toArray.size ≤ 1000
    rw [List.size_toArray]
    exact Nat.le_trans (enc_len hg) (by decide)
  refine (mapply_any w B m M n h hi hn ⟨x.enc.toArray⟩ hsz).mono ?_
  rintro e w' ⟨A, c, rfl, _, h1, h2⟩
  have e1 : (⟨x.enc.toArray⟩ : ByteArray).data.toList = x.enc := rfl
  rw [e1, ha] at h1 ⊢
  exact ⟨A, c, rfl, h1, h2⟩
set_option maxRecDepth 100000 in
set_option maxHeartbeats 4000000 in
theorem sawake_any (w : World) : Calls Tryz.prog 10 #[] w fun e w' => e = .returned (.bool true) ∧ Ext w w' := by
  go_enter Tryz.func10, Tryz.ntmps10
  go_wp2_with fail
  obtain ⟨B, hBe⟩ : ∃ B, Hi w.heap.size = B := ⟨_, rfl⟩
  have hwB : ∀ k, B k → w.heap.size ≤ k := by rw [← hBe]; exact fun k hk => hk
  have hN := snew_any w
  rw [hBe] at hN
  clear hBe
  refine hN.mono ?_
  rintro e w0 ⟨m, rfl, hM0, hE0⟩
  clear hN
  obtain ⟨c, mb, mn, mc, rows, hA0⟩ := hM0
  go_wp2_with fail
  refine (scat_any hA0).mono ?_
  rintro e w1 ⟨rfl, hE1⟩
  have hM : MachIn w1 B m Mach.empty := MachIn.ext ⟨c, mb, mn, mc, rows, hA0⟩ hE1
  have hX := hE0.trans hE1
  clear hA0 hE0 hE1
  go_wp2_with fail
  refine (sput_any _ 1 1 na 7 7 (by rfl) p1_wf (by decide)).mono ?_
  rintro e w2 ⟨rfl, hE2⟩
  go_wp2_with fail
  refine (mapply_er (x := p1) (hM.ext hE2) MInv.empty (by omega) p1_good a1).mono ?_
  rintro e w3 ⟨A3, c3, rfl, hM3, hK3⟩
  replace hX := Km.ext (hX.trans hE2) hK3 hwB
  clear hM hE2 hK3
  go_wp2_with fail
  refine (sput_any _ 1 1 na 7 7 (by rfl) p1_wf (by decide)).mono ?_
  rintro e w4 ⟨rfl, hE4⟩
  go_wp2_with fail
  refine (mapply_er (x := p1) (hM3.ext hE4) i1 (by omega) p1_good a2).mono ?_
  rintro e w5 ⟨A5, c5, rfl, hM5, hK5⟩
  replace hX := Km.ext (hX.trans hE4) hK5 hwB
  clear hM3 hE4 hK5
  have r2 := (At.new w5 36 #[.int .i64 0, .int .u64 0, .int .i64 0, .int .u32 0, .slice A3 0 c3]).alloc (.cells #[.int .i64 0, .int .u64 0, .int .i64 0, .int .u32 0, .slice A5 0 c5] 36)
  have r3 := At.new (w5.alloc (.cells #[.int .i64 0, .int .u64 0, .int .i64 0, .int .u32 0, .slice A3 0 c3] 36)) 36 #[.int .i64 0, .int .u64 0, .int .i64 0, .int .u32 0, .slice A5 0 c5]
  have hEa := ((Ext.refl w5).alloc (.cells #[.int .i64 0, .int .u64 0, .int .i64 0, .int .u32 0, .slice A3 0 c3] 36)).alloc (.cells #[.int .i64 0, .int .u64 0, .int .i64 0, .int .u32 0, .slice A5 0 c5] 36)
  rw [show (w5.alloc (.cells #[.int .i64 0, .int .u64 0, .int .i64 0, .int .u32 0, .slice A3 0 c3] 36)).heap.size = w5.heap.size + 1 by simp] at r3
  go_upto_region 5 with fail
  generalize w5.heap.size = g2 at r2 r3 ⊢
  generalize World.alloc _ _ = W6 at r2 r3 hEa ⊢
  have hM5 := hM5.ext hEa
  replace hX := hX.trans hEa
  clear hEa
  go_wp2_with fail
  refine (sput_any _ 1 2 nb 8 8 (by rfl) p2_wf (by decide)).mono ?_
  rintro e w7 ⟨rfl, hE7⟩
  go_wp2_with fail
  refine (mapply_er (x := p2) (hM5.ext hE7) i2 (by omega) p2_good a3).mono ?_
  rintro e w8 ⟨A8, c8, rfl, hM8, hK8⟩
  replace hX := Km.ext (hX.trans hE7) hK8 hwB
  have r2 := hK8.at_ _ _ _ (by decide) (by decide) (by decide) (r2.ext hE7)
  have r3 := hK8.at_ _ _ _ (by decide) (by decide) (by decide) (r3.ext hE7)
  clear hM5 hE7 hK8
  go_wp2_with fail
  refine (sput_any _ 1 1 na 7 7 (by rfl) p1_wf (by decide)).mono ?_
  rintro e w9 ⟨rfl, hE9⟩
  go_wp2_with fail
  refine (mapply_er (x := p1) (hM8.ext hE9) i3 (by omega) p1_good a4).mono ?_
  rintro e w10 ⟨A10, c10, rfl, hM10, hK10⟩
  replace hX := Km.ext (hX.trans hE9) hK10 hwB
  have r2 := hK10.at_ _ _ _ (by decide) (by decide) (by decide) (r2.ext hE9)
  have r3 := hK10.at_ _ _ _ (by decide) (by decide) (by decide) (r3.ext hE9)
  clear hM8 hE9 hK10
  have r4 := (At.new w10 36 #[.int .i64 0, .int .u64 0, .int .i64 0, .int .u32 0, .slice A8 0 c8]).alloc (.cells #[.int .i64 16, .int .u64 0, .int .i64 0, .int .u32 0, .slice A10 0 c10] 36)
  have r5 := At.new (w10.alloc (.cells #[.int .i64 0, .int .u64 0, .int .i64 0, .int .u32 0, .slice A8 0 c8] 36)) 36 #[.int .i64 16, .int .u64 0, .int .i64 0, .int .u32 0, .slice A10 0 c10]
  have hEa := ((Ext.refl w10).alloc (.cells #[.int .i64 0, .int .u64 0, .int .i64 0, .int .u32 0, .slice A8 0 c8] 36)).alloc (.cells #[.int .i64 16, .int .u64 0, .int .i64 0, .int .u32 0, .slice A10 0 c10] 36)
  rw [show (w10.alloc (.cells #[.int .i64 0, .int .u64 0, .int .i64 0, .int .u32 0, .slice A8 0 c8] 36)).heap.size = w10.heap.size + 1 by simp] at r5
  go_upto_region 6 with fail
  generalize w10.heap.size = g4 at r4 r5 ⊢
  generalize World.alloc _ _ = W11 at r4 r5 hEa ⊢
  have hM10 := hM10.ext hEa
  have r2 := r2.ext hEa
  have r3 := r3.ext hEa
  replace hX := hX.trans hEa
  clear hEa
  have q2 := r2.cell 0
  have q3 := r3.cell 0
  have q4 := r4.cell 0
  have q5 := r5.cell 0
  simp at q2 q3 q4 q5
  obtain ⟨c', mb', mn', mc', rows', hA⟩ := hM10
  go_wp2_with fail
  refine (scat_any hA).mono ?_
  rintro e w12 ⟨rfl, hE12⟩
  have hA := hA.ext hE12
  go_wp2_with fail
  refine (cblobs_any hA.cat i4.cat (by omega)).mono ?_
  rintro e w13 ⟨bA, bc, rfl, _, hE13⟩
  have hL2 : M4.P.L.length = 2 := rfl
  rw [hL2]
  have hMf : MachIn w13 B m M4 := ⟨c', mb', mn', mc', rows', hA.ext hE13⟩
  replace hX := (hX.trans hE12).trans hE13
  clear hA hE12 hE13 hL2
  go_wp2_with fail
  refine (scount_any hMf).mono ?_
  rintro e w14 ⟨rfl, hE14⟩
  have hMf := hMf.ext hE14
  rw [show M4.n = 4 from rfl]
  go_wp2_with fail
  refine (sseq_any hMf 1).mono ?_
  rintro e w15 ⟨rfl, hE15⟩
  rw [show M4.seq 1 = 2 by kernel_rfl]
  go_wp2_with fail
  go_ret
  exact ⟨rfl, (hX.trans hE14).trans hE15⟩
end Go.Proofs.YtimjipcplmnpbaaGreat
