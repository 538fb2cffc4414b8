/-
  Layer 13: Spread, Free, Taped, Untape, walked.
  Layer 13: Taped, Untape, walked.
  Layer 13: Untape, walked.
-/
import Derived.Test.YtimjipcplmnpbaaGreatCatLive
import Derived.Test.YtimjipcplmnpbaaGreatCatApply
import Derived.Test.YtimjipcplmnpbaaGreatCatPut
namespace Go.Proofs.YtimjipcplmnpbaaGreat
open Go.RowKit Go.Sort

section change
variable (w : World) (B : Nat → Prop) (c mb mn : Nat) (C : Ct) (h : CtAt w B c mb mn C) {r : BR} (hr : r ∈ C.rows) (x : Cmd) (dv : Value)
include h hr
set_option maxRecDepth 100000 in
set_option maxHeartbeats 4000000 in
theorem spread_arg (hk : x.kind = 7) (hdv : ∃ A cp, dv = .slice A 0 cp) :
    Calls Tryz.prog 69 #[.pointer (some ⟨c, 0, none⟩), .pointer (some ⟨r.g, 0, none⟩), cmdVal x dv] w fun e w' => e = .returned (.int .i64 1) ∧ Ext w w' := by
  have HK := Lib.hid hk
  clear hk
  obtain ⟨dA, dc, hdv⟩ := hdv
  have HDV := Lib.hid hdv
  clear hdv
  unfold cmdVal
  go_enter Tryz.func69, Tryz.ntmps69
  have hX := At.new w 32 (cmdCells x dv)
  have hE := (Ext.refl w).alloc (.cells (cmdCells x dv) 32)
  go_upto_region 1 with fail
  generalize hxb : w.heap.size = xb at *
  generalize World.alloc _ _ = W at *
  have hC := h.ext hE
  have hB := (hC.bl r hr).1
  have hO := (hC.bl r hr).2
  have hgB := hC.lo.2.2.2 r hr
  have x0 := hX.cell 0
  have x7 := hX.cell 7
  simp at x0 x7
  rw [HK.out] at x0
  rw [HDV.out] at x7
  clear h hC hB hO hX HDV
  go_wp2_with fail
  go_ret
  exact ⟨rfl, hE⟩
set_option maxRecDepth 100000 in
set_option maxHeartbeats 4000000 in
theorem spread_no (hk : x.kind = 7) (hdv : ∃ A cp, dv = .slice A x.disks.length cp) (hd : x.disks ≠ []) (hb : r.b.disks = []) :
    Calls Tryz.prog 69 #[.pointer (some ⟨c, 0, none⟩), .pointer (some ⟨r.g, 0, none⟩), cmdVal x dv] w fun e w' => e = .returned (.int .i64 16) ∧ Ext w w' := by
  have HK := Lib.hid hk
  clear hk
  obtain ⟨dA, dc, hdv⟩ := hdv
  have HDV := Lib.hid hdv
  clear hdv
  have hl : ((x.disks.length : Int) == 0) = false := by
    have := List.length_pos_iff.2 hd
    rw [beq_eq_false_iff_ne]; omega
  have hbl : r.b.disks.length = 0 := by rw [hb]; rfl
  have HBL := Lib.hid hbl
  clear hd hb hbl
  unfold cmdVal
  go_enter Tryz.func69, Tryz.ntmps69
  have hX := At.new w 32 (cmdCells x dv)
  have hE := (Ext.refl w).alloc (.cells (cmdCells x dv) 32)
  go_upto_region 1 with fail
  generalize hxb : w.heap.size = xb at *
  generalize World.alloc _ _ = W at *
  have hC := h.ext hE
  have hB := (hC.bl r hr).1
  have hO := (hC.bl r hr).2
  have hgB := hC.lo.2.2.2 r hr
  have x0 := hX.cell 0
  have x7 := hX.cell 7
  simp at x0 x7
  rw [HK.out] at x0
  obtain ⟨bA, bc, hdv⟩ := own_slc hO
  have b4 := hB.cell 4
  simp at b4
  rw [hdv, HBL.out] at b4
  rw [HDV.out] at x7
  clear hdv HDV h hC hB hO hX
  go_wp2_with fail
  go_ret
  exact ⟨rfl, hE⟩
set_option maxRecDepth 100000 in
set_option maxHeartbeats 4000000 in
theorem spread_ok (hk : x.kind = 7) (hdv : w.ownsRow 0 3 1 dv x.disks.length (x.disks.map (Value.int .i64))) (hdl : x.disks.length ≤ 17592186043904) (hd : x.disks ≠ []) (hb : r.b.disks ≠ []) :
    Calls Tryz.prog 69 #[.pointer (some ⟨c, 0, none⟩), .pointer (some ⟨r.g, 0, none⟩), cmdVal x dv] w fun e w' => ∃ dv', e = .returned (.int .i64 0) ∧ CtAt w' B c mb mn (C.upd r.g { r.b with disks := x.disks } dv') ∧ Chg (C.S c mb mn) w w' := by
  have HK := Lib.hid hk
  clear hk
  have hl : ((x.disks.length : Int) == 0) = false := by
    have := List.length_pos_iff.2 hd
    rw [beq_eq_false_iff_ne]; omega
  have hbl : ((r.b.disks.length : Int) == 0) = false := by
    have := List.length_pos_iff.2 hb
    rw [beq_eq_false_iff_ne]; omega
  clear hd hb
  obtain ⟨dA, dc, hdv2⟩ := own_slc hdv
  have HDV := Lib.hid hdv2
  clear hdv2
  unfold cmdVal
  go_enter Tryz.func69, Tryz.ntmps69
  have hX := At.new w 32 (cmdCells x dv)
  have hE := (Ext.refl w).alloc (.cells (cmdCells x dv) 32)
  go_upto_region 1 with fail
  generalize hxb : w.heap.size = xb at *
  generalize World.alloc _ _ = W at *
  have hC := h.ext hE
  have hB := (hC.bl r hr).1
  have hO := (hC.bl r hr).2
  have hgB := hC.lo.2.2.2 r hr
  have x0 := hX.cell 0
  have x7 := hX.cell 7
  simp at x0 x7
  rw [HK.out] at x0
  obtain ⟨bA, bc, hdb⟩ := own_slc hO
  have hS2 := Sl.of_own (own_keep hdv hE (fun _ _ hh => hh))
  have b4 := hB.cell 4
  simp at b4
  rw [hdb] at b4
  have HCL := Lib.hid (clone_any W _ x.disks hS2 hdl)
  rw [HDV.out] at x7 HCL
  clear hS2 hdb hdv HDV
  go_wp2_with fail
  refine HCL.out.mono ?_
  rintro e W2 ⟨v', rfl, hOc, hEc⟩
  have hC2 := hC.ext hEc
  have hB2 := hB.ext hEc
  have hE2 := hE.trans hEc
  obtain ⟨vA, vc, rfl⟩ := own_slc hOc
  have hb4 : ∃ q, W2.cell? ⟨r.g, 4, none⟩ = some q := ⟨_, hB2.cell 4⟩
  obtain ⟨q4, hq4⟩ := hb4
  have f4 := hB2.frozen 4
  have hCs := (Chg.refl (· = r.g) W2).setCell (p := ⟨r.g, 4, none⟩) (.inl rfl) (.slice vA x.disks.length vc)
  have hB3 : At (W2.setCell ⟨r.g, 4, none⟩ (.slice vA x.disks.length vc)) r.g 108 (blCells { r.b with disks := x.disks } (.slice vA x.disks.length vc)) := hB2.set 4 _
  have hC3 := hC2.chgBlob hr (b := { r.b with disks := x.disks }) (dv := .slice vA x.disks.length vc) rfl hCs hB3 (own_keep (own_base0 hOc) hCs (fun k hk e => own_apart' (own_base0 hOc) hB2 (by decide) k hk e))
  have HR := Lib.hid (show _ ∧ _ from ⟨hC3, Chg.trans (S := C.S c mb mn) (Chg.mono hE2 (fun _ _ hh => hh.elim)) hCs (fun k _ e => by have e' : k = r.g := e; exact .inr (.inr (.inr ⟨r, hr, e'⟩)))⟩)
  clear hC hB hO hX hC2 hB2 hCs hB3 hC3 HCL hEc hE2 hE hOc h b4 x0 x7
  go_wp2_with fail
  go_ret
  exact ⟨_, rfl, HR.out⟩
set_option maxRecDepth 100000 in
set_option maxHeartbeats 4000000 in
theorem free_no (hk : x.kind = 9) (hn : (!r.b.a.there || !r.b.b.there || decide (r.b.disks = [])) = true) :
    Calls Tryz.prog 69 #[.pointer (some ⟨c, 0, none⟩), .pointer (some ⟨r.g, 0, none⟩), cmdVal x dv] w fun e w' => e = .returned (.int .i64 16) ∧ Ext w w' := by
  have HK := Lib.hid hk
  clear hk
  have HN := Lib.hid hn
  clear hn
  have hbl : ((r.b.disks.length : Int) == 0) = decide (r.b.disks = []) := by
    rw [Bool.eq_iff_iff, beq_iff_eq, decide_eq_true_eq]
    exact ⟨fun e => List.eq_nil_of_length_eq_zero (by omega), fun e => by rw [e]; rfl⟩
  unfold cmdVal
  go_enter Tryz.func69, Tryz.ntmps69
  have hX := At.new w 32 (cmdCells x dv)
  have hE := (Ext.refl w).alloc (.cells (cmdCells x dv) 32)
  go_upto_region 1 with fail
  generalize hxb : w.heap.size = xb at *
  generalize World.alloc _ _ = W at *
  have hC := h.ext hE
  have hB := (hC.bl r hr).1
  have hO := (hC.bl r hr).2
  have hgB := hC.lo.2.2.2 r hr
  have x0 := hX.cell 0
  simp at x0
  rw [HK.out] at x0
  obtain ⟨bA, bc, hdb⟩ := own_slc hO
  have b4 := hB.cell 4
  have b5 := hB.cell 5
  have b8 := hB.cell 8
  simp at b4 b5 b8
  rw [hdb] at b4
  clear hdb h hC hB hO hX
  cases ha : r.b.a.there
  · rw [ha] at b5
    go_wp2_with fail
    go_ret
    exact ⟨rfl, hE⟩
  · cases hb : r.b.b.there
    · rw [ha] at b5
      rw [hb] at b8
      go_wp2_with fail
      go_ret
      exact ⟨rfl, hE⟩
    · have hd : decide (r.b.disks = []) = true := by
        have := HN.out
        rw [ha, hb] at this
        simpa using this
      rw [hd] at hbl
      rw [ha] at b5
      rw [hb] at b8
      clear hd HN ha hb
      go_wp2_with fail
      go_ret
      exact ⟨rfl, hE⟩
set_option maxRecDepth 100000 in
set_option maxHeartbeats 4000000 in
theorem free_ok (hk : x.kind = 9) (hn : (!r.b.a.there || !r.b.b.there || decide (r.b.disks = [])) = false) :
    Calls Tryz.prog 69 #[.pointer (some ⟨c, 0, none⟩), .pointer (some ⟨r.g, 0, none⟩), cmdVal x dv] w fun e w' => e = .returned (.int .i64 0) ∧ CtAt w' B c mb mn (C.upd r.g { r.b with disks := [] } (.slice none 0 0)) ∧ Chg (C.S c mb mn) w w' := by
  have HK := Lib.hid hk
  clear hk
  have HN := Lib.hid hn
  clear hn
  have hbl : ((r.b.disks.length : Int) == 0) = decide (r.b.disks = []) := by
    rw [Bool.eq_iff_iff, beq_iff_eq, decide_eq_true_eq]
    exact ⟨fun e => List.eq_nil_of_length_eq_zero (by omega), fun e => by rw [e]; rfl⟩
  unfold cmdVal
  go_enter Tryz.func69, Tryz.ntmps69
  have hX := At.new w 32 (cmdCells x dv)
  have hE := (Ext.refl w).alloc (.cells (cmdCells x dv) 32)
  go_upto_region 1 with fail
  generalize hxb : w.heap.size = xb at *
  generalize World.alloc _ _ = W at *
  have hC := h.ext hE
  have hB := (hC.bl r hr).1
  have hO := (hC.bl r hr).2
  have hgB := hC.lo.2.2.2 r hr
  have x0 := hX.cell 0
  simp at x0
  rw [HK.out] at x0
  have hn := HN.out
  simp only [Bool.or_eq_false_iff, Bool.not_eq_eq_eq_not, Bool.not_false] at hn
  obtain ⟨⟨ha, hb⟩, hd⟩ := hn
  obtain ⟨bA, bc, hdb⟩ := own_slc hO
  have b4 := hB.cell 4
  have b5 := hB.cell 5
  have b8 := hB.cell 8
  have f4 := hB.frozen 4
  simp at b4 b5 b8
  rw [hdb] at b4
  rw [ha] at b5
  rw [hb] at b8
  rw [hd] at hbl
  have hCs := (Chg.refl (· = r.g) W).setCell (p := ⟨r.g, 4, none⟩) (.inl rfl) (.slice none 0 0)
  have hB3 : At (W.setCell ⟨r.g, 4, none⟩ (.slice none 0 0)) r.g 108 (blCells { r.b with disks := [] } (.slice none 0 0)) := hB.set 4 _
  have hC3 := hC.chgBlob hr (b := { r.b with disks := [] }) (dv := .slice none 0 0) rfl hCs hB3 ⟨rfl, .inl ⟨rfl, rfl⟩⟩
  have HR := Lib.hid (show _ ∧ _ from ⟨hC3, Chg.trans (S := C.S c mb mn) (Chg.mono hE (fun _ _ hh => hh.elim)) hCs (fun k _ e => by have e' : k = r.g := e; exact .inr (.inr (.inr ⟨r, hr, e'⟩)))⟩)
  clear HN hdb hd ha hb hC hB hO hX hCs hB3 hC3 hE h
  go_wp2_with fail
  go_ret
  exact ⟨rfl, HR.out⟩
end change
end Go.Proofs.YtimjipcplmnpbaaGreat
namespace Go.Proofs.YtimjipcplmnpbaaGreat
open Go.RowKit Go.Sort

section change
variable (w : World) (B : Nat → Prop) (c mb mn : Nat) (C : Ct) (h : CtAt w B c mb mn C) {r : BR} (hr : r ∈ C.rows) (x : Cmd) (dv : Value)
include h hr
set_option maxRecDepth 100000 in
set_option maxHeartbeats 4000000 in
theorem taped_closed (hk : x.kind = 8) (v : Nat) (hv : v < 12) (hxv : x.vol = (v : Int)) (hcl : (C.vols.getD v Vl.zero).closed = true) :
    Calls Tryz.prog 69 #[.pointer (some ⟨c, 0, none⟩), .pointer (some ⟨r.g, 0, none⟩), cmdVal x dv] w fun e w' => e = .returned (.int .i64 16) ∧ Ext w w' := by
  have HK := Lib.hid hk
  clear hk
  have HXV := Lib.hid hxv
  clear hxv
  have HCL := Lib.hid hcl
  clear hcl
  unfold cmdVal
  go_enter Tryz.func69, Tryz.ntmps69
  have hX := At.new w 32 (cmdCells x dv)
  have hE := (Ext.refl w).alloc (.cells (cmdCells x dv) 32)
  go_upto_region 1 with fail
  generalize hxb : w.heap.size = xb at *
  generalize World.alloc _ _ = W at *
  have hC := h.ext hE
  have hB := (hC.bl r hr).1
  have hO := (hC.bl r hr).2
  have hgB := hC.lo.2.2.2 r hr
  have x0 := hX.cell 0
  have x9 := hX.cell 9
  simp at x0 x9
  rw [HK.out] at x0
  rw [HXV.out] at x9
  obtain ⟨v0, v1, v2⟩ := vol_cells hC v hv
  rw [HCL.out] at v0
  clear v1 v2 h hC hB hO hX
  go_upto_region 13 with fail
  go_region
  go_wp2_with fail
  go_ret
  exact ⟨rfl, hE.drew⟩
set_option maxRecDepth 100000 in
set_option maxHeartbeats 4000000 in
theorem taped_there (hk : x.kind = 8) (v : Nat) (hv : v < 12) (hxv : x.vol = (v : Int)) (hcl : (C.vols.getD v Vl.zero).closed = false) (hon : onV v r.b = true) :
    Calls Tryz.prog 69 #[.pointer (some ⟨c, 0, none⟩), .pointer (some ⟨r.g, 0, none⟩), cmdVal x dv] w fun e w' => e = .returned (.int .i64 6) ∧ Ext w w' := by
  have HK := Lib.hid hk
  clear hk
  have HXV := Lib.hid hxv
  clear hxv
  have HCL := Lib.hid hcl
  have HO := Lib.hid hon
  clear hcl hon
  unfold cmdVal
  go_enter Tryz.func69, Tryz.ntmps69
  have hX := At.new w 32 (cmdCells x dv)
  have hE := (Ext.refl w).alloc (.cells (cmdCells x dv) 32)
  go_upto_region 1 with fail
  generalize hxb : w.heap.size = xb at *
  generalize World.alloc _ _ = W at *
  have hC := h.ext hE
  have hB := (hC.bl r hr).1
  have hO := (hC.bl r hr).2
  have hgB := hC.lo.2.2.2 r hr
  have x0 := hX.cell 0
  have x9 := hX.cell 9
  simp at x0 x9
  rw [HK.out] at x0
  rw [HXV.out] at x9
  obtain ⟨v0, v1, v2⟩ := vol_cells hC v hv
  rw [HCL.out] at v0
  clear v1 v2
  go_upto_region 13 with fail
  go_region
  clear v0 x0 x9
  have hX1 := hX.drew
  have hE1 := hE.drew
  have hC1 := hC.ext ((Ext.refl W).drew)
  clear hX hE hC hB hO
  generalize World.drew _ = W1 at *
  have x9 := hX1.cell 9
  simp at x9
  rw [HXV.out] at x9
  have HON := Lib.hid (on_any W1 r.g r.b r.dv (hC1.bl r hr).1 v hv)
  rw [HO.out] at HON
  go_wp2_with fail
  refine HON.out.mono ?_
  rintro e W2 ⟨rfl, hE2⟩
  go_wp2_with fail
  go_ret
  exact ⟨rfl, hE1.trans hE2⟩
set_option maxRecDepth 100000 in
set_option maxHeartbeats 4000000 in
theorem taped_ok0 (hk : x.kind = 8) (v : Nat) (hv : v < 12) (hxv : x.vol = (v : Int)) (hcl : (C.vols.getD v Vl.zero).closed = false) (hon : onV v r.b = false) (hpar : v % 2 = 0) :
    Calls Tryz.prog 69 #[.pointer (some ⟨c, 0, none⟩), .pointer (some ⟨r.g, 0, none⟩), cmdVal x dv] w fun e w' => e = .returned (.int .i64 0) ∧ CtAt w' B c mb mn (C.upd r.g { r.b with a := ⟨true, x.vol, x.at_⟩ } r.dv) ∧ Chg (C.S c mb mn) w w' := by
  have HK := Lib.hid hk
  clear hk
  have HXV := Lib.hid hxv
  clear hxv
  have HCL := Lib.hid hcl
  have HO := Lib.hid hon
  clear hcl hon
  have HPAR := Lib.hid hpar
  clear hpar
  unfold cmdVal
  go_enter Tryz.func69, Tryz.ntmps69
  have hX := At.new w 32 (cmdCells x dv)
  have hE := (Ext.refl w).alloc (.cells (cmdCells x dv) 32)
  go_upto_region 1 with fail
  generalize hxb : w.heap.size = xb at *
  generalize World.alloc _ _ = W at *
  have hC := h.ext hE
  have hB := (hC.bl r hr).1
  have hO := (hC.bl r hr).2
  have hgB := hC.lo.2.2.2 r hr
  have x0 := hX.cell 0
  have x9 := hX.cell 9
  simp at x0 x9
  rw [HK.out] at x0
  rw [HXV.out] at x9
  obtain ⟨v0, v1, v2⟩ := vol_cells hC v hv
  rw [HCL.out] at v0
  clear v1 v2
  go_upto_region 13 with fail
  go_region
  clear v0 x0 x9
  have hX1 := hX.drew
  have hE1 := hE.drew
  have hC1 := hC.ext ((Ext.refl W).drew)
  clear hX hE hC hB hO
  generalize World.drew _ = W1 at *
  have x9 := hX1.cell 9
  simp at x9
  rw [HXV.out] at x9
  have HON := Lib.hid (on_any W1 r.g r.b r.dv (hC1.bl r hr).1 v hv)
  rw [HO.out] at HON
  go_wp2_with fail
  refine HON.out.mono ?_
  rintro e W2 ⟨rfl, hE2⟩
  have hC2 := hC1.ext hE2
  have hX2 := hX1.ext hE2
  have hE3 := hE1.trans hE2
  clear x9 hX1 hC1 hE1 hE2 HON h
  have x9 := hX2.cell 9
  have x10 := hX2.cell 10
  simp at x9 x10
  rw [HXV.out] at x9
  have hB := (hC2.bl r hr).1
  have hO := (hC2.bl r hr).2
  have b0 := hB.cell 5
  have b1 := hB.cell 6
  have b2 := hB.cell 7
  have f0 := hB.frozen 5
  have f1 := hB.frozen 6
  have f2 := hB.frozen 7
  simp at b0 b1 b2
  have hpl : ∀ W, Calls Tryz.prog 99 #[.int .i64 v] W fun e w' => e = .returned (.int .i64 (0 : Int)) ∧ W = w' := fun W => by
    have := pool_any W v hv
    rw [HPAR.out] at this
    exact this
  have HP := Lib.hid hpl
  clear hpl
  have hne : xb ≠ r.g := At.ne hX2 hB (by decide)
  go_upto_region 17 with fail
  go_region_with ((go_at_call 99; refine (HP.out _).mono ?_; rintro e w' ⟨rfl, rfl⟩))
  all_goals
    have hCs := (((Chg.refl (· = r.g) W2).setCell (p := ⟨r.g, 5, none⟩) (.inl rfl) (.bool true)).setCell (p := ⟨r.g, 6, none⟩) (.inl rfl) (.int .i64 (v : Int))).setCell (p := ⟨r.g, 7, none⟩) (.inl rfl) (.int .i64 x.at_)
    have hB1 := At.set hB 5 (.bool true)
    have hB2 := At.set hB1 6 (.int .i64 (v : Int))
    have hB3 : At (((W2.setCell ⟨r.g, 5, none⟩ (.bool true)).setCell ⟨r.g, 6, none⟩ (.int .i64 (v : Int))).setCell ⟨r.g, 7, none⟩ (.int .i64 x.at_)) r.g 108 (blCells { r.b with a := ⟨true, (v : Int), x.at_⟩ } r.dv) := At.set hB2 7 (.int .i64 x.at_)
    have hC3 := hC2.chgBlob hr (b := { r.b with a := ⟨true, (v : Int), x.at_⟩ }) (dv := r.dv) rfl hCs hB3 (own_keep hO hCs (fun k hk e => own_apart' hO hB (by decide) k hk e))
    have HR := Lib.hid (show _ ∧ _ from ⟨hC3, Chg.trans (S := C.S c mb mn) (Chg.mono hE3 (fun _ _ hh => hh.elim)) hCs (fun k _ e => by have e' : k = r.g := e; exact .inr (.inr (.inr ⟨r, hr, e'⟩)))⟩)
    clear hCs hB1 hB2 hB3 hC3
    go_wp2_with fail
    go_ret
    rw [HXV.out]
    exact ⟨rfl, HR.out.1.ext ((Ext.refl _).drew), HR.out.2.drew⟩
set_option maxRecDepth 100000 in
set_option maxHeartbeats 4000000 in
theorem taped_ok1 (hk : x.kind = 8) (v : Nat) (hv : v < 12) (hxv : x.vol = (v : Int)) (hcl : (C.vols.getD v Vl.zero).closed = false) (hon : onV v r.b = false) (hpar : v % 2 = 1) :
    Calls Tryz.prog 69 #[.pointer (some ⟨c, 0, none⟩), .pointer (some ⟨r.g, 0, none⟩), cmdVal x dv] w fun e w' => e = .returned (.int .i64 0) ∧ CtAt w' B c mb mn (C.upd r.g { r.b with b := ⟨true, x.vol, x.at_⟩ } r.dv) ∧ Chg (C.S c mb mn) w w' := by
  have HK := Lib.hid hk
  clear hk
  have HXV := Lib.hid hxv
  clear hxv
  have HCL := Lib.hid hcl
  have HO := Lib.hid hon
  clear hcl hon
  have HPAR := Lib.hid hpar
  clear hpar
  unfold cmdVal
  go_enter Tryz.func69, Tryz.ntmps69
  have hX := At.new w 32 (cmdCells x dv)
  have hE := (Ext.refl w).alloc (.cells (cmdCells x dv) 32)
  go_upto_region 1 with fail
  generalize hxb : w.heap.size = xb at *
  generalize World.alloc _ _ = W at *
  have hC := h.ext hE
  have hB := (hC.bl r hr).1
  have hO := (hC.bl r hr).2
  have hgB := hC.lo.2.2.2 r hr
  have x0 := hX.cell 0
  have x9 := hX.cell 9
  simp at x0 x9
  rw [HK.out] at x0
  rw [HXV.out] at x9
  obtain ⟨v0, v1, v2⟩ := vol_cells hC v hv
  rw [HCL.out] at v0
  clear v1 v2
  go_upto_region 13 with fail
  go_region
  clear v0 x0 x9
  have hX1 := hX.drew
  have hE1 := hE.drew
  have hC1 := hC.ext ((Ext.refl W).drew)
  clear hX hE hC hB hO
  generalize World.drew _ = W1 at *
  have x9 := hX1.cell 9
  simp at x9
  rw [HXV.out] at x9
  have HON := Lib.hid (on_any W1 r.g r.b r.dv (hC1.bl r hr).1 v hv)
  rw [HO.out] at HON
  go_wp2_with fail
  refine HON.out.mono ?_
  rintro e W2 ⟨rfl, hE2⟩
  have hC2 := hC1.ext hE2
  have hX2 := hX1.ext hE2
  have hE3 := hE1.trans hE2
  clear x9 hX1 hC1 hE1 hE2 HON h
  have x9 := hX2.cell 9
  have x10 := hX2.cell 10
  simp at x9 x10
  rw [HXV.out] at x9
  have hB := (hC2.bl r hr).1
  have hO := (hC2.bl r hr).2
  have b0 := hB.cell 8
  have b1 := hB.cell 9
  have b2 := hB.cell 10
  have f0 := hB.frozen 8
  have f1 := hB.frozen 9
  have f2 := hB.frozen 10
  simp at b0 b1 b2
  have hpl : ∀ W, Calls Tryz.prog 99 #[.int .i64 v] W fun e w' => e = .returned (.int .i64 (1 : Int)) ∧ W = w' := fun W => by
    have := pool_any W v hv
    rw [HPAR.out] at this
    exact this
  have HP := Lib.hid hpl
  clear hpl
  have hne : xb ≠ r.g := At.ne hX2 hB (by decide)
  go_upto_region 17 with fail
  go_region_with ((go_at_call 99; refine (HP.out _).mono ?_; rintro e w' ⟨rfl, rfl⟩))
  all_goals
    have hCs := (((Chg.refl (· = r.g) W2).setCell (p := ⟨r.g, 8, none⟩) (.inl rfl) (.bool true)).setCell (p := ⟨r.g, 9, none⟩) (.inl rfl) (.int .i64 (v : Int))).setCell (p := ⟨r.g, 10, none⟩) (.inl rfl) (.int .i64 x.at_)
    have hB1 := At.set hB 8 (.bool true)
    have hB2 := At.set hB1 9 (.int .i64 (v : Int))
    have hB3 : At (((W2.setCell ⟨r.g, 8, none⟩ (.bool true)).setCell ⟨r.g, 9, none⟩ (.int .i64 (v : Int))).setCell ⟨r.g, 10, none⟩ (.int .i64 x.at_)) r.g 108 (blCells { r.b with b := ⟨true, (v : Int), x.at_⟩ } r.dv) := At.set hB2 10 (.int .i64 x.at_)
    have hC3 := hC2.chgBlob hr (b := { r.b with b := ⟨true, (v : Int), x.at_⟩ }) (dv := r.dv) rfl hCs hB3 (own_keep hO hCs (fun k hk e => own_apart' hO hB (by decide) k hk e))
    have HR := Lib.hid (show _ ∧ _ from ⟨hC3, Chg.trans (S := C.S c mb mn) (Chg.mono hE3 (fun _ _ hh => hh.elim)) hCs (fun k _ e => by have e' : k = r.g := e; exact .inr (.inr (.inr ⟨r, hr, e'⟩)))⟩)
    clear hCs hB1 hB2 hB3 hC3
    go_wp2_with fail
    go_ret
    rw [HXV.out]
    exact ⟨rfl, HR.out.1.ext ((Ext.refl _).drew), HR.out.2.drew⟩
end change
end Go.Proofs.YtimjipcplmnpbaaGreat
namespace Go.Proofs.YtimjipcplmnpbaaGreat
open Go.RowKit Go.Sort

section change
variable (w : World) (B : Nat → Prop) (c mb mn : Nat) (C : Ct) (h : CtAt w B c mb mn C) {r : BR} (hr : r ∈ C.rows) (x : Cmd) (dv : Value)
include h hr
set_option maxRecDepth 100000 in
set_option maxHeartbeats 4000000 in
theorem untape_no0 (hk : x.kind = 14) (hp : x.pool = 0) (hn : (!r.b.a.there || decide (r.b.disks = []) && !r.b.b.there) = true) :
    Calls Tryz.prog 69 #[.pointer (some ⟨c, 0, none⟩), .pointer (some ⟨r.g, 0, none⟩), cmdVal x dv] w fun e w' => e = .returned (.int .i64 16) ∧ Ext w w' := by
  have HK := Lib.hid hk
  clear hk
  have HPO := Lib.hid hp
  have HN := Lib.hid hn
  clear hp hn
  have hbl : ((r.b.disks.length : Int) == 0) = decide (r.b.disks = []) := by
    rw [Bool.eq_iff_iff, beq_iff_eq, decide_eq_true_eq]
    exact ⟨fun e => List.eq_nil_of_length_eq_zero (by omega), fun e => by rw [e]; rfl⟩
  unfold cmdVal
  go_enter Tryz.func69, Tryz.ntmps69
  have hX := At.new w 32 (cmdCells x dv)
  have hE := (Ext.refl w).alloc (.cells (cmdCells x dv) 32)
  go_upto_region 1 with fail
  generalize hxb : w.heap.size = xb at *
  generalize World.alloc _ _ = W at *
  have hC := h.ext hE
  have hB := (hC.bl r hr).1
  have hO := (hC.bl r hr).2
  have hgB := hC.lo.2.2.2 r hr
  have x0 := hX.cell 0
  have x8 := hX.cell 8
  simp at x0 x8
  rw [HK.out] at x0
  rw [HPO.out] at x8
  obtain ⟨bA, bc, hdb⟩ := own_slc hO
  have b4 := hB.cell 4
  have b5 := hB.cell 5
  have b8 := hB.cell 8
  simp at b4 b5 b8
  rw [hdb] at b4
  have hcb := hB.lt
  clear hdb
  have w1 : IntKind.i64.wrap (1 - 0 : Int) = 1 := by decide
  have ways : r.b.a.there = false ∨ r.b.a.there = true ∧ (decide (r.b.disks = []) = false ∨ decide (r.b.disks = []) = true ∧ (r.b.b.there = false ∨ r.b.b.there = true)) := by
    cases r.b.a.there <;> cases decide (r.b.disks = []) <;> cases r.b.b.there <;> simp
  rcases ways with k1 | ⟨k1, k2 | ⟨k2, k3 | k3⟩⟩
  · rw [k1] at b5
    go_upto_region 23 with fail
    go_quiet (fail)
    go_wp2_with fail
    go_ret
    exact ⟨rfl, hE.drewN _⟩
  · rw [k1] at b5
    rw [k2] at hbl
    have hno := HN.out
    simp [k1, k2] at hno
    try simp_all
  · rw [k1] at b5
    rw [k2] at hbl
    rw [k3] at b8
    go_upto_region 23 with fail
    go_quiet (fail)
    go_wp2_with fail
    go_ret
    exact ⟨rfl, hE.drewN _⟩
  · rw [k1] at b5
    rw [k2] at hbl
    rw [k3] at b8
    have hno := HN.out
    simp [k1, k2, k3] at hno
    try simp_all
set_option maxRecDepth 100000 in
set_option maxHeartbeats 4000000 in
theorem untape_ok0 (hk : x.kind = 14) (hp : x.pool = 0) (hn : (!r.b.a.there || decide (r.b.disks = []) && !r.b.b.there) = false) :
    Calls Tryz.prog 69 #[.pointer (some ⟨c, 0, none⟩), .pointer (some ⟨r.g, 0, none⟩), cmdVal x dv] w fun e w' => e = .returned (.int .i64 0) ∧ CtAt w' B c mb mn (C.upd r.g { r.b with a := Cp.none } r.dv) ∧ Chg (C.S c mb mn) w w' := by
  have HK := Lib.hid hk
  clear hk
  have HPO := Lib.hid hp
  have HN := Lib.hid hn
  clear hp hn
  have hbl : ((r.b.disks.length : Int) == 0) = decide (r.b.disks = []) := by
    rw [Bool.eq_iff_iff, beq_iff_eq, decide_eq_true_eq]
    exact ⟨fun e => List.eq_nil_of_length_eq_zero (by omega), fun e => by rw [e]; rfl⟩
  unfold cmdVal
  go_enter Tryz.func69, Tryz.ntmps69
  have hX := At.new w 32 (cmdCells x dv)
  have hE := (Ext.refl w).alloc (.cells (cmdCells x dv) 32)
  go_upto_region 1 with fail
  generalize hxb : w.heap.size = xb at *
  generalize World.alloc _ _ = W at *
  have hC := h.ext hE
  have hB := (hC.bl r hr).1
  have hO := (hC.bl r hr).2
  have hgB := hC.lo.2.2.2 r hr
  have x0 := hX.cell 0
  have x8 := hX.cell 8
  simp at x0 x8
  rw [HK.out] at x0
  rw [HPO.out] at x8
  obtain ⟨bA, bc, hdb⟩ := own_slc hO
  have b4 := hB.cell 4
  have b5 := hB.cell 5
  have b8 := hB.cell 8
  simp at b4 b5 b8
  rw [hdb] at b4
  have hcb := hB.lt
  clear hdb
  have w1 : IntKind.i64.wrap (1 - 0 : Int) = 1 := by decide
  have ways : r.b.a.there = false ∨ r.b.a.there = true ∧ (decide (r.b.disks = []) = false ∨ decide (r.b.disks = []) = true ∧ (r.b.b.there = false ∨ r.b.b.there = true)) := by
    cases r.b.a.there <;> cases decide (r.b.disks = []) <;> cases r.b.b.there <;> simp
  rcases ways with k1 | ⟨k1, k2 | ⟨k2, k3 | k3⟩⟩
  · rw [k1] at b5
    have hno := HN.out
    simp [k1] at hno
  · rw [k1] at b5
    rw [k2] at hbl
    go_upto_region 23 with fail
    go_quiet (fail)
    go_upto_region 25 with fail
    have hE1 := hE.drewN nq
    have hC1 := hC.ext ((Ext.refl W).drewN nq)
    have hX1 := At.drewN hX nq
    generalize W.drewN nq = W1 at *
    clear x0 x8 b4 b5 b8 hX hB hO hC hE h
    have x8 := hX1.cell 8
    simp at x8
    rw [HPO.out] at x8
    have hB := (hC1.bl r hr).1
    have hO := (hC1.bl r hr).2
    have c0 := hB.cell 5
    have c1 := hB.cell 6
    have c2 := hB.cell 7
    have f0 := hB.frozen 5
    have f1 := hB.frozen 6
    have f2 := hB.frozen 7
    simp at c0 c1 c2
    have hne : xb ≠ r.g := At.ne hX1 hB (by decide)
    go_region
    have hCs := (((Chg.refl (· = r.g) W1).setCell (p := ⟨r.g, 5, none⟩) (.inl rfl) (.bool false)).setCell (p := ⟨r.g, 6, none⟩) (.inl rfl) (.int .i64 0)).setCell (p := ⟨r.g, 7, none⟩) (.inl rfl) (.int .i64 0)
    have hB1 := At.set hB 5 (.bool false)
    have hB2 := At.set hB1 6 (.int .i64 0)
    have hB3 : At (((W1.setCell ⟨r.g, 5, none⟩ (.bool false)).setCell ⟨r.g, 6, none⟩ (.int .i64 0)).setCell ⟨r.g, 7, none⟩ (.int .i64 0)) r.g 108 (blCells { r.b with a := Cp.none } r.dv) := At.set hB2 7 (.int .i64 0)
    have hC3 := hC1.chgBlob hr (b := { r.b with a := Cp.none }) (dv := r.dv) rfl hCs hB3 (own_keep hO hCs (fun k hk e => own_apart' hO hB (by decide) k hk e))
    have HR := Lib.hid (show _ ∧ _ from ⟨hC3, Chg.trans (S := C.S c mb mn) (Chg.mono hE1 (fun _ _ hh => hh.elim)) hCs (fun k _ e => by have e' : k = r.g := e; exact .inr (.inr (.inr ⟨r, hr, e'⟩)))⟩)
    clear hCs hB1 hB2 hB3 hC3
    go_wp2_with fail
    go_ret
    exact ⟨rfl, HR.out.1.ext ((Ext.refl _).drew), HR.out.2.drew⟩
  · rw [k1] at b5
    rw [k2] at hbl
    rw [k3] at b8
    have hno := HN.out
    simp [k1, k2, k3] at hno
    try simp_all
  · rw [k1] at b5
    rw [k2] at hbl
    rw [k3] at b8
    go_upto_region 23 with fail
    go_quiet (fail)
    go_upto_region 25 with fail
    have hE1 := hE.drewN nq
    have hC1 := hC.ext ((Ext.refl W).drewN nq)
    have hX1 := At.drewN hX nq
    generalize W.drewN nq = W1 at *
    clear x0 x8 b4 b5 b8 hX hB hO hC hE h
    have x8 := hX1.cell 8
    simp at x8
    rw [HPO.out] at x8
    have hB := (hC1.bl r hr).1
    have hO := (hC1.bl r hr).2
    have c0 := hB.cell 5
    have c1 := hB.cell 6
    have c2 := hB.cell 7
    have f0 := hB.frozen 5
    have f1 := hB.frozen 6
    have f2 := hB.frozen 7
    simp at c0 c1 c2
    have hne : xb ≠ r.g := At.ne hX1 hB (by decide)
    go_region
    have hCs := (((Chg.refl (· = r.g) W1).setCell (p := ⟨r.g, 5, none⟩) (.inl rfl) (.bool false)).setCell (p := ⟨r.g, 6, none⟩) (.inl rfl) (.int .i64 0)).setCell (p := ⟨r.g, 7, none⟩) (.inl rfl) (.int .i64 0)
    have hB1 := At.set hB 5 (.bool false)
    have hB2 := At.set hB1 6 (.int .i64 0)
    have hB3 : At (((W1.setCell ⟨r.g, 5, none⟩ (.bool false)).setCell ⟨r.g, 6, none⟩ (.int .i64 0)).setCell ⟨r.g, 7, none⟩ (.int .i64 0)) r.g 108 (blCells { r.b with a := Cp.none } r.dv) := At.set hB2 7 (.int .i64 0)
    have hC3 := hC1.chgBlob hr (b := { r.b with a := Cp.none }) (dv := r.dv) rfl hCs hB3 (own_keep hO hCs (fun k hk e => own_apart' hO hB (by decide) k hk e))
    have HR := Lib.hid (show _ ∧ _ from ⟨hC3, Chg.trans (S := C.S c mb mn) (Chg.mono hE1 (fun _ _ hh => hh.elim)) hCs (fun k _ e => by have e' : k = r.g := e; exact .inr (.inr (.inr ⟨r, hr, e'⟩)))⟩)
    clear hCs hB1 hB2 hB3 hC3
    go_wp2_with fail
    go_ret
    exact ⟨rfl, HR.out.1.ext ((Ext.refl _).drew), HR.out.2.drew⟩
set_option maxRecDepth 100000 in
set_option maxHeartbeats 4000000 in
theorem untape_no1 (hk : x.kind = 14) (hp : x.pool = 1) (hn : (!r.b.b.there || decide (r.b.disks = []) && !r.b.a.there) = true) :
    Calls Tryz.prog 69 #[.pointer (some ⟨c, 0, none⟩), .pointer (some ⟨r.g, 0, none⟩), cmdVal x dv] w fun e w' => e = .returned (.int .i64 16) ∧ Ext w w' := by
  have HK := Lib.hid hk
  clear hk
  have HPO := Lib.hid hp
  have HN := Lib.hid hn
  clear hp hn
  have hbl : ((r.b.disks.length : Int) == 0) = decide (r.b.disks = []) := by
    rw [Bool.eq_iff_iff, beq_iff_eq, decide_eq_true_eq]
    exact ⟨fun e => List.eq_nil_of_length_eq_zero (by omega), fun e => by rw [e]; rfl⟩
  unfold cmdVal
  go_enter Tryz.func69, Tryz.ntmps69
  have hX := At.new w 32 (cmdCells x dv)
  have hE := (Ext.refl w).alloc (.cells (cmdCells x dv) 32)
  go_upto_region 1 with fail
  generalize hxb : w.heap.size = xb at *
  generalize World.alloc _ _ = W at *
  have hC := h.ext hE
  have hB := (hC.bl r hr).1
  have hO := (hC.bl r hr).2
  have hgB := hC.lo.2.2.2 r hr
  have x0 := hX.cell 0
  have x8 := hX.cell 8
  simp at x0 x8
  rw [HK.out] at x0
  rw [HPO.out] at x8
  obtain ⟨bA, bc, hdb⟩ := own_slc hO
  have b4 := hB.cell 4
  have b5 := hB.cell 5
  have b8 := hB.cell 8
  simp at b4 b5 b8
  rw [hdb] at b4
  have hcb := hB.lt
  clear hdb
  have w1 : IntKind.i64.wrap (1 - 1 : Int) = 0 := by decide
  have ways : r.b.b.there = false ∨ r.b.b.there = true ∧ (decide (r.b.disks = []) = false ∨ decide (r.b.disks = []) = true ∧ (r.b.a.there = false ∨ r.b.a.there = true)) := by
    cases r.b.b.there <;> cases decide (r.b.disks = []) <;> cases r.b.a.there <;> simp
  rcases ways with k1 | ⟨k1, k2 | ⟨k2, k3 | k3⟩⟩
  · rw [k1] at b8
    go_upto_region 23 with fail
    go_quiet (fail)
    go_wp2_with fail
    go_ret
    exact ⟨rfl, hE.drewN _⟩
  · rw [k1] at b8
    rw [k2] at hbl
    have hno := HN.out
    simp [k1, k2] at hno
    try simp_all
  · rw [k1] at b8
    rw [k2] at hbl
    rw [k3] at b5
    go_upto_region 23 with fail
    go_quiet (fail)
    go_wp2_with fail
    go_ret
    exact ⟨rfl, hE.drewN _⟩
  · rw [k1] at b8
    rw [k2] at hbl
    rw [k3] at b5
    have hno := HN.out
    simp [k1, k2, k3] at hno
    try simp_all
set_option maxRecDepth 100000 in
set_option maxHeartbeats 4000000 in
theorem untape_ok1 (hk : x.kind = 14) (hp : x.pool = 1) (hn : (!r.b.b.there || decide (r.b.disks = []) && !r.b.a.there) = false) :
    Calls Tryz.prog 69 #[.pointer (some ⟨c, 0, none⟩), .pointer (some ⟨r.g, 0, none⟩), cmdVal x dv] w fun e w' => e = .returned (.int .i64 0) ∧ CtAt w' B c mb mn (C.upd r.g { r.b with b := Cp.none } r.dv) ∧ Chg (C.S c mb mn) w w' := by
  have HK := Lib.hid hk
  clear hk
  have HPO := Lib.hid hp
  have HN := Lib.hid hn
  clear hp hn
  have hbl : ((r.b.disks.length : Int) == 0) = decide (r.b.disks = []) := by
    rw [Bool.eq_iff_iff, beq_iff_eq, decide_eq_true_eq]
    exact ⟨fun e => List.eq_nil_of_length_eq_zero (by omega), fun e => by rw [e]; rfl⟩
  unfold cmdVal
  go_enter Tryz.func69, Tryz.ntmps69
  have hX := At.new w 32 (cmdCells x dv)
  have hE := (Ext.refl w).alloc (.cells (cmdCells x dv) 32)
  go_upto_region 1 with fail
  generalize hxb : w.heap.size = xb at *
  generalize World.alloc _ _ = W at *
  have hC := h.ext hE
  have hB := (hC.bl r hr).1
  have hO := (hC.bl r hr).2
  have hgB := hC.lo.2.2.2 r hr
  have x0 := hX.cell 0
  have x8 := hX.cell 8
  simp at x0 x8
  rw [HK.out] at x0
  rw [HPO.out] at x8
  obtain ⟨bA, bc, hdb⟩ := own_slc hO
  have b4 := hB.cell 4
  have b5 := hB.cell 5
  have b8 := hB.cell 8
  simp at b4 b5 b8
  rw [hdb] at b4
  have hcb := hB.lt
  clear hdb
  have w1 : IntKind.i64.wrap (1 - 1 : Int) = 0 := by decide
  have ways : r.b.b.there = false ∨ r.b.b.there = true ∧ (decide (r.b.disks = []) = false ∨ decide (r.b.disks = []) = true ∧ (r.b.a.there = false ∨ r.b.a.there = true)) := by
    cases r.b.b.there <;> cases decide (r.b.disks = []) <;> cases r.b.a.there <;> simp
  rcases ways with k1 | ⟨k1, k2 | ⟨k2, k3 | k3⟩⟩
  · rw [k1] at b8
    have hno := HN.out
    simp [k1] at hno
  · rw [k1] at b8
    rw [k2] at hbl
    go_upto_region 23 with fail
    go_quiet (fail)
    go_upto_region 25 with fail
    have hE1 := hE.drewN nq
    have hC1 := hC.ext ((Ext.refl W).drewN nq)
    have hX1 := At.drewN hX nq
    generalize W.drewN nq = W1 at *
    clear x0 x8 b4 b5 b8 hX hB hO hC hE h
    have x8 := hX1.cell 8
    simp at x8
    rw [HPO.out] at x8
    have hB := (hC1.bl r hr).1
    have hO := (hC1.bl r hr).2
    have c0 := hB.cell 8
    have c1 := hB.cell 9
    have c2 := hB.cell 10
    have f0 := hB.frozen 8
    have f1 := hB.frozen 9
    have f2 := hB.frozen 10
    simp at c0 c1 c2
    have hne : xb ≠ r.g := At.ne hX1 hB (by decide)
    go_region
    have hCs := (((Chg.refl (· = r.g) W1).setCell (p := ⟨r.g, 8, none⟩) (.inl rfl) (.bool false)).setCell (p := ⟨r.g, 9, none⟩) (.inl rfl) (.int .i64 0)).setCell (p := ⟨r.g, 10, none⟩) (.inl rfl) (.int .i64 0)
    have hB1 := At.set hB 8 (.bool false)
    have hB2 := At.set hB1 9 (.int .i64 0)
    have hB3 : At (((W1.setCell ⟨r.g, 8, none⟩ (.bool false)).setCell ⟨r.g, 9, none⟩ (.int .i64 0)).setCell ⟨r.g, 10, none⟩ (.int .i64 0)) r.g 108 (blCells { r.b with b := Cp.none } r.dv) := At.set hB2 10 (.int .i64 0)
    have hC3 := hC1.chgBlob hr (b := { r.b with b := Cp.none }) (dv := r.dv) rfl hCs hB3 (own_keep hO hCs (fun k hk e => own_apart' hO hB (by decide) k hk e))
    have HR := Lib.hid (show _ ∧ _ from ⟨hC3, Chg.trans (S := C.S c mb mn) (Chg.mono hE1 (fun _ _ hh => hh.elim)) hCs (fun k _ e => by have e' : k = r.g := e; exact .inr (.inr (.inr ⟨r, hr, e'⟩)))⟩)
    clear hCs hB1 hB2 hB3 hC3
    go_wp2_with fail
    go_ret
    exact ⟨rfl, HR.out.1.ext ((Ext.refl _).drew), HR.out.2.drew⟩
  · rw [k1] at b8
    rw [k2] at hbl
    rw [k3] at b5
    have hno := HN.out
    simp [k1, k2, k3] at hno
    try simp_all
  · rw [k1] at b8
    rw [k2] at hbl
    rw [k3] at b5
    go_upto_region 23 with fail
    go_quiet (fail)
    go_upto_region 25 with fail
    have hE1 := hE.drewN nq
    have hC1 := hC.ext ((Ext.refl W).drewN nq)
    have hX1 := At.drewN hX nq
    generalize W.drewN nq = W1 at *
    clear x0 x8 b4 b5 b8 hX hB hO hC hE h
    have x8 := hX1.cell 8
    simp at x8
    rw [HPO.out] at x8
    have hB := (hC1.bl r hr).1
    have hO := (hC1.bl r hr).2
    have c0 := hB.cell 8
    have c1 := hB.cell 9
    have c2 := hB.cell 10
    have f0 := hB.frozen 8
    have f1 := hB.frozen 9
    have f2 := hB.frozen 10
    simp at c0 c1 c2
    have hne : xb ≠ r.g := At.ne hX1 hB (by decide)
    go_region
    have hCs := (((Chg.refl (· = r.g) W1).setCell (p := ⟨r.g, 8, none⟩) (.inl rfl) (.bool false)).setCell (p := ⟨r.g, 9, none⟩) (.inl rfl) (.int .i64 0)).setCell (p := ⟨r.g, 10, none⟩) (.inl rfl) (.int .i64 0)
    have hB1 := At.set hB 8 (.bool false)
    have hB2 := At.set hB1 9 (.int .i64 0)
    have hB3 : At (((W1.setCell ⟨r.g, 8, none⟩ (.bool false)).setCell ⟨r.g, 9, none⟩ (.int .i64 0)).setCell ⟨r.g, 10, none⟩ (.int .i64 0)) r.g 108 (blCells { r.b with b := Cp.none } r.dv) := At.set hB2 10 (.int .i64 0)
    have hC3 := hC1.chgBlob hr (b := { r.b with b := Cp.none }) (dv := r.dv) rfl hCs hB3 (own_keep hO hCs (fun k hk e => own_apart' hO hB (by decide) k hk e))
    have HR := Lib.hid (show _ ∧ _ from ⟨hC3, Chg.trans (S := C.S c mb mn) (Chg.mono hE1 (fun _ _ hh => hh.elim)) hCs (fun k _ e => by have e' : k = r.g := e; exact .inr (.inr (.inr ⟨r, hr, e'⟩)))⟩)
    clear hCs hB1 hB2 hB3 hC3
    go_wp2_with fail
    go_ret
    exact ⟨rfl, HR.out.1.ext ((Ext.refl _).drew), HR.out.2.drew⟩
end change
end Go.Proofs.YtimjipcplmnpbaaGreat
