/-
  The document's disk (glacierref04): Try, try, New.
-/
import Derived.Test.YteleafbfdfipdaaPp2
namespace Go.Proofs.Yteleafbfdfipdaa
open Go.RowKit Go.Sort

set_option maxRecDepth 100000 in
set_option maxHeartbeats 1000000 in
theorem rtry3_any (w : World) (lost : Bool) (armed : Int) (h0 : 0 ≤ armed) (h1 : armed ≤ 4611686018427387904) :
    Calls Try.prog 49 #[.agg #[.bool lost, .int .i64 (armed - 1)]] w fun e w' =>
      e = .returned (.tuple #[.agg #[.bool lost, .int .i64 (tryA lost armed - 1)], .int .i64 (tryE lost armed)]) ∧ Ext w w' := by
  obtain ⟨fl, hfl⟩ : ∃ fl, fl = armed - 1 := ⟨_, rfl⟩
  rw [← hfl]
  have HFL := Lib.hid hfl
  clear hfl
  have hE : Ext w ((w.alloc (.cells #[.bool lost, .int .i64 fl] 27)).alloc (.cells #[.bool false, .int .i64 0] 27)) := ((Ext.refl w).alloc _).alloc _
  have hX : At ((w.alloc (.cells #[.bool lost, .int .i64 fl] 27)).alloc (.cells #[.bool false, .int .i64 0] 27)) w.heap.size 27 #[.bool lost, .int .i64 fl] := (At.new _ _ _).alloc _
  have hZ : At ((w.alloc (.cells #[.bool lost, .int .i64 fl] 27)).alloc (.cells #[.bool false, .int .i64 0] 27)) (w.heap.size + 1) 27 #[.bool false, .int .i64 0] := At.new_eq (by simp) _ _
  go_enter Try.func49, Try.ntmps49
  go_upto_region 1 with fail
  generalize (w.alloc _).alloc _ = W at hE hX hZ ⊢
  have hxz : w.heap.size ≠ w.heap.size + 1 := by omega
  have hwx : w.heap.size ≤ w.heap.size := Nat.le_refl _
  have hwz : w.heap.size ≤ w.heap.size + 1 := by omega
  generalize hzb : w.heap.size + 1 = zb at *
  obtain ⟨xb, hxb⟩ : ∃ xb, xb = w.heap.size := ⟨_, rfl⟩
  rw [← hxb] at hX hxz ⊢
  replace hwx : w.heap.size ≤ xb := by omega
  clear hzb hxb
  have x0 := hX.cell 0
  have x1 := hX.cell 1
  have f1 := hX.frozen 1
  have z0 := hZ.cell 0
  have z1 := hZ.cell 1
  have g0 := hZ.frozen 0
  have g1 := hZ.frozen 1
  simp at x0 x1 z0 z1
  cases lost
  · rcases (show armed = 0 ∨ armed = 1 ∨ 2 ≤ armed by omega) with rfl | rfl | h
    · obtain rfl : fl = -1 := by have := HFL.out; omega
      clear HFL
      go_wp2_with fail
      have hZ3 := at_anew hZ (vs := #[.bool false, .int .i64 (-1)]) rfl
      refine bodyPost_ret (v := .tuple #[.agg #[.bool false, .int .i64 (-1)], .int .i64 0]) (results_ct Try.results49 _ rfl (hZ3.loadv Try.underlying27 rfl (by kernel_rfl))) rfl ?_
      exact ⟨rfl, ext_anew hwz [.bool false, .int .i64 (-1)] 0 _ hE⟩
    · obtain rfl : fl = 0 := by have := HFL.out; omega
      clear HFL
      go_upto_region 5 with fail
      have hX2 : At (W.setCell ⟨xb, 1, none⟩ (.int .i64 (-1))) xb 27 #[.bool false, .int .i64 (-1)] := hX.set 1 _
      have hZ2 : At (W.setCell ⟨xb, 1, none⟩ (.int .i64 (-1))) zb 27 #[.bool false, .int .i64 0] := hZ.far (fun e => hxz e.symm) _
      have hE2 : Ext w (W.setCell ⟨xb, 1, none⟩ (.int .i64 (-1))) := hE.setCell hwx _
      clear x0 x1 f1 z0 z1 g0 g1 hX hZ hE
      generalize W.setCell ⟨xb, 1, none⟩ (.int .i64 (-1)) = W2 at hX2 hZ2 hE2 ⊢
      have x0 := hX2.cell 0
      have x1 := hX2.cell 1
      have z0 := hZ2.cell 0
      have z1 := hZ2.cell 1
      have g0 := hZ2.frozen 0
      have g1 := hZ2.frozen 1
      simp at x0 x1 z0 z1
      go_wp2_with fail
      have hZ3 := at_anew hZ2 (vs := #[.bool false, .int .i64 (-1)]) rfl
      refine bodyPost_ret (v := .tuple #[.agg #[.bool false, .int .i64 (-1)], .int .i64 8]) (results_ct Try.results49 _ rfl (hZ3.loadv Try.underlying27 rfl (by kernel_rfl))) rfl ?_
      exact ⟨rfl, ext_anew hwz [.bool false, .int .i64 (-1)] 0 _ hE2⟩
    · have hta : tryA false armed - 1 = fl - 1 := by unfold tryA; rw [if_neg (by simp), if_pos (by omega), HFL.out]
      have hte : tryE false armed = 0 := by unfold tryE; rw [if_neg (by simp), if_neg (by omega)]
      have HT := Lib.hid (And.intro hta hte)
      clear hta hte
      have hf1 : 0 < fl := by have := HFL.out; omega
      have hf2 : (fl == 0) = false := by rw [beq_eq_false_iff_ne]; omega
      have hf3 : fl ≤ 4611686018427387904 := by have := HFL.out; omega
      go_upto_region 8 with fail
      have hX2 : At (W.setCell ⟨xb, 1, none⟩ (.int .i64 (fl - 1))) xb 27 #[.bool false, .int .i64 (fl - 1)] := hX.set 1 _
      have hZ2 : At (W.setCell ⟨xb, 1, none⟩ (.int .i64 (fl - 1))) zb 27 #[.bool false, .int .i64 0] := hZ.far (fun e => hxz e.symm) _
      have hE2 : Ext w (W.setCell ⟨xb, 1, none⟩ (.int .i64 (fl - 1))) := hE.setCell hwx _
      clear x0 x1 f1 z0 z1 g0 g1 hX hZ hE
      generalize W.setCell ⟨xb, 1, none⟩ (.int .i64 (fl - 1)) = W2 at hX2 hZ2 hE2 ⊢
      have x0 := hX2.cell 0
      have x1 := hX2.cell 1
      have z0 := hZ2.cell 0
      have z1 := hZ2.cell 1
      have g0 := hZ2.frozen 0
      have g1 := hZ2.frozen 1
      simp at x0 x1 z0 z1
      go_wp2_with fail
      have hZ3 := at_anew hZ2 (vs := #[.bool false, .int .i64 (fl - 1)]) rfl
      refine bodyPost_ret (v := .tuple #[.agg #[.bool false, .int .i64 (fl - 1)], .int .i64 0]) (results_ct Try.results49 _ rfl (hZ3.loadv Try.underlying27 rfl (by kernel_rfl))) rfl ?_
      obtain ⟨hta, hte⟩ := HT.out
      exact ⟨by rw [show tryA false armed - 1 = fl - 1 from hta, show tryE false armed = 0 from hte], ext_anew hwz [.bool false, .int .i64 (fl - 1)] 0 _ hE2⟩
  · go_wp2_with fail
    have hZ3 := at_anew hZ (vs := #[.bool true, .int .i64 fl]) rfl
    refine bodyPost_ret (v := .tuple #[.agg #[.bool true, .int .i64 fl], .int .i64 14]) (results_ct Try.results49 _ rfl (hZ3.loadv Try.underlying27 rfl (by kernel_rfl))) rfl ?_
    exact ⟨by rw [HFL.out]; rfl, ext_anew hwz [.bool true, .int .i64 fl] 0 _ hE⟩

set_option maxRecDepth 100000 in
set_option maxHeartbeats 1000000 in
theorem rtry_any (w : World) (lv : Value) (hlv : ∃ A n c, lv = .slice A n c) (room : Int) (lost : Bool) (armed : Int) (h0 : 0 ≤ armed) (h1 : armed ≤ 4611686018427387904) :
    Calls Try.prog 38 #[.agg #[lv, .int .i64 room, .bool lost, .int .i64 (armed - 1)]] w fun e w' =>
      e = .returned (.tuple #[.agg #[lv, .int .i64 room, .bool lost, .int .i64 (tryA lost armed - 1)], .int .i64 (tryE lost armed)]) ∧ Ext w w' := by
  obtain ⟨A, n, c, rfl⟩ := hlv
  have hct := fun wx => rtry3_any wx lost armed h0 h1
  obtain ⟨fl, hfl⟩ : ∃ fl, fl = armed - 1 := ⟨_, rfl⟩
  obtain ⟨f2, hf2⟩ : ∃ fl, fl = tryA lost armed - 1 := ⟨_, rfl⟩
  obtain ⟨er, her⟩ : ∃ fl, fl = tryE lost armed := ⟨_, rfl⟩
  rw [← hfl, ← hf2, ← her] at hct ⊢
  clear hfl hf2 her
  have hE : Ext w ((w.alloc (.cells #[.slice A n c, .int .i64 room, .bool lost, .int .i64 fl] 29)).alloc (.cells #[.slice none 0 0, .int .i64 0, .bool false, .int .i64 0] 29)) := ((Ext.refl w).alloc _).alloc _
  have hX : At ((w.alloc (.cells #[.slice A n c, .int .i64 room, .bool lost, .int .i64 fl] 29)).alloc (.cells #[.slice none 0 0, .int .i64 0, .bool false, .int .i64 0] 29)) w.heap.size 29 #[.slice A n c, .int .i64 room, .bool lost, .int .i64 fl] := (At.new _ _ _).alloc _
  have hZ : At ((w.alloc (.cells #[.slice A n c, .int .i64 room, .bool lost, .int .i64 fl] 29)).alloc (.cells #[.slice none 0 0, .int .i64 0, .bool false, .int .i64 0] 29)) (w.heap.size + 1) 29 #[.slice none 0 0, .int .i64 0, .bool false, .int .i64 0] := At.new_eq (by simp) _ _
  go_enter Try.func38, Try.ntmps38
  go_upto_region 1 with fail
  generalize (w.alloc _).alloc _ = W at hE hX hZ ⊢
  have hxz : w.heap.size ≠ w.heap.size + 1 := by omega
  have hwx : w.heap.size ≤ w.heap.size := Nat.le_refl _
  have hwz : w.heap.size ≤ w.heap.size + 1 := by omega
  generalize hzb : w.heap.size + 1 = zb at *
  obtain ⟨xb, hxb⟩ : ∃ xb, xb = w.heap.size := ⟨_, rfl⟩
  rw [← hxb] at hX hxz ⊢
  replace hwx : w.heap.size ≤ xb := by omega
  clear hzb hxb
  have x2 := hX.cell 2
  have x3 := hX.cell 3
  simp at x2 x3
  go_wp2_with fail
  refine (hct W).mono ?_
  rintro e w1 ⟨rfl, hE1⟩
  replace hX := hX.ext hE1
  replace hZ := hZ.ext hE1
  replace hE := hE.trans hE1
  clear x2 x3 hE1 hct
  have x0 := hX.cell 0
  have x1 := hX.cell 1
  have x2 := hX.cell 2
  have x3 := hX.cell 3
  have z0 := hZ.cell 0
  have z1 := hZ.cell 1
  have z2 := hZ.cell 2
  have z3 := hZ.cell 3
  simp at x0 x1 x2 x3 z0 z1 z2 z3
  go_upto_region 2 with fail
  have hL := At.new w1 27 #[.bool lost, .int .i64 f2]
  replace hX := hX.alloc (.cells #[.bool lost, .int .i64 f2] 27)
  replace hZ := hZ.alloc (.cells #[.bool lost, .int .i64 f2] 27)
  replace hE := hE.alloc (.cells #[.bool lost, .int .i64 f2] 27)
  clear x0 x1 x2 x3 z0 z1 z2 z3
  generalize w1.heap.size = yb at hL ⊢
  generalize w1.alloc _ = W2 at hX hZ hE hL ⊢
  have x2 := hX.cell 2
  have x3 := hX.cell 3
  have f2' := hX.frozen 2
  have f3 := hX.frozen 3
  have l0 := hL.cell 0
  have l1 := hL.cell 1
  simp at x2 x3 l0 l1
  go_upto_region 3 with fail
  have hX2 : At ((W2.setCell ⟨xb, 2, none⟩ (.bool lost)).setCell ⟨xb, 3, none⟩ (.int .i64 f2)) xb 29 #[.slice A n c, .int .i64 room, .bool lost, .int .i64 f2] := (hX.set 2 _).set 3 _
  have hZ2 : At ((W2.setCell ⟨xb, 2, none⟩ (.bool lost)).setCell ⟨xb, 3, none⟩ (.int .i64 f2)) zb 29 #[.slice none 0 0, .int .i64 0, .bool false, .int .i64 0] := (hZ.far (fun e => hxz e.symm) _).far (fun e => hxz e.symm) _
  have hE2 : Ext w ((W2.setCell ⟨xb, 2, none⟩ (.bool lost)).setCell ⟨xb, 3, none⟩ (.int .i64 f2)) := (hE.setCell hwx _).setCell hwx _
  clear x2 x3 f2' f3 l0 l1 hX hZ hE hL
  generalize World.setCell _ _ _ = W3 at hX2 hZ2 hE2 ⊢
  have x0 := hX2.cell 0
  have x1 := hX2.cell 1
  have x2 := hX2.cell 2
  have x3 := hX2.cell 3
  have z0 := hZ2.cell 0
  have z1 := hZ2.cell 1
  have z2 := hZ2.cell 2
  have z3 := hZ2.cell 3
  have g0 := hZ2.frozen 0
  have g1 := hZ2.frozen 1
  have g2 := hZ2.frozen 2
  have g3 := hZ2.frozen 3
  simp at x0 x1 x2 x3 z0 z1 z2 z3
  go_wp2_with fail
  have hZ3 := at_anew hZ2 (vs := #[.slice A n c, .int .i64 room, .bool lost, .int .i64 f2]) rfl
  refine bodyPost_ret (v := .tuple #[.agg #[.slice A n c, .int .i64 room, .bool lost, .int .i64 f2], .int .i64 er]) (results_ct Try.results38 _ rfl (hZ3.loadv Try.underlying29 rfl (by kernel_rfl))) rfl ?_
  exact ⟨rfl, ext_anew hwz [.slice A n c, .int .i64 room, .bool lost, .int .i64 f2] 0 _ hE2⟩
end Go.Proofs.Yteleafbfdfipdaa
