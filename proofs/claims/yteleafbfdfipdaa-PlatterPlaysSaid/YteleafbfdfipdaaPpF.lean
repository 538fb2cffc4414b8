/-
  Does, the calls of many names, of failures; any call.
-/
import Derived.Test.YteleafbfdfipdaaPpE
import Derived.Deep.RegionWith
namespace Go.Proofs.Yteleafbfdfipdaa
open Go.RowKit Go.Sort

set_option maxRecDepth 100000 in
set_option maxHeartbeats 2000000 in
theorem does_9 (w W0 : World) (d m : Nat) (D : Dk) (N B : Nat) (hD : DkAt w d m D) (hI : Inv N B D) (hN : N ≤ 1000) (hB : B ≤ 10000) (lv : Value) (hR : RkIn w lv D.files) (x : Act) (ms : List ByteArray) (ch : List Int) (b : UInt8) (hx : ActIn W0 x ms ch b) (hE0 : Ext W0 w) (hd : W0.heap.size ≤ d) (hm : W0.heap.size ≤ m) (hk : x.kind = 9) :
    Calls Try.prog 7 #[.pointer (some ⟨d, 0, none⟩), .agg #[lv, .int .i64 D.room, .bool D.lost, .int .i64 (D.armed - 1)], .agg #[.int .i64 x.kind, .int .i64 x.num, .string x.a, .string x.b, .slice x.more.1 x.more.2.1 x.more.2.2, .slice x.choice.1 x.choice.2.1 x.choice.2.2, .int .u8 x.by_]] w (DoOut d m N B D.room w) := by
  obtain ⟨A, c, rfl⟩ := rk_slice hR
  obtain ⟨hsm, hlen, harm⟩ := hI.small hN hB
  have hO := hI.ok
  have ha0 := hO.a0
  have hr0 : 0 ≤ D.room ∧ D.room ≤ 9223372036854775807 := ⟨by have := hO.u0; have := hO.u1; omega, hO.r1⟩
  have HSM := Lib.hid (And.intro hsm (And.intro hI (And.intro hN hB)))
  have k1 : (x.kind == 1) = false := by simpa using fun e : x.kind = 1 => by omega
  have k2 : (x.kind == 2) = false := by simpa using fun e : x.kind = 2 => by omega
  have k3 : (x.kind == 3) = false := by simpa using fun e : x.kind = 3 => by omega
  have k4 : (x.kind == 4) = false := by simpa using fun e : x.kind = 4 => by omega
  have k5 : (x.kind == 5) = false := by simpa using fun e : x.kind = 5 => by omega
  have k6 : (x.kind == 6) = false := by simpa using fun e : x.kind = 6 => by omega
  have k7 : (x.kind == 7) = false := by simpa using fun e : x.kind = 7 => by omega
  have k8 : (x.kind == 8) = false := by simpa using fun e : x.kind = 8 => by omega
  have k9 : (x.kind == 9) = true := by simpa using hk
  have k10 : (x.kind == 10) = false := by simpa using fun e : x.kind = 10 => by omega
  have k11 : (x.kind == 11) = false := by simpa using fun e : x.kind = 11 => by omega
  clear hk
  obtain ⟨room, hroom⟩ : ∃ r, r = D.room := ⟨_, rfl⟩
  obtain ⟨lost, hlost⟩ : ∃ r, r = D.lost := ⟨_, rfl⟩
  obtain ⟨fl, hfl⟩ : ∃ r, r = D.armed - 1 := ⟨_, rfl⟩
  have HQ := Lib.hid (And.intro hroom (And.intro hlost hfl))
  rw [← hroom, ← hlost, ← hfl]
  clear hroom hlost hfl
  have hoa : x.a.size ≤ maxLen := hx.ok.2.1
  have hob : x.b.size ≤ maxLen := hx.ok.2.2
  have hon := hx.ok.1
  have HX := Lib.hid hx
  clear hx hsm
  have hEw : Ext w (((w.alloc (.cells #[.slice A D.files.length c, .int .i64 room, .bool lost, .int .i64 fl] 29)).alloc (.cells #[.int .i64 x.kind, .int .i64 x.num, .string x.a, .string x.b, .slice x.more.1 x.more.2.1 x.more.2.2, .slice x.choice.1 x.choice.2.1 x.choice.2.2, .int .u8 x.by_] 37)).alloc (.cells #[.slice none 0 0, .int .i64 0, .bool false, .int .i64 0] 29)) := (((Ext.refl w).alloc _).alloc _).alloc _
  have hX : At (((w.alloc (.cells #[.slice A D.files.length c, .int .i64 room, .bool lost, .int .i64 fl] 29)).alloc (.cells #[.int .i64 x.kind, .int .i64 x.num, .string x.a, .string x.b, .slice x.more.1 x.more.2.1 x.more.2.2, .slice x.choice.1 x.choice.2.1 x.choice.2.2, .int .u8 x.by_] 37)).alloc (.cells #[.slice none 0 0, .int .i64 0, .bool false, .int .i64 0] 29)) w.heap.size 29 #[.slice A D.files.length c, .int .i64 room, .bool lost, .int .i64 fl] := ((At.new _ _ _).alloc _).alloc _
  have hA : At (((w.alloc (.cells #[.slice A D.files.length c, .int .i64 room, .bool lost, .int .i64 fl] 29)).alloc (.cells #[.int .i64 x.kind, .int .i64 x.num, .string x.a, .string x.b, .slice x.more.1 x.more.2.1 x.more.2.2, .slice x.choice.1 x.choice.2.1 x.choice.2.2, .int .u8 x.by_] 37)).alloc (.cells #[.slice none 0 0, .int .i64 0, .bool false, .int .i64 0] 29)) (w.heap.size + 1) 37 #[.int .i64 x.kind, .int .i64 x.num, .string x.a, .string x.b, .slice x.more.1 x.more.2.1 x.more.2.2, .slice x.choice.1 x.choice.2.1 x.choice.2.2, .int .u8 x.by_] := (At.new_eq (by simp) _ _).alloc _
  have hZ : At (((w.alloc (.cells #[.slice A D.files.length c, .int .i64 room, .bool lost, .int .i64 fl] 29)).alloc (.cells #[.int .i64 x.kind, .int .i64 x.num, .string x.a, .string x.b, .slice x.more.1 x.more.2.1 x.more.2.2, .slice x.choice.1 x.choice.2.1 x.choice.2.2, .int .u8 x.by_] 37)).alloc (.cells #[.slice none 0 0, .int .i64 0, .bool false, .int .i64 0] 29)) (w.heap.size + 1 + 1) 29 #[.slice none 0 0, .int .i64 0, .bool false, .int .i64 0] := At.new_eq (by simp) _ _
  go_enter Try.func7, Try.ntmps7
  go_upto_region 1 with fail
  generalize (((w.alloc _).alloc _).alloc _ : World) = W at hEw hX hA hZ ⊢
  have hxz : w.heap.size ≠ w.heap.size + 1 + 1 := by omega
  have hxa : w.heap.size ≠ w.heap.size + 1 := by omega
  have haz : w.heap.size + 1 ≠ w.heap.size + 1 + 1 := by omega
  have hwx : w.heap.size ≤ w.heap.size := Nat.le_refl _
  have hwz : w.heap.size ≤ w.heap.size + 1 + 1 := by omega
  have hwa : w.heap.size ≤ w.heap.size + 1 := by omega
  have hdl : d < w.heap.size := hD.1.lt
  have hml : m < w.heap.size := hD.2.lt
  generalize hzb : w.heap.size + 1 + 1 = zb at *
  generalize hab : w.heap.size + 1 = ab at *
  obtain ⟨xb, hxb⟩ : ∃ xb, xb = w.heap.size := ⟨_, rfl⟩
  rw [← hxb] at hX hxz hxa ⊢
  replace hwx : w.heap.size ≤ xb := by omega
  have hdx : xb ≠ d ∧ xb ≠ m := by omega
  have hda : ab ≠ d ∧ ab ≠ m := by omega
  have hdz : zb ≠ d ∧ zb ≠ m := by omega
  clear hzb hab hxb
  have hDW := hD.ext hEw
  have hRW := hR.ext hEw
  have hE0W := hE0.trans hEw
  clear hD hR
  have v0 := hA.cell 0
  have v1 := hA.cell 1
  have v2 := hA.cell 2
  have v3 := hA.cell 3
  have v4 := hA.cell 4
  have v5 := hA.cell 5
  have v6 := hA.cell 6
  simp at v0 v1 v2 v3 v4 v5 v6
  go_wp2_with fail
  refine (cut_any x.a 6 W hoa (by omega)).mono ?_
  rintro e w1 ⟨rfl, hw1⟩
  subst hw1
  have hns := cut_size x.a 6
  generalize cut x.a 6 = n at hns ⊢
  go_wp2_with fail
  refine (cut_any x.b 60 w1 hob (by omega)).mono ?_
  rintro e w2 ⟨rfl, hw2⟩
  subst hw2
  have hss := cut_size x.b 60
  generalize cut x.b 60 = s at hss ⊢
  go_upto_region 36 with fail
  have cf := fail_any w2.drew d m D ⟨hDW.1.drew, hDW.2.drew⟩ x.num hon.2
  go_region_with ((go_at_call 14; refine cf.mono ?_; rintro e w3 ⟨rfl, hC1, hD3⟩))
  all_goals
    have hC3 : Chg (fun k => k = d ∨ k = m) w2 w3 := (Chg.refl _ w2).drew.trans (hC1.mono (S := fun k => k = d ∨ k = m) (fun _ _ h => .inl h)) (fun _ _ h => h)
    have hX3 := hX.chg hC3 (fun e => e.elim hdx.1 hdx.2)
    have hA3 := hA.chg hC3 (fun e => e.elim hda.1 hda.2)
    have hZ3 := hZ.chg hC3 (fun e => e.elim hdz.1 hdz.2)
    have hR3 := rk_plat hRW hDW hC3
    obtain ⟨f9, hf9⟩ : ∃ r, r = min (max x.num (-1)) 1073741824 := ⟨_, rfl⟩
    have hfa := fail_alike hI x.num
    rw [← hf9] at hfa
    have HD2 : Hid (((D.fail x.num).room = D.room ∧ (D.fail x.num).lost = D.lost ∧ (D.fail x.num).files = D.files ∧ Inv N B (D.fail x.num)) ∧ (D.fail x.num).armed - 1 = f9) := Lib.hid ⟨⟨rfl, rfl, rfl, hfa.2⟩, hfa.1⟩
    generalize D.fail x.num = D2 at hD3 HD2
    clear hfa
    have x3 := hX3.cell 3
    have f3 := hX3.frozen 3
    have v1 := hA3.cell 1
    simp at x3 v1
    have HF9 := Lib.hid hf9
    clear v0 v2 v3 v4 v5 v6 hX hA hZ hRW hDW hC1 hf9 cf
    go_upto_region 45 with fail
    all_goals
      rw [← HF9.out]
      have hX4 : At (w3.setCell ⟨xb, 3, none⟩ (.int .i64 f9)) xb 29 #[.slice A D.files.length c, .int .i64 room, .bool lost, .int .i64 f9] := hX3.set 3 _
      have hcx : Chg (· = xb) w3 (w3.setCell ⟨xb, 3, none⟩ (.int .i64 f9)) := (Chg.refl (· = xb) w3).setCell (p := ⟨xb, 3, none⟩) (.inl rfl) _
      have hZ4 := hZ3.chg hcx (fun e => hxz e.symm)
      have hD4 : DkAt (w3.setCell ⟨xb, 3, none⟩ (.int .i64 f9)) d m D2 := ⟨hD3.1.chg hcx hdx.1.symm, hD3.2.chg hcx hdx.2.symm⟩
      have hR4 := Sln.chg hR3 hcx (rk_apart hR3 hX3 dz_nostr)
      have hCw : Chg (fun k => k = d ∨ k = m) w (w3.setCell ⟨xb, 3, none⟩ (.int .i64 f9)) := (hEw.chg_trans hC3).trans hcx (fun k hk e => by have e' : k = xb := e; omega)
      clear x3 f3 v1 hX3 hZ3 hD3 hcx hR3
      generalize w3.setCell _ _ = w5 at hX4 hZ4 hD4 hR4 hCw ⊢
      have x0 := hX4.cell 0
      have x1 := hX4.cell 1
      have x2 := hX4.cell 2
      have x3 := hX4.cell 3
      simp at x0 x1 x2 x3
      have z0 := hZ4.cell 0
      have z1 := hZ4.cell 1
      have z2 := hZ4.cell 2
      have z3 := hZ4.cell 3
      have g0 := hZ4.frozen 0
      have g1 := hZ4.frozen 1
      have g2 := hZ4.frozen 2
      have g3 := hZ4.frozen 3
      simp at z0 z1 z2 z3
      go_wp2_with fail
      have hZ9 := at_anew hZ4 (vs := #[.slice A D.files.length c, .int .i64 room, .bool lost, .int .i64 f9]) rfl
      refine bodyPost_ret (v := .tuple #[.agg #[.slice A D.files.length c, .int .i64 room, .bool lost, .int .i64 f9], .bool true]) (results_ct Try.results7 _ rfl (hZ9.loadv Try.underlying29 rfl (by kernel_rfl))) rfl ?_
      have hCz : Chg (· = zb) w5 ((((w5.setCell ⟨zb, 0, none⟩ (.slice A D.files.length c)).setCell ⟨zb, 1, none⟩ (.int .i64 room)).setCell ⟨zb, 2, none⟩ (.bool lost)).setCell ⟨zb, 3, none⟩ (.int .i64 f9)) := chg_setAll w5 zb [.slice A D.files.length c, .int .i64 room, .bool lost, .int .i64 f9] 0 w5 (Chg.refl _ _)
      obtain ⟨⟨b1, b2, b3, b4⟩, b5⟩ := HD2.out
      refine ⟨_, D2, ?_, ⟨hD4.1.chg hCz hdz.1.symm, hD4.2.chg hCz hdz.2.symm⟩, by rw [b3]; exact Sln.chg hR4 hCz (rk_apart hR4 hZ4 dz_nostr), b4.mono (by omega) (by omega), ?_, ?_⟩
      · rw [b2, b5, ← HQ.out.2.1]
      · rw [b1, ← HQ.out.1]
      · exact hCw.trans hCz (fun k hk e => by have e' : k = zb := e; omega)

set_option maxRecDepth 100000 in
set_option maxHeartbeats 2000000 in
theorem does_8 (w W0 : World) (d m : Nat) (D : Dk) (N B : Nat) (hD : DkAt w d m D) (hI : Inv N B D) (hN : N ≤ 1000) (hB : B ≤ 10000) (lv : Value) (hR : RkIn w lv D.files) (x : Act) (ms : List ByteArray) (ch : List Int) (b : UInt8) (hx : ActIn W0 x ms ch b) (hE0 : Ext W0 w) (hd : W0.heap.size ≤ d) (hm : W0.heap.size ≤ m) (hk : x.kind = 8) :
    Calls Try.prog 7 #[.pointer (some ⟨d, 0, none⟩), .agg #[lv, .int .i64 D.room, .bool D.lost, .int .i64 (D.armed - 1)], .agg #[.int .i64 x.kind, .int .i64 x.num, .string x.a, .string x.b, .slice x.more.1 x.more.2.1 x.more.2.2, .slice x.choice.1 x.choice.2.1 x.choice.2.2, .int .u8 x.by_]] w (DoOut d m N B D.room w) := by
  obtain ⟨A, c, rfl⟩ := rk_slice hR
  obtain ⟨hsm, hlen, harm⟩ := hI.small hN hB
  have hO := hI.ok
  have ha0 := hO.a0
  have hr0 : 0 ≤ D.room ∧ D.room ≤ 9223372036854775807 := ⟨by have := hO.u0; have := hO.u1; omega, hO.r1⟩
  have HSM := Lib.hid (And.intro hsm (And.intro hI (And.intro hN hB)))
  have k1 : (x.kind == 1) = false := by simpa using fun e : x.kind = 1 => by omega
  have k2 : (x.kind == 2) = false := by simpa using fun e : x.kind = 2 => by omega
  have k3 : (x.kind == 3) = false := by simpa using fun e : x.kind = 3 => by omega
  have k4 : (x.kind == 4) = false := by simpa using fun e : x.kind = 4 => by omega
  have k5 : (x.kind == 5) = false := by simpa using fun e : x.kind = 5 => by omega
  have k6 : (x.kind == 6) = false := by simpa using fun e : x.kind = 6 => by omega
  have k7 : (x.kind == 7) = false := by simpa using fun e : x.kind = 7 => by omega
  have k8 : (x.kind == 8) = true := by simpa using hk
  have k9 : (x.kind == 9) = false := by simpa using fun e : x.kind = 9 => by omega
  have k10 : (x.kind == 10) = false := by simpa using fun e : x.kind = 10 => by omega
  have k11 : (x.kind == 11) = false := by simpa using fun e : x.kind = 11 => by omega
  clear hk
  obtain ⟨room, hroom⟩ : ∃ r, r = D.room := ⟨_, rfl⟩
  obtain ⟨lost, hlost⟩ : ∃ r, r = D.lost := ⟨_, rfl⟩
  obtain ⟨fl, hfl⟩ : ∃ r, r = D.armed - 1 := ⟨_, rfl⟩
  have HQ := Lib.hid (And.intro hroom (And.intro hlost hfl))
  rw [← hroom, ← hlost, ← hfl]
  clear hroom hlost hfl
  have hoa : x.a.size ≤ maxLen := hx.ok.2.1
  have hob : x.b.size ≤ maxLen := hx.ok.2.2
  have hon := hx.ok.1
  have HX := Lib.hid hx
  clear hx hsm
  have hEw : Ext w (((w.alloc (.cells #[.slice A D.files.length c, .int .i64 room, .bool lost, .int .i64 fl] 29)).alloc (.cells #[.int .i64 x.kind, .int .i64 x.num, .string x.a, .string x.b, .slice x.more.1 x.more.2.1 x.more.2.2, .slice x.choice.1 x.choice.2.1 x.choice.2.2, .int .u8 x.by_] 37)).alloc (.cells #[.slice none 0 0, .int .i64 0, .bool false, .int .i64 0] 29)) := (((Ext.refl w).alloc _).alloc _).alloc _
  have hX : At (((w.alloc (.cells #[.slice A D.files.length c, .int .i64 room, .bool lost, .int .i64 fl] 29)).alloc (.cells #[.int .i64 x.kind, .int .i64 x.num, .string x.a, .string x.b, .slice x.more.1 x.more.2.1 x.more.2.2, .slice x.choice.1 x.choice.2.1 x.choice.2.2, .int .u8 x.by_] 37)).alloc (.cells #[.slice none 0 0, .int .i64 0, .bool false, .int .i64 0] 29)) w.heap.size 29 #[.slice A D.files.length c, .int .i64 room, .bool lost, .int .i64 fl] := ((At.new _ _ _).alloc _).alloc _
  have hA : At (((w.alloc (.cells #[.slice A D.files.length c, .int .i64 room, .bool lost, .int .i64 fl] 29)).alloc (.cells #[.int .i64 x.kind, .int .i64 x.num, .string x.a, .string x.b, .slice x.more.1 x.more.2.1 x.more.2.2, .slice x.choice.1 x.choice.2.1 x.choice.2.2, .int .u8 x.by_] 37)).alloc (.cells #[.slice none 0 0, .int .i64 0, .bool false, .int .i64 0] 29)) (w.heap.size + 1) 37 #[.int .i64 x.kind, .int .i64 x.num, .string x.a, .string x.b, .slice x.more.1 x.more.2.1 x.more.2.2, .slice x.choice.1 x.choice.2.1 x.choice.2.2, .int .u8 x.by_] := (At.new_eq (by simp) _ _).alloc _
  have hZ : At (((w.alloc (.cells #[.slice A D.files.length c, .int .i64 room, .bool lost, .int .i64 fl] 29)).alloc (.cells #[.int .i64 x.kind, .int .i64 x.num, .string x.a, .string x.b, .slice x.more.1 x.more.2.1 x.more.2.2, .slice x.choice.1 x.choice.2.1 x.choice.2.2, .int .u8 x.by_] 37)).alloc (.cells #[.slice none 0 0, .int .i64 0, .bool false, .int .i64 0] 29)) (w.heap.size + 1 + 1) 29 #[.slice none 0 0, .int .i64 0, .bool false, .int .i64 0] := At.new_eq (by simp) _ _
  go_enter Try.func7, Try.ntmps7
  go_upto_region 1 with fail
  generalize (((w.alloc _).alloc _).alloc _ : World) = W at hEw hX hA hZ ⊢
  have hxz : w.heap.size ≠ w.heap.size + 1 + 1 := by omega
  have hxa : w.heap.size ≠ w.heap.size + 1 := by omega
  have haz : w.heap.size + 1 ≠ w.heap.size + 1 + 1 := by omega
  have hwx : w.heap.size ≤ w.heap.size := Nat.le_refl _
  have hwz : w.heap.size ≤ w.heap.size + 1 + 1 := by omega
  have hwa : w.heap.size ≤ w.heap.size + 1 := by omega
  have hdl : d < w.heap.size := hD.1.lt
  have hml : m < w.heap.size := hD.2.lt
  generalize hzb : w.heap.size + 1 + 1 = zb at *
  generalize hab : w.heap.size + 1 = ab at *
  obtain ⟨xb, hxb⟩ : ∃ xb, xb = w.heap.size := ⟨_, rfl⟩
  rw [← hxb] at hX hxz hxa ⊢
  replace hwx : w.heap.size ≤ xb := by omega
  have hdx : xb ≠ d ∧ xb ≠ m := by omega
  have hda : ab ≠ d ∧ ab ≠ m := by omega
  have hdz : zb ≠ d ∧ zb ≠ m := by omega
  clear hzb hab hxb
  have hDW := hD.ext hEw
  have hRW := hR.ext hEw
  have hE0W := hE0.trans hEw
  clear hD hR
  have v0 := hA.cell 0
  have v1 := hA.cell 1
  have v2 := hA.cell 2
  have v3 := hA.cell 3
  have v4 := hA.cell 4
  have v5 := hA.cell 5
  have v6 := hA.cell 6
  simp at v0 v1 v2 v3 v4 v5 v6
  go_wp2_with fail
  refine (cut_any x.a 6 W hoa (by omega)).mono ?_
  rintro e w1 ⟨rfl, hw1⟩
  subst hw1
  have hns := cut_size x.a 6
  generalize cut x.a 6 = n at hns ⊢
  go_wp2_with fail
  refine (cut_any x.b 60 w1 hob (by omega)).mono ?_
  rintro e w2 ⟨rfl, hw2⟩
  subst hw2
  have hss := cut_size x.b 60
  generalize cut x.b 60 = s at hss ⊢
  go_wp2_with fail
  refine (pnames_any w2 d m D hDW hO (by omega)).mono ?_
  rintro e w3 ⟨nv, rfl, hnv, hC1, hD3⟩
  have hC3 : Chg (fun k => k = d ∨ k = m) w2 w3 := hC1.mono (fun _ _ h => .inl h)
  have hX3 := hX.chg hC3 (fun e => e.elim hdx.1 hdx.2)
  have hA3 := hA.chg hC3 (fun e => e.elim hda.1 hda.2)
  have hZ3 := hZ.chg hC3 (fun e => e.elim hdz.1 hdz.2)
  have hR3 := rk_plat hRW hDW hC3
  have cp := rnames_any w3 (.slice A D.files.length c) D.room D.lost D.armed D.files (hI.rks hN hB hR3) ha0 harm
  rw [names_alike hI] at cp
  rw [← HQ.out.1, ← HQ.out.2.1, ← HQ.out.2.2] at cp
  obtain ⟨a2, ha2⟩ : ∃ r, r = tryA lost D.armed - 1 := ⟨_, rfl⟩
  rw [← ha2] at cp
  obtain ⟨D2, hD2⟩ : ∃ D2, D2 = D.tick := ⟨_, rfl⟩
  have hal2 : D2.room = D.room ∧ D2.lost = D.lost ∧ D2.armed = tryA D.lost D.armed ∧ Inv N B D2 := by rw [hD2]; exact ⟨rfl, rfl, rfl, hI.tick⟩
  have hfe : D.files = D2.files := by rw [hD2]; rfl
  rw [← hD2] at hD3
  have HD2 := Lib.hid (And.intro hal2 ha2)
  have HFE := Lib.hid hfe
  have hnl : D.names.length ≤ 1000000 := by
    unfold Dk.names Dk.nameL
    split
    · simp
    · have := List.length_filter_le (fun n => (D.get n).nt) (D.files.map (·.1))
      rw [List.length_map] at this
      omega
  generalize D.names = nn at cp hnv hnl
  have hee : tryE lost D.armed = D.e := by rw [HQ.out.2.1]; rfl
  rw [hee] at cp
  generalize D.e = er at cp ⊢
  clear hal2 ha2 hD2 hfe hee v0 v1 v2 v3 v4 v5 v6 hX hA hZ hRW hDW hC1
  have x0 := hX3.cell 0
  have x1 := hX3.cell 1
  have x2 := hX3.cell 2
  have x3 := hX3.cell 3
  simp at x0 x1 x2 x3
  go_wp2_with fail
  refine cp.mono ?_
  rintro e w4 ⟨rv, rfl, hrv, hE4⟩
  go_upto_region 34 with fail
  have hY := At.new w4 29 #[.slice A D.files.length c, .int .i64 room, .bool lost, .int .i64 a2]
  have hEy := (Ext.refl w4).alloc (.cells #[.slice A D.files.length c, .int .i64 room, .bool lost, .int .i64 a2] 29)
  have hZ4 := (hZ3.ext hE4).ext hEy
  have hD4 := (hD3.ext hE4).ext hEy
  have hR5 := (hR3.ext hE4).ext hEy
  have hCw := (((hEw.chg_trans hC3).ext_trans hE4).ext_trans hEy)
  have hnv4 := (hnv.ext hE4).ext hEy
  have hrv4 := hrv.ext hEy
  clear x0 x1 x2 x3 hX3 hA3 hZ3 hD3 hE4 hEy hR3 cp hnv hrv
  generalize w4.heap.size = yb at hY ⊢
  generalize w4.alloc _ = w5 at hY hZ4 hD4 hR5 hCw hnv4 hrv4 ⊢
  refine wp_region_phi (Γ := Nat → Value) (sgφ [.val (.agg #[.slice A D.files.length c, .int .i64 room, .bool lost, .int .i64 a2]), .val (.int .i64 er), .val (.int .i64 er), .val (.bool true), .val (.bool true), .val nv, .val rv, .val (.int .i64 0), .val (.bool true), .val (.bool true), .any, .val (.bool true)]) (G8 w5 zb [.slice A D.files.length c, .int .i64 room, .bool lost, .int .i64 a2]) (by kernel_rfl) (by kernel_rfl) (by kernel_rfl) (fun _ => undef) ⟨fun _ => (Ext.refl w5).drew, (fun hh => by cases hh)⟩ ?steps ?fin
  case steps =>
    show StepsTo _ _ _ _ _ _ 12
    refine ⟨⟨⟨⟨⟨⟨⟨⟨⟨⟨⟨⟨trivial, ?s0⟩, ?s1⟩, ?s2⟩, ?s3⟩, ?s4⟩, ?s5⟩, ?s6⟩, ?s7⟩, ?s8⟩, ?s9⟩, ?s10⟩, ?s11⟩
    case s0 =>
      refine sg_val (x := .agg #[.slice A D.files.length c, .int .i64 room, .bool lost, .int .i64 a2]) rfl rfl rfl (G8.keep (j := 0) (by decide)) fun γ L v a w' st => ?_
      have h10 : L 10 = false := by
        cases hq : L 10 with
        | false => rfl
        | true =>
          have q0 := st.down 10 0 hq (by kernel_rfl)
          have q99 := st.off; rw [q0] at q99; cases q99
      have e29 := st.far 29 (by kernel_rfl)
      simp at e29
      exact exec_load_mid rfl (b := yb) (off := 0) (by simp [Act.eval, e29]) ((hY.ext (st.inv.pre h10)).range) Try.underlying29 rfl (by kernel_rfl)
    case s1 =>
      refine sg_val (x := .int .i64 er) rfl rfl rfl (G8.keep (j := 1) (by decide)) fun γ L v a w' st => ?_
      have e28 := st.far 28 (by kernel_rfl)
      simp at e28
      go_simp
    case s2 =>
      refine sg_val (x := .int .i64 er) rfl rfl rfl (G8.keep (j := 2) (by decide)) fun γ L v a w' st => ?_
      have e31 := st.far 31 (by kernel_rfl)
      simp at e31
      go_simp
    case s3 =>
      refine sg_val (x := .bool true) rfl rfl rfl (G8.keep (j := 3) (by decide)) fun γ L v a w' st => ?_
      have e1 := st.val 1 178 rfl (by kernel_rfl)
      rw [show v 1 = _ from st.φ 1 (by kernel_rfl)] at e1
      simp at e1
      have e2 := st.val 2 179 rfl (by kernel_rfl)
      rw [show v 2 = _ from st.φ 2 (by kernel_rfl)] at e2
      simp at e2
      go_simp
    case s4 =>
      refine sg_val (x := .bool true) rfl rfl rfl (G8.keep (j := 4) (by decide)) fun γ L v a w' st => ?_
      have e3 := st.val 3 180 rfl (by kernel_rfl)
      rw [show v 3 = _ from st.φ 3 (by kernel_rfl)] at e3
      simp at e3
      go_simp
    case s5 =>
      refine sg_val_on (x := nv) (on := 4) (t := 181) (b := true) rfl rfl (by kernel_rfl) rfl rfl rfl (G8.keep (j := 5) (by decide)) fun γ L v a w' st => ?_
      have e27 := st.far 27 (by kernel_rfl)
      simp at e27
      go_simp
    case s6 =>
      refine sg_val_on (x := rv) (on := 4) (t := 181) (b := true) rfl rfl (by kernel_rfl) rfl rfl rfl (G8.keep (j := 6) (by decide)) fun γ L v a w' st => ?_
      have e30 := st.far 30 (by kernel_rfl)
      simp at e30
      go_simp
    case s7 =>
      refine sg_callv_on (x := .int .i64 0) (f := 17) (on := 4) (t := 181) (b := true) rfl rfl (by kernel_rfl) rfl rfl rfl fun γ L v a w' st => ?_
      have h10 : L 10 = false := by
        cases hq : L 10 with
        | false => rfl
        | true =>
          have q7 := st.down 10 7 hq (by kernel_rfl)
          have q99 := st.off; rw [q7] at q99; cases q99
      have e5 := st.val 5 182 rfl (by kernel_rfl)
      rw [show v 5 = _ from st.φ 5 (by kernel_rfl)] at e5
      simp at e5
      have e6 := st.val 6 183 rfl (by kernel_rfl)
      rw [show v 6 = _ from st.φ 6 (by kernel_rfl)] at e6
      simp at e6
      have hEx := st.inv.pre h10
      refine ⟨#[nv, rv], by go_simp, ?_⟩
      refine (same_any w' nv rv nn nn (hnv4.ext hEx) (hrv4.ext hEx) hnl hnl).mono ?_
      rintro e w2 ⟨rfl, hE2⟩
      refine ⟨by unfold sameB; rw [if_pos rfl], ⟨fun _ => hEx.trans hE2, fun hh => by simp [h10] at hh⟩⟩
    case s8 =>
      refine sg_val_on (x := .bool true) (on := 4) (t := 181) (b := true) rfl rfl (by kernel_rfl) rfl rfl rfl (G8.keep (j := 8) (by decide)) fun γ L v a w' st => ?_
      have e7 := st.val 7 184 rfl (by kernel_rfl)
      rw [show v 7 = _ from st.φ 7 (by kernel_rfl)] at e7
      simp at e7
      go_simp
    case s9 =>
      refine sg_val (x := .bool true) rfl rfl rfl (G8.keep (j := 9) (by decide)) fun γ L v a w' st => ?_
      have e4 := st.val 4 181 rfl (by kernel_rfl)
      rw [show v 4 = _ from st.φ 4 (by kernel_rfl)] at e4
      simp at e4
      have e8 := st.val 8 185 rfl (by kernel_rfl)
      rw [show v 8 = _ from st.φ 8 (by kernel_rfl)] at e8
      simp at e8
      go_simp
    case s10 =>
      refine sg_skip rfl rfl rfl fun γ L v a w' st => ?_
      have h10 : L 10 = false := st.off
      have hEx := st.inv.pre h10
      have e0 := st.val 0 177 rfl (by kernel_rfl)
      rw [show v 0 = _ from st.φ 0 (by kernel_rfl)] at e0
      simp at e0
      have e6 := st.far 6 (by kernel_rfl)
      simp at e6
      exact ⟨_, exec_store_mid rfl (b := zb) (off := 0) (cells := #[.slice A D.files.length c, .int .i64 room, .bool lost, .int .i64 a2]) (by simp [Act.eval, e6]) (by simp [Act.eval, e0]) ((hZ4.ext hEx).there) (by kernel_rfl) (by simp [Value.oneCell']), ⟨fun hh => by simp at hh, fun _ => ⟨w', hEx, rfl⟩⟩⟩
    case s11 =>
      refine sg_val (x := .bool true) rfl rfl rfl (G8.keep (j := 11) (by decide)) fun γ L v a w' st => ?_
      have e9 := st.val 9 186 rfl (by kernel_rfl)
      rw [show v 9 = _ from st.φ 9 (by kernel_rfl)] at e9
      simp at e9
      go_simp
  case fin =>
    intro γ L v wx hall hG hφ
    have h11 : v 11 = .bool true := hφ 11 (by decide)
    obtain ⟨w6, hE6, rfl⟩ := hG.aft (hall 10 (by decide))
    clear hall hφ hG hY hnv4 hrv4
    change Exit.then _ _ _ (putAll _ v _ 12) _
    simp only [putAll, dstOf, Act.put]
    simp only [List.getElem?_toArray, List.getElem?_cons_zero, List.getElem?_cons_succ, Option.bind_some, List.setIfInBounds_toArray, List.set_cons_zero, List.set_cons_succ]
    rw [h11]
    replace hZ4 := hZ4.ext hE6
    replace hD4 := hD4.ext hE6
    replace hR5 := hR5.ext hE6
    replace hCw := hCw.ext_trans hE6
    go_wp2_with fail
    have hZ9 := hZ4.cells_all (cs := #[.slice A D.files.length c, .int .i64 room, .bool lost, .int .i64 a2]) rfl
    refine bodyPost_ret (v := .tuple #[.agg #[.slice A D.files.length c, .int .i64 room, .bool lost, .int .i64 a2], .bool true]) (results_ct Try.results7 _ rfl (hZ9.loadv Try.underlying29 rfl (by kernel_rfl))) rfl ?_
    have hCz : Chg (· = zb) w6 (w6.setCells zb 0 [.slice A D.files.length c, .int .i64 room, .bool lost, .int .i64 a2]) := chg_setCells _ _
    obtain ⟨⟨b1, b2, b3, b4⟩, b5⟩ := HD2.out
    refine ⟨_, D2, ?_, ⟨hD4.1.chg hCz hdz.1.symm, hD4.2.chg hCz hdz.2.symm⟩, by rw [← HFE.out]; exact Sln.chg hR5 hCz (rk_apart hR5 hZ4 dz_nostr), b4.mono (by omega) (by omega), ?_, ?_⟩
    · rw [b2, b3, b5, ← HQ.out.2.1]
    · rw [b1, ← HQ.out.1]
    · exact hCw.trans hCz (fun k hk e => by have e' : k = zb := e; omega)

set_option maxRecDepth 100000 in
set_option maxHeartbeats 2000000 in
theorem does_3 (w W0 : World) (d m : Nat) (D : Dk) (N B : Nat) (hD : DkAt w d m D) (hI : Inv N B D) (hN : N ≤ 1000) (hB : B ≤ 10000) (lv : Value) (hR : RkIn w lv D.files) (x : Act) (ms : List ByteArray) (ch : List Int) (b : UInt8) (hx : ActIn W0 x ms ch b) (hE0 : Ext W0 w) (hd : W0.heap.size ≤ d) (hm : W0.heap.size ≤ m) (hk : x.kind = 3) :
    Calls Try.prog 7 #[.pointer (some ⟨d, 0, none⟩), .agg #[lv, .int .i64 D.room, .bool D.lost, .int .i64 (D.armed - 1)], .agg #[.int .i64 x.kind, .int .i64 x.num, .string x.a, .string x.b, .slice x.more.1 x.more.2.1 x.more.2.2, .slice x.choice.1 x.choice.2.1 x.choice.2.2, .int .u8 x.by_]] w (DoOut d m N B D.room w) := by
  obtain ⟨A, c, rfl⟩ := rk_slice hR
  obtain ⟨hsm, hlen, harm⟩ := hI.small hN hB
  have hO := hI.ok
  have ha0 := hO.a0
  have hr0 : 0 ≤ D.room ∧ D.room ≤ 9223372036854775807 := ⟨by have := hO.u0; have := hO.u1; omega, hO.r1⟩
  have HSM := Lib.hid (And.intro hsm (And.intro hI (And.intro hN hB)))
  have k1 : (x.kind == 1) = false := by simpa using fun e : x.kind = 1 => by omega
  have k2 : (x.kind == 2) = false := by simpa using fun e : x.kind = 2 => by omega
  have k3 : (x.kind == 3) = true := by simpa using hk
  have k4 : (x.kind == 4) = false := by simpa using fun e : x.kind = 4 => by omega
  have k5 : (x.kind == 5) = false := by simpa using fun e : x.kind = 5 => by omega
  have k6 : (x.kind == 6) = false := by simpa using fun e : x.kind = 6 => by omega
  have k7 : (x.kind == 7) = false := by simpa using fun e : x.kind = 7 => by omega
  have k8 : (x.kind == 8) = false := by simpa using fun e : x.kind = 8 => by omega
  have k9 : (x.kind == 9) = false := by simpa using fun e : x.kind = 9 => by omega
  have k10 : (x.kind == 10) = false := by simpa using fun e : x.kind = 10 => by omega
  have k11 : (x.kind == 11) = false := by simpa using fun e : x.kind = 11 => by omega
  clear hk
  obtain ⟨room, hroom⟩ : ∃ r, r = D.room := ⟨_, rfl⟩
  obtain ⟨lost, hlost⟩ : ∃ r, r = D.lost := ⟨_, rfl⟩
  obtain ⟨fl, hfl⟩ : ∃ r, r = D.armed - 1 := ⟨_, rfl⟩
  have HQ := Lib.hid (And.intro hroom (And.intro hlost hfl))
  rw [← hroom, ← hlost, ← hfl]
  clear hroom hlost hfl
  have hoa : x.a.size ≤ maxLen := hx.ok.2.1
  have hob : x.b.size ≤ maxLen := hx.ok.2.2
  have hon := hx.ok.1
  have HX := Lib.hid hx
  clear hx hsm
  have hEw : Ext w (((w.alloc (.cells #[.slice A D.files.length c, .int .i64 room, .bool lost, .int .i64 fl] 29)).alloc (.cells #[.int .i64 x.kind, .int .i64 x.num, .string x.a, .string x.b, .slice x.more.1 x.more.2.1 x.more.2.2, .slice x.choice.1 x.choice.2.1 x.choice.2.2, .int .u8 x.by_] 37)).alloc (.cells #[.slice none 0 0, .int .i64 0, .bool false, .int .i64 0] 29)) := (((Ext.refl w).alloc _).alloc _).alloc _
  have hX : At (((w.alloc (.cells #[.slice A D.files.length c, .int .i64 room, .bool lost, .int .i64 fl] 29)).alloc (.cells #[.int .i64 x.kind, .int .i64 x.num, .string x.a, .string x.b, .slice x.more.1 x.more.2.1 x.more.2.2, .slice x.choice.1 x.choice.2.1 x.choice.2.2, .int .u8 x.by_] 37)).alloc (.cells #[.slice none 0 0, .int .i64 0, .bool false, .int .i64 0] 29)) w.heap.size 29 #[.slice A D.files.length c, .int .i64 room, .bool lost, .int .i64 fl] := ((At.new _ _ _).alloc _).alloc _
  have hA : At (((w.alloc (.cells #[.slice A D.files.length c, .int .i64 room, .bool lost, .int .i64 fl] 29)).alloc (.cells #[.int .i64 x.kind, .int .i64 x.num, .string x.a, .string x.b, .slice x.more.1 x.more.2.1 x.more.2.2, .slice x.choice.1 x.choice.2.1 x.choice.2.2, .int .u8 x.by_] 37)).alloc (.cells #[.slice none 0 0, .int .i64 0, .bool false, .int .i64 0] 29)) (w.heap.size + 1) 37 #[.int .i64 x.kind, .int .i64 x.num, .string x.a, .string x.b, .slice x.more.1 x.more.2.1 x.more.2.2, .slice x.choice.1 x.choice.2.1 x.choice.2.2, .int .u8 x.by_] := (At.new_eq (by simp) _ _).alloc _
  have hZ : At (((w.alloc (.cells #[.slice A D.files.length c, .int .i64 room, .bool lost, .int .i64 fl] 29)).alloc (.cells #[.int .i64 x.kind, .int .i64 x.num, .string x.a, .string x.b, .slice x.more.1 x.more.2.1 x.more.2.2, .slice x.choice.1 x.choice.2.1 x.choice.2.2, .int .u8 x.by_] 37)).alloc (.cells #[.slice none 0 0, .int .i64 0, .bool false, .int .i64 0] 29)) (w.heap.size + 1 + 1) 29 #[.slice none 0 0, .int .i64 0, .bool false, .int .i64 0] := At.new_eq (by simp) _ _
  go_enter Try.func7, Try.ntmps7
  go_upto_region 1 with fail
  generalize (((w.alloc _).alloc _).alloc _ : World) = W at hEw hX hA hZ ⊢
  have hxz : w.heap.size ≠ w.heap.size + 1 + 1 := by omega
  have hxa : w.heap.size ≠ w.heap.size + 1 := by omega
  have haz : w.heap.size + 1 ≠ w.heap.size + 1 + 1 := by omega
  have hwx : w.heap.size ≤ w.heap.size := Nat.le_refl _
  have hwz : w.heap.size ≤ w.heap.size + 1 + 1 := by omega
  have hwa : w.heap.size ≤ w.heap.size + 1 := by omega
  have hdl : d < w.heap.size := hD.1.lt
  have hml : m < w.heap.size := hD.2.lt
  generalize hzb : w.heap.size + 1 + 1 = zb at *
  generalize hab : w.heap.size + 1 = ab at *
  obtain ⟨xb, hxb⟩ : ∃ xb, xb = w.heap.size := ⟨_, rfl⟩
  rw [← hxb] at hX hxz hxa ⊢
  replace hwx : w.heap.size ≤ xb := by omega
  have hdx : xb ≠ d ∧ xb ≠ m := by omega
  have hda : ab ≠ d ∧ ab ≠ m := by omega
  have hdz : zb ≠ d ∧ zb ≠ m := by omega
  clear hzb hab hxb
  have hDW := hD.ext hEw
  have hRW := hR.ext hEw
  have hE0W := hE0.trans hEw
  clear hD hR
  have v0 := hA.cell 0
  have v1 := hA.cell 1
  have v2 := hA.cell 2
  have v3 := hA.cell 3
  have v4 := hA.cell 4
  have v5 := hA.cell 5
  have v6 := hA.cell 6
  simp at v0 v1 v2 v3 v4 v5 v6
  go_wp2_with fail
  refine (cut_any x.a 6 W hoa (by omega)).mono ?_
  rintro e w1 ⟨rfl, hw1⟩
  subst hw1
  have hns := cut_size x.a 6
  generalize cut x.a 6 = n at hns ⊢
  go_wp2_with fail
  refine (cut_any x.b 60 w1 hob (by omega)).mono ?_
  rintro e w2 ⟨rfl, hw2⟩
  subst hw2
  have hss := cut_size x.b 60
  generalize cut x.b 60 = s at hss ⊢
  go_upto_region 13 with fail
  have hmr := HX.out.more.ext hE0W
  go_wp2_with fail
  refine (anames_any w2 x.a hoa _ ms hmr HX.out.msz HX.out.mlen).mono ?_
  rintro e w3 ⟨nv, rfl, hnv, hE3⟩
  have hnz : ∀ n ∈ namesOf x.a ms, n.size ≤ maxLen := fun n hn => by
    unfold namesOf at hn
    rcases List.mem_cons.1 hn with rfl | hn
    · have := cut_size x.a 6; unfold maxLen; omega
    · obtain ⟨z, _, rfl⟩ := List.mem_map.1 hn
      have := cut_size z 6; unfold maxLen; omega
  have hnl : (namesOf x.a ms).length ≤ 1048576 := by unfold namesOf; simp; omega
  have hnl2 : (namesOf x.a ms).length ≤ 1000 := by unfold namesOf; simp; omega
  have HN := Lib.hid (And.intro hnz (And.intro hnl hnl2))
  obtain ⟨NA, nc, hnve⟩ : ∃ NA nc, nv = .slice NA (namesOf x.a ms).length nc := by obtain ⟨a, b, h, _⟩ := hnv; exact ⟨a, b, by rw [h, List.length_map]⟩
  have cc := remove_any w3 d m D (hDW.ext hE3) hO nv (namesOf x.a ms) hnv hnz hnl
  rw [hnve] at cc ⊢
  clear hnve hnl hnl2 hnz
  go_wp2_with fail
  refine cc.mono ?_
  rintro e w4 ⟨rfl, hC4, hD4⟩
  clear cc
  have hX4 := ((hX.ext hE3).chg hC4 (fun e => e.elim hdx.1 hdx.2))
  have hA4 := ((hA.ext hE3).chg hC4 (fun e => e.elim hda.1 hda.2))
  have hZ4 := ((hZ.ext hE3).chg hC4 (fun e => e.elim hdz.1 hdz.2))
  have hR4 := rk_plat (hRW.ext hE3) (hDW.ext hE3) hC4
  have hCw4 := (hEw.trans hE3).chg_trans hC4
  have hE04 : Ext W0 w4 := Chg.trans (hE0W.trans hE3) hC4 (fun k hk e => by omega)
  have hmr4 := HX.out.more.ext hE04
  have hal := remove_alike hI (by unfold maxLen; omega) (namesOf x.a ms) HN.out.1
  have HCP := Lib.hid (fun (w' : World) (hE : Ext w4 w') (nv : Value) (hS : Sl w' nv ((namesOf x.a ms).map Value.string)) => rremove_any w' (.slice A D.files.length c) D.room D.lost D.armed D.files (hI.rks hN hB (hR4.ext hE)) ha0 harm nv (namesOf x.a ms) hS HN.out.2.2 (by omega))
  rw [hal.1] at HCP
  obtain ⟨_, hal2⟩ := hal
  generalize D.remove (namesOf x.a ms) = q at hD4 HCP hal2 ⊢
  obtain ⟨er, D2⟩ := q
  simp only at hD4 HCP hal2
  rw [← HQ.out.1, ← HQ.out.2.1, ← HQ.out.2.2] at HCP
  obtain ⟨a2, ha2⟩ : ∃ r, r = tryA lost D.armed - 1 := ⟨_, rfl⟩
  rw [← ha2] at HCP
  have HD2 := Lib.hid (And.intro hal2 ha2)
  clear hal2 ha2 v0 v1 v2 v3 v4 v5 v6 hX hA hZ hRW hDW hnv hE3 hmr
  go_upto_region 14 with fail
  refine wp_region_phi (Γ := Nat → Value) (sgφ [.val (.agg #[.slice A D.files.length c, .int .i64 room, .bool lost, .int .i64 fl]), .val (.pointer (some ⟨ab, 2, none⟩)), .val (.string x.a), .val (.pointer (some ⟨ab, 4, none⟩)), .val (.slice x.more.1 x.more.2.1 x.more.2.2), .g 5, .g 0, .g 3, .g 2, .val (.int .i64 er), .g 1, .any, .val (.int .i64 er)])
    (GCl 29 4 #[.slice none 0 0, .int .i64 0, .bool false, .int .i64 0] w4 (fun _ => False) (.int .i64 er) (fun X w => ∃ A2 c2, X = #[.slice A2 D2.files.length c2, .int .i64 room, .bool lost, .int .i64 a2] ∧ RkIn w (.slice A2 D2.files.length c2) D2.files) (fun v w => Sl w v ((namesOf x.a ms).map Value.string))) (by kernel_rfl) (by kernel_rfl) (by kernel_rfl) (fun _ => undef) (GCl.start _ _) ?steps ?fin
  case steps =>
    show StepsTo _ _ _ _ _ _ 13
    refine ⟨⟨⟨⟨⟨⟨⟨⟨⟨⟨⟨⟨⟨trivial, ?s0⟩, ?s1⟩, ?s2⟩, ?s3⟩, ?s4⟩, ?s5⟩, ?s6⟩, ?s7⟩, ?s8⟩, ?s9⟩, ?s10⟩, ?s11⟩, ?s12⟩
    case s0 =>
      refine sg_val (x := .agg #[.slice A D.files.length c, .int .i64 room, .bool lost, .int .i64 fl]) rfl rfl rfl (GCl.keep (j := 0) (by omega)) fun γ L v a w' st => ?_
      have h6 : L 6 = false := by
        cases hq : L 6 with
        | false => rfl
        | true =>
          have q0 := st.down 6 0 hq (by kernel_rfl)
          have q99 := st.off; rw [q0] at q99; cases q99
      have e4 := st.far 4 (by kernel_rfl)
      simp at e4
      exact exec_load_mid rfl (b := xb) (off := 0) (by simp [Act.eval, e4]) ((hX4.ext (st.inv.pre h6)).range) Try.underlying29 rfl (by kernel_rfl)
    case s1 =>
      refine sg_val (x := .pointer (some ⟨ab, 2, none⟩)) rfl rfl rfl (GCl.keep (j := 1) (by omega)) fun γ L v a w' st => ?_
      have e5 := st.far 5 (by kernel_rfl)
      simp at e5
      go_simp
    case s2 =>
      refine sg_val (x := .string x.a) rfl rfl rfl (GCl.keep (j := 2) (by omega)) fun γ L v a w' st => ?_
      have h6 : L 6 = false := by
        cases hq : L 6 with
        | false => rfl
        | true =>
          have q5 := st.down 6 5 hq (by kernel_rfl)
          have q2 := st.down 5 2 q5 (by kernel_rfl)
          have q99 := st.off; rw [q2] at q99; cases q99
      have e1 := st.val 1 82 rfl (by kernel_rfl)
      rw [show v 1 = _ from st.φ 1 (by kernel_rfl)] at e1
      simp at e1
      have c2 := (hA4.ext (st.inv.pre h6)).cell 2
      simp at c2
      go_simp
    case s3 =>
      refine sg_val (x := .pointer (some ⟨ab, 4, none⟩)) rfl rfl rfl (GCl.keep (j := 3) (by omega)) fun γ L v a w' st => ?_
      have e5 := st.far 5 (by kernel_rfl)
      simp at e5
      go_simp
    case s4 =>
      refine sg_val (x := .slice x.more.1 x.more.2.1 x.more.2.2) rfl rfl rfl (GCl.keep (j := 4) (by omega)) fun γ L v a w' st => ?_
      have h6 : L 6 = false := by
        cases hq : L 6 with
        | false => rfl
        | true =>
          have q5 := st.down 6 5 hq (by kernel_rfl)
          have q4 := st.down 5 4 q5 (by kernel_rfl)
          have q99 := st.off; rw [q4] at q99; cases q99
      have e3 := st.val 3 84 rfl (by kernel_rfl)
      rw [show v 3 = _ from st.φ 3 (by kernel_rfl)] at e3
      simp at e3
      have c4 := (hA4.ext (st.inv.pre h6)).cell 4
      simp at c4
      go_simp
    case s5 =>
      refine sg_call (k := 5) (f := 28) rfl rfl rfl (by kernel_rfl) fun γ L v a w' st => ?_
      have e2 := st.val 2 83 rfl (by kernel_rfl)
      rw [show v 2 = _ from st.φ 2 (by kernel_rfl)] at e2
      simp at e2
      have e4 := st.val 4 85 rfl (by kernel_rfl)
      rw [show v 4 = _ from st.φ 4 (by kernel_rfl)] at e4
      simp at e4
      have h6 : L 6 = false := by
        cases hq : L 6 with
        | false => rfl
        | true =>
          have q5 := st.down 6 5 hq (by kernel_rfl)
          have q99 := st.off; rw [q5] at q99; cases q99
      have h7 : L 7 = false := by
        cases hq : L 7 with
        | false => rfl
        | true =>
          have q6 := st.down 7 6 hq (by kernel_rfl)
          have q5 := st.down 6 5 q6 (by kernel_rfl)
          have q99 := st.off; rw [q5] at q99; cases q99
      have h8 : L 8 = false := by
        cases hq : L 8 with
        | false => rfl
        | true =>
          have q7 := st.down 8 7 hq (by kernel_rfl)
          have q6 := st.down 7 6 q7 (by kernel_rfl)
          have q5 := st.down 6 5 q6 (by kernel_rfl)
          have q99 := st.off; rw [q5] at q99; cases q99
      have h11 : L 11 = false := by
        cases hq : L 11 with
        | false => rfl
        | true =>
          have q8 := st.down 11 8 hq (by kernel_rfl)
          have q7 := st.down 8 7 q8 (by kernel_rfl)
          have q6 := st.down 7 6 q7 (by kernel_rfl)
          have q5 := st.down 6 5 q6 (by kernel_rfl)
          have q99 := st.off; rw [q5] at q99; cases q99
      have hEx := st.inv.pre h6
      refine ⟨#[.string x.a, .slice x.more.1 x.more.2.1 x.more.2.2], by go_simp, ?_⟩
      refine (anames_any w' x.a hoa _ ms (hmr4.ext hEx) HX.out.msz HX.out.mlen).mono ?_
      rintro e w2' ⟨v', rfl, hv', hE'⟩
      exact ⟨_, rfl, GCl.named st.inv h6 h7 h8 h11 hE' hv'⟩
    case s6 =>
      refine sg_call (k := 0) (f := 29) rfl rfl rfl (by kernel_rfl) fun γ L v a w' st => ?_
      have e0 := st.val 0 81 rfl (by kernel_rfl)
      rw [show v 0 = _ from st.φ 0 (by kernel_rfl)] at e0
      simp at e0
      have e5 := st.val 5 86 rfl (by kernel_rfl)
      rw [show v 5 = _ from st.φ 5 (by kernel_rfl)] at e5
      simp at e5
      have h6 : L 6 = false := st.off
      have h7 : L 7 = false := by
        cases hq : L 7 with
        | false => rfl
        | true =>
          have q6 := st.down 7 6 hq (by kernel_rfl)
          have q99 := st.off; rw [q6] at q99; cases q99
      have h8 : L 8 = false := by
        cases hq : L 8 with
        | false => rfl
        | true =>
          have q7 := st.down 8 7 hq (by kernel_rfl)
          have q6 := st.down 7 6 q7 (by kernel_rfl)
          have q99 := st.off; rw [q6] at q99; cases q99
      have h11 : L 11 = false := by
        cases hq : L 11 with
        | false => rfl
        | true =>
          have q8 := st.down 11 8 hq (by kernel_rfl)
          have q7 := st.down 8 7 q8 (by kernel_rfl)
          have q6 := st.down 7 6 q7 (by kernel_rfl)
          have q99 := st.off; rw [q6] at q99; cases q99
      have d5 := st.dep 5 (by kernel_rfl)
      have hEx := st.inv.pre h6
      refine ⟨#[.agg #[.slice A D.files.length c, .int .i64 room, .bool lost, .int .i64 fl], γ 5], by go_simp, ?_⟩
      have cp := HCP.out w' hEx (γ 5) (st.inv.nm d5 h6)
      refine cp.mono ?_
      rintro e w2' ⟨lv2, rfl, hR2, hE'⟩
      obtain ⟨A2, c2, rfl⟩ := rk_slice hR2
      exact ⟨_, rfl, GCl.called st.inv (fun k hk => hk.elim) hE' h7 h8 h11 rfl (by simp [Value.oneCell']) ⟨A2, c2, rfl, hR2⟩⟩
    case s7 =>
      refine sg_new (k := 3) rfl rfl rfl (by kernel_rfl) fun γ L v a w' st => ?_
      have e6 := st.val 6 87 rfl (by kernel_rfl)
      rw [show v 6 = _ from st.φ 6 (by kernel_rfl)] at e6
      simp at e6
      exact ⟨γ 0, w', by go_simp, GCl.moved st.inv⟩
    case s8 =>
      refine sg_new (k := 2) rfl rfl rfl (by kernel_rfl) fun γ L v a w' st => ?_
      have e7 := st.val 7 80 rfl (by kernel_rfl)
      have hd7 := st.dep 7 (by kernel_rfl)
      rw [show v 7 = _ from st.φ 7 (by kernel_rfl), st.inv.mv hd7] at e7
      simp at e7
      obtain ⟨X2, hγ, _⟩ := st.inv.call (st.down 7 6 hd7 (by kernel_rfl))
      refine ⟨tupOf (γ 0) 0, w', ?_, GCl.got st.inv⟩
      rw [hγ] at e7 ⊢
      simp [tupOf]
      go_simp
    case s9 =>
      refine sg_val (x := .int .i64 er) rfl rfl rfl (GCl.keep (j := 9) (by omega)) fun γ L v a w' st => ?_
      have e7 := st.val 7 80 rfl (by kernel_rfl)
      have hd7 := st.dep 7 (by kernel_rfl)
      rw [show v 7 = _ from st.φ 7 (by kernel_rfl), st.inv.mv hd7] at e7
      simp at e7
      obtain ⟨X2, hγ, _⟩ := st.inv.call (st.down 7 6 hd7 (by kernel_rfl))
      rw [hγ] at e7
      go_simp
    case s10 =>
      refine sg_new (k := 1) rfl rfl rfl (by kernel_rfl) fun γ L v a w' st => ?_
      have h11 : L 11 = false := by
        cases hq : L 11 with
        | false => rfl
        | true =>
          have q10 := st.down 11 10 hq (by kernel_rfl)
          have q99 := st.off; rw [q10] at q99; cases q99
      exact ⟨.pointer (some ⟨w'.heap.size, 0, none⟩), w'.alloc (.cells #[.slice none 0 0, .int .i64 0, .bool false, .int .i64 0] 29), by go_simp, GCl.new st.inv (fun X w w' ⟨a1, a2, a3, a4⟩ hE => ⟨a1, a2, a3, a4.ext hE⟩) (fun v w w' h hE => h.ext hE) h11⟩
    case s11 =>
      refine sg_skip rfl rfl rfl fun γ L v a w' st => ?_
      have d8 := st.dep 8 (by kernel_rfl)
      have d10 := st.dep 10 (by kernel_rfl)
      have d7 := st.down 8 7 d8 (by kernel_rfl)
      have d6 := st.down 7 6 d7 (by kernel_rfl)
      obtain ⟨X2, hγ, a2, a3, _⟩ := st.inv.call d6
      obtain ⟨g, g1, g2, g3, _⟩ := st.inv.n1 d10
      replace g3 := g3 st.off
      have e1 := st.val 8 88 rfl (by kernel_rfl)
      rw [show v 8 = _ from st.φ 8 (by kernel_rfl), st.inv.e1 d8] at e1
      have e2 := st.val 10 14 rfl (by kernel_rfl)
      rw [show v 10 = _ from st.φ 10 (by kernel_rfl), g1] at e2
      simp at e2
      have hta : tupOf (γ 0) 0 = .agg (arrOf (tupOf (γ 0) 0)) := by rw [hγ]; rfl
      have hsz : (arrOf (tupOf (γ 0) 0)).size = 4 := by rw [hγ]; exact a2
      have hon : (arrOf (tupOf (γ 0) 0)).all (·.oneCell') = true := by rw [hγ]; exact a3
      refine ⟨_, exec_store_mid rfl (b := g) (off := 0) (cells := arrOf (tupOf (γ 0) 0)) (by simp [Act.eval, e2]) (by show a.tmps.getD 88 undef = _; rw [e1]; exact hta) (by rw [hsz]; exact g3.there) (by rw [hsz]; kernel_rfl) hon, ?_⟩
      exact GCl.stored st.inv rfl (fun X w w' g ⟨a1, a2, a3, a4⟩ hg hA hC => ⟨a1, a2, a3, Sln.chg a4 hC (rk_apart a4 hA dz_nostr)⟩) d6 d10 st.off g1
    case s12 =>
      refine sg_val (x := .int .i64 er) rfl rfl rfl (GCl.keep (j := 12) (by omega)) fun γ L v a w' st => ?_
      have e9 := st.val 9 89 rfl (by kernel_rfl)
      rw [show v 9 = _ from st.φ 9 (by kernel_rfl)] at e9
      simp at e9
      go_simp
  case fin =>
    intro γ L v wx hall hG hφ
    have h10 : v 10 = γ 1 := hφ 10 (by decide)
    have h12 : v 12 = .int .i64 er := hφ 12 (by decide)
    obtain ⟨X2, hγ, _, _, A2, c2, rfl, hRx⟩ := hG.call (hall 6 (by decide))
    obtain ⟨gb, g1, g2, _, g4⟩ := hG.n1 (hall 10 (by decide))
    have hY : At wx gb 29 #[.slice A2 D2.files.length c2, .int .i64 room, .bool lost, .int .i64 a2] := by have h := g4 (hall 11 (by decide)); rw [hγ] at h; exact h
    rw [g1] at h10
    have hEx : Ext w4 wx := hG.kp
    have hgb : zb ≠ gb := fun e => by have := hZ4.lt; omega
    clear hall hφ hG hγ g4 HCP
    change Exit.then _ _ _ (putAll _ v _ 13) _
    simp only [putAll, dstOf, Act.put]
    simp only [List.getElem?_toArray, List.getElem?_cons_zero, List.getElem?_cons_succ, Option.bind_some, List.setIfInBounds_toArray, List.set_cons_zero, List.set_cons_succ]
    rw [h10, h12]
    clear h10 h12 g1
    have hZ5 := hZ4.ext hEx
    have hD5 := hD4.ext hEx
    have hCw := hCw4.ext_trans hEx
    clear hX4 hA4 hZ4 hD4 hR4 hCw4 hmr4
    have y0 := hY.cell 0
    have y1 := hY.cell 1
    have y2 := hY.cell 2
    have y3 := hY.cell 3
    simp at y0 y1 y2 y3
    have z0 := hZ5.cell 0
    have z1 := hZ5.cell 1
    have z2 := hZ5.cell 2
    have z3 := hZ5.cell 3
    have g0 := hZ5.frozen 0
    have g1 := hZ5.frozen 1
    have g2 := hZ5.frozen 2
    have g3 := hZ5.frozen 3
    simp at z0 z1 z2 z3
    go_wp2_with fail
    have hZ9 := at_anew hZ5 (vs := #[.slice A2 D2.files.length c2, .int .i64 room, .bool lost, .int .i64 a2]) rfl
    refine bodyPost_ret (v := .tuple #[.agg #[.slice A2 D2.files.length c2, .int .i64 room, .bool lost, .int .i64 a2], .bool true]) (results_ct Try.results7 _ rfl (hZ9.loadv Try.underlying29 rfl (by kernel_rfl))) rfl ?_
    have hCz : Chg (· = zb) wx ((((wx.setCell ⟨zb, 0, none⟩ (.slice A2 D2.files.length c2)).setCell ⟨zb, 1, none⟩ (.int .i64 room)).setCell ⟨zb, 2, none⟩ (.bool lost)).setCell ⟨zb, 3, none⟩ (.int .i64 a2)) := chg_setAll wx zb [.slice A2 D2.files.length c2, .int .i64 room, .bool lost, .int .i64 a2] 0 wx (Chg.refl _ _)
    obtain ⟨⟨b1, b2, b3, b4⟩, b5⟩ := HD2.out
    refine ⟨_, D2, ?_, ⟨hD5.1.chg hCz hdz.1.symm, hD5.2.chg hCz hdz.2.symm⟩, Sln.chg hRx hCz (rk_apart hRx hZ5 dz_nostr), b4.mono (by omega) (by omega), ?_, ?_⟩
    · rw [b2, b3, b5, ← HQ.out.2.1]
    · rw [b1, ← HQ.out.1]
    · exact hCw.trans hCz (fun k hk e => by have e' : k = zb := e; omega)

set_option maxRecDepth 100000 in
set_option maxHeartbeats 2000000 in
theorem does_4 (w W0 : World) (d m : Nat) (D : Dk) (N B : Nat) (hD : DkAt w d m D) (hI : Inv N B D) (hN : N ≤ 1000) (hB : B ≤ 10000) (lv : Value) (hR : RkIn w lv D.files) (x : Act) (ms : List ByteArray) (ch : List Int) (b : UInt8) (hx : ActIn W0 x ms ch b) (hE0 : Ext W0 w) (hd : W0.heap.size ≤ d) (hm : W0.heap.size ≤ m) (hk : x.kind = 4) :
    Calls Try.prog 7 #[.pointer (some ⟨d, 0, none⟩), .agg #[lv, .int .i64 D.room, .bool D.lost, .int .i64 (D.armed - 1)], .agg #[.int .i64 x.kind, .int .i64 x.num, .string x.a, .string x.b, .slice x.more.1 x.more.2.1 x.more.2.2, .slice x.choice.1 x.choice.2.1 x.choice.2.2, .int .u8 x.by_]] w (DoOut d m N B D.room w) := by
  obtain ⟨A, c, rfl⟩ := rk_slice hR
  obtain ⟨hsm, hlen, harm⟩ := hI.small hN hB
  have hO := hI.ok
  have ha0 := hO.a0
  have hr0 : 0 ≤ D.room ∧ D.room ≤ 9223372036854775807 := ⟨by have := hO.u0; have := hO.u1; omega, hO.r1⟩
  have HSM := Lib.hid (And.intro hsm (And.intro hI (And.intro hN hB)))
  have k1 : (x.kind == 1) = false := by simpa using fun e : x.kind = 1 => by omega
  have k2 : (x.kind == 2) = false := by simpa using fun e : x.kind = 2 => by omega
  have k3 : (x.kind == 3) = false := by simpa using fun e : x.kind = 3 => by omega
  have k4 : (x.kind == 4) = true := by simpa using hk
  have k5 : (x.kind == 5) = false := by simpa using fun e : x.kind = 5 => by omega
  have k6 : (x.kind == 6) = false := by simpa using fun e : x.kind = 6 => by omega
  have k7 : (x.kind == 7) = false := by simpa using fun e : x.kind = 7 => by omega
  have k8 : (x.kind == 8) = false := by simpa using fun e : x.kind = 8 => by omega
  have k9 : (x.kind == 9) = false := by simpa using fun e : x.kind = 9 => by omega
  have k10 : (x.kind == 10) = false := by simpa using fun e : x.kind = 10 => by omega
  have k11 : (x.kind == 11) = false := by simpa using fun e : x.kind = 11 => by omega
  clear hk
  obtain ⟨room, hroom⟩ : ∃ r, r = D.room := ⟨_, rfl⟩
  obtain ⟨lost, hlost⟩ : ∃ r, r = D.lost := ⟨_, rfl⟩
  obtain ⟨fl, hfl⟩ : ∃ r, r = D.armed - 1 := ⟨_, rfl⟩
  have HQ := Lib.hid (And.intro hroom (And.intro hlost hfl))
  rw [← hroom, ← hlost, ← hfl]
  clear hroom hlost hfl
  have hoa : x.a.size ≤ maxLen := hx.ok.2.1
  have hob : x.b.size ≤ maxLen := hx.ok.2.2
  have hon := hx.ok.1
  have HX := Lib.hid hx
  clear hx hsm
  have hEw : Ext w (((w.alloc (.cells #[.slice A D.files.length c, .int .i64 room, .bool lost, .int .i64 fl] 29)).alloc (.cells #[.int .i64 x.kind, .int .i64 x.num, .string x.a, .string x.b, .slice x.more.1 x.more.2.1 x.more.2.2, .slice x.choice.1 x.choice.2.1 x.choice.2.2, .int .u8 x.by_] 37)).alloc (.cells #[.slice none 0 0, .int .i64 0, .bool false, .int .i64 0] 29)) := (((Ext.refl w).alloc _).alloc _).alloc _
  have hX : At (((w.alloc (.cells #[.slice A D.files.length c, .int .i64 room, .bool lost, .int .i64 fl] 29)).alloc (.cells #[.int .i64 x.kind, .int .i64 x.num, .string x.a, .string x.b, .slice x.more.1 x.more.2.1 x.more.2.2, .slice x.choice.1 x.choice.2.1 x.choice.2.2, .int .u8 x.by_] 37)).alloc (.cells #[.slice none 0 0, .int .i64 0, .bool false, .int .i64 0] 29)) w.heap.size 29 #[.slice A D.files.length c, .int .i64 room, .bool lost, .int .i64 fl] := ((At.new _ _ _).alloc _).alloc _
  have hA : At (((w.alloc (.cells #[.slice A D.files.length c, .int .i64 room, .bool lost, .int .i64 fl] 29)).alloc (.cells #[.int .i64 x.kind, .int .i64 x.num, .string x.a, .string x.b, .slice x.more.1 x.more.2.1 x.more.2.2, .slice x.choice.1 x.choice.2.1 x.choice.2.2, .int .u8 x.by_] 37)).alloc (.cells #[.slice none 0 0, .int .i64 0, .bool false, .int .i64 0] 29)) (w.heap.size + 1) 37 #[.int .i64 x.kind, .int .i64 x.num, .string x.a, .string x.b, .slice x.more.1 x.more.2.1 x.more.2.2, .slice x.choice.1 x.choice.2.1 x.choice.2.2, .int .u8 x.by_] := (At.new_eq (by simp) _ _).alloc _
  have hZ : At (((w.alloc (.cells #[.slice A D.files.length c, .int .i64 room, .bool lost, .int .i64 fl] 29)).alloc (.cells #[.int .i64 x.kind, .int .i64 x.num, .string x.a, .string x.b, .slice x.more.1 x.more.2.1 x.more.2.2, .slice x.choice.1 x.choice.2.1 x.choice.2.2, .int .u8 x.by_] 37)).alloc (.cells #[.slice none 0 0, .int .i64 0, .bool false, .int .i64 0] 29)) (w.heap.size + 1 + 1) 29 #[.slice none 0 0, .int .i64 0, .bool false, .int .i64 0] := At.new_eq (by simp) _ _
  go_enter Try.func7, Try.ntmps7
  go_upto_region 1 with fail
  generalize (((w.alloc _).alloc _).alloc _ : World) = W at hEw hX hA hZ ⊢
  have hxz : w.heap.size ≠ w.heap.size + 1 + 1 := by omega
  have hxa : w.heap.size ≠ w.heap.size + 1 := by omega
  have haz : w.heap.size + 1 ≠ w.heap.size + 1 + 1 := by omega
  have hwx : w.heap.size ≤ w.heap.size := Nat.le_refl _
  have hwz : w.heap.size ≤ w.heap.size + 1 + 1 := by omega
  have hwa : w.heap.size ≤ w.heap.size + 1 := by omega
  have hdl : d < w.heap.size := hD.1.lt
  have hml : m < w.heap.size := hD.2.lt
  generalize hzb : w.heap.size + 1 + 1 = zb at *
  generalize hab : w.heap.size + 1 = ab at *
  obtain ⟨xb, hxb⟩ : ∃ xb, xb = w.heap.size := ⟨_, rfl⟩
  rw [← hxb] at hX hxz hxa ⊢
  replace hwx : w.heap.size ≤ xb := by omega
  have hdx : xb ≠ d ∧ xb ≠ m := by omega
  have hda : ab ≠ d ∧ ab ≠ m := by omega
  have hdz : zb ≠ d ∧ zb ≠ m := by omega
  clear hzb hab hxb
  have hDW := hD.ext hEw
  have hRW := hR.ext hEw
  have hE0W := hE0.trans hEw
  clear hD hR
  have v0 := hA.cell 0
  have v1 := hA.cell 1
  have v2 := hA.cell 2
  have v3 := hA.cell 3
  have v4 := hA.cell 4
  have v5 := hA.cell 5
  have v6 := hA.cell 6
  simp at v0 v1 v2 v3 v4 v5 v6
  go_wp2_with fail
  refine (cut_any x.a 6 W hoa (by omega)).mono ?_
  rintro e w1 ⟨rfl, hw1⟩
  subst hw1
  have hns := cut_size x.a 6
  generalize cut x.a 6 = n at hns ⊢
  go_wp2_with fail
  refine (cut_any x.b 60 w1 hob (by omega)).mono ?_
  rintro e w2 ⟨rfl, hw2⟩
  subst hw2
  have hss := cut_size x.b 60
  generalize cut x.b 60 = s at hss ⊢
  go_upto_region 17 with fail
  have hmr := HX.out.more.ext hE0W
  go_wp2_with fail
  refine (anames_any w2 x.a hoa _ ms hmr HX.out.msz HX.out.mlen).mono ?_
  rintro e w3 ⟨nv, rfl, hnv, hE3⟩
  have hnz : ∀ n ∈ namesOf x.a ms, n.size ≤ maxLen := fun n hn => by
    unfold namesOf at hn
    rcases List.mem_cons.1 hn with rfl | hn
    · have := cut_size x.a 6; unfold maxLen; omega
    · obtain ⟨z, _, rfl⟩ := List.mem_map.1 hn
      have := cut_size z 6; unfold maxLen; omega
  have hnl : (namesOf x.a ms).length ≤ 1048576 := by unfold namesOf; simp; omega
  have hnl2 : (namesOf x.a ms).length ≤ 1000 := by unfold namesOf; simp; omega
  have HN := Lib.hid (And.intro hnz (And.intro hnl hnl2))
  obtain ⟨NA, nc, hnve⟩ : ∃ NA nc, nv = .slice NA (namesOf x.a ms).length nc := by obtain ⟨a, b, h, _⟩ := hnv; exact ⟨a, b, by rw [h, List.length_map]⟩
  have cc := sync_any w3 d m D (hDW.ext hE3) hO nv (namesOf x.a ms) hnv hnz hnl (by omega) (fun e => by unfold namesOf at e; cases e)
  rw [hnve] at cc ⊢
  clear hnve hnl hnl2 hnz
  go_wp2_with fail
  refine cc.mono ?_
  rintro e w4 ⟨rfl, hC4, hD4⟩
  clear cc
  have hX4 := ((hX.ext hE3).chg hC4 (fun e => e.elim hdx.1 hdx.2))
  have hA4 := ((hA.ext hE3).chg hC4 (fun e => e.elim hda.1 hda.2))
  have hZ4 := ((hZ.ext hE3).chg hC4 (fun e => e.elim hdz.1 hdz.2))
  have hR4 := rk_plat (hRW.ext hE3) (hDW.ext hE3) hC4
  have hCw4 := (hEw.trans hE3).chg_trans hC4
  have hE04 : Ext W0 w4 := Chg.trans (hE0W.trans hE3) hC4 (fun k hk e => by omega)
  have hmr4 := HX.out.more.ext hE04
  have hal := sync_alike hI (by unfold maxLen; omega) (namesOf x.a ms) HN.out.1
  have HCP := Lib.hid (fun (w' : World) (hE : Ext w4 w') (nv : Value) (hS : Sl w' nv ((namesOf x.a ms).map Value.string)) => rsync_any w' (.slice A D.files.length c) D.room D.lost D.armed D.files (hI.rks hN hB (hR4.ext hE)) ha0 harm nv (namesOf x.a ms) hS HN.out.2.2 (by omega))
  rw [hal.1] at HCP
  obtain ⟨_, hal2⟩ := hal
  generalize D.sync (namesOf x.a ms) = q at hD4 HCP hal2 ⊢
  obtain ⟨er, D2⟩ := q
  simp only at hD4 HCP hal2
  rw [← HQ.out.1, ← HQ.out.2.1, ← HQ.out.2.2] at HCP
  obtain ⟨a2, ha2⟩ : ∃ r, r = tryA lost D.armed - 1 := ⟨_, rfl⟩
  rw [← ha2] at HCP
  have HD2 := Lib.hid (And.intro hal2 ha2)
  clear hal2 ha2 v0 v1 v2 v3 v4 v5 v6 hX hA hZ hRW hDW hnv hE3 hmr
  go_upto_region 18 with fail
  refine wp_region_phi (Γ := Nat → Value) (sgφ [.val (.agg #[.slice A D.files.length c, .int .i64 room, .bool lost, .int .i64 fl]), .val (.pointer (some ⟨ab, 2, none⟩)), .val (.string x.a), .val (.pointer (some ⟨ab, 4, none⟩)), .val (.slice x.more.1 x.more.2.1 x.more.2.2), .g 5, .g 0, .g 3, .g 2, .val (.int .i64 er), .g 1, .any, .val (.int .i64 er)])
    (GCl 29 4 #[.slice none 0 0, .int .i64 0, .bool false, .int .i64 0] w4 (fun _ => False) (.int .i64 er) (fun X w => ∃ A2 c2, X = #[.slice A2 D2.files.length c2, .int .i64 room, .bool lost, .int .i64 a2] ∧ RkIn w (.slice A2 D2.files.length c2) D2.files) (fun v w => Sl w v ((namesOf x.a ms).map Value.string))) (by kernel_rfl) (by kernel_rfl) (by kernel_rfl) (fun _ => undef) (GCl.start _ _) ?steps ?fin
  case steps =>
    show StepsTo _ _ _ _ _ _ 13
    refine ⟨⟨⟨⟨⟨⟨⟨⟨⟨⟨⟨⟨⟨trivial, ?s0⟩, ?s1⟩, ?s2⟩, ?s3⟩, ?s4⟩, ?s5⟩, ?s6⟩, ?s7⟩, ?s8⟩, ?s9⟩, ?s10⟩, ?s11⟩, ?s12⟩
    case s0 =>
      refine sg_val (x := .agg #[.slice A D.files.length c, .int .i64 room, .bool lost, .int .i64 fl]) rfl rfl rfl (GCl.keep (j := 0) (by omega)) fun γ L v a w' st => ?_
      have h6 : L 6 = false := by
        cases hq : L 6 with
        | false => rfl
        | true =>
          have q0 := st.down 6 0 hq (by kernel_rfl)
          have q99 := st.off; rw [q0] at q99; cases q99
      have e4 := st.far 4 (by kernel_rfl)
      simp at e4
      exact exec_load_mid rfl (b := xb) (off := 0) (by simp [Act.eval, e4]) ((hX4.ext (st.inv.pre h6)).range) Try.underlying29 rfl (by kernel_rfl)
    case s1 =>
      refine sg_val (x := .pointer (some ⟨ab, 2, none⟩)) rfl rfl rfl (GCl.keep (j := 1) (by omega)) fun γ L v a w' st => ?_
      have e5 := st.far 5 (by kernel_rfl)
      simp at e5
      go_simp
    case s2 =>
      refine sg_val (x := .string x.a) rfl rfl rfl (GCl.keep (j := 2) (by omega)) fun γ L v a w' st => ?_
      have h6 : L 6 = false := by
        cases hq : L 6 with
        | false => rfl
        | true =>
          have q5 := st.down 6 5 hq (by kernel_rfl)
          have q2 := st.down 5 2 q5 (by kernel_rfl)
          have q99 := st.off; rw [q2] at q99; cases q99
      have e1 := st.val 1 105 rfl (by kernel_rfl)
      rw [show v 1 = _ from st.φ 1 (by kernel_rfl)] at e1
      simp at e1
      have c2 := (hA4.ext (st.inv.pre h6)).cell 2
      simp at c2
      go_simp
    case s3 =>
      refine sg_val (x := .pointer (some ⟨ab, 4, none⟩)) rfl rfl rfl (GCl.keep (j := 3) (by omega)) fun γ L v a w' st => ?_
      have e5 := st.far 5 (by kernel_rfl)
      simp at e5
      go_simp
    case s4 =>
      refine sg_val (x := .slice x.more.1 x.more.2.1 x.more.2.2) rfl rfl rfl (GCl.keep (j := 4) (by omega)) fun γ L v a w' st => ?_
      have h6 : L 6 = false := by
        cases hq : L 6 with
        | false => rfl
        | true =>
          have q5 := st.down 6 5 hq (by kernel_rfl)
          have q4 := st.down 5 4 q5 (by kernel_rfl)
          have q99 := st.off; rw [q4] at q99; cases q99
      have e3 := st.val 3 107 rfl (by kernel_rfl)
      rw [show v 3 = _ from st.φ 3 (by kernel_rfl)] at e3
      simp at e3
      have c4 := (hA4.ext (st.inv.pre h6)).cell 4
      simp at c4
      go_simp
    case s5 =>
      refine sg_call (k := 5) (f := 28) rfl rfl rfl (by kernel_rfl) fun γ L v a w' st => ?_
      have e2 := st.val 2 106 rfl (by kernel_rfl)
      rw [show v 2 = _ from st.φ 2 (by kernel_rfl)] at e2
      simp at e2
      have e4 := st.val 4 108 rfl (by kernel_rfl)
      rw [show v 4 = _ from st.φ 4 (by kernel_rfl)] at e4
      simp at e4
      have h6 : L 6 = false := by
        cases hq : L 6 with
        | false => rfl
        | true =>
          have q5 := st.down 6 5 hq (by kernel_rfl)
          have q99 := st.off; rw [q5] at q99; cases q99
      have h7 : L 7 = false := by
        cases hq : L 7 with
        | false => rfl
        | true =>
          have q6 := st.down 7 6 hq (by kernel_rfl)
          have q5 := st.down 6 5 q6 (by kernel_rfl)
          have q99 := st.off; rw [q5] at q99; cases q99
      have h8 : L 8 = false := by
        cases hq : L 8 with
        | false => rfl
        | true =>
          have q7 := st.down 8 7 hq (by kernel_rfl)
          have q6 := st.down 7 6 q7 (by kernel_rfl)
          have q5 := st.down 6 5 q6 (by kernel_rfl)
          have q99 := st.off; rw [q5] at q99; cases q99
      have h11 : L 11 = false := by
        cases hq : L 11 with
        | false => rfl
        | true =>
          have q8 := st.down 11 8 hq (by kernel_rfl)
          have q7 := st.down 8 7 q8 (by kernel_rfl)
          have q6 := st.down 7 6 q7 (by kernel_rfl)
          have q5 := st.down 6 5 q6 (by kernel_rfl)
          have q99 := st.off; rw [q5] at q99; cases q99
      have hEx := st.inv.pre h6
      refine ⟨#[.string x.a, .slice x.more.1 x.more.2.1 x.more.2.2], by go_simp, ?_⟩
      refine (anames_any w' x.a hoa _ ms (hmr4.ext hEx) HX.out.msz HX.out.mlen).mono ?_
      rintro e w2' ⟨v', rfl, hv', hE'⟩
      exact ⟨_, rfl, GCl.named st.inv h6 h7 h8 h11 hE' hv'⟩
    case s6 =>
      refine sg_call (k := 0) (f := 30) rfl rfl rfl (by kernel_rfl) fun γ L v a w' st => ?_
      have e0 := st.val 0 104 rfl (by kernel_rfl)
      rw [show v 0 = _ from st.φ 0 (by kernel_rfl)] at e0
      simp at e0
      have e5 := st.val 5 109 rfl (by kernel_rfl)
      rw [show v 5 = _ from st.φ 5 (by kernel_rfl)] at e5
      simp at e5
      have h6 : L 6 = false := st.off
      have h7 : L 7 = false := by
        cases hq : L 7 with
        | false => rfl
        | true =>
          have q6 := st.down 7 6 hq (by kernel_rfl)
          have q99 := st.off; rw [q6] at q99; cases q99
      have h8 : L 8 = false := by
        cases hq : L 8 with
        | false => rfl
        | true =>
          have q7 := st.down 8 7 hq (by kernel_rfl)
          have q6 := st.down 7 6 q7 (by kernel_rfl)
          have q99 := st.off; rw [q6] at q99; cases q99
      have h11 : L 11 = false := by
        cases hq : L 11 with
        | false => rfl
        | true =>
          have q8 := st.down 11 8 hq (by kernel_rfl)
          have q7 := st.down 8 7 q8 (by kernel_rfl)
          have q6 := st.down 7 6 q7 (by kernel_rfl)
          have q99 := st.off; rw [q6] at q99; cases q99
      have d5 := st.dep 5 (by kernel_rfl)
      have hEx := st.inv.pre h6
      refine ⟨#[.agg #[.slice A D.files.length c, .int .i64 room, .bool lost, .int .i64 fl], γ 5], by go_simp, ?_⟩
      have cp := HCP.out w' hEx (γ 5) (st.inv.nm d5 h6)
      refine cp.mono ?_
      rintro e w2' ⟨lv2, rfl, hR2, hE'⟩
      obtain ⟨A2, c2, rfl⟩ := rk_slice hR2
      exact ⟨_, rfl, GCl.called st.inv (fun k hk => hk.elim) hE' h7 h8 h11 rfl (by simp [Value.oneCell']) ⟨A2, c2, rfl, hR2⟩⟩
    case s7 =>
      refine sg_new (k := 3) rfl rfl rfl (by kernel_rfl) fun γ L v a w' st => ?_
      have e6 := st.val 6 110 rfl (by kernel_rfl)
      rw [show v 6 = _ from st.φ 6 (by kernel_rfl)] at e6
      simp at e6
      exact ⟨γ 0, w', by go_simp, GCl.moved st.inv⟩
    case s8 =>
      refine sg_new (k := 2) rfl rfl rfl (by kernel_rfl) fun γ L v a w' st => ?_
      have e7 := st.val 7 103 rfl (by kernel_rfl)
      have hd7 := st.dep 7 (by kernel_rfl)
      rw [show v 7 = _ from st.φ 7 (by kernel_rfl), st.inv.mv hd7] at e7
      simp at e7
      obtain ⟨X2, hγ, _⟩ := st.inv.call (st.down 7 6 hd7 (by kernel_rfl))
      refine ⟨tupOf (γ 0) 0, w', ?_, GCl.got st.inv⟩
      rw [hγ] at e7 ⊢
      simp [tupOf]
      go_simp
    case s9 =>
      refine sg_val (x := .int .i64 er) rfl rfl rfl (GCl.keep (j := 9) (by omega)) fun γ L v a w' st => ?_
      have e7 := st.val 7 103 rfl (by kernel_rfl)
      have hd7 := st.dep 7 (by kernel_rfl)
      rw [show v 7 = _ from st.φ 7 (by kernel_rfl), st.inv.mv hd7] at e7
      simp at e7
      obtain ⟨X2, hγ, _⟩ := st.inv.call (st.down 7 6 hd7 (by kernel_rfl))
      rw [hγ] at e7
      go_simp
    case s10 =>
      refine sg_new (k := 1) rfl rfl rfl (by kernel_rfl) fun γ L v a w' st => ?_
      have h11 : L 11 = false := by
        cases hq : L 11 with
        | false => rfl
        | true =>
          have q10 := st.down 11 10 hq (by kernel_rfl)
          have q99 := st.off; rw [q10] at q99; cases q99
      exact ⟨.pointer (some ⟨w'.heap.size, 0, none⟩), w'.alloc (.cells #[.slice none 0 0, .int .i64 0, .bool false, .int .i64 0] 29), by go_simp, GCl.new st.inv (fun X w w' ⟨a1, a2, a3, a4⟩ hE => ⟨a1, a2, a3, a4.ext hE⟩) (fun v w w' h hE => h.ext hE) h11⟩
    case s11 =>
      refine sg_skip rfl rfl rfl fun γ L v a w' st => ?_
      have d8 := st.dep 8 (by kernel_rfl)
      have d10 := st.dep 10 (by kernel_rfl)
      have d7 := st.down 8 7 d8 (by kernel_rfl)
      have d6 := st.down 7 6 d7 (by kernel_rfl)
      obtain ⟨X2, hγ, a2, a3, _⟩ := st.inv.call d6
      obtain ⟨g, g1, g2, g3, _⟩ := st.inv.n1 d10
      replace g3 := g3 st.off
      have e1 := st.val 8 111 rfl (by kernel_rfl)
      rw [show v 8 = _ from st.φ 8 (by kernel_rfl), st.inv.e1 d8] at e1
      have e2 := st.val 10 17 rfl (by kernel_rfl)
      rw [show v 10 = _ from st.φ 10 (by kernel_rfl), g1] at e2
      simp at e2
      have hta : tupOf (γ 0) 0 = .agg (arrOf (tupOf (γ 0) 0)) := by rw [hγ]; rfl
      have hsz : (arrOf (tupOf (γ 0) 0)).size = 4 := by rw [hγ]; exact a2
      have hon : (arrOf (tupOf (γ 0) 0)).all (·.oneCell') = true := by rw [hγ]; exact a3
      refine ⟨_, exec_store_mid rfl (b := g) (off := 0) (cells := arrOf (tupOf (γ 0) 0)) (by simp [Act.eval, e2]) (by show a.tmps.getD 111 undef = _; rw [e1]; exact hta) (by rw [hsz]; exact g3.there) (by rw [hsz]; kernel_rfl) hon, ?_⟩
      exact GCl.stored st.inv rfl (fun X w w' g ⟨a1, a2, a3, a4⟩ hg hA hC => ⟨a1, a2, a3, Sln.chg a4 hC (rk_apart a4 hA dz_nostr)⟩) d6 d10 st.off g1
    case s12 =>
      refine sg_val (x := .int .i64 er) rfl rfl rfl (GCl.keep (j := 12) (by omega)) fun γ L v a w' st => ?_
      have e9 := st.val 9 112 rfl (by kernel_rfl)
      rw [show v 9 = _ from st.φ 9 (by kernel_rfl)] at e9
      simp at e9
      go_simp
  case fin =>
    intro γ L v wx hall hG hφ
    have h10 : v 10 = γ 1 := hφ 10 (by decide)
    have h12 : v 12 = .int .i64 er := hφ 12 (by decide)
    obtain ⟨X2, hγ, _, _, A2, c2, rfl, hRx⟩ := hG.call (hall 6 (by decide))
    obtain ⟨gb, g1, g2, _, g4⟩ := hG.n1 (hall 10 (by decide))
    have hY : At wx gb 29 #[.slice A2 D2.files.length c2, .int .i64 room, .bool lost, .int .i64 a2] := by have h := g4 (hall 11 (by decide)); rw [hγ] at h; exact h
    rw [g1] at h10
    have hEx : Ext w4 wx := hG.kp
    have hgb : zb ≠ gb := fun e => by have := hZ4.lt; omega
    clear hall hφ hG hγ g4 HCP
    change Exit.then _ _ _ (putAll _ v _ 13) _
    simp only [putAll, dstOf, Act.put]
    simp only [List.getElem?_toArray, List.getElem?_cons_zero, List.getElem?_cons_succ, Option.bind_some, List.setIfInBounds_toArray, List.set_cons_zero, List.set_cons_succ]
    rw [h10, h12]
    clear h10 h12 g1
    have hZ5 := hZ4.ext hEx
    have hD5 := hD4.ext hEx
    have hCw := hCw4.ext_trans hEx
    clear hX4 hA4 hZ4 hD4 hR4 hCw4 hmr4
    have y0 := hY.cell 0
    have y1 := hY.cell 1
    have y2 := hY.cell 2
    have y3 := hY.cell 3
    simp at y0 y1 y2 y3
    have z0 := hZ5.cell 0
    have z1 := hZ5.cell 1
    have z2 := hZ5.cell 2
    have z3 := hZ5.cell 3
    have g0 := hZ5.frozen 0
    have g1 := hZ5.frozen 1
    have g2 := hZ5.frozen 2
    have g3 := hZ5.frozen 3
    simp at z0 z1 z2 z3
    go_wp2_with fail
    have hZ9 := at_anew hZ5 (vs := #[.slice A2 D2.files.length c2, .int .i64 room, .bool lost, .int .i64 a2]) rfl
    refine bodyPost_ret (v := .tuple #[.agg #[.slice A2 D2.files.length c2, .int .i64 room, .bool lost, .int .i64 a2], .bool true]) (results_ct Try.results7 _ rfl (hZ9.loadv Try.underlying29 rfl (by kernel_rfl))) rfl ?_
    have hCz : Chg (· = zb) wx ((((wx.setCell ⟨zb, 0, none⟩ (.slice A2 D2.files.length c2)).setCell ⟨zb, 1, none⟩ (.int .i64 room)).setCell ⟨zb, 2, none⟩ (.bool lost)).setCell ⟨zb, 3, none⟩ (.int .i64 a2)) := chg_setAll wx zb [.slice A2 D2.files.length c2, .int .i64 room, .bool lost, .int .i64 a2] 0 wx (Chg.refl _ _)
    obtain ⟨⟨b1, b2, b3, b4⟩, b5⟩ := HD2.out
    refine ⟨_, D2, ?_, ⟨hD5.1.chg hCz hdz.1.symm, hD5.2.chg hCz hdz.2.symm⟩, Sln.chg hRx hCz (rk_apart hRx hZ5 dz_nostr), b4.mono (by omega) (by omega), ?_, ?_⟩
    · rw [b2, b3, b5, ← HQ.out.2.1]
    · rw [b1, ← HQ.out.1]
    · exact hCw.trans hCz (fun k hk e => by have e' : k = zb := e; omega)

theorem does_any (w W0 : World) (d m : Nat) (D : Dk) (N B : Nat) (hD : DkAt w d m D) (hI : Inv N B D) (hN : N ≤ 1000) (hB : B ≤ 10000) (lv : Value) (hR : RkIn w lv D.files) (x : Act) (ms : List ByteArray) (ch : List Int) (b : UInt8) (hx : ActIn W0 x ms ch b) (hE0 : Ext W0 w) (hd : W0.heap.size ≤ d) (hm : W0.heap.size ≤ m) :
    Calls Try.prog 7 #[.pointer (some ⟨d, 0, none⟩), .agg #[lv, .int .i64 D.room, .bool D.lost, .int .i64 (D.armed - 1)], .agg #[.int .i64 x.kind, .int .i64 x.num, .string x.a, .string x.b, .slice x.more.1 x.more.2.1 x.more.2.2, .slice x.choice.1 x.choice.2.1 x.choice.2.2, .int .u8 x.by_]] w (DoOut d m N B D.room w) := by
  by_cases hk : 1 ≤ x.kind ∧ x.kind ≤ 11
  · have : x.kind = 1 ∨ x.kind = 2 ∨ x.kind = 3 ∨ x.kind = 4 ∨ x.kind = 5 ∨ x.kind = 6 ∨ x.kind = 7 ∨ x.kind = 8 ∨ x.kind = 9 ∨ x.kind = 10 ∨ x.kind = 11 := by omega
    rcases this with h | h | h | h | h | h | h | h | h | h | h
    · exact does_1 w W0 d m D N B hD hI hN hB lv hR x ms ch b hx hE0 hd hm h
    · exact does_2 w W0 d m D N B hD hI hN hB lv hR x ms ch b hx hE0 hd hm h
    · exact does_3 w W0 d m D N B hD hI hN hB lv hR x ms ch b hx hE0 hd hm h
    · exact does_4 w W0 d m D N B hD hI hN hB lv hR x ms ch b hx hE0 hd hm h
    · exact does_5 w W0 d m D N B hD hI hN hB lv hR x ms ch b hx hE0 hd hm h
    · exact does_6 w W0 d m D N B hD hI hN hB lv hR x ms ch b hx hE0 hd hm h
    · exact does_7 w W0 d m D N B hD hI hN hB lv hR x ms ch b hx hE0 hd hm h
    · exact does_8 w W0 d m D N B hD hI hN hB lv hR x ms ch b hx hE0 hd hm h
    · exact does_9 w W0 d m D N B hD hI hN hB lv hR x ms ch b hx hE0 hd hm h
    · exact does_10 w W0 d m D N B hD hI hN hB lv hR x ms ch b hx hE0 hd hm h
    · exact does_11 w W0 d m D N B hD hI hN hB lv hR x ms ch b hx hE0 hd hm h
  · exact does_0 w W0 d m D N B hD hI hN hB lv hR x ms ch b hx hE0 hd hm hk
end Go.Proofs.Yteleafbfdfipdaa
