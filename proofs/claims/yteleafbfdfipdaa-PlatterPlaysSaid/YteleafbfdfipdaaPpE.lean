/-
  Does: a call on the disk and on the document's, kind by kind.
-/
import Derived.Test.YteleafbfdfipdaaPpD
import Derived.Test.YteleafbfdfipdaaPpO
import Derived.Test.YteleafbfdfipdaaGCl
namespace Go.Proofs.Yteleafbfdfipdaa
open Go.RowKit Go.Sort

theorem rk_plat {w w' : World} {lv : Value} {L : List FRow} (h : RkIn w lv L) {d m : Nat} {D : Dk} (hD : DkAt w d m D) (hC : Chg (fun k => k = d ∨ k = m) w w') : RkIn w' lv L := by
  refine Sln.chg h hC fun b o n c hv hne => ?_
  rintro (rfl | rfl)
  · exact rk_apart h hD.1 (by
      intro i s
      match i with
      | 0 => simp
      | 1 => simp
      | 2 => simp
      | 3 => simp
      | 4 => simp
      | k + 5 => simp) b o n c hv hne rfl
  · subst hv
    obtain ⟨p, r, rfl⟩ := List.exists_cons_of_ne_nil (fun e => hne (by rw [e]; rfl) : L ≠ [])
    obtain ⟨x, f⟩ := p
    have h0 := (rk_cells h (i := 0) rfl).1
    obtain ⟨es, clk, hb, _⟩ := hD.2
    simp [World.cell?, hb] at h0
/-- what a call leaves -/
structure DoOut (d m N B : Nat) (room : Int) (w : World) (e : Ending) (w' : World) : Prop where
  out : ∃ lv' D', e = .returned (.tuple #[.agg #[lv', .int .i64 room, .bool D'.lost, .int .i64 (D'.armed - 1)], .bool true]) ∧ DkAt w' d m D' ∧ RkIn w' lv' D'.files ∧ Inv (N + 1) (B + 60) D' ∧ D'.room = room ∧ Chg (fun k => k = d ∨ k = m) w w'
theorem Inv.small {N B : Nat} {D : Dk} (h : Inv N B D) (hN : N ≤ 1000) (hB : B ≤ 10000) : (∀ p ∈ D.files, p.2.nx.size ≤ 100000 ∧ p.2.sx.size ≤ 100000) ∧ D.files.length ≤ 1000 ∧ D.armed ≤ 4611686018427387904 := by
  refine ⟨fun p hp => ?_, Nat.le_trans h.len hN, by have := h.arm; omega⟩
  have := h.sm p hp
  omega
theorem Inv.rks {N B : Nat} {D : Dk} (h : Inv N B D) (hN : N ≤ 1000) (hB : B ≤ 10000) {w : World} {lv : Value} (hR : RkIn w lv D.files) : RkS w lv D.files := by
  obtain ⟨h1, h2, _⟩ := h.small hN hB
  exact ⟨hR, by omega, fun p hp => by have := h1 p hp; omega⟩
/-- such a region: the answer is stored behind the call -/
structure G8 (W0 : World) (zb : Nat) (vs : List Value) (_γ : Nat → Value) (L : Nat → Bool) (w : World) : Prop where
  pre : L 10 = false → Ext W0 w
  aft : L 10 = true → ∃ w1, Ext W0 w1 ∧ w = w1.setCells zb 0 vs
theorem G8.keep {W0 : World} {zb : Nat} {vs : List Value} {j : Nat} (hj : 10 ≠ j) : ∀ γ L w, G8 W0 zb vs γ L w → L j = false → G8 W0 zb vs γ (fun i => i == j || L i) w := by
  intro γ L w h _
  have e : ((10 : Nat) == j) = false := by simp [hj]
  exact ⟨fun hh => h.pre (by simpa [e] using hh), fun hh => h.aft (by simpa [e] using hh)⟩

set_option maxRecDepth 100000 in
set_option maxHeartbeats 2000000 in
theorem does_1 (w W0 : World) (d m : Nat) (D : Dk) (N B : Nat) (hD : DkAt w d m D) (hI : Inv N B D) (hN : N ≤ 1000) (hB : B ≤ 10000) (lv : Value) (hR : RkIn w lv D.files) (x : Act) (ms : List ByteArray) (ch : List Int) (b : UInt8) (hx : ActIn W0 x ms ch b) (hE0 : Ext W0 w) (hd : W0.heap.size ≤ d) (hm : W0.heap.size ≤ m) (hk : x.kind = 1) :
    Calls Try.prog 7 #[.pointer (some ⟨d, 0, none⟩), .agg #[lv, .int .i64 D.room, .bool D.lost, .int .i64 (D.armed - 1)], .agg #[.int .i64 x.kind, .int .i64 x.num, .string x.a, .string x.b, .slice x.more.1 x.more.2.1 x.more.2.2, .slice x.choice.1 x.choice.2.1 x.choice.2.2, .int .u8 x.by_]] w (DoOut d m N B D.room w) := by
  obtain ⟨A, c, rfl⟩ := rk_slice hR
  obtain ⟨hsm, hlen, harm⟩ := hI.small hN hB
  have hO := hI.ok
  have ha0 := hO.a0
  have hr0 : 0 ≤ D.room ∧ D.room ≤ 9223372036854775807 := ⟨by have := hO.u0; have := hO.u1; omega, hO.r1⟩
  have HSM := Lib.hid (And.intro hsm (And.intro hI (And.intro hN hB)))
  have k1 : (x.kind == 1) = true := by simpa using hk
  have k2 : (x.kind == 2) = false := by simpa using fun e : x.kind = 2 => by omega
  have k3 : (x.kind == 3) = false := by simpa using fun e : x.kind = 3 => by omega
  have k4 : (x.kind == 4) = false := by simpa using fun e : x.kind = 4 => by omega
  have k5 : (x.kind == 5) = false := by simpa using fun e : x.kind = 5 => by omega
  have k6 : (x.kind == 6) = false := by simpa using fun e : x.kind = 6 => by omega
  have k7 : (x.kind == 7) = false := by simpa using fun e : x.kind = 7 => by omega
  have k8 : (x.kind == 8) = false := by simpa using fun e : x.kind = 8 => by omega
  have k9 : (x.kind == 9) = false := by simpa using fun e : x.kind = 9 => by omega
  have k10 : (x.kind == 10) = false := by simpa using fun e : x.kind = 10 => by omega
  have k11 : (x.kind == 11) = false := by simpa using fun e : x.kind = 11 => by omega
  clear hk
  obtain ⟨room, hroom⟩ : ∃ r, r = D.room := ⟨_, rfl⟩
  obtain ⟨lost, hlost⟩ : ∃ r, r = D.lost := ⟨_, rfl⟩
  obtain ⟨fl, hfl⟩ : ∃ r, r = D.armed - 1 := ⟨_, rfl⟩
  have HQ := Lib.hid (And.intro hroom (And.intro hlost hfl))
  rw [← hroom, ← hlost, ← hfl]
  clear hroom hlost hfl
  have hoa : x.a.size ≤ maxLen := hx.ok.2.1
  have hob : x.b.size ≤ maxLen := hx.ok.2.2
  have hon := hx.ok.1
  have HX := Lib.hid hx
  clear hx hsm
  have hEw : Ext w (((w.alloc (.cells #[.slice A D.files.length c, .int .i64 room, .bool lost, .int .i64 fl] 29)).alloc (.cells #[.int .i64 x.kind, .int .i64 x.num, .string x.a, .string x.b, .slice x.more.1 x.more.2.1 x.more.2.2, .slice x.choice.1 x.choice.2.1 x.choice.2.2, .int .u8 x.by_] 37)).alloc (.cells #[.slice none 0 0, .int .i64 0, .bool false, .int .i64 0] 29)) := (((Ext.refl w).alloc _).alloc _).alloc _
  have hX : At (((w.alloc (.cells #[.slice A D.files.length c, .int .i64 room, .bool lost, .int .i64 fl] 29)).alloc (.cells #[.int .i64 x.kind, .int .i64 x.num, .string x.a, .string x.b, .slice x.more.1 x.more.2.1 x.more.2.2, .slice x.choice.1 x.choice.2.1 x.choice.2.2, .int .u8 x.by_] 37)).alloc (.cells #[.slice none 0 0, .int .i64 0, .bool false, .int .i64 0] 29)) w.heap.size 29 #[.slice A D.files.length c, .int .i64 room, .bool lost, .int .i64 fl] := ((At.new _ _ _).alloc _).alloc _
  have hA : At (((w.alloc (.cells #[.slice A D.files.length c, .int .i64 room, .bool lost, .int .i64 fl] 29)).alloc (.cells #[.int .i64 x.kind, .int .i64 x.num, .string x.a, .string x.b, .slice x.more.1 x.more.2.1 x.more.2.2, .slice x.choice.1 x.choice.2.1 x.choice.2.2, .int .u8 x.by_] 37)).alloc (.cells #[.slice none 0 0, .int .i64 0, .bool false, .int .i64 0] 29)) (w.heap.size + 1) 37 #[.int .i64 x.kind, .int .i64 x.num, .string x.a, .string x.b, .slice x.more.1 x.more.2.1 x.more.2.2, .slice x.choice.1 x.choice.2.1 x.choice.2.2, .int .u8 x.by_] := (At.new_eq (by simp) _ _).alloc _
  have hZ : At (((w.alloc (.cells #[.slice A D.files.length c, .int .i64 room, .bool lost, .int .i64 fl] 29)).alloc (.cells #[.int .i64 x.kind, .int .i64 x.num, .string x.a, .string x.b, .slice x.more.1 x.more.2.1 x.more.2.2, .slice x.choice.1 x.choice.2.1 x.choice.2.2, .int .u8 x.by_] 37)).alloc (.cells #[.slice none 0 0, .int .i64 0, .bool false, .int .i64 0] 29)) (w.heap.size + 1 + 1) 29 #[.slice none 0 0, .int .i64 0, .bool false, .int .i64 0] := At.new_eq (by simp) _ _
  go_enter Try.func7, Try.ntmps7
  go_upto_region 1 with fail
  generalize (((w.alloc _).alloc _).alloc _ : World) = W at hEw hX hA hZ ⊢
  have hxz : w.heap.size ≠ w.heap.size + 1 + 1 := by omega
  have hxa : w.heap.size ≠ w.heap.size + 1 := by omega
  have haz : w.heap.size + 1 ≠ w.heap.size + 1 + 1 := by omega
  have hwx : w.heap.size ≤ w.heap.size := Nat.le_refl _
  have hwz : w.heap.size ≤ w.heap.size + 1 + 1 := by omega
  have hwa : w.heap.size ≤ w.heap.size + 1 := by omega
  have hdl : d < w.heap.size := hD.1.lt
  have hml : m < w.heap.size := hD.2.lt
  generalize hzb : w.heap.size + 1 + 1 = zb at *
  generalize hab : w.heap.size + 1 = ab at *
  obtain ⟨xb, hxb⟩ : ∃ xb, xb = w.heap.size := ⟨_, rfl⟩
  rw [← hxb] at hX hxz hxa ⊢
  replace hwx : w.heap.size ≤ xb := by omega
  have hdx : xb ≠ d ∧ xb ≠ m := by omega
  have hda : ab ≠ d ∧ ab ≠ m := by omega
  have hdz : zb ≠ d ∧ zb ≠ m := by omega
  clear hzb hab hxb
  have hDW := hD.ext hEw
  have hRW := hR.ext hEw
  have hE0W := hE0.trans hEw
  clear hD hR
  have v0 := hA.cell 0
  have v1 := hA.cell 1
  have v2 := hA.cell 2
  have v3 := hA.cell 3
  have v4 := hA.cell 4
  have v5 := hA.cell 5
  have v6 := hA.cell 6
  simp at v0 v1 v2 v3 v4 v5 v6
  go_wp2_with fail
  refine (cut_any x.a 6 W hoa (by omega)).mono ?_
  rintro e w1 ⟨rfl, hw1⟩
  subst hw1
  have hns := cut_size x.a 6
  generalize cut x.a 6 = n at hns ⊢
  go_wp2_with fail
  refine (cut_any x.b 60 w1 hob (by omega)).mono ?_
  rintro e w2 ⟨rfl, hw2⟩
  subst hw2
  have hss := cut_size x.b 60
  generalize cut x.b 60 = s at hss ⊢
  go_wp2_with fail
  refine (write_any w2 d m D hDW hO n s (by unfold maxLen; omega)).mono ?_
  rintro e w3 ⟨rfl, hC3, hD3⟩
  have hal := put_alike hI n s false (by unfold maxLen; omega) (by unfold maxLen; omega) (fun _ => s) (fun _ => rfl)
  have hX3 := hX.chg hC3 (fun e => e.elim hdx.1 hdx.2)
  have hA3 := hA.chg hC3 (fun e => e.elim hda.1 hda.2)
  have hZ3 := hZ.chg hC3 (fun e => e.elim hdz.1 hdz.2)
  have hR3 := rk_plat hRW hDW hC3
  have cp := rput_any w3 (.slice A D.files.length c) D.room D.lost D.armed D.files (hI.rks hN hB hR3) ha0 harm hr0 n s false (by omega) HSM.out.1 (by omega)
  rw [hal.1] at cp
  obtain ⟨_, hal2⟩ := hal
  generalize D.change n (fun _ => s) = q at hD3 cp hal2 ⊢
  obtain ⟨er, D2⟩ := q
  simp only at hD3 cp hal2
  rw [← HQ.out.1, ← HQ.out.2.1, ← HQ.out.2.2] at cp
  obtain ⟨a2, ha2⟩ : ∃ r, r = tryA lost D.armed - 1 := ⟨_, rfl⟩
  rw [← ha2] at cp
  have HD2 := Lib.hid (And.intro hal2 ha2)
  clear hal2 ha2 v0 v1 v2 v3 v4 v5 v6 hX hA hZ hRW hDW
  have x0 := hX3.cell 0
  have x1 := hX3.cell 1
  have x2 := hX3.cell 2
  have x3 := hX3.cell 3
  simp at x0 x1 x2 x3
  have v0 := hA3.cell 0
  simp at v0
  go_wp2_with fail
  refine cp.mono ?_
  rintro e w4 ⟨lv2, rfl, hR4, hE4⟩
  obtain ⟨A2, c2, rfl⟩ := rk_slice hR4
  go_upto_region 11 with fail
  have hY := At.new w4 29 #[.slice A2 D2.files.length c2, .int .i64 room, .bool lost, .int .i64 a2]
  have hEy := (Ext.refl w4).alloc (.cells #[.slice A2 D2.files.length c2, .int .i64 room, .bool lost, .int .i64 a2] 29)
  have hZ4 := (hZ3.ext hE4).ext hEy
  have hD4 := (hD3.ext hE4).ext hEy
  have hR5 := hR4.ext hEy
  have hCw := (((hEw.chg_trans hC3).ext_trans hE4).ext_trans hEy)
  have hyz : zb ≠ w4.heap.size := fun e => by have := (hZ3.ext hE4).lt; omega
  clear x0 x1 x2 x3 v0 hX3 hA3 hZ3 hD3 hE4 hEy hR4 cp
  generalize w4.heap.size = yb at hY hyz ⊢
  generalize w4.alloc _ = w5 at hY hZ4 hD4 hR5 hCw ⊢
  have y0 := hY.cell 0
  have y1 := hY.cell 1
  have y2 := hY.cell 2
  have y3 := hY.cell 3
  simp at y0 y1 y2 y3
  have z0 := hZ4.cell 0
  have z1 := hZ4.cell 1
  have z2 := hZ4.cell 2
  have z3 := hZ4.cell 3
  have g0 := hZ4.frozen 0
  have g1 := hZ4.frozen 1
  have g2 := hZ4.frozen 2
  have g3 := hZ4.frozen 3
  simp at z0 z1 z2 z3
  go_wp2_with fail
  have hZ9 := at_anew hZ4 (vs := #[.slice A2 D2.files.length c2, .int .i64 room, .bool lost, .int .i64 a2]) rfl
  refine bodyPost_ret (v := .tuple #[.agg #[.slice A2 D2.files.length c2, .int .i64 room, .bool lost, .int .i64 a2], .bool true]) (results_ct Try.results7 _ rfl (hZ9.loadv Try.underlying29 rfl (by kernel_rfl))) rfl ?_
  have hCz : Chg (· = zb) w5 ((((w5.setCell ⟨zb, 0, none⟩ (.slice A2 D2.files.length c2)).setCell ⟨zb, 1, none⟩ (.int .i64 room)).setCell ⟨zb, 2, none⟩ (.bool lost)).setCell ⟨zb, 3, none⟩ (.int .i64 a2)) := chg_setAll w5 zb [.slice A2 D2.files.length c2, .int .i64 room, .bool lost, .int .i64 a2] 0 w5 (Chg.refl _ _)
  obtain ⟨⟨b1, b2, b3, b4⟩, b5⟩ := HD2.out
  refine ⟨_, D2, ?_, ⟨hD4.1.chg hCz hdz.1.symm, hD4.2.chg hCz hdz.2.symm⟩, Sln.chg hR5 hCz (rk_apart hR5 hZ4 dz_nostr), b4.mono (by omega) (by omega), ?_, ?_⟩
  · rw [b2, b3, b5, ← HQ.out.2.1]
  · rw [b1, ← HQ.out.1]
  · exact hCw.trans hCz (fun k hk e => by have e' : k = zb := e; omega)

set_option maxRecDepth 100000 in
set_option maxHeartbeats 2000000 in
theorem does_2 (w W0 : World) (d m : Nat) (D : Dk) (N B : Nat) (hD : DkAt w d m D) (hI : Inv N B D) (hN : N ≤ 1000) (hB : B ≤ 10000) (lv : Value) (hR : RkIn w lv D.files) (x : Act) (ms : List ByteArray) (ch : List Int) (b : UInt8) (hx : ActIn W0 x ms ch b) (hE0 : Ext W0 w) (hd : W0.heap.size ≤ d) (hm : W0.heap.size ≤ m) (hk : x.kind = 2) :
    Calls Try.prog 7 #[.pointer (some ⟨d, 0, none⟩), .agg #[lv, .int .i64 D.room, .bool D.lost, .int .i64 (D.armed - 1)], .agg #[.int .i64 x.kind, .int .i64 x.num, .string x.a, .string x.b, .slice x.more.1 x.more.2.1 x.more.2.2, .slice x.choice.1 x.choice.2.1 x.choice.2.2, .int .u8 x.by_]] w (DoOut d m N B D.room w) := by
  obtain ⟨A, c, rfl⟩ := rk_slice hR
  obtain ⟨hsm, hlen, harm⟩ := hI.small hN hB
  have hO := hI.ok
  have ha0 := hO.a0
  have hr0 : 0 ≤ D.room ∧ D.room ≤ 9223372036854775807 := ⟨by have := hO.u0; have := hO.u1; omega, hO.r1⟩
  have HSM := Lib.hid (And.intro hsm (And.intro hI (And.intro hN hB)))
  have k1 : (x.kind == 1) = false := by simpa using fun e : x.kind = 1 => by omega
  have k2 : (x.kind == 2) = true := by simpa using hk
  have k3 : (x.kind == 3) = false := by simpa using fun e : x.kind = 3 => by omega
  have k4 : (x.kind == 4) = false := by simpa using fun e : x.kind = 4 => by omega
  have k5 : (x.kind == 5) = false := by simpa using fun e : x.kind = 5 => by omega
  have k6 : (x.kind == 6) = false := by simpa using fun e : x.kind = 6 => by omega
  have k7 : (x.kind == 7) = false := by simpa using fun e : x.kind = 7 => by omega
  have k8 : (x.kind == 8) = false := by simpa using fun e : x.kind = 8 => by omega
  have k9 : (x.kind == 9) = false := by simpa using fun e : x.kind = 9 => by omega
  have k10 : (x.kind == 10) = false := by simpa using fun e : x.kind = 10 => by omega
  have k11 : (x.kind == 11) = false := by simpa using fun e : x.kind = 11 => by omega
  clear hk
  obtain ⟨room, hroom⟩ : ∃ r, r = D.room := ⟨_, rfl⟩
  obtain ⟨lost, hlost⟩ : ∃ r, r = D.lost := ⟨_, rfl⟩
  obtain ⟨fl, hfl⟩ : ∃ r, r = D.armed - 1 := ⟨_, rfl⟩
  have HQ := Lib.hid (And.intro hroom (And.intro hlost hfl))
  rw [← hroom, ← hlost, ← hfl]
  clear hroom hlost hfl
  have hoa : x.a.size ≤ maxLen := hx.ok.2.1
  have hob : x.b.size ≤ maxLen := hx.ok.2.2
  have hon := hx.ok.1
  have HX := Lib.hid hx
  clear hx hsm
  have hEw : Ext w (((w.alloc (.cells #[.slice A D.files.length c, .int .i64 room, .bool lost, .int .i64 fl] 29)).alloc (.cells #[.int .i64 x.kind, .int .i64 x.num, .string x.a, .string x.b, .slice x.more.1 x.more.2.1 x.more.2.2, .slice x.choice.1 x.choice.2.1 x.choice.2.2, .int .u8 x.by_] 37)).alloc (.cells #[.slice none 0 0, .int .i64 0, .bool false, .int .i64 0] 29)) := (((Ext.refl w).alloc _).alloc _).alloc _
  have hX : At (((w.alloc (.cells #[.slice A D.files.length c, .int .i64 room, .bool lost, .int .i64 fl] 29)).alloc (.cells #[.int .i64 x.kind, .int .i64 x.num, .string x.a, .string x.b, .slice x.more.1 x.more.2.1 x.more.2.2, .slice x.choice.1 x.choice.2.1 x.choice.2.2, .int .u8 x.by_] 37)).alloc (.cells #[.slice none 0 0, .int .i64 0, .bool false, .int .i64 0] 29)) w.heap.size 29 #[.slice A D.files.length c, .int .i64 room, .bool lost, .int .i64 fl] := ((At.new _ _ _).alloc _).alloc _
  have hA : At (((w.alloc (.cells #[.slice A D.files.length c, .int .i64 room, .bool lost, .int .i64 fl] 29)).alloc (.cells #[.int .i64 x.kind, .int .i64 x.num, .string x.a, .string x.b, .slice x.more.1 x.more.2.1 x.more.2.2, .slice x.choice.1 x.choice.2.1 x.choice.2.2, .int .u8 x.by_] 37)).alloc (.cells #[.slice none 0 0, .int .i64 0, .bool false, .int .i64 0] 29)) (w.heap.size + 1) 37 #[.int .i64 x.kind, .int .i64 x.num, .string x.a, .string x.b, .slice x.more.1 x.more.2.1 x.more.2.2, .slice x.choice.1 x.choice.2.1 x.choice.2.2, .int .u8 x.by_] := (At.new_eq (by simp) _ _).alloc _
  have hZ : At (((w.alloc (.cells #[.slice A D.files.length c, .int .i64 room, .bool lost, .int .i64 fl] 29)).alloc (.cells #[.int .i64 x.kind, .int .i64 x.num, .string x.a, .string x.b, .slice x.more.1 x.more.2.1 x.more.2.2, .slice x.choice.1 x.choice.2.1 x.choice.2.2, .int .u8 x.by_] 37)).alloc (.cells #[.slice none 0 0, .int .i64 0, .bool false, .int .i64 0] 29)) (w.heap.size + 1 + 1) 29 #[.slice none 0 0, .int .i64 0, .bool false, .int .i64 0] := At.new_eq (by simp) _ _
  go_enter Try.func7, Try.ntmps7
  go_upto_region 1 with fail
  generalize (((w.alloc _).alloc _).alloc _ : World) = W at hEw hX hA hZ ⊢
  have hxz : w.heap.size ≠ w.heap.size + 1 + 1 := by omega
  have hxa : w.heap.size ≠ w.heap.size + 1 := by omega
  have haz : w.heap.size + 1 ≠ w.heap.size + 1 + 1 := by omega
  have hwx : w.heap.size ≤ w.heap.size := Nat.le_refl _
  have hwz : w.heap.size ≤ w.heap.size + 1 + 1 := by omega
  have hwa : w.heap.size ≤ w.heap.size + 1 := by omega
  have hdl : d < w.heap.size := hD.1.lt
  have hml : m < w.heap.size := hD.2.lt
  generalize hzb : w.heap.size + 1 + 1 = zb at *
  generalize hab : w.heap.size + 1 = ab at *
  obtain ⟨xb, hxb⟩ : ∃ xb, xb = w.heap.size := ⟨_, rfl⟩
  rw [← hxb] at hX hxz hxa ⊢
  replace hwx : w.heap.size ≤ xb := by omega
  have hdx : xb ≠ d ∧ xb ≠ m := by omega
  have hda : ab ≠ d ∧ ab ≠ m := by omega
  have hdz : zb ≠ d ∧ zb ≠ m := by omega
  clear hzb hab hxb
  have hDW := hD.ext hEw
  have hRW := hR.ext hEw
  have hE0W := hE0.trans hEw
  clear hD hR
  have v0 := hA.cell 0
  have v1 := hA.cell 1
  have v2 := hA.cell 2
  have v3 := hA.cell 3
  have v4 := hA.cell 4
  have v5 := hA.cell 5
  have v6 := hA.cell 6
  simp at v0 v1 v2 v3 v4 v5 v6
  go_wp2_with fail
  refine (cut_any x.a 6 W hoa (by omega)).mono ?_
  rintro e w1 ⟨rfl, hw1⟩
  subst hw1
  have hns := cut_size x.a 6
  generalize cut x.a 6 = n at hns ⊢
  go_wp2_with fail
  refine (cut_any x.b 60 w1 hob (by omega)).mono ?_
  rintro e w2 ⟨rfl, hw2⟩
  subst hw2
  have hss := cut_size x.b 60
  generalize cut x.b 60 = s at hss ⊢
  go_wp2_with fail
  refine (append_any w2 d m D hDW hO n s (by have := (hI.getSm n).1; omega)).mono ?_
  rintro e w3 ⟨rfl, hC3, hD3⟩
  have hal := put_alike hI n s true (by unfold maxLen; omega) (by unfold maxLen; omega) (fun x => x ++ s) (fun _ => rfl)
  have hX3 := hX.chg hC3 (fun e => e.elim hdx.1 hdx.2)
  have hA3 := hA.chg hC3 (fun e => e.elim hda.1 hda.2)
  have hZ3 := hZ.chg hC3 (fun e => e.elim hdz.1 hdz.2)
  have hR3 := rk_plat hRW hDW hC3
  have cp := rput_any w3 (.slice A D.files.length c) D.room D.lost D.armed D.files (hI.rks hN hB hR3) ha0 harm hr0 n s true (by omega) HSM.out.1 (by omega)
  rw [hal.1] at cp
  obtain ⟨_, hal2⟩ := hal
  generalize D.change n (fun x => x ++ s) = q at hD3 cp hal2 ⊢
  obtain ⟨er, D2⟩ := q
  simp only at hD3 cp hal2
  rw [← HQ.out.1, ← HQ.out.2.1, ← HQ.out.2.2] at cp
  obtain ⟨a2, ha2⟩ : ∃ r, r = tryA lost D.armed - 1 := ⟨_, rfl⟩
  rw [← ha2] at cp
  have HD2 := Lib.hid (And.intro hal2 ha2)
  clear hal2 ha2 v0 v1 v2 v3 v4 v5 v6 hX hA hZ hRW hDW
  have x0 := hX3.cell 0
  have x1 := hX3.cell 1
  have x2 := hX3.cell 2
  have x3 := hX3.cell 3
  simp at x0 x1 x2 x3
  have v0 := hA3.cell 0
  simp at v0
  go_wp2_with fail
  refine cp.mono ?_
  rintro e w4 ⟨lv2, rfl, hR4, hE4⟩
  obtain ⟨A2, c2, rfl⟩ := rk_slice hR4
  go_upto_region 11 with fail
  have hY := At.new w4 29 #[.slice A2 D2.files.length c2, .int .i64 room, .bool lost, .int .i64 a2]
  have hEy := (Ext.refl w4).alloc (.cells #[.slice A2 D2.files.length c2, .int .i64 room, .bool lost, .int .i64 a2] 29)
  have hZ4 := (hZ3.ext hE4).ext hEy
  have hD4 := (hD3.ext hE4).ext hEy
  have hR5 := hR4.ext hEy
  have hCw := (((hEw.chg_trans hC3).ext_trans hE4).ext_trans hEy)
  have hyz : zb ≠ w4.heap.size := fun e => by have := (hZ3.ext hE4).lt; omega
  clear x0 x1 x2 x3 v0 hX3 hA3 hZ3 hD3 hE4 hEy hR4 cp
  generalize w4.heap.size = yb at hY hyz ⊢
  generalize w4.alloc _ = w5 at hY hZ4 hD4 hR5 hCw ⊢
  have y0 := hY.cell 0
  have y1 := hY.cell 1
  have y2 := hY.cell 2
  have y3 := hY.cell 3
  simp at y0 y1 y2 y3
  have z0 := hZ4.cell 0
  have z1 := hZ4.cell 1
  have z2 := hZ4.cell 2
  have z3 := hZ4.cell 3
  have g0 := hZ4.frozen 0
  have g1 := hZ4.frozen 1
  have g2 := hZ4.frozen 2
  have g3 := hZ4.frozen 3
  simp at z0 z1 z2 z3
  go_wp2_with fail
  have hZ9 := at_anew hZ4 (vs := #[.slice A2 D2.files.length c2, .int .i64 room, .bool lost, .int .i64 a2]) rfl
  refine bodyPost_ret (v := .tuple #[.agg #[.slice A2 D2.files.length c2, .int .i64 room, .bool lost, .int .i64 a2], .bool true]) (results_ct Try.results7 _ rfl (hZ9.loadv Try.underlying29 rfl (by kernel_rfl))) rfl ?_
  have hCz : Chg (· = zb) w5 ((((w5.setCell ⟨zb, 0, none⟩ (.slice A2 D2.files.length c2)).setCell ⟨zb, 1, none⟩ (.int .i64 room)).setCell ⟨zb, 2, none⟩ (.bool lost)).setCell ⟨zb, 3, none⟩ (.int .i64 a2)) := chg_setAll w5 zb [.slice A2 D2.files.length c2, .int .i64 room, .bool lost, .int .i64 a2] 0 w5 (Chg.refl _ _)
  obtain ⟨⟨b1, b2, b3, b4⟩, b5⟩ := HD2.out
  refine ⟨_, D2, ?_, ⟨hD4.1.chg hCz hdz.1.symm, hD4.2.chg hCz hdz.2.symm⟩, Sln.chg hR5 hCz (rk_apart hR5 hZ4 dz_nostr), b4.mono (by omega) (by omega), ?_, ?_⟩
  · rw [b2, b3, b5, ← HQ.out.2.1]
  · rw [b1, ← HQ.out.1]
  · exact hCw.trans hCz (fun k hk e => by have e' : k = zb := e; omega)

set_option maxRecDepth 100000 in
set_option maxHeartbeats 2000000 in
theorem does_5 (w W0 : World) (d m : Nat) (D : Dk) (N B : Nat) (hD : DkAt w d m D) (hI : Inv N B D) (hN : N ≤ 1000) (hB : B ≤ 10000) (lv : Value) (hR : RkIn w lv D.files) (x : Act) (ms : List ByteArray) (ch : List Int) (b : UInt8) (hx : ActIn W0 x ms ch b) (hE0 : Ext W0 w) (hd : W0.heap.size ≤ d) (hm : W0.heap.size ≤ m) (hk : x.kind = 5) :
    Calls Try.prog 7 #[.pointer (some ⟨d, 0, none⟩), .agg #[lv, .int .i64 D.room, .bool D.lost, .int .i64 (D.armed - 1)], .agg #[.int .i64 x.kind, .int .i64 x.num, .string x.a, .string x.b, .slice x.more.1 x.more.2.1 x.more.2.2, .slice x.choice.1 x.choice.2.1 x.choice.2.2, .int .u8 x.by_]] w (DoOut d m N B D.room w) := by
  obtain ⟨A, c, rfl⟩ := rk_slice hR
  obtain ⟨hsm, hlen, harm⟩ := hI.small hN hB
  have hO := hI.ok
  have ha0 := hO.a0
  have hr0 : 0 ≤ D.room ∧ D.room ≤ 9223372036854775807 := ⟨by have := hO.u0; have := hO.u1; omega, hO.r1⟩
  have HSM := Lib.hid (And.intro hsm (And.intro hI (And.intro hN hB)))
  have k1 : (x.kind == 1) = false := by simpa using fun e : x.kind = 1 => by omega
  have k2 : (x.kind == 2) = false := by simpa using fun e : x.kind = 2 => by omega
  have k3 : (x.kind == 3) = false := by simpa using fun e : x.kind = 3 => by omega
  have k4 : (x.kind == 4) = false := by simpa using fun e : x.kind = 4 => by omega
  have k5 : (x.kind == 5) = true := by simpa using hk
  have k6 : (x.kind == 6) = false := by simpa using fun e : x.kind = 6 => by omega
  have k7 : (x.kind == 7) = false := by simpa using fun e : x.kind = 7 => by omega
  have k8 : (x.kind == 8) = false := by simpa using fun e : x.kind = 8 => by omega
  have k9 : (x.kind == 9) = false := by simpa using fun e : x.kind = 9 => by omega
  have k10 : (x.kind == 10) = false := by simpa using fun e : x.kind = 10 => by omega
  have k11 : (x.kind == 11) = false := by simpa using fun e : x.kind = 11 => by omega
  clear hk
  obtain ⟨room, hroom⟩ : ∃ r, r = D.room := ⟨_, rfl⟩
  obtain ⟨lost, hlost⟩ : ∃ r, r = D.lost := ⟨_, rfl⟩
  obtain ⟨fl, hfl⟩ : ∃ r, r = D.armed - 1 := ⟨_, rfl⟩
  have HQ := Lib.hid (And.intro hroom (And.intro hlost hfl))
  rw [← hroom, ← hlost, ← hfl]
  clear hroom hlost hfl
  have hoa : x.a.size ≤ maxLen := hx.ok.2.1
  have hob : x.b.size ≤ maxLen := hx.ok.2.2
  have hon := hx.ok.1
  have HX := Lib.hid hx
  clear hx hsm
  have hEw : Ext w (((w.alloc (.cells #[.slice A D.files.length c, .int .i64 room, .bool lost, .int .i64 fl] 29)).alloc (.cells #[.int .i64 x.kind, .int .i64 x.num, .string x.a, .string x.b, .slice x.more.1 x.more.2.1 x.more.2.2, .slice x.choice.1 x.choice.2.1 x.choice.2.2, .int .u8 x.by_] 37)).alloc (.cells #[.slice none 0 0, .int .i64 0, .bool false, .int .i64 0] 29)) := (((Ext.refl w).alloc _).alloc _).alloc _
  have hX : At (((w.alloc (.cells #[.slice A D.files.length c, .int .i64 room, .bool lost, .int .i64 fl] 29)).alloc (.cells #[.int .i64 x.kind, .int .i64 x.num, .string x.a, .string x.b, .slice x.more.1 x.more.2.1 x.more.2.2, .slice x.choice.1 x.choice.2.1 x.choice.2.2, .int .u8 x.by_] 37)).alloc (.cells #[.slice none 0 0, .int .i64 0, .bool false, .int .i64 0] 29)) w.heap.size 29 #[.slice A D.files.length c, .int .i64 room, .bool lost, .int .i64 fl] := ((At.new _ _ _).alloc _).alloc _
  have hA : At (((w.alloc (.cells #[.slice A D.files.length c, .int .i64 room, .bool lost, .int .i64 fl] 29)).alloc (.cells #[.int .i64 x.kind, .int .i64 x.num, .string x.a, .string x.b, .slice x.more.1 x.more.2.1 x.more.2.2, .slice x.choice.1 x.choice.2.1 x.choice.2.2, .int .u8 x.by_] 37)).alloc (.cells #[.slice none 0 0, .int .i64 0, .bool false, .int .i64 0] 29)) (w.heap.size + 1) 37 #[.int .i64 x.kind, .int .i64 x.num, .string x.a, .string x.b, .slice x.more.1 x.more.2.1 x.more.2.2, .slice x.choice.1 x.choice.2.1 x.choice.2.2, .int .u8 x.by_] := (At.new_eq (by simp) _ _).alloc _
  have hZ : At (((w.alloc (.cells #[.slice A D.files.length c, .int .i64 room, .bool lost, .int .i64 fl] 29)).alloc (.cells #[.int .i64 x.kind, .int .i64 x.num, .string x.a, .string x.b, .slice x.more.1 x.more.2.1 x.more.2.2, .slice x.choice.1 x.choice.2.1 x.choice.2.2, .int .u8 x.by_] 37)).alloc (.cells #[.slice none 0 0, .int .i64 0, .bool false, .int .i64 0] 29)) (w.heap.size + 1 + 1) 29 #[.slice none 0 0, .int .i64 0, .bool false, .int .i64 0] := At.new_eq (by simp) _ _
  go_enter Try.func7, Try.ntmps7
  go_upto_region 1 with fail
  generalize (((w.alloc _).alloc _).alloc _ : World) = W at hEw hX hA hZ ⊢
  have hxz : w.heap.size ≠ w.heap.size + 1 + 1 := by omega
  have hxa : w.heap.size ≠ w.heap.size + 1 := by omega
  have haz : w.heap.size + 1 ≠ w.heap.size + 1 + 1 := by omega
  have hwx : w.heap.size ≤ w.heap.size := Nat.le_refl _
  have hwz : w.heap.size ≤ w.heap.size + 1 + 1 := by omega
  have hwa : w.heap.size ≤ w.heap.size + 1 := by omega
  have hdl : d < w.heap.size := hD.1.lt
  have hml : m < w.heap.size := hD.2.lt
  generalize hzb : w.heap.size + 1 + 1 = zb at *
  generalize hab : w.heap.size + 1 = ab at *
  obtain ⟨xb, hxb⟩ : ∃ xb, xb = w.heap.size := ⟨_, rfl⟩
  rw [← hxb] at hX hxz hxa ⊢
  replace hwx : w.heap.size ≤ xb := by omega
  have hdx : xb ≠ d ∧ xb ≠ m := by omega
  have hda : ab ≠ d ∧ ab ≠ m := by omega
  have hdz : zb ≠ d ∧ zb ≠ m := by omega
  clear hzb hab hxb
  have hDW := hD.ext hEw
  have hRW := hR.ext hEw
  have hE0W := hE0.trans hEw
  clear hD hR
  have v0 := hA.cell 0
  have v1 := hA.cell 1
  have v2 := hA.cell 2
  have v3 := hA.cell 3
  have v4 := hA.cell 4
  have v5 := hA.cell 5
  have v6 := hA.cell 6
  simp at v0 v1 v2 v3 v4 v5 v6
  go_wp2_with fail
  refine (cut_any x.a 6 W hoa (by omega)).mono ?_
  rintro e w1 ⟨rfl, hw1⟩
  subst hw1
  have hns := cut_size x.a 6
  generalize cut x.a 6 = n at hns ⊢
  go_wp2_with fail
  refine (cut_any x.b 60 w1 hob (by omega)).mono ?_
  rintro e w2 ⟨rfl, hw2⟩
  subst hw2
  have hss := cut_size x.b 60
  generalize cut x.b 60 = s at hss ⊢
  go_wp2_with fail
  refine (sync_any w2 d m D hDW hO (.slice none 0 0) [] (Sl.nil _ _) (fun n hn => by cases hn) (by simp) (by omega) (fun _ => ⟨0, rfl⟩)).mono ?_
  rintro e w3 ⟨rfl, hC3, hD3⟩
  have hX3 := hX.chg hC3 (fun e => e.elim hdx.1 hdx.2)
  have hA3 := hA.chg hC3 (fun e => e.elim hda.1 hda.2)
  have hZ3 := hZ.chg hC3 (fun e => e.elim hdz.1 hdz.2)
  have hR3 := rk_plat hRW hDW hC3
  have hal := sync_alike hI (by unfold maxLen; omega) [] (fun n hn => by cases hn)
  have cp := rsync_any w3 (.slice A D.files.length c) D.room D.lost D.armed D.files (hI.rks hN hB hR3) ha0 harm (.slice none 0 0) [] (Sl.nil _ _) (by simp) (by omega)
  rw [hal.1] at cp
  obtain ⟨_, hal2⟩ := hal
  generalize D.sync [] = q at hD3 cp hal2 ⊢
  obtain ⟨er, D2⟩ := q
  simp only at hD3 cp hal2
  rw [← HQ.out.1, ← HQ.out.2.1, ← HQ.out.2.2] at cp
  obtain ⟨a2, ha2⟩ : ∃ r, r = tryA lost D.armed - 1 := ⟨_, rfl⟩
  rw [← ha2] at cp
  have HD2 := Lib.hid (And.intro hal2 ha2)
  clear hal2 ha2 v0 v1 v2 v3 v4 v5 v6 hX hA hZ hRW hDW
  have x0 := hX3.cell 0
  have x1 := hX3.cell 1
  have x2 := hX3.cell 2
  have x3 := hX3.cell 3
  simp at x0 x1 x2 x3
  go_wp2_with fail
  refine cp.mono ?_
  rintro e w4 ⟨lv2, rfl, hR4, hE4⟩
  obtain ⟨A2, c2, rfl⟩ := rk_slice hR4
  go_upto_region 23 with fail
  have hY := At.new w4 29 #[.slice A2 D2.files.length c2, .int .i64 room, .bool lost, .int .i64 a2]
  have hEy := (Ext.refl w4).alloc (.cells #[.slice A2 D2.files.length c2, .int .i64 room, .bool lost, .int .i64 a2] 29)
  have hZ4 := (hZ3.ext hE4).ext hEy
  have hD4 := (hD3.ext hE4).ext hEy
  have hR5 := hR4.ext hEy
  have hCw := (((hEw.chg_trans hC3).ext_trans hE4).ext_trans hEy)
  have hyz : zb ≠ w4.heap.size := fun e => by have := (hZ3.ext hE4).lt; omega
  clear x0 x1 x2 x3  hX3 hA3 hZ3 hD3 hE4 hEy hR4 cp
  generalize w4.heap.size = yb at hY hyz ⊢
  generalize w4.alloc _ = w5 at hY hZ4 hD4 hR5 hCw ⊢
  have y0 := hY.cell 0
  have y1 := hY.cell 1
  have y2 := hY.cell 2
  have y3 := hY.cell 3
  simp at y0 y1 y2 y3
  have z0 := hZ4.cell 0
  have z1 := hZ4.cell 1
  have z2 := hZ4.cell 2
  have z3 := hZ4.cell 3
  have g0 := hZ4.frozen 0
  have g1 := hZ4.frozen 1
  have g2 := hZ4.frozen 2
  have g3 := hZ4.frozen 3
  simp at z0 z1 z2 z3
  go_wp2_with fail
  have hZ9 := at_anew hZ4 (vs := #[.slice A2 D2.files.length c2, .int .i64 room, .bool lost, .int .i64 a2]) rfl
  refine bodyPost_ret (v := .tuple #[.agg #[.slice A2 D2.files.length c2, .int .i64 room, .bool lost, .int .i64 a2], .bool true]) (results_ct Try.results7 _ rfl (hZ9.loadv Try.underlying29 rfl (by kernel_rfl))) rfl ?_
  have hCz : Chg (· = zb) w5 ((((w5.setCell ⟨zb, 0, none⟩ (.slice A2 D2.files.length c2)).setCell ⟨zb, 1, none⟩ (.int .i64 room)).setCell ⟨zb, 2, none⟩ (.bool lost)).setCell ⟨zb, 3, none⟩ (.int .i64 a2)) := chg_setAll w5 zb [.slice A2 D2.files.length c2, .int .i64 room, .bool lost, .int .i64 a2] 0 w5 (Chg.refl _ _)
  obtain ⟨⟨b1, b2, b3, b4⟩, b5⟩ := HD2.out
  refine ⟨_, D2, ?_, ⟨hD4.1.chg hCz hdz.1.symm, hD4.2.chg hCz hdz.2.symm⟩, Sln.chg hR5 hCz (rk_apart hR5 hZ4 dz_nostr), b4.mono (by omega) (by omega), ?_, ?_⟩
  · rw [b2, b3, b5, ← HQ.out.2.1]
  · rw [b1, ← HQ.out.1]
  · exact hCw.trans hCz (fun k hk e => by have e' : k = zb := e; omega)

set_option maxRecDepth 100000 in
set_option maxHeartbeats 2000000 in
theorem does_6 (w W0 : World) (d m : Nat) (D : Dk) (N B : Nat) (hD : DkAt w d m D) (hI : Inv N B D) (hN : N ≤ 1000) (hB : B ≤ 10000) (lv : Value) (hR : RkIn w lv D.files) (x : Act) (ms : List ByteArray) (ch : List Int) (b : UInt8) (hx : ActIn W0 x ms ch b) (hE0 : Ext W0 w) (hd : W0.heap.size ≤ d) (hm : W0.heap.size ≤ m) (hk : x.kind = 6) :
    Calls Try.prog 7 #[.pointer (some ⟨d, 0, none⟩), .agg #[lv, .int .i64 D.room, .bool D.lost, .int .i64 (D.armed - 1)], .agg #[.int .i64 x.kind, .int .i64 x.num, .string x.a, .string x.b, .slice x.more.1 x.more.2.1 x.more.2.2, .slice x.choice.1 x.choice.2.1 x.choice.2.2, .int .u8 x.by_]] w (DoOut d m N B D.room w) := by
  obtain ⟨A, c, rfl⟩ := rk_slice hR
  obtain ⟨hsm, hlen, harm⟩ := hI.small hN hB
  have hO := hI.ok
  have ha0 := hO.a0
  have hr0 : 0 ≤ D.room ∧ D.room ≤ 9223372036854775807 := ⟨by have := hO.u0; have := hO.u1; omega, hO.r1⟩
  have HSM := Lib.hid (And.intro hsm (And.intro hI (And.intro hN hB)))
  have k1 : (x.kind == 1) = false := by simpa using fun e : x.kind = 1 => by omega
  have k2 : (x.kind == 2) = false := by simpa using fun e : x.kind = 2 => by omega
  have k3 : (x.kind == 3) = false := by simpa using fun e : x.kind = 3 => by omega
  have k4 : (x.kind == 4) = false := by simpa using fun e : x.kind = 4 => by omega
  have k5 : (x.kind == 5) = false := by simpa using fun e : x.kind = 5 => by omega
  have k6 : (x.kind == 6) = true := by simpa using hk
  have k7 : (x.kind == 7) = false := by simpa using fun e : x.kind = 7 => by omega
  have k8 : (x.kind == 8) = false := by simpa using fun e : x.kind = 8 => by omega
  have k9 : (x.kind == 9) = false := by simpa using fun e : x.kind = 9 => by omega
  have k10 : (x.kind == 10) = false := by simpa using fun e : x.kind = 10 => by omega
  have k11 : (x.kind == 11) = false := by simpa using fun e : x.kind = 11 => by omega
  clear hk
  obtain ⟨room, hroom⟩ : ∃ r, r = D.room := ⟨_, rfl⟩
  obtain ⟨lost, hlost⟩ : ∃ r, r = D.lost := ⟨_, rfl⟩
  obtain ⟨fl, hfl⟩ : ∃ r, r = D.armed - 1 := ⟨_, rfl⟩
  have HQ := Lib.hid (And.intro hroom (And.intro hlost hfl))
  rw [← hroom, ← hlost, ← hfl]
  clear hroom hlost hfl
  have hoa : x.a.size ≤ maxLen := hx.ok.2.1
  have hob : x.b.size ≤ maxLen := hx.ok.2.2
  have hon := hx.ok.1
  have HX := Lib.hid hx
  clear hx hsm
  have hEw : Ext w (((w.alloc (.cells #[.slice A D.files.length c, .int .i64 room, .bool lost, .int .i64 fl] 29)).alloc (.cells #[.int .i64 x.kind, .int .i64 x.num, .string x.a, .string x.b, .slice x.more.1 x.more.2.1 x.more.2.2, .slice x.choice.1 x.choice.2.1 x.choice.2.2, .int .u8 x.by_] 37)).alloc (.cells #[.slice none 0 0, .int .i64 0, .bool false, .int .i64 0] 29)) := (((Ext.refl w).alloc _).alloc _).alloc _
  have hX : At (((w.alloc (.cells #[.slice A D.files.length c, .int .i64 room, .bool lost, .int .i64 fl] 29)).alloc (.cells #[.int .i64 x.kind, .int .i64 x.num, .string x.a, .string x.b, .slice x.more.1 x.more.2.1 x.more.2.2, .slice x.choice.1 x.choice.2.1 x.choice.2.2, .int .u8 x.by_] 37)).alloc (.cells #[.slice none 0 0, .int .i64 0, .bool false, .int .i64 0] 29)) w.heap.size 29 #[.slice A D.files.length c, .int .i64 room, .bool lost, .int .i64 fl] := ((At.new _ _ _).alloc _).alloc _
  have hA : At (((w.alloc (.cells #[.slice A D.files.length c, .int .i64 room, .bool lost, .int .i64 fl] 29)).alloc (.cells #[.int .i64 x.kind, .int .i64 x.num, .string x.a, .string x.b, .slice x.more.1 x.more.2.1 x.more.2.2, .slice x.choice.1 x.choice.2.1 x.choice.2.2, .int .u8 x.by_] 37)).alloc (.cells #[.slice none 0 0, .int .i64 0, .bool false, .int .i64 0] 29)) (w.heap.size + 1) 37 #[.int .i64 x.kind, .int .i64 x.num, .string x.a, .string x.b, .slice x.more.1 x.more.2.1 x.more.2.2, .slice x.choice.1 x.choice.2.1 x.choice.2.2, .int .u8 x.by_] := (At.new_eq (by simp) _ _).alloc _
  have hZ : At (((w.alloc (.cells #[.slice A D.files.length c, .int .i64 room, .bool lost, .int .i64 fl] 29)).alloc (.cells #[.int .i64 x.kind, .int .i64 x.num, .string x.a, .string x.b, .slice x.more.1 x.more.2.1 x.more.2.2, .slice x.choice.1 x.choice.2.1 x.choice.2.2, .int .u8 x.by_] 37)).alloc (.cells #[.slice none 0 0, .int .i64 0, .bool false, .int .i64 0] 29)) (w.heap.size + 1 + 1) 29 #[.slice none 0 0, .int .i64 0, .bool false, .int .i64 0] := At.new_eq (by simp) _ _
  go_enter Try.func7, Try.ntmps7
  go_upto_region 1 with fail
  generalize (((w.alloc _).alloc _).alloc _ : World) = W at hEw hX hA hZ ⊢
  have hxz : w.heap.size ≠ w.heap.size + 1 + 1 := by omega
  have hxa : w.heap.size ≠ w.heap.size + 1 := by omega
  have haz : w.heap.size + 1 ≠ w.heap.size + 1 + 1 := by omega
  have hwx : w.heap.size ≤ w.heap.size := Nat.le_refl _
  have hwz : w.heap.size ≤ w.heap.size + 1 + 1 := by omega
  have hwa : w.heap.size ≤ w.heap.size + 1 := by omega
  have hdl : d < w.heap.size := hD.1.lt
  have hml : m < w.heap.size := hD.2.lt
  generalize hzb : w.heap.size + 1 + 1 = zb at *
  generalize hab : w.heap.size + 1 = ab at *
  obtain ⟨xb, hxb⟩ : ∃ xb, xb = w.heap.size := ⟨_, rfl⟩
  rw [← hxb] at hX hxz hxa ⊢
  replace hwx : w.heap.size ≤ xb := by omega
  have hdx : xb ≠ d ∧ xb ≠ m := by omega
  have hda : ab ≠ d ∧ ab ≠ m := by omega
  have hdz : zb ≠ d ∧ zb ≠ m := by omega
  clear hzb hab hxb
  have hDW := hD.ext hEw
  have hRW := hR.ext hEw
  have hE0W := hE0.trans hEw
  clear hD hR
  have v0 := hA.cell 0
  have v1 := hA.cell 1
  have v2 := hA.cell 2
  have v3 := hA.cell 3
  have v4 := hA.cell 4
  have v5 := hA.cell 5
  have v6 := hA.cell 6
  simp at v0 v1 v2 v3 v4 v5 v6
  go_wp2_with fail
  refine (cut_any x.a 6 W hoa (by omega)).mono ?_
  rintro e w1 ⟨rfl, hw1⟩
  subst hw1
  have hns := cut_size x.a 6
  generalize cut x.a 6 = n at hns ⊢
  go_wp2_with fail
  refine (cut_any x.b 60 w1 hob (by omega)).mono ?_
  rintro e w2 ⟨rfl, hw2⟩
  subst hw2
  have hss := cut_size x.b 60
  generalize cut x.b 60 = s at hss ⊢
  go_wp2_with fail
  have hch := HX.out.choice.ext hE0W
  have hap : ∀ b o n c, (.slice x.choice.1 x.choice.2.1 x.choice.2.2 : Value) = .slice (some ⟨b, o, none⟩) n c → ch.map (Value.int .i64) ≠ [] → ¬ (b = d ∨ b = m) := fun b o n c e hne => by
    have := sl_block HX.out.choice b o n c e hne
    omega
  refine (crash_any w2 d m D hDW hO (fun n => by have := hI.getSm n; omega) (by omega) _ ch hch HX.out.crg HX.out.clen hap).mono ?_
  rintro e w3 ⟨rfl, hC3, hD3⟩
  have hX3 := hX.chg hC3 (fun e => e.elim hdx.1 hdx.2)
  have hA3 := hA.chg hC3 (fun e => e.elim hda.1 hda.2)
  have hZ3 := hZ.chg hC3 (fun e => e.elim hdz.1 hdz.2)
  have hR3 := rk_plat hRW hDW hC3
  have hal := crash_alike hI (by unfold maxLen; omega) ch
  have hch3 := hch.chg hC3 hap
  have cp := rcrash_any w3 (.slice A D.files.length c) D.room D.lost (D.armed - 1) D.files (hI.rks hN hB hR3) (by omega) _ ch hch3 HX.out.crg HX.out.clen
  rw [hal.1] at cp
  obtain ⟨_, hal2⟩ := hal
  generalize D.crash ch = D2 at hD3 cp hal2 ⊢
  rw [← HQ.out.1, ← HQ.out.2.1, ← HQ.out.2.2] at cp
  have HD2 := Lib.hid (And.intro hal2 trivial)
  clear hal2 v0 v1 v2 v3 v4 v5 v6 hX hA hZ hRW hDW hch hap hch3
  have x0 := hX3.cell 0
  have x1 := hX3.cell 1
  have x2 := hX3.cell 2
  have x3 := hX3.cell 3
  simp at x0 x1 x2 x3
  have v5 := hA3.cell 5
  simp at v5
  go_wp2_with fail
  refine cp.mono ?_
  rintro e w4 ⟨lv2, rfl, hR4, hE4⟩
  obtain ⟨A2, c2, rfl⟩ := rk_slice hR4
  have hZ4 := hZ3.ext hE4
  have hD4 := hD3.ext hE4
  have hCw := (hEw.chg_trans hC3).ext_trans hE4
  clear x0 x1 x2 x3 v5 hX3 hA3 hZ3 hD3 hE4 cp
  have z0 := hZ4.cell 0
  have z1 := hZ4.cell 1
  have z2 := hZ4.cell 2
  have z3 := hZ4.cell 3
  have g0 := hZ4.frozen 0
  have g1 := hZ4.frozen 1
  have g2 := hZ4.frozen 2
  have g3 := hZ4.frozen 3
  simp at z0 z1 z2 z3
  go_wp2_with fail
  have hZ9 := at_anew hZ4 (vs := #[.slice A2 D2.files.length c2, .int .i64 room, .bool lost, .int .i64 fl]) rfl
  refine bodyPost_ret (v := .tuple #[.agg #[.slice A2 D2.files.length c2, .int .i64 room, .bool lost, .int .i64 fl], .bool true]) (results_ct Try.results7 _ rfl (hZ9.loadv Try.underlying29 rfl (by kernel_rfl))) rfl ?_
  have hCz : Chg (· = zb) w4 ((((w4.setCell ⟨zb, 0, none⟩ (.slice A2 D2.files.length c2)).setCell ⟨zb, 1, none⟩ (.int .i64 room)).setCell ⟨zb, 2, none⟩ (.bool lost)).setCell ⟨zb, 3, none⟩ (.int .i64 fl)) := chg_setAll w4 zb [.slice A2 D2.files.length c2, .int .i64 room, .bool lost, .int .i64 fl] 0 w4 (Chg.refl _ _)
  obtain ⟨⟨b1, b2, b3, b4⟩, b5⟩ := HD2.out
  refine ⟨_, D2, ?_, ⟨hD4.1.chg hCz hdz.1.symm, hD4.2.chg hCz hdz.2.symm⟩, Sln.chg hR4 hCz (rk_apart hR4 hZ4 dz_nostr), b4.mono (by omega) (by omega), ?_, ?_⟩
  · rw [b2, b3, ← HQ.out.2.1, ← HQ.out.2.2]
  · rw [b1, ← HQ.out.1]
  · exact hCw.trans hCz (fun k hk e => by have e' : k = zb := e; omega)

set_option maxRecDepth 100000 in
set_option maxHeartbeats 2000000 in
theorem does_7 (w W0 : World) (d m : Nat) (D : Dk) (N B : Nat) (hD : DkAt w d m D) (hI : Inv N B D) (hN : N ≤ 1000) (hB : B ≤ 10000) (lv : Value) (hR : RkIn w lv D.files) (x : Act) (ms : List ByteArray) (ch : List Int) (b : UInt8) (hx : ActIn W0 x ms ch b) (hE0 : Ext W0 w) (hd : W0.heap.size ≤ d) (hm : W0.heap.size ≤ m) (hk : x.kind = 7) :
    Calls Try.prog 7 #[.pointer (some ⟨d, 0, none⟩), .agg #[lv, .int .i64 D.room, .bool D.lost, .int .i64 (D.armed - 1)], .agg #[.int .i64 x.kind, .int .i64 x.num, .string x.a, .string x.b, .slice x.more.1 x.more.2.1 x.more.2.2, .slice x.choice.1 x.choice.2.1 x.choice.2.2, .int .u8 x.by_]] w (DoOut d m N B D.room w) := by
  obtain ⟨A, c, rfl⟩ := rk_slice hR
  obtain ⟨hsm, hlen, harm⟩ := hI.small hN hB
  have hO := hI.ok
  have ha0 := hO.a0
  have hr0 : 0 ≤ D.room ∧ D.room ≤ 9223372036854775807 := ⟨by have := hO.u0; have := hO.u1; omega, hO.r1⟩
  have HSM := Lib.hid (And.intro hsm (And.intro hI (And.intro hN hB)))
  have k1 : (x.kind == 1) = false := by simpa using fun e : x.kind = 1 => by omega
  have k2 : (x.kind == 2) = false := by simpa using fun e : x.kind = 2 => by omega
  have k3 : (x.kind == 3) = false := by simpa using fun e : x.kind = 3 => by omega
  have k4 : (x.kind == 4) = false := by simpa using fun e : x.kind = 4 => by omega
  have k5 : (x.kind == 5) = false := by simpa using fun e : x.kind = 5 => by omega
  have k6 : (x.kind == 6) = false := by simpa using fun e : x.kind = 6 => by omega
  have k7 : (x.kind == 7) = true := by simpa using hk
  have k8 : (x.kind == 8) = false := by simpa using fun e : x.kind = 8 => by omega
  have k9 : (x.kind == 9) = false := by simpa using fun e : x.kind = 9 => by omega
  have k10 : (x.kind == 10) = false := by simpa using fun e : x.kind = 10 => by omega
  have k11 : (x.kind == 11) = false := by simpa using fun e : x.kind = 11 => by omega
  clear hk
  obtain ⟨room, hroom⟩ : ∃ r, r = D.room := ⟨_, rfl⟩
  obtain ⟨lost, hlost⟩ : ∃ r, r = D.lost := ⟨_, rfl⟩
  obtain ⟨fl, hfl⟩ : ∃ r, r = D.armed - 1 := ⟨_, rfl⟩
  have HQ := Lib.hid (And.intro hroom (And.intro hlost hfl))
  rw [← hroom, ← hlost, ← hfl]
  clear hroom hlost hfl
  have hoa : x.a.size ≤ maxLen := hx.ok.2.1
  have hob : x.b.size ≤ maxLen := hx.ok.2.2
  have hon := hx.ok.1
  have HX := Lib.hid hx
  clear hx hsm
  have hEw : Ext w (((w.alloc (.cells #[.slice A D.files.length c, .int .i64 room, .bool lost, .int .i64 fl] 29)).alloc (.cells #[.int .i64 x.kind, .int .i64 x.num, .string x.a, .string x.b, .slice x.more.1 x.more.2.1 x.more.2.2, .slice x.choice.1 x.choice.2.1 x.choice.2.2, .int .u8 x.by_] 37)).alloc (.cells #[.slice none 0 0, .int .i64 0, .bool false, .int .i64 0] 29)) := (((Ext.refl w).alloc _).alloc _).alloc _
  have hX : At (((w.alloc (.cells #[.slice A D.files.length c, .int .i64 room, .bool lost, .int .i64 fl] 29)).alloc (.cells #[.int .i64 x.kind, .int .i64 x.num, .string x.a, .string x.b, .slice x.more.1 x.more.2.1 x.more.2.2, .slice x.choice.1 x.choice.2.1 x.choice.2.2, .int .u8 x.by_] 37)).alloc (.cells #[.slice none 0 0, .int .i64 0, .bool false, .int .i64 0] 29)) w.heap.size 29 #[.slice A D.files.length c, .int .i64 room, .bool lost, .int .i64 fl] := ((At.new _ _ _).alloc _).alloc _
  have hA : At (((w.alloc (.cells #[.slice A D.files.length c, .int .i64 room, .bool lost, .int .i64 fl] 29)).alloc (.cells #[.int .i64 x.kind, .int .i64 x.num, .string x.a, .string x.b, .slice x.more.1 x.more.2.1 x.more.2.2, .slice x.choice.1 x.choice.2.1 x.choice.2.2, .int .u8 x.by_] 37)).alloc (.cells #[.slice none 0 0, .int .i64 0, .bool false, .int .i64 0] 29)) (w.heap.size + 1) 37 #[.int .i64 x.kind, .int .i64 x.num, .string x.a, .string x.b, .slice x.more.1 x.more.2.1 x.more.2.2, .slice x.choice.1 x.choice.2.1 x.choice.2.2, .int .u8 x.by_] := (At.new_eq (by simp) _ _).alloc _
  have hZ : At (((w.alloc (.cells #[.slice A D.files.length c, .int .i64 room, .bool lost, .int .i64 fl] 29)).alloc (.cells #[.int .i64 x.kind, .int .i64 x.num, .string x.a, .string x.b, .slice x.more.1 x.more.2.1 x.more.2.2, .slice x.choice.1 x.choice.2.1 x.choice.2.2, .int .u8 x.by_] 37)).alloc (.cells #[.slice none 0 0, .int .i64 0, .bool false, .int .i64 0] 29)) (w.heap.size + 1 + 1) 29 #[.slice none 0 0, .int .i64 0, .bool false, .int .i64 0] := At.new_eq (by simp) _ _
  go_enter Try.func7, Try.ntmps7
  go_upto_region 1 with fail
  generalize (((w.alloc _).alloc _).alloc _ : World) = W at hEw hX hA hZ ⊢
  have hxz : w.heap.size ≠ w.heap.size + 1 + 1 := by omega
  have hxa : w.heap.size ≠ w.heap.size + 1 := by omega
  have haz : w.heap.size + 1 ≠ w.heap.size + 1 + 1 := by omega
  have hwx : w.heap.size ≤ w.heap.size := Nat.le_refl _
  have hwz : w.heap.size ≤ w.heap.size + 1 + 1 := by omega
  have hwa : w.heap.size ≤ w.heap.size + 1 := by omega
  have hdl : d < w.heap.size := hD.1.lt
  have hml : m < w.heap.size := hD.2.lt
  generalize hzb : w.heap.size + 1 + 1 = zb at *
  generalize hab : w.heap.size + 1 = ab at *
  obtain ⟨xb, hxb⟩ : ∃ xb, xb = w.heap.size := ⟨_, rfl⟩
  rw [← hxb] at hX hxz hxa ⊢
  replace hwx : w.heap.size ≤ xb := by omega
  have hdx : xb ≠ d ∧ xb ≠ m := by omega
  have hda : ab ≠ d ∧ ab ≠ m := by omega
  have hdz : zb ≠ d ∧ zb ≠ m := by omega
  clear hzb hab hxb
  have hDW := hD.ext hEw
  have hRW := hR.ext hEw
  have hE0W := hE0.trans hEw
  clear hD hR
  have v0 := hA.cell 0
  have v1 := hA.cell 1
  have v2 := hA.cell 2
  have v3 := hA.cell 3
  have v4 := hA.cell 4
  have v5 := hA.cell 5
  have v6 := hA.cell 6
  simp at v0 v1 v2 v3 v4 v5 v6
  go_wp2_with fail
  refine (cut_any x.a 6 W hoa (by omega)).mono ?_
  rintro e w1 ⟨rfl, hw1⟩
  subst hw1
  have hns := cut_size x.a 6
  generalize cut x.a 6 = n at hns ⊢
  go_wp2_with fail
  refine (cut_any x.b 60 w1 hob (by omega)).mono ?_
  rintro e w2 ⟨rfl, hw2⟩
  subst hw2
  have hss := cut_size x.b 60
  generalize cut x.b 60 = s at hss ⊢
  go_wp2_with fail
  refine (read_any w2 d m D hDW hO n).mono ?_
  rintro e w3 ⟨rfl, hC1, hD3⟩
  have hC3 : Chg (fun k => k = d ∨ k = m) w2 w3 := hC1.mono (fun _ _ h => .inl h)
  have hX3 := hX.chg hC3 (fun e => e.elim hdx.1 hdx.2)
  have hA3 := hA.chg hC3 (fun e => e.elim hda.1 hda.2)
  have hZ3 := hZ.chg hC3 (fun e => e.elim hdz.1 hdz.2)
  have hR3 := rk_plat hRW hDW hC3
  have cp := rread_any w3 (.slice A D.files.length c) D.room D.lost D.armed D.files (hI.rks hN hB hR3) ha0 harm n
  rw [read_alike D n] at cp
  generalize D.read n = q at cp ⊢
  obtain ⟨tx, er⟩ := q
  simp only at cp
  rw [← HQ.out.1, ← HQ.out.2.1, ← HQ.out.2.2] at cp
  obtain ⟨a2, ha2⟩ : ∃ r, r = tryA lost D.armed - 1 := ⟨_, rfl⟩
  rw [← ha2] at cp
  obtain ⟨D2, hD2⟩ : ∃ D2, D2 = D.tick := ⟨_, rfl⟩
  have hal2 : D2.room = D.room ∧ D2.lost = D.lost ∧ D2.armed = tryA D.lost D.armed ∧ Inv N B D2 := by rw [hD2]; exact ⟨rfl, rfl, rfl, hI.tick⟩
  have hfe : D.files = D2.files := by rw [hD2]; rfl
  rw [← hD2] at hD3
  have HD2 := Lib.hid (And.intro hal2 ha2)
  have HFE := Lib.hid hfe
  clear hal2 ha2 hD2 hfe v0 v1 v2 v3 v4 v5 v6 hX hA hZ hRW hDW hC1
  have x0 := hX3.cell 0
  have x1 := hX3.cell 1
  have x2 := hX3.cell 2
  have x3 := hX3.cell 3
  simp at x0 x1 x2 x3
  go_wp2_with fail
  refine cp.mono ?_
  rintro e w4 ⟨rfl, hE4⟩
  go_upto_region 30 with fail
  have hY := At.new w4 29 #[.slice A D.files.length c, .int .i64 room, .bool lost, .int .i64 a2]
  have hEy := (Ext.refl w4).alloc (.cells #[.slice A D.files.length c, .int .i64 room, .bool lost, .int .i64 a2] 29)
  have hZ4 := (hZ3.ext hE4).ext hEy
  have hD4 := (hD3.ext hE4).ext hEy
  have hR5 := (hR3.ext hE4).ext hEy
  have hCw := (((hEw.chg_trans hC3).ext_trans hE4).ext_trans hEy)
  have hyz : zb ≠ w4.heap.size := fun e => by have := (hZ3.ext hE4).lt; omega
  clear x0 x1 x2 x3 hX3 hA3 hZ3 hD3 hE4 hEy hR3 cp
  generalize w4.heap.size = yb at hY hyz ⊢
  generalize w4.alloc _ = w5 at hY hZ4 hD4 hR5 hCw ⊢
  have y0 := hY.cell 0
  have y1 := hY.cell 1
  have y2 := hY.cell 2
  have y3 := hY.cell 3
  simp at y0 y1 y2 y3
  have z0 := hZ4.cell 0
  have z1 := hZ4.cell 1
  have z2 := hZ4.cell 2
  have z3 := hZ4.cell 3
  have g0 := hZ4.frozen 0
  have g1 := hZ4.frozen 1
  have g2 := hZ4.frozen 2
  have g3 := hZ4.frozen 3
  simp at z0 z1 z2 z3
  go_wp2_with fail
  have hZ9 := at_anew hZ4 (vs := #[.slice A D.files.length c, .int .i64 room, .bool lost, .int .i64 a2]) rfl
  refine bodyPost_ret (v := .tuple #[.agg #[.slice A D.files.length c, .int .i64 room, .bool lost, .int .i64 a2], .bool true]) (results_ct Try.results7 _ rfl (hZ9.loadv Try.underlying29 rfl (by kernel_rfl))) rfl ?_
  have hCz : Chg (· = zb) w5 ((((w5.setCell ⟨zb, 0, none⟩ (.slice A D.files.length c)).setCell ⟨zb, 1, none⟩ (.int .i64 room)).setCell ⟨zb, 2, none⟩ (.bool lost)).setCell ⟨zb, 3, none⟩ (.int .i64 a2)) := chg_setAll w5 zb [.slice A D.files.length c, .int .i64 room, .bool lost, .int .i64 a2] 0 w5 (Chg.refl _ _)
  obtain ⟨⟨b1, b2, b3, b4⟩, b5⟩ := HD2.out
  refine ⟨_, D2, ?_, ⟨hD4.1.chg hCz hdz.1.symm, hD4.2.chg hCz hdz.2.symm⟩, by rw [← HFE.out]; exact Sln.chg hR5 hCz (rk_apart hR5 hZ4 dz_nostr), b4.mono (by omega) (by omega), ?_, ?_⟩
  · rw [b2, b3, b5, ← HQ.out.2.1]
  · rw [b1, ← HQ.out.1]
  · exact hCw.trans hCz (fun k hk e => by have e' : k = zb := e; omega)

set_option maxRecDepth 100000 in
set_option maxHeartbeats 2000000 in
theorem does_10 (w W0 : World) (d m : Nat) (D : Dk) (N B : Nat) (hD : DkAt w d m D) (hI : Inv N B D) (hN : N ≤ 1000) (hB : B ≤ 10000) (lv : Value) (hR : RkIn w lv D.files) (x : Act) (ms : List ByteArray) (ch : List Int) (b : UInt8) (hx : ActIn W0 x ms ch b) (hE0 : Ext W0 w) (hd : W0.heap.size ≤ d) (hm : W0.heap.size ≤ m) (hk : x.kind = 10) :
    Calls Try.prog 7 #[.pointer (some ⟨d, 0, none⟩), .agg #[lv, .int .i64 D.room, .bool D.lost, .int .i64 (D.armed - 1)], .agg #[.int .i64 x.kind, .int .i64 x.num, .string x.a, .string x.b, .slice x.more.1 x.more.2.1 x.more.2.2, .slice x.choice.1 x.choice.2.1 x.choice.2.2, .int .u8 x.by_]] w (DoOut d m N B D.room w) := by
  obtain ⟨A, c, rfl⟩ := rk_slice hR
  obtain ⟨hsm, hlen, harm⟩ := hI.small hN hB
  have hO := hI.ok
  have ha0 := hO.a0
  have hr0 : 0 ≤ D.room ∧ D.room ≤ 9223372036854775807 := ⟨by have := hO.u0; have := hO.u1; omega, hO.r1⟩
  have HSM := Lib.hid (And.intro hsm (And.intro hI (And.intro hN hB)))
  have k1 : (x.kind == 1) = false := by simpa using fun e : x.kind = 1 => by omega
  have k2 : (x.kind == 2) = false := by simpa using fun e : x.kind = 2 => by omega
  have k3 : (x.kind == 3) = false := by simpa using fun e : x.kind = 3 => by omega
  have k4 : (x.kind == 4) = false := by simpa using fun e : x.kind = 4 => by omega
  have k5 : (x.kind == 5) = false := by simpa using fun e : x.kind = 5 => by omega
  have k6 : (x.kind == 6) = false := by simpa using fun e : x.kind = 6 => by omega
  have k7 : (x.kind == 7) = false := by simpa using fun e : x.kind = 7 => by omega
  have k8 : (x.kind == 8) = false := by simpa using fun e : x.kind = 8 => by omega
  have k9 : (x.kind == 9) = false := by simpa using fun e : x.kind = 9 => by omega
  have k10 : (x.kind == 10) = true := by simpa using hk
  have k11 : (x.kind == 11) = false := by simpa using fun e : x.kind = 11 => by omega
  clear hk
  obtain ⟨room, hroom⟩ : ∃ r, r = D.room := ⟨_, rfl⟩
  obtain ⟨lost, hlost⟩ : ∃ r, r = D.lost := ⟨_, rfl⟩
  obtain ⟨fl, hfl⟩ : ∃ r, r = D.armed - 1 := ⟨_, rfl⟩
  have HQ := Lib.hid (And.intro hroom (And.intro hlost hfl))
  rw [← hroom, ← hlost, ← hfl]
  clear hroom hlost hfl
  have hoa : x.a.size ≤ maxLen := hx.ok.2.1
  have hob : x.b.size ≤ maxLen := hx.ok.2.2
  have hon := hx.ok.1
  have HX := Lib.hid hx
  clear hx hsm
  have hEw : Ext w (((w.alloc (.cells #[.slice A D.files.length c, .int .i64 room, .bool lost, .int .i64 fl] 29)).alloc (.cells #[.int .i64 x.kind, .int .i64 x.num, .string x.a, .string x.b, .slice x.more.1 x.more.2.1 x.more.2.2, .slice x.choice.1 x.choice.2.1 x.choice.2.2, .int .u8 x.by_] 37)).alloc (.cells #[.slice none 0 0, .int .i64 0, .bool false, .int .i64 0] 29)) := (((Ext.refl w).alloc _).alloc _).alloc _
  have hX : At (((w.alloc (.cells #[.slice A D.files.length c, .int .i64 room, .bool lost, .int .i64 fl] 29)).alloc (.cells #[.int .i64 x.kind, .int .i64 x.num, .string x.a, .string x.b, .slice x.more.1 x.more.2.1 x.more.2.2, .slice x.choice.1 x.choice.2.1 x.choice.2.2, .int .u8 x.by_] 37)).alloc (.cells #[.slice none 0 0, .int .i64 0, .bool false, .int .i64 0] 29)) w.heap.size 29 #[.slice A D.files.length c, .int .i64 room, .bool lost, .int .i64 fl] := ((At.new _ _ _).alloc _).alloc _
  have hA : At (((w.alloc (.cells #[.slice A D.files.length c, .int .i64 room, .bool lost, .int .i64 fl] 29)).alloc (.cells #[.int .i64 x.kind, .int .i64 x.num, .string x.a, .string x.b, .slice x.more.1 x.more.2.1 x.more.2.2, .slice x.choice.1 x.choice.2.1 x.choice.2.2, .int .u8 x.by_] 37)).alloc (.cells #[.slice none 0 0, .int .i64 0, .bool false, .int .i64 0] 29)) (w.heap.size + 1) 37 #[.int .i64 x.kind, .int .i64 x.num, .string x.a, .string x.b, .slice x.more.1 x.more.2.1 x.more.2.2, .slice x.choice.1 x.choice.2.1 x.choice.2.2, .int .u8 x.by_] := (At.new_eq (by simp) _ _).alloc _
  have hZ : At (((w.alloc (.cells #[.slice A D.files.length c, .int .i64 room, .bool lost, .int .i64 fl] 29)).alloc (.cells #[.int .i64 x.kind, .int .i64 x.num, .string x.a, .string x.b, .slice x.more.1 x.more.2.1 x.more.2.2, .slice x.choice.1 x.choice.2.1 x.choice.2.2, .int .u8 x.by_] 37)).alloc (.cells #[.slice none 0 0, .int .i64 0, .bool false, .int .i64 0] 29)) (w.heap.size + 1 + 1) 29 #[.slice none 0 0, .int .i64 0, .bool false, .int .i64 0] := At.new_eq (by simp) _ _
  go_enter Try.func7, Try.ntmps7
  go_upto_region 1 with fail
  generalize (((w.alloc _).alloc _).alloc _ : World) = W at hEw hX hA hZ ⊢
  have hxz : w.heap.size ≠ w.heap.size + 1 + 1 := by omega
  have hxa : w.heap.size ≠ w.heap.size + 1 := by omega
  have haz : w.heap.size + 1 ≠ w.heap.size + 1 + 1 := by omega
  have hwx : w.heap.size ≤ w.heap.size := Nat.le_refl _
  have hwz : w.heap.size ≤ w.heap.size + 1 + 1 := by omega
  have hwa : w.heap.size ≤ w.heap.size + 1 := by omega
  have hdl : d < w.heap.size := hD.1.lt
  have hml : m < w.heap.size := hD.2.lt
  generalize hzb : w.heap.size + 1 + 1 = zb at *
  generalize hab : w.heap.size + 1 = ab at *
  obtain ⟨xb, hxb⟩ : ∃ xb, xb = w.heap.size := ⟨_, rfl⟩
  rw [← hxb] at hX hxz hxa ⊢
  replace hwx : w.heap.size ≤ xb := by omega
  have hdx : xb ≠ d ∧ xb ≠ m := by omega
  have hda : ab ≠ d ∧ ab ≠ m := by omega
  have hdz : zb ≠ d ∧ zb ≠ m := by omega
  clear hzb hab hxb
  have hDW := hD.ext hEw
  have hRW := hR.ext hEw
  have hE0W := hE0.trans hEw
  clear hD hR
  have v0 := hA.cell 0
  have v1 := hA.cell 1
  have v2 := hA.cell 2
  have v3 := hA.cell 3
  have v4 := hA.cell 4
  have v5 := hA.cell 5
  have v6 := hA.cell 6
  simp at v0 v1 v2 v3 v4 v5 v6
  go_wp2_with fail
  refine (cut_any x.a 6 W hoa (by omega)).mono ?_
  rintro e w1 ⟨rfl, hw1⟩
  subst hw1
  have hns := cut_size x.a 6
  generalize cut x.a 6 = n at hns ⊢
  go_wp2_with fail
  refine (cut_any x.b 60 w1 hob (by omega)).mono ?_
  rintro e w2 ⟨rfl, hw2⟩
  subst hw2
  have hss := cut_size x.b 60
  generalize cut x.b 60 = s at hss ⊢
  go_wp2_with fail
  refine (lose_any w2 d m D hDW).mono ?_
  rintro e w3 ⟨rfl, hC1, hD3⟩
  have hC3 : Chg (fun k => k = d ∨ k = m) w2 w3 := hC1.mono (fun _ _ h => .inl h)
  have hX3 := hX.chg hC3 (fun e => e.elim hdx.1 hdx.2)
  have hZ3 := hZ.chg hC3 (fun e => e.elim hdz.1 hdz.2)
  have hR3 := rk_plat hRW hDW hC3
  have HD2 := Lib.hid (And.intro (And.intro rfl (And.intro rfl (And.intro rfl (lose_alike hI)))) (And.intro rfl rfl) : ((({ D with lost := true } : Dk).room = D.room ∧ ({ D with lost := true } : Dk).lost = true ∧ ({ D with lost := true } : Dk).armed = D.armed ∧ Inv N B { D with lost := true }) ∧ (({ D with lost := true } : Dk).files = D.files ∧ True = True)))
  generalize ({ D with lost := true } : Dk) = D2 at hD3 HD2
  have x2 := hX3.cell 2
  have f2 := hX3.frozen 2
  simp at x2
  clear v0 v1 v2 v3 v4 v5 v6 hX hA hZ hRW hDW hC1
  go_upto_region 45 with fail
  have hX4 : At (w3.setCell ⟨xb, 2, none⟩ (.bool true)) xb 29 #[.slice A D.files.length c, .int .i64 room, .bool true, .int .i64 fl] := hX3.set 2 _
  have hcx : Chg (· = xb) w3 (w3.setCell ⟨xb, 2, none⟩ (.bool true)) := (Chg.refl (· = xb) w3).setCell (p := ⟨xb, 2, none⟩) (.inl rfl) _
  have hZ4 := hZ3.chg hcx (fun e => hxz e.symm)
  have hD4 : DkAt (w3.setCell ⟨xb, 2, none⟩ (.bool true)) d m D2 := ⟨hD3.1.chg hcx hdx.1.symm, hD3.2.chg hcx hdx.2.symm⟩
  have hR4 := Sln.chg hR3 hcx (rk_apart hR3 hX3 dz_nostr)
  have hCw : Chg (fun k => k = d ∨ k = m) w (w3.setCell ⟨xb, 2, none⟩ (.bool true)) := (hEw.chg_trans hC3).trans hcx (fun k hk e => by have e' : k = xb := e; omega)
  clear x2 f2 hX3 hZ3 hD3 hcx hR3
  generalize w3.setCell _ _ = w5 at hX4 hZ4 hD4 hR4 hCw ⊢
  have x0 := hX4.cell 0
  have x1 := hX4.cell 1
  have x2 := hX4.cell 2
  have x3 := hX4.cell 3
  simp at x0 x1 x2 x3
  have z0 := hZ4.cell 0
  have z1 := hZ4.cell 1
  have z2 := hZ4.cell 2
  have z3 := hZ4.cell 3
  have g0 := hZ4.frozen 0
  have g1 := hZ4.frozen 1
  have g2 := hZ4.frozen 2
  have g3 := hZ4.frozen 3
  simp at z0 z1 z2 z3
  go_wp2_with fail
  have hZ9 := at_anew hZ4 (vs := #[.slice A D.files.length c, .int .i64 room, .bool true, .int .i64 fl]) rfl
  refine bodyPost_ret (v := .tuple #[.agg #[.slice A D.files.length c, .int .i64 room, .bool true, .int .i64 fl], .bool true]) (results_ct Try.results7 _ rfl (hZ9.loadv Try.underlying29 rfl (by kernel_rfl))) rfl ?_
  have hCz : Chg (· = zb) w5 ((((w5.setCell ⟨zb, 0, none⟩ (.slice A D.files.length c)).setCell ⟨zb, 1, none⟩ (.int .i64 room)).setCell ⟨zb, 2, none⟩ (.bool true)).setCell ⟨zb, 3, none⟩ (.int .i64 fl)) := chg_setAll w5 zb [.slice A D.files.length c, .int .i64 room, .bool true, .int .i64 fl] 0 w5 (Chg.refl _ _)
  obtain ⟨⟨b1, b2, b3, b4⟩, b5⟩ := HD2.out
  refine ⟨_, D2, ?_, ⟨hD4.1.chg hCz hdz.1.symm, hD4.2.chg hCz hdz.2.symm⟩, by rw [b5.1]; exact Sln.chg hR4 hCz (rk_apart hR4 hZ4 dz_nostr), b4.mono (by omega) (by omega), ?_, ?_⟩
  · rw [b2, b3, ← HQ.out.2.2]
  · rw [b1, ← HQ.out.1]
  · exact hCw.trans hCz (fun k hk e => by have e' : k = zb := e; omega)

set_option maxRecDepth 100000 in
set_option maxHeartbeats 2000000 in
theorem does_11 (w W0 : World) (d m : Nat) (D : Dk) (N B : Nat) (hD : DkAt w d m D) (hI : Inv N B D) (hN : N ≤ 1000) (hB : B ≤ 10000) (lv : Value) (hR : RkIn w lv D.files) (x : Act) (ms : List ByteArray) (ch : List Int) (b : UInt8) (hx : ActIn W0 x ms ch b) (hE0 : Ext W0 w) (hd : W0.heap.size ≤ d) (hm : W0.heap.size ≤ m) (hk : x.kind = 11) :
    Calls Try.prog 7 #[.pointer (some ⟨d, 0, none⟩), .agg #[lv, .int .i64 D.room, .bool D.lost, .int .i64 (D.armed - 1)], .agg #[.int .i64 x.kind, .int .i64 x.num, .string x.a, .string x.b, .slice x.more.1 x.more.2.1 x.more.2.2, .slice x.choice.1 x.choice.2.1 x.choice.2.2, .int .u8 x.by_]] w (DoOut d m N B D.room w) := by
  obtain ⟨A, c, rfl⟩ := rk_slice hR
  obtain ⟨hsm, hlen, harm⟩ := hI.small hN hB
  have hO := hI.ok
  have ha0 := hO.a0
  have hr0 : 0 ≤ D.room ∧ D.room ≤ 9223372036854775807 := ⟨by have := hO.u0; have := hO.u1; omega, hO.r1⟩
  have HSM := Lib.hid (And.intro hsm (And.intro hI (And.intro hN hB)))
  have k1 : (x.kind == 1) = false := by simpa using fun e : x.kind = 1 => by omega
  have k2 : (x.kind == 2) = false := by simpa using fun e : x.kind = 2 => by omega
  have k3 : (x.kind == 3) = false := by simpa using fun e : x.kind = 3 => by omega
  have k4 : (x.kind == 4) = false := by simpa using fun e : x.kind = 4 => by omega
  have k5 : (x.kind == 5) = false := by simpa using fun e : x.kind = 5 => by omega
  have k6 : (x.kind == 6) = false := by simpa using fun e : x.kind = 6 => by omega
  have k7 : (x.kind == 7) = false := by simpa using fun e : x.kind = 7 => by omega
  have k8 : (x.kind == 8) = false := by simpa using fun e : x.kind = 8 => by omega
  have k9 : (x.kind == 9) = false := by simpa using fun e : x.kind = 9 => by omega
  have k10 : (x.kind == 10) = false := by simpa using fun e : x.kind = 10 => by omega
  have k11 : (x.kind == 11) = true := by simpa using hk
  clear hk
  obtain ⟨room, hroom⟩ : ∃ r, r = D.room := ⟨_, rfl⟩
  obtain ⟨lost, hlost⟩ : ∃ r, r = D.lost := ⟨_, rfl⟩
  obtain ⟨fl, hfl⟩ : ∃ r, r = D.armed - 1 := ⟨_, rfl⟩
  have HQ := Lib.hid (And.intro hroom (And.intro hlost hfl))
  rw [← hroom, ← hlost, ← hfl]
  clear hroom hlost hfl
  have hoa : x.a.size ≤ maxLen := hx.ok.2.1
  have hob : x.b.size ≤ maxLen := hx.ok.2.2
  have hon := hx.ok.1
  have HX := Lib.hid hx
  clear hx hsm
  have hEw : Ext w (((w.alloc (.cells #[.slice A D.files.length c, .int .i64 room, .bool lost, .int .i64 fl] 29)).alloc (.cells #[.int .i64 x.kind, .int .i64 x.num, .string x.a, .string x.b, .slice x.more.1 x.more.2.1 x.more.2.2, .slice x.choice.1 x.choice.2.1 x.choice.2.2, .int .u8 x.by_] 37)).alloc (.cells #[.slice none 0 0, .int .i64 0, .bool false, .int .i64 0] 29)) := (((Ext.refl w).alloc _).alloc _).alloc _
  have hX : At (((w.alloc (.cells #[.slice A D.files.length c, .int .i64 room, .bool lost, .int .i64 fl] 29)).alloc (.cells #[.int .i64 x.kind, .int .i64 x.num, .string x.a, .string x.b, .slice x.more.1 x.more.2.1 x.more.2.2, .slice x.choice.1 x.choice.2.1 x.choice.2.2, .int .u8 x.by_] 37)).alloc (.cells #[.slice none 0 0, .int .i64 0, .bool false, .int .i64 0] 29)) w.heap.size 29 #[.slice A D.files.length c, .int .i64 room, .bool lost, .int .i64 fl] := ((At.new _ _ _).alloc _).alloc _
  have hA : At (((w.alloc (.cells #[.slice A D.files.length c, .int .i64 room, .bool lost, .int .i64 fl] 29)).alloc (.cells #[.int .i64 x.kind, .int .i64 x.num, .string x.a, .string x.b, .slice x.more.1 x.more.2.1 x.more.2.2, .slice x.choice.1 x.choice.2.1 x.choice.2.2, .int .u8 x.by_] 37)).alloc (.cells #[.slice none 0 0, .int .i64 0, .bool false, .int .i64 0] 29)) (w.heap.size + 1) 37 #[.int .i64 x.kind, .int .i64 x.num, .string x.a, .string x.b, .slice x.more.1 x.more.2.1 x.more.2.2, .slice x.choice.1 x.choice.2.1 x.choice.2.2, .int .u8 x.by_] := (At.new_eq (by simp) _ _).alloc _
  have hZ : At (((w.alloc (.cells #[.slice A D.files.length c, .int .i64 room, .bool lost, .int .i64 fl] 29)).alloc (.cells #[.int .i64 x.kind, .int .i64 x.num, .string x.a, .string x.b, .slice x.more.1 x.more.2.1 x.more.2.2, .slice x.choice.1 x.choice.2.1 x.choice.2.2, .int .u8 x.by_] 37)).alloc (.cells #[.slice none 0 0, .int .i64 0, .bool false, .int .i64 0] 29)) (w.heap.size + 1 + 1) 29 #[.slice none 0 0, .int .i64 0, .bool false, .int .i64 0] := At.new_eq (by simp) _ _
  go_enter Try.func7, Try.ntmps7
  go_upto_region 1 with fail
  generalize (((w.alloc _).alloc _).alloc _ : World) = W at hEw hX hA hZ ⊢
  have hxz : w.heap.size ≠ w.heap.size + 1 + 1 := by omega
  have hxa : w.heap.size ≠ w.heap.size + 1 := by omega
  have haz : w.heap.size + 1 ≠ w.heap.size + 1 + 1 := by omega
  have hwx : w.heap.size ≤ w.heap.size := Nat.le_refl _
  have hwz : w.heap.size ≤ w.heap.size + 1 + 1 := by omega
  have hwa : w.heap.size ≤ w.heap.size + 1 := by omega
  have hdl : d < w.heap.size := hD.1.lt
  have hml : m < w.heap.size := hD.2.lt
  generalize hzb : w.heap.size + 1 + 1 = zb at *
  generalize hab : w.heap.size + 1 = ab at *
  obtain ⟨xb, hxb⟩ : ∃ xb, xb = w.heap.size := ⟨_, rfl⟩
  rw [← hxb] at hX hxz hxa ⊢
  replace hwx : w.heap.size ≤ xb := by omega
  have hdx : xb ≠ d ∧ xb ≠ m := by omega
  have hda : ab ≠ d ∧ ab ≠ m := by omega
  have hdz : zb ≠ d ∧ zb ≠ m := by omega
  clear hzb hab hxb
  have hDW := hD.ext hEw
  have hRW := hR.ext hEw
  have hE0W := hE0.trans hEw
  clear hD hR
  have v0 := hA.cell 0
  have v1 := hA.cell 1
  have v2 := hA.cell 2
  have v3 := hA.cell 3
  have v4 := hA.cell 4
  have v5 := hA.cell 5
  have v6 := hA.cell 6
  simp at v0 v1 v2 v3 v4 v5 v6
  go_wp2_with fail
  refine (cut_any x.a 6 W hoa (by omega)).mono ?_
  rintro e w1 ⟨rfl, hw1⟩
  subst hw1
  have hns := cut_size x.a 6
  generalize cut x.a 6 = n at hns ⊢
  go_wp2_with fail
  refine (cut_any x.b 60 w1 hob (by omega)).mono ?_
  rintro e w2 ⟨rfl, hw2⟩
  subst hw2
  have hss := cut_size x.b 60
  generalize cut x.b 60 = s at hss ⊢
  have hby := HX.out.byte
  rw [hby] at v6
  clear hby
  go_wp2_with fail
  refine (pspoil_any w2 d m D hDW hO n x.num b hon.2).mono ?_
  rintro e w3 ⟨rfl, hC3, hD3⟩
  have hX3 := hX.chg hC3 (fun e => e.elim hdx.1 hdx.2)
  have hA3 := hA.chg hC3 (fun e => e.elim hda.1 hda.2)
  have hZ3 := hZ.chg hC3 (fun e => e.elim hdz.1 hdz.2)
  have hR3 := rk_plat hRW hDW hC3
  have hal := spoil_alike hI (by unfold maxLen; omega) (n := n) (by unfold maxLen; omega) x.num b
  have cp := rspoil_any w3 (.slice A D.files.length c) D.room D.lost (D.armed - 1) D.files (hI.rks hN hB hR3) n x.num b hon.2
  rw [hal.1] at cp
  obtain ⟨_, hal2⟩ := hal
  generalize D.spoil n x.num b = q at hD3 cp hal2 ⊢
  obtain ⟨er, D2⟩ := q
  simp only at hD3 cp hal2
  rw [← HQ.out.1, ← HQ.out.2.1, ← HQ.out.2.2] at cp
  have HD2 := Lib.hid (And.intro hal2 trivial)
  clear hal2  v0 v1 v2 v3 v4 v5 v6 hX hA hZ hRW hDW
  have x0 := hX3.cell 0
  have x1 := hX3.cell 1
  have x2 := hX3.cell 2
  have x3 := hX3.cell 3
  simp at x0 x1 x2 x3
  have v1 := hA3.cell 1
  have v6 := hA3.cell 6
  simp at v1 v6
  have hby := HX.out.byte
  rw [hby] at v6
  clear hby
  go_wp2_with fail
  refine cp.mono ?_
  rintro e w4 ⟨lv2, rfl, hR4, hE4⟩
  obtain ⟨A2, c2, rfl⟩ := rk_slice hR4
  go_upto_region 44 with fail
  have hY := At.new w4 29 #[.slice A2 D2.files.length c2, .int .i64 room, .bool lost, .int .i64 fl]
  have hEy := (Ext.refl w4).alloc (.cells #[.slice A2 D2.files.length c2, .int .i64 room, .bool lost, .int .i64 fl] 29)
  have hZ4 := (hZ3.ext hE4).ext hEy
  have hD4 := (hD3.ext hE4).ext hEy
  have hR5 := hR4.ext hEy
  have hCw := (((hEw.chg_trans hC3).ext_trans hE4).ext_trans hEy)
  have hyz : zb ≠ w4.heap.size := fun e => by have := (hZ3.ext hE4).lt; omega
  clear x0 x1 x2 x3 v1 v6 hX3 hA3 hZ3 hD3 hE4 hEy hR4 cp
  generalize w4.heap.size = yb at hY hyz ⊢
  generalize w4.alloc _ = w5 at hY hZ4 hD4 hR5 hCw ⊢
  have y0 := hY.cell 0
  have y1 := hY.cell 1
  have y2 := hY.cell 2
  have y3 := hY.cell 3
  simp at y0 y1 y2 y3
  have z0 := hZ4.cell 0
  have z1 := hZ4.cell 1
  have z2 := hZ4.cell 2
  have z3 := hZ4.cell 3
  have g0 := hZ4.frozen 0
  have g1 := hZ4.frozen 1
  have g2 := hZ4.frozen 2
  have g3 := hZ4.frozen 3
  simp at z0 z1 z2 z3
  go_wp2_with fail
  have hZ9 := at_anew hZ4 (vs := #[.slice A2 D2.files.length c2, .int .i64 room, .bool lost, .int .i64 fl]) rfl
  refine bodyPost_ret (v := .tuple #[.agg #[.slice A2 D2.files.length c2, .int .i64 room, .bool lost, .int .i64 fl], .bool true]) (results_ct Try.results7 _ rfl (hZ9.loadv Try.underlying29 rfl (by kernel_rfl))) rfl ?_
  have hCz : Chg (· = zb) w5 ((((w5.setCell ⟨zb, 0, none⟩ (.slice A2 D2.files.length c2)).setCell ⟨zb, 1, none⟩ (.int .i64 room)).setCell ⟨zb, 2, none⟩ (.bool lost)).setCell ⟨zb, 3, none⟩ (.int .i64 fl)) := chg_setAll w5 zb [.slice A2 D2.files.length c2, .int .i64 room, .bool lost, .int .i64 fl] 0 w5 (Chg.refl _ _)
  obtain ⟨⟨b1, b2, b3, b4⟩, b5⟩ := HD2.out
  refine ⟨_, D2, ?_, ⟨hD4.1.chg hCz hdz.1.symm, hD4.2.chg hCz hdz.2.symm⟩, Sln.chg hR5 hCz (rk_apart hR5 hZ4 dz_nostr), b4.mono (by omega) (by omega), ?_, ?_⟩
  · rw [b2, b3, ← HQ.out.2.1, ← HQ.out.2.2]
  · rw [b1, ← HQ.out.1]
  · exact hCw.trans hCz (fun k hk e => by have e' : k = zb := e; omega)

set_option maxRecDepth 100000 in
set_option maxHeartbeats 2000000 in
theorem does_0 (w W0 : World) (d m : Nat) (D : Dk) (N B : Nat) (hD : DkAt w d m D) (hI : Inv N B D) (hN : N ≤ 1000) (hB : B ≤ 10000) (lv : Value) (hR : RkIn w lv D.files) (x : Act) (ms : List ByteArray) (ch : List Int) (b : UInt8) (hx : ActIn W0 x ms ch b) (hE0 : Ext W0 w) (hd : W0.heap.size ≤ d) (hm : W0.heap.size ≤ m) (hk : ¬ (1 ≤ x.kind ∧ x.kind ≤ 11)) :
    Calls Try.prog 7 #[.pointer (some ⟨d, 0, none⟩), .agg #[lv, .int .i64 D.room, .bool D.lost, .int .i64 (D.armed - 1)], .agg #[.int .i64 x.kind, .int .i64 x.num, .string x.a, .string x.b, .slice x.more.1 x.more.2.1 x.more.2.2, .slice x.choice.1 x.choice.2.1 x.choice.2.2, .int .u8 x.by_]] w (DoOut d m N B D.room w) := by
  obtain ⟨A, c, rfl⟩ := rk_slice hR
  obtain ⟨hsm, hlen, harm⟩ := hI.small hN hB
  have hO := hI.ok
  have ha0 := hO.a0
  have hr0 : 0 ≤ D.room ∧ D.room ≤ 9223372036854775807 := ⟨by have := hO.u0; have := hO.u1; omega, hO.r1⟩
  have HSM := Lib.hid (And.intro hsm (And.intro hI (And.intro hN hB)))
  have k1 : (x.kind == 1) = false := by simpa using fun e : x.kind = 1 => hk (by omega)
  have k2 : (x.kind == 2) = false := by simpa using fun e : x.kind = 2 => hk (by omega)
  have k3 : (x.kind == 3) = false := by simpa using fun e : x.kind = 3 => hk (by omega)
  have k4 : (x.kind == 4) = false := by simpa using fun e : x.kind = 4 => hk (by omega)
  have k5 : (x.kind == 5) = false := by simpa using fun e : x.kind = 5 => hk (by omega)
  have k6 : (x.kind == 6) = false := by simpa using fun e : x.kind = 6 => hk (by omega)
  have k7 : (x.kind == 7) = false := by simpa using fun e : x.kind = 7 => hk (by omega)
  have k8 : (x.kind == 8) = false := by simpa using fun e : x.kind = 8 => hk (by omega)
  have k9 : (x.kind == 9) = false := by simpa using fun e : x.kind = 9 => hk (by omega)
  have k10 : (x.kind == 10) = false := by simpa using fun e : x.kind = 10 => hk (by omega)
  have k11 : (x.kind == 11) = false := by simpa using fun e : x.kind = 11 => hk (by omega)
  clear hk
  obtain ⟨room, hroom⟩ : ∃ r, r = D.room := ⟨_, rfl⟩
  obtain ⟨lost, hlost⟩ : ∃ r, r = D.lost := ⟨_, rfl⟩
  obtain ⟨fl, hfl⟩ : ∃ r, r = D.armed - 1 := ⟨_, rfl⟩
  have HQ := Lib.hid (And.intro hroom (And.intro hlost hfl))
  rw [← hroom, ← hlost, ← hfl]
  clear hroom hlost hfl
  have hoa : x.a.size ≤ maxLen := hx.ok.2.1
  have hob : x.b.size ≤ maxLen := hx.ok.2.2
  have hon := hx.ok.1
  have HX := Lib.hid hx
  clear hx hsm
  have hEw : Ext w (((w.alloc (.cells #[.slice A D.files.length c, .int .i64 room, .bool lost, .int .i64 fl] 29)).alloc (.cells #[.int .i64 x.kind, .int .i64 x.num, .string x.a, .string x.b, .slice x.more.1 x.more.2.1 x.more.2.2, .slice x.choice.1 x.choice.2.1 x.choice.2.2, .int .u8 x.by_] 37)).alloc (.cells #[.slice none 0 0, .int .i64 0, .bool false, .int .i64 0] 29)) := (((Ext.refl w).alloc _).alloc _).alloc _
  have hX : At (((w.alloc (.cells #[.slice A D.files.length c, .int .i64 room, .bool lost, .int .i64 fl] 29)).alloc (.cells #[.int .i64 x.kind, .int .i64 x.num, .string x.a, .string x.b, .slice x.more.1 x.more.2.1 x.more.2.2, .slice x.choice.1 x.choice.2.1 x.choice.2.2, .int .u8 x.by_] 37)).alloc (.cells #[.slice none 0 0, .int .i64 0, .bool false, .int .i64 0] 29)) w.heap.size 29 #[.slice A D.files.length c, .int .i64 room, .bool lost, .int .i64 fl] := ((At.new _ _ _).alloc _).alloc _
  have hA : At (((w.alloc (.cells #[.slice A D.files.length c, .int .i64 room, .bool lost, .int .i64 fl] 29)).alloc (.cells #[.int .i64 x.kind, .int .i64 x.num, .string x.a, .string x.b, .slice x.more.1 x.more.2.1 x.more.2.2, .slice x.choice.1 x.choice.2.1 x.choice.2.2, .int .u8 x.by_] 37)).alloc (.cells #[.slice none 0 0, .int .i64 0, .bool false, .int .i64 0] 29)) (w.heap.size + 1) 37 #[.int .i64 x.kind, .int .i64 x.num, .string x.a, .string x.b, .slice x.more.1 x.more.2.1 x.more.2.2, .slice x.choice.1 x.choice.2.1 x.choice.2.2, .int .u8 x.by_] := (At.new_eq (by simp) _ _).alloc _
  have hZ : At (((w.alloc (.cells #[.slice A D.files.length c, .int .i64 room, .bool lost, .int .i64 fl] 29)).alloc (.cells #[.int .i64 x.kind, .int .i64 x.num, .string x.a, .string x.b, .slice x.more.1 x.more.2.1 x.more.2.2, .slice x.choice.1 x.choice.2.1 x.choice.2.2, .int .u8 x.by_] 37)).alloc (.cells #[.slice none 0 0, .int .i64 0, .bool false, .int .i64 0] 29)) (w.heap.size + 1 + 1) 29 #[.slice none 0 0, .int .i64 0, .bool false, .int .i64 0] := At.new_eq (by simp) _ _
  go_enter Try.func7, Try.ntmps7
  go_upto_region 1 with fail
  generalize (((w.alloc _).alloc _).alloc _ : World) = W at hEw hX hA hZ ⊢
  have hxz : w.heap.size ≠ w.heap.size + 1 + 1 := by omega
  have hxa : w.heap.size ≠ w.heap.size + 1 := by omega
  have haz : w.heap.size + 1 ≠ w.heap.size + 1 + 1 := by omega
  have hwx : w.heap.size ≤ w.heap.size := Nat.le_refl _
  have hwz : w.heap.size ≤ w.heap.size + 1 + 1 := by omega
  have hwa : w.heap.size ≤ w.heap.size + 1 := by omega
  have hdl : d < w.heap.size := hD.1.lt
  have hml : m < w.heap.size := hD.2.lt
  generalize hzb : w.heap.size + 1 + 1 = zb at *
  generalize hab : w.heap.size + 1 = ab at *
  obtain ⟨xb, hxb⟩ : ∃ xb, xb = w.heap.size := ⟨_, rfl⟩
  rw [← hxb] at hX hxz hxa ⊢
  replace hwx : w.heap.size ≤ xb := by omega
  have hdx : xb ≠ d ∧ xb ≠ m := by omega
  have hda : ab ≠ d ∧ ab ≠ m := by omega
  have hdz : zb ≠ d ∧ zb ≠ m := by omega
  clear hzb hab hxb
  have hDW := hD.ext hEw
  have hRW := hR.ext hEw
  have hE0W := hE0.trans hEw
  clear hD hR
  have v0 := hA.cell 0
  have v1 := hA.cell 1
  have v2 := hA.cell 2
  have v3 := hA.cell 3
  have v4 := hA.cell 4
  have v5 := hA.cell 5
  have v6 := hA.cell 6
  simp at v0 v1 v2 v3 v4 v5 v6
  go_wp2_with fail
  refine (cut_any x.a 6 W hoa (by omega)).mono ?_
  rintro e w1 ⟨rfl, hw1⟩
  subst hw1
  have hns := cut_size x.a 6
  generalize cut x.a 6 = n at hns ⊢
  go_wp2_with fail
  refine (cut_any x.b 60 w1 hob (by omega)).mono ?_
  rintro e w2 ⟨rfl, hw2⟩
  subst hw2
  have hss := cut_size x.b 60
  generalize cut x.b 60 = s at hss ⊢
  clear v1 v2 v3 v4 v5 v6 hA
  have x0 := hX.cell 0
  have x1 := hX.cell 1
  have x2 := hX.cell 2
  have x3 := hX.cell 3
  simp at x0 x1 x2 x3
  have z0 := hZ.cell 0
  have z1 := hZ.cell 1
  have z2 := hZ.cell 2
  have z3 := hZ.cell 3
  have g0 := hZ.frozen 0
  have g1 := hZ.frozen 1
  have g2 := hZ.frozen 2
  have g3 := hZ.frozen 3
  simp at z0 z1 z2 z3
  go_wp2_with fail
  have HD2 := Lib.hid (And.intro (And.intro (rfl : D.room = D.room) (And.intro (rfl : D.lost = D.lost) (And.intro (rfl : D.armed = D.armed) hI))) trivial)
  have hZ9 := at_anew hZ (vs := #[.slice A D.files.length c, .int .i64 room, .bool lost, .int .i64 fl]) rfl
  refine bodyPost_ret (v := .tuple #[.agg #[.slice A D.files.length c, .int .i64 room, .bool lost, .int .i64 fl], .bool true]) (results_ct Try.results7 _ rfl (hZ9.loadv Try.underlying29 rfl (by kernel_rfl))) rfl ?_
  have hCz : Chg (· = zb) w2 ((((w2.setCell ⟨zb, 0, none⟩ (.slice A D.files.length c)).setCell ⟨zb, 1, none⟩ (.int .i64 room)).setCell ⟨zb, 2, none⟩ (.bool lost)).setCell ⟨zb, 3, none⟩ (.int .i64 fl)) := chg_setAll w2 zb [.slice A D.files.length c, .int .i64 room, .bool lost, .int .i64 fl] 0 w2 (Chg.refl _ _)
  obtain ⟨⟨b1, b2, b3, b4⟩, b5⟩ := HD2.out
  refine ⟨_, D, ?_, ⟨hDW.1.chg hCz hdz.1.symm, hDW.2.chg hCz hdz.2.symm⟩, Sln.chg hRW hCz (rk_apart hRW hZ dz_nostr), b4.mono (by omega) (by omega), ?_, ?_⟩
  · rw [← HQ.out.2.1, ← HQ.out.2.2]
  · exact HQ.out.1.symm
  · exact Chg.trans (S := fun k => k = d ∨ k = m) hEw.chg hCz (fun k hk e => by have e' : k = zb := e; omega)
end Go.Proofs.Yteleafbfdfipdaa
