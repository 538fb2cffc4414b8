/-
  The document's disk (glacierref04): Read, New, begins; ref03.Pick.
-/
import Derived.Test.YteleafbfdfipdaaPp4
namespace Go.Proofs.Yteleafbfdfipdaa
open Go.RowKit Go.Sort

theorem results_ctt {P : Program} {fn : Func} {p q r : Tmp} {ty : TypeId} (h : fn.results = #[.cell p ty, .tmp q, .tmp r]) (tmps : Array Value) {b o : Nat} (ha : tmps.getD p undef = .pointer (some ⟨b, o, none⟩)) {v : Value} {w : World}
    (hl : (loadVar ty ⟨b, o, none⟩).run P w = .ok v w) : (results fn tmps).run P w = .ok (.tuple #[v, tmps.getD q undef, tmps.getD r undef]) w := by
  unfold results
  rw [h]
  simp at ha
  simp [ha, asAddr, hl]
def readR (lost : Bool) (armed : Int) (L : List FRow) (n : ByteArray) : ByteArray × Int :=
  if tryE lost armed ≠ 0 then (ByteArray.empty, tryE lost armed) else if (getF n L).nt then ((getF n L).nx, 0) else (ByteArray.empty, 5)

set_option maxRecDepth 100000 in
set_option maxHeartbeats 1000000 in
theorem rread_any (w : World) (lv : Value) (room : Int) (lost : Bool) (armed : Int) (L : List FRow) (h : RkS w lv L) (h0 : 0 ≤ armed) (h1 : armed ≤ 4611686018427387904) (n : ByteArray) :
    Calls Try.prog 32 #[.agg #[lv, .int .i64 room, .bool lost, .int .i64 (armed - 1)], .string n] w fun e w' =>
      e = .returned (.tuple #[.agg #[lv, .int .i64 room, .bool lost, .int .i64 (tryA lost armed - 1)], .string (readR lost armed L n).1, .int .i64 (readR lost armed L n).2]) ∧ Ext w w' := by
  obtain ⟨A, c, rfl⟩ := rk_slice h.in_
  have HPR : Hid (∀ a b, readR lost armed L n = (a, b) → (readR lost armed L n).1 = a ∧ (readR lost armed L n).2 = b) := Lib.hid (fun a b hh => by rw [hh]; exact ⟨rfl, rfl⟩)
  have HPU : Hid (readR lost armed L n = if tryE lost armed ≠ 0 then (ByteArray.empty, tryE lost armed) else if (getF n L).nt then ((getF n L).nx, 0) else (ByteArray.empty, 5)) := Lib.hid rfl
  generalize hPR : readR lost armed L n = PR at HPR HPU ⊢
  clear hPR
  have hct := fun wx => rtry_any wx (.slice A L.length c) ⟨_, _, _, rfl⟩ room lost armed h0 h1
  obtain ⟨fl, hfl⟩ : ∃ fl, fl = armed - 1 := ⟨_, rfl⟩
  obtain ⟨a2, ha2⟩ : ∃ fl, fl = tryA lost armed - 1 := ⟨_, rfl⟩
  obtain ⟨er, her⟩ : ∃ fl, fl = tryE lost armed := ⟨_, rfl⟩
  rw [← hfl, ← ha2, ← her] at hct
  rw [← her] at HPU
  rw [← hfl, ← ha2]
  clear hfl ha2 her h0 h1
  have hE : Ext w ((w.alloc (.cells #[.slice A L.length c, .int .i64 room, .bool lost, .int .i64 fl] 29)).alloc (.cells #[.slice none 0 0, .int .i64 0, .bool false, .int .i64 0] 29)) := ((Ext.refl w).alloc _).alloc _
  have hX : At ((w.alloc (.cells #[.slice A L.length c, .int .i64 room, .bool lost, .int .i64 fl] 29)).alloc (.cells #[.slice none 0 0, .int .i64 0, .bool false, .int .i64 0] 29)) w.heap.size 29 #[.slice A L.length c, .int .i64 room, .bool lost, .int .i64 fl] := (At.new _ _ _).alloc _
  have hZ : At ((w.alloc (.cells #[.slice A L.length c, .int .i64 room, .bool lost, .int .i64 fl] 29)).alloc (.cells #[.slice none 0 0, .int .i64 0, .bool false, .int .i64 0] 29)) (w.heap.size + 1) 29 #[.slice none 0 0, .int .i64 0, .bool false, .int .i64 0] := At.new_eq (by simp) _ _
  go_enter Try.func32, Try.ntmps32
  go_upto_region 1 with fail
  generalize (w.alloc _).alloc _ = W at hE hX hZ ⊢
  have hxz : w.heap.size ≠ w.heap.size + 1 := by omega
  have hwx : w.heap.size ≤ w.heap.size := Nat.le_refl _
  have hwz : w.heap.size ≤ w.heap.size + 1 := by omega
  generalize hzb : w.heap.size + 1 = zb at *
  obtain ⟨xb, hxb⟩ : ∃ xb, xb = w.heap.size := ⟨_, rfl⟩
  rw [← hxb] at hX hxz ⊢
  replace hwx : w.heap.size ≤ xb := by omega
  clear hzb hxb
  have x0 := hX.cell 0
  have x1 := hX.cell 1
  have x2 := hX.cell 2
  have x3 := hX.cell 3
  simp at x0 x1 x2 x3
  go_wp2_with fail
  refine (hct W).mono ?_
  rintro e w1 ⟨rfl, hE1⟩
  replace hX := hX.ext hE1
  replace hZ := hZ.ext hE1
  replace hE := hE.trans hE1
  clear x0 x1 x2 x3 hE1 hct
  have x0 := hX.cell 0
  have x1 := hX.cell 1
  have x2 := hX.cell 2
  have x3 := hX.cell 3
  have fr0 := hX.frozen 0
  have fr1 := hX.frozen 1
  have fr2 := hX.frozen 2
  have fr3 := hX.frozen 3
  simp at x0 x1 x2 x3
  go_upto_region 2 with fail
  have hX2 : At ((((w1.setCell ⟨xb, 0, none⟩ (.slice A L.length c)).setCell ⟨xb, 1, none⟩ (.int .i64 room)).setCell ⟨xb, 2, none⟩ (.bool lost)).setCell ⟨xb, 3, none⟩ (.int .i64 a2)) xb 29 #[.slice A L.length c, .int .i64 room, .bool lost, .int .i64 a2] := at_anew hX (vs := #[.slice A L.length c, .int .i64 room, .bool lost, .int .i64 a2]) rfl
  have hCx : Chg (· = xb) w1 ((((w1.setCell ⟨xb, 0, none⟩ (.slice A L.length c)).setCell ⟨xb, 1, none⟩ (.int .i64 room)).setCell ⟨xb, 2, none⟩ (.bool lost)).setCell ⟨xb, 3, none⟩ (.int .i64 a2)) := chg_setAll w1 xb [.slice A L.length c, .int .i64 room, .bool lost, .int .i64 a2] 0 w1 (Chg.refl _ _)
  have hE2 : Ext w ((((w1.setCell ⟨xb, 0, none⟩ (.slice A L.length c)).setCell ⟨xb, 1, none⟩ (.int .i64 room)).setCell ⟨xb, 2, none⟩ (.bool lost)).setCell ⟨xb, 3, none⟩ (.int .i64 a2)) := ext_anew hwx [.slice A L.length c, .int .i64 room, .bool lost, .int .i64 a2] 0 _ hE
  replace hZ := hZ.chg hCx (fun e => hxz e.symm)
  clear x0 x1 x2 x3 fr0 fr1 fr2 fr3 hX hCx hE
  generalize ((((w1.setCell ⟨xb, 0, none⟩ (.slice A L.length c)).setCell ⟨xb, 1, none⟩ (.int .i64 room)).setCell ⟨xb, 2, none⟩ (.bool lost)).setCell ⟨xb, 3, none⟩ (.int .i64 a2)) = W2 at hX2 hZ hE2 ⊢
  have x0 := hX2.cell 0
  have x1 := hX2.cell 1
  have x2 := hX2.cell 2
  have x3 := hX2.cell 3
  simp at x0 x1 x2 x3
  have z0 := hZ.cell 0
  have z1 := hZ.cell 1
  have z2 := hZ.cell 2
  have z3 := hZ.cell 3
  have g0 := hZ.frozen 0
  have g1 := hZ.frozen 1
  have g2 := hZ.frozen 2
  have g3 := hZ.frozen 3
  simp at z0 z1 z2 z3
  by_cases he : er = 0
  · have he2 : (er != 0) = false := by simpa using he
    rw [if_neg (by simpa using he)] at HPU
    clear he z0 z1 z2 z3 g0 g1 g2 g3
    go_wp2_with fail
    refine (rfind_any W2 _ room a2 lost L (h.in_.ext hE2) n h.len).mono ?_
    rintro e w3 ⟨rfl, hE3⟩
    go_upto_region 5 with fail
    generalize hgf : getF n L = g at HPU ⊢
    clear hgf
    obtain ⟨n1, s1, n2, s2⟩ := g
    have hF := At.new w3 60 #[.string n, .bool n1, .string s1, .bool n2, .string s2]
    have hX3 := (hX2.ext hE3).alloc (.cells #[.string n, .bool n1, .string s1, .bool n2, .string s2] 60)
    have hZ3 := (hZ.ext hE3).alloc (.cells #[.string n, .bool n1, .string s1, .bool n2, .string s2] 60)
    have hE4 := (hE2.trans hE3).alloc (.cells #[.string n, .bool n1, .string s1, .bool n2, .string s2] 60)
    clear x0 x1 x2 x3 hX2 hZ hE2 hE3
    generalize w3.heap.size = fb at *
    generalize w3.alloc _ = W4 at *
    have x0 := hX3.cell 0
    have x1 := hX3.cell 1
    have x2 := hX3.cell 2
    have x3 := hX3.cell 3
    simp at x0 x1 x2 x3
    have z0 := hZ3.cell 0
    have z1 := hZ3.cell 1
    have z2 := hZ3.cell 2
    have z3 := hZ3.cell 3
    have g0 := hZ3.frozen 0
    have g1 := hZ3.frozen 1
    have g2 := hZ3.frozen 2
    have g3 := hZ3.frozen 3
    simp at z0 z1 z2 z3
    have q0 := hF.cell 0
    have q1 := hF.cell 1
    have q2 := hF.cell 2
    have q3 := hF.cell 3
    have q4 := hF.cell 4
    simp at q0 q1 q2 q3 q4
    simp only at HPU
    cases n1
    · rw [if_neg Bool.false_ne_true] at HPU
      obtain ⟨p1, p2⟩ := HPR.out _ _ HPU.out
      have HP := Lib.hid (And.intro p1 p2)
      clear p1 p2
      go_wp2_with fail
      have hZ9 := at_anew hZ3 (vs := #[.slice A L.length c, .int .i64 room, .bool lost, .int .i64 a2]) rfl
      refine bodyPost_ret (v := .tuple #[.agg #[.slice A L.length c, .int .i64 room, .bool lost, .int .i64 a2], .string ⟨#[]⟩, .int .i64 5]) (results_ctt Try.results32 _ rfl (hZ9.loadv Try.underlying29 rfl (by kernel_rfl))) rfl ?_
      have hE9 := ext_anew hwz [.slice A L.length c, .int .i64 room, .bool lost, .int .i64 a2] 0 _ hE4
      obtain ⟨p1, p2⟩ := HP.out
      exact ⟨by rw [p1, p2]; rfl, hE9⟩
    · rw [if_pos rfl] at HPU
      obtain ⟨p1, p2⟩ := HPR.out _ _ HPU.out
      have HP := Lib.hid (And.intro p1 p2)
      clear p1 p2
      have hfz : fb ≠ zb := fun e => by subst e; have := hF.cell 1; rw [hZ3.cell 1] at this; simp at this
      go_wp2_with fail
      go_region
      all_goals
        clear x0 x1 x2 x3 z0 z1 z2 z3 g0 g1 g2 g3 q0 q1 q2 q3 q4
        go_wp2_with fail
        have hZ9 := (at_anew hZ3 (vs := #[.slice A L.length c, .int .i64 room, .bool lost, .int .i64 a2]) rfl).drew
        refine bodyPost_ret (v := .tuple #[.agg #[.slice A L.length c, .int .i64 room, .bool lost, .int .i64 a2], .string s1, .int .i64 0]) (results_ctt Try.results32 _ rfl (hZ9.loadv Try.underlying29 rfl (by kernel_rfl))) rfl ?_
        have hE9 := (ext_anew hwz [.slice A L.length c, .int .i64 room, .bool lost, .int .i64 a2] 0 _ hE4).drew
        obtain ⟨p1, p2⟩ := HP.out
        exact ⟨by rw [p1, p2], hE9⟩
  · have he2 : (er != 0) = true := by simpa using he
    rw [if_pos he] at HPU
    obtain ⟨p1, p2⟩ := HPR.out _ _ HPU.out
    have HP := Lib.hid (And.intro p1 p2)
    clear p1 p2 he
    go_wp2_with fail
    have hZ9 := at_anew hZ (vs := #[.slice A L.length c, .int .i64 room, .bool lost, .int .i64 a2]) rfl
    refine bodyPost_ret (v := .tuple #[.agg #[.slice A L.length c, .int .i64 room, .bool lost, .int .i64 a2], .string ⟨#[]⟩, .int .i64 er]) (results_ctt Try.results32 _ rfl (hZ9.loadv Try.underlying29 rfl (by kernel_rfl))) rfl ?_
    have hE9 := ext_anew hwz [.slice A L.length c, .int .i64 room, .bool lost, .int .i64 a2] 0 _ hE2
    obtain ⟨p1, p2⟩ := HP.out
    exact ⟨by rw [p1, p2]; rfl, hE9⟩

theorem rnew_any (room : Int) (w : World) : Calls Try.prog 5 #[.int .i64 room] w fun e w' => e = .returned (.agg #[.slice none 0 0, .int .i64 (max room 0), .bool false, .int .i64 (-1)]) ∧ Ext w w' := by
  go_enter Try.func5, Try.ntmps5
  have hZ := At.new w 29 #[.slice none 0 0, .int .i64 0, .bool false, .int .i64 0]
  have hE := (Ext.refl w).alloc (.cells #[.slice none 0 0, .int .i64 0, .bool false, .int .i64 0] 29)
  have hw : w.heap.size ≤ w.heap.size := Nat.le_refl _
  go_upto_region 1 with fail
  generalize w.alloc _ = W at hZ hE ⊢
  generalize hz : w.heap.size = zb at hZ ⊢
  replace hw : w.heap.size ≤ zb := by omega
  have z0 := hZ.cell 0
  have z1 := hZ.cell 1
  have z2 := hZ.cell 2
  have z3 := hZ.cell 3
  have g0 := hZ.frozen 0
  have g1 := hZ.frozen 1
  have g2 := hZ.frozen 2
  have g3 := hZ.frozen 3
  simp at z0 z1 z2 z3
  generalize hmx : max room 0 = mx
  go_wp2_with fail
  have hZ9 := at_anew hZ (vs := #[.slice none 0 0, .int .i64 mx, .bool false, .int .i64 (-1)]) rfl
  refine bodyPost_ret (v := .agg #[.slice none 0 0, .int .i64 mx, .bool false, .int .i64 (-1)]) (results_one Try.results5 _ rfl (hZ9.loadv Try.underlying29 rfl (by kernel_rfl))) rfl ?_
  exact ⟨by rw [hmx], ext_anew hw [.slice none 0 0, .int .i64 mx, .bool false, .int .i64 (-1)] 0 _ hE⟩

theorem pre_eq (s t : ByteArray) (h : t.size ≤ s.size) : ((s.extract 0 t.size).toList == t.toList) = Lib.hasPrefix s.data.toList t.data.toList := by
  unfold Lib.hasPrefix
  rw [Bool.eq_iff_iff, beq_iff_eq, List.isPrefixOf_iff_prefix, List.prefix_iff_eq_take, ByteArray.toList_eq, ByteArray.toList_eq]
  have e : (s.extract 0 t.size).data.toList = s.data.toList.take t.size := by simp [ByteArray.data_extract]
  rw [e]
  exact ⟨fun h => h.symm, fun h => h.symm⟩
theorem begins_any (s t : ByteArray) (w : World) (_hs : s.size ≤ maxLen) (_ht : t.size ≤ maxLen) : Calls Try.prog 45 #[.string s, .string t] w fun e w' => e = .returned (.bool (decide (0 < (s.size : Int) - t.size) && Lib.hasPrefix s.data.toList t.data.toList)) ∧ w' = w := by
  unfold maxLen at _hs _ht
  go_enter Try.func45, Try.ntmps45
  by_cases hlt : t.size < s.size
  · go_wp2_with fail
    go_ret
    refine ⟨ret_bool ?_, rfl⟩
    rw [pre_eq s t (by omega), decide_eq_true (by omega), Bool.true_and]
  · go_wp2_with fail
    go_ret
    refine ⟨ret_bool ?_, rfl⟩
    rw [decide_eq_false (by omega), Bool.false_and]

theorem rpick_any (b off c : Nat) (x m : Int) (w : World) (hm : 1 ≤ m) (hm1 : m ≤ 9223372036854775807)
    (_hx0 : -9223372036854775808 ≤ x) (_hx1 : x ≤ 9223372036854775807) (hc : w.cell? ⟨b, off, none⟩ = some (.int .i64 x)) :
    Calls Try.prog 46 #[.slice (some ⟨b, off, none⟩) 1 c, .int .i64 0, .int .i64 m] w fun e w' => e = .returned (.int .i64 (x % m)) ∧ w' = w := by
  have g1 : decide (m < 1) = false := by simp; omega
  have hz : (m == 0) = false := by simp; omega
  go_enter Try.func46, Try.ntmps46
  go_wp2
  all_goals go_ret
  · exact ⟨ret_i64 (tmod_neg x m hm hm1 (by assumption)), rfl⟩
  · exact ⟨ret_i64 (tmod_pos x m hm (by assumption)), rfl⟩
end Go.Proofs.Yteleafbfdfipdaa
