/-
  The document's disk (glacierref04): Names.
-/
import Derived.Test.YteleafbfdfipdaaPp6
namespace Go.Proofs.Yteleafbfdfipdaa
open Go.RowKit Go.Sort

def thereL (L : List FRow) : List ByteArray := (L.filter fun p => p.2.nt).map (·.1)
def namesR (lost : Bool) (armed : Int) (L : List FRow) : List ByteArray := if tryE lost armed ≠ 0 then [] else thereL L
theorem thereL_nil : thereL [] = [] := rfl
theorem thereL_cons (x : ByteArray) (f : Fl) (r : List FRow) : thereL ((x, f) :: r) = if f.nt then x :: thereL r else thereL r := by
  unfold thereL; rw [List.filter_cons]; split <;> simp_all
theorem str_info : (Try.prog.info? 9).map (fun i => (i.zero, i.size, i.bytes)) = some (some (.string ByteArray.empty), 1, 16) := by kernel_rfl
theorem strs_snoc {w : World} {base : Nat} {v : Value} {o : List ByteArray} {n : ByteArray} (h : w.ownsRow base 9 1 v (o.length + 1) (o.map Value.string ++ [.string n])) : w.ownsRow base 9 1 v (o ++ [n]).length ((o ++ [n]).map Value.string) := by
  rw [List.length_append, List.map_append]
  exact h

set_option maxRecDepth 100000 in
set_option maxHeartbeats 1000000 in
theorem rnames_any (w : World) (lv : Value) (room : Int) (lost : Bool) (armed : Int) (L : List FRow) (h : RkS w lv L) (h0 : 0 ≤ armed) (h1 : armed ≤ 4611686018427387904) :
    Calls Try.prog 16 #[.agg #[lv, .int .i64 room, .bool lost, .int .i64 (armed - 1)]] w fun e w' =>
      ∃ v, e = .returned (.tuple #[.agg #[lv, .int .i64 room, .bool lost, .int .i64 (tryA lost armed - 1)], v, .int .i64 (tryE lost armed)]) ∧ Sl w' v ((namesR lost armed L).map Value.string) ∧ Ext w w' := by
  obtain ⟨A, c, rfl⟩ := rk_slice h.in_
  have hct := fun wx => rtry_any wx (.slice A L.length c) ⟨_, _, _, rfl⟩ room lost armed h0 h1
  obtain ⟨fl, hfl⟩ : ∃ fl, fl = armed - 1 := ⟨_, rfl⟩
  obtain ⟨a2, ha2⟩ : ∃ fl, fl = tryA lost armed - 1 := ⟨_, rfl⟩
  obtain ⟨er, her⟩ : ∃ fl, fl = tryE lost armed := ⟨_, rfl⟩
  rw [← hfl, ← ha2, ← her] at hct
  rw [← hfl, ← ha2, ← her]
  have HNR : Hid (namesR lost armed L = if er ≠ 0 then [] else thereL L) := Lib.hid (by rw [her]; rfl)
  generalize namesR lost armed L = NR at HNR ⊢
  clear hfl ha2 her h0 h1
  have hE : Ext w ((w.alloc (.cells #[.slice A L.length c, .int .i64 room, .bool lost, .int .i64 fl] 29)).alloc (.cells #[.slice none 0 0, .int .i64 0, .bool false, .int .i64 0] 29)) := ((Ext.refl w).alloc _).alloc _
  have hX : At ((w.alloc (.cells #[.slice A L.length c, .int .i64 room, .bool lost, .int .i64 fl] 29)).alloc (.cells #[.slice none 0 0, .int .i64 0, .bool false, .int .i64 0] 29)) w.heap.size 29 #[.slice A L.length c, .int .i64 room, .bool lost, .int .i64 fl] := (At.new _ _ _).alloc _
  have hZ : At ((w.alloc (.cells #[.slice A L.length c, .int .i64 room, .bool lost, .int .i64 fl] 29)).alloc (.cells #[.slice none 0 0, .int .i64 0, .bool false, .int .i64 0] 29)) (w.heap.size + 1) 29 #[.slice none 0 0, .int .i64 0, .bool false, .int .i64 0] := At.new_eq (by simp) _ _
  go_enter Try.func16, Try.ntmps16
  go_upto_region 1 with fail
  generalize (w.alloc _).alloc _ = W at hE hX hZ ⊢
  have hxz : w.heap.size ≠ w.heap.size + 1 := by omega
  have hwx : w.heap.size ≤ w.heap.size := Nat.le_refl _
  have hwz : w.heap.size ≤ w.heap.size + 1 := by omega
  generalize hzb : w.heap.size + 1 = zb at *
  obtain ⟨xb, hxb⟩ : ∃ xb, xb = w.heap.size := ⟨_, rfl⟩
  rw [← hxb] at hX hxz ⊢
  replace hwx : w.heap.size ≤ xb := by omega
  clear hzb hxb
  have x0 := hX.cell 0
  have x1 := hX.cell 1
  have x2 := hX.cell 2
  have x3 := hX.cell 3
  simp at x0 x1 x2 x3
  go_wp2_with fail
  refine (hct W).mono ?_
  rintro e w1 ⟨rfl, hE1⟩
  replace hX := hX.ext hE1
  replace hZ := hZ.ext hE1
  replace hE := hE.trans hE1
  clear x0 x1 x2 x3 hE1 hct
  have x0 := hX.cell 0
  have x1 := hX.cell 1
  have x2 := hX.cell 2
  have x3 := hX.cell 3
  have fr0 := hX.frozen 0
  have fr1 := hX.frozen 1
  have fr2 := hX.frozen 2
  have fr3 := hX.frozen 3
  simp at x0 x1 x2 x3
  go_upto_region 2 with fail
  have hX2 : At ((((w1.setCell ⟨xb, 0, none⟩ (.slice A L.length c)).setCell ⟨xb, 1, none⟩ (.int .i64 room)).setCell ⟨xb, 2, none⟩ (.bool lost)).setCell ⟨xb, 3, none⟩ (.int .i64 a2)) xb 29 #[.slice A L.length c, .int .i64 room, .bool lost, .int .i64 a2] := at_anew hX (vs := #[.slice A L.length c, .int .i64 room, .bool lost, .int .i64 a2]) rfl
  have hCx : Chg (· = xb) w1 ((((w1.setCell ⟨xb, 0, none⟩ (.slice A L.length c)).setCell ⟨xb, 1, none⟩ (.int .i64 room)).setCell ⟨xb, 2, none⟩ (.bool lost)).setCell ⟨xb, 3, none⟩ (.int .i64 a2)) := chg_setAll w1 xb [.slice A L.length c, .int .i64 room, .bool lost, .int .i64 a2] 0 w1 (Chg.refl _ _)
  have hE2 : Ext w ((((w1.setCell ⟨xb, 0, none⟩ (.slice A L.length c)).setCell ⟨xb, 1, none⟩ (.int .i64 room)).setCell ⟨xb, 2, none⟩ (.bool lost)).setCell ⟨xb, 3, none⟩ (.int .i64 a2)) := ext_anew hwx [.slice A L.length c, .int .i64 room, .bool lost, .int .i64 a2] 0 _ hE
  replace hZ := hZ.chg hCx (fun e => hxz e.symm)
  clear x0 x1 x2 x3 fr0 fr1 fr2 fr3 hX hCx hE
  generalize ((((w1.setCell ⟨xb, 0, none⟩ (.slice A L.length c)).setCell ⟨xb, 1, none⟩ (.int .i64 room)).setCell ⟨xb, 2, none⟩ (.bool lost)).setCell ⟨xb, 3, none⟩ (.int .i64 a2)) = W2 at hX2 hZ hE2 ⊢
  have x0 := hX2.cell 0
  have x1 := hX2.cell 1
  have x2 := hX2.cell 2
  have x3 := hX2.cell 3
  simp at x0 x1 x2 x3
  by_cases he : er = 0
  · have he2 : (er != 0) = false := by simpa using he
    have HRS : Hid (NR = thereL L) := Lib.hid (by rw [HNR.out]; exact if_neg (by simpa using he))
    clear HNR
    clear he
    go_upto_region 4 with fail
    go_upto_region 5 with fail
    have hO : World.ownsRow (W2.alloc (.cells #[] 9)) W2.heap.size 9 1 (.slice (some ⟨W2.heap.size, 0, none⟩) 0 0) 0 [] := World.ownsRow_made W2 #[] 0 (Nat.le_refl _) (Nat.zero_le _) rfl
    have hXo := hX2.lt
    have hZo := hZ.lt
    have hwo := hE2.size
    replace hX2 := hX2.alloc (.cells #[] 9)
    replace hZ := hZ.alloc (.cells #[] 9)
    replace hE2 := hE2.alloc (.cells #[] 9)
    have hob : W2.heap.size < (W2.alloc (.cells #[] 9)).heap.size := by simp
    clear x0 x1 x2 x3
    generalize W2.heap.size = ob at *
    generalize W2.alloc _ = wc at *
    have x0 := hX2.cell 0
    simp at x0
    go_wp2_with fail
    clear x0
    go_loopw [6, 22] (fun ov kv wr => ∃ (k : Nat) (o : List ByteArray), kv = .int .i64 (k : Int) ∧ k ≤ L.length ∧ o.length ≤ k ∧ Hid (thereL L = o ++ thereL (L.drop k)) ∧ wr.ownsRow ob 9 1 ov o.length (o.map Value.string) ∧ Chg (fun j => ob ≤ j) wc wr) (fun _ kv _ => L.length - (intOf kv).toNat)
    case atStart => exact ⟨0, [], rfl, Nat.zero_le _, by simp, Lib.hid rfl, hO, Chg.refl _ _⟩
    case round =>
      clear hO
      obtain ⟨k, o, rfl, hk, hol, HPL, hO, hC⟩ := hrel
      have hEr : Ext w wr := Chg.trans hE2 hC (fun j hj hh => by omega)
      have hr := h.in_.ext hEr
      have hbase := hC.size
      have hl := h.len
      by_cases hlt : k < L.length
      · obtain ⟨⟨x, g⟩, hb⟩ : ∃ q, L[k]? = some q := ⟨_, List.getElem?_eq_getElem hlt⟩
        have hpl := HPL.out
        rw [drop_some hb, thereL_cons] at hpl
        replace HPL := Lib.hid hpl
        clear hpl
        obtain ⟨rb, ro, rfl⟩ := rk_some hr (fun e => by rw [e] at hb; simp at hb)
        obtain ⟨r0, r1, r2, r3, r4⟩ := rk_cells hr hb
        have hEx := (Ext.refl wr).alloc (.cells (fcells x g) 60)
        have hY := At.new wr 60 (fcells x g)
        clear hb
        go_upto_region 8 with fail
        clear r0 r1 r2 r3 r4
        generalize wr.heap.size = yy at hY ⊢
        generalize wr.alloc (.cells (fcells x g) 60) = W1 at hY hEx ⊢
        have hO1 := own_chg hO hEx (fun j hj => hj.elim)
        have hC1 := hC.ext_trans hEx
        have hbase1 := hC1.size
        clear hO hC hEx hr hEr hbase
        have y0 := hY.cell 0
        have y1 := hY.cell 1
        simp at y0 y1
        rcases Bool.eq_false_or_eq_true g.nt with hnt | hnt
        · rw [hnt] at y1
          rw [if_pos hnt] at HPL
          clear hnt
          go_wp2_with (at_builtin; refine wpList_append_row _ hO1 34 Try.underlying34 str_info rfl rfl (by decide) (by decide) rfl (by omega) (by omega) rfl _ _ rfl rfl rfl ?_)
          intro v3 w3 hO3 hCb
          replace hO3 := strs_snoc hO3
          have hC3 := own_at_least hO1 hC1 hCb
          clear hO1 hC1 hCb y0 y1 hY
          go_wp2_with fail
          go_roundw
          case rel => exact ⟨k + 1, o ++ [x], by go_num, by omega, by simp only [List.length_append, List.length_singleton]; omega, Lib.hid (by rw [HPL.out]; simp), hO3, hC3⟩
          case measure => simp [intOf]; omega
        · rw [hnt] at y1
          rw [if_neg (by rw [hnt]; exact Bool.false_ne_true)] at HPL
          clear hnt
          go_wp2_with fail
          go_roundw
          case rel => exact ⟨k + 1, o, by go_num, by omega, by omega, HPL, hO1, hC1⟩
          case measure => simp [intOf]; omega
      · obtain rfl : k = L.length := by omega
        have hpl := HPL.out
        rw [List.drop_length, thereL_nil, List.append_nil] at hpl
        replace HPL := Lib.hid hpl
        clear hpl
        obtain ⟨oA, oc, rfl⟩ := own_slc hO
        have hXr := hX2.chg hC (by omega)
        have hZr := hZ.chg hC (by omega)
        have x0 := hXr.cell 0
        have x1 := hXr.cell 1
        have x2 := hXr.cell 2
        have x3 := hXr.cell 3
        simp at x0 x1 x2 x3
        have z0 := hZr.cell 0
        have z1 := hZr.cell 1
        have z2 := hZr.cell 2
        have z3 := hZr.cell 3
        have g0 := hZr.frozen 0
        have g1 := hZr.frozen 1
        have g2 := hZr.frozen 2
        have g3 := hZr.frozen 3
        simp at z0 z1 z2 z3
        go_wp2_with fail
        have hZ9 := at_anew hZr (vs := #[.slice A L.length c, .int .i64 room, .bool lost, .int .i64 a2]) rfl
        refine bodyPost_ret (v := .tuple #[.agg #[.slice A L.length c, .int .i64 room, .bool lost, .int .i64 a2], .slice oA o.length oc, .int .i64 0]) (results_ctt Try.results16 _ rfl (hZ9.loadv Try.underlying29 rfl (by kernel_rfl))) rfl ?_
        have hE9 := ext_anew hwz [.slice A L.length c, .int .i64 room, .bool lost, .int .i64 a2] 0 _ hEr
        have hO9 := own_chg hO (chg_setAll wr zb [.slice A L.length c, .int .i64 room, .bool lost, .int .i64 a2] 0 wr (Chg.refl _ _)) (fun j hj => by omega)
        have HSl := Sl.of_own hO9
        have her : er = 0 := by simpa using he2
        exact ⟨_, by rw [her], by rw [HRS.out, HPL.out]; exact HSl, hE9⟩
  · have he2 : (er != 0) = true := by simpa using he
    have HRS : Hid (NR = []) := Lib.hid (by rw [HNR.out]; exact if_pos he)
    clear HNR
    clear he
    have z0 := hZ.cell 0
    have z1 := hZ.cell 1
    have z2 := hZ.cell 2
    have z3 := hZ.cell 3
    have g0 := hZ.frozen 0
    have g1 := hZ.frozen 1
    have g2 := hZ.frozen 2
    have g3 := hZ.frozen 3
    simp at z0 z1 z2 z3
    go_wp2_with fail
    have hZ9 := at_anew hZ (vs := #[.slice A L.length c, .int .i64 room, .bool lost, .int .i64 a2]) rfl
    refine bodyPost_ret (v := .tuple #[.agg #[.slice A L.length c, .int .i64 room, .bool lost, .int .i64 a2], .slice none 0 0, .int .i64 er]) (results_ctt Try.results16 _ rfl (hZ9.loadv Try.underlying29 rfl (by kernel_rfl))) rfl ?_
    have hE9 := ext_anew hwz [.slice A L.length c, .int .i64 room, .bool lost, .int .i64 a2] 0 _ hE2
    exact ⟨_, rfl, by rw [HRS.out]; exact Sl.nil _ _, hE9⟩
end Go.Proofs.Yteleafbfdfipdaa
