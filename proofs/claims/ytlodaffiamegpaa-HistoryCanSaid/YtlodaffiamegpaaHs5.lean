/-
  Layer 18: quiet, whatever call it is.
-/
import Derived.Test.YtlodaffiamegpaaHs4
namespace Go.Proofs.Ytlodaffiamegpaa
open Go.RowKit Go.Sort

theorem ret_beq0 {n : Nat} {b : Bool} (h : b = (n == 0)) : Ending.returned (.bool ((n : Int) == 0)) = .returned (.bool b) := by
  rw [h]
  have : ((n : Int) == 0) = (n == 0) := by rw [Bool.eq_iff_iff]; simp
  rw [this]

set_option maxHeartbeats 1000000 in
theorem quiet_no {S : Nat → Prop} (w : World) (g : Nat) (l : List HRow) (T : HTab) (X : HLoc) (hT : TabAt S w g l T X)
    (i : Nat) (hi : i < l.length) (hl : l.length ≤ 20) (ha : (rowAt l i).1.ans = false ∨ (rowAt l i).1.ans = true ∧ (rowAt l i).1.kind = 1) :
    Calls Try.prog 32 #[.pointer (some ⟨g, 0, none⟩), .int .i64 (i : Int)] w fun e w' => e = .returned (.bool false) ∧ Ext w w' := by
  obtain ⟨LA, lc, hov⟩ := sln_slice hT.ops
  have hO := hT.ops
  rw [hov] at hO
  obtain ⟨b, o, rfl⟩ := sln_some hO (fun e => by have := List.map_eq_nil_iff.1 e; subst this; simp at hi)
  obtain ⟨r0, r1, r2, r3, r4, r5, r6, r7⟩ := row_cells hO hi
  have c0 := hT.blk.cell 0
  simp at c0
  rw [hov, List.length_map] at c0
  generalize rowAt l i = x at *
  have hX := At.new w 37 #[.int .i64 x.1.kind, .string x.1.name, .int .u64 x.1.value, .int .i64 x.1.start, .int .i64 x.1.fin, .int .i64 x.1.err, .int .u64 x.1.got, .slice x.2.1 x.1.names.length x.2.2]
  have hE := (Ext.refl w).alloc (.cells #[.int .i64 x.1.kind, .string x.1.name, .int .u64 x.1.value, .int .i64 x.1.start, .int .i64 x.1.fin, .int .i64 x.1.err, .int .u64 x.1.got, .slice x.2.1 x.1.names.length x.2.2] 37)
  clear hT hO hov
  go_enter Try.func32, Try.ntmps32
  go_wp2_with fail
  refine (answered_any _ x).mono ?_
  rintro e w1 ⟨rfl, hE1⟩
  have hX1 := hX.ext hE1
  replace hE := hE.trans hE1
  have d0 := hX1.cell 0
  simp at d0
  clear hX hX1 hE1 r0 r1 r2 r3 r4 r5 r6 r7 c0
  rcases ha with ha | ⟨ha, hk⟩
  · rw [ha]
    go_wp2_with fail
    go_ret
    exact ⟨rfl, hE⟩
  · rw [ha]
    have hk1 : (x.1.kind == 1) = true := by simp [hk]
    clear hk
    go_wp2_with fail
    go_ret
    exact ⟨rfl, hE⟩

set_option maxHeartbeats 2000000 in
theorem quiet_one {S : Nat → Prop} (w : World) (g : Nat) (l : List HRow) (T : HTab) (X : HLoc) (st : List Nat) (hT : TabAt S w g l T X) (hst : At w X.st 3 (stCells st)) (hsl : st.length = T.names.length)
    (i : Nat) (hi : i < l.length) (hl : l.length ≤ 20) (hn20 : T.name.length = l.length) (hnn : T.names.length ≤ 20) (hlt : ∀ n : Nat, T.name[i]? = some (n : Int) → n < T.names.length)
    (hvl : T.vals.length = T.names.length) (hvv : ∀ n, n < T.vals.length → (T.vals.getD n []).length ≤ 20 ∧ st.getD n 0 ≤ (T.vals.getD n []).length)
    (ha : (rowAt l i).1.ans = true) (hk1 : (rowAt l i).1.kind ≠ 1) (hk4 : (rowAt l i).1.kind ≠ 4) :
    Calls Try.prog 32 #[.pointer (some ⟨g, 0, none⟩), .int .i64 (i : Int)] w fun e w' => e = .returned (.bool (quietB T st i (rowAt l i).1)) ∧ Ext w w' := by
  have cnow := fun (W : World) (hT : TabAt S W g l T X) (hst : At W X.st 3 (stCells st)) => now_any W g l T X st hT hst hsl i (by omega) (by omega) hnn hlt
  have hqb : quietB T st i (rowAt l i).1 = if (rowAt l i).1.err = 5 then nowV T st i == 0 else if (rowAt l i).1.readsB = true ∧ 0 < nowV T st i then lastB T (nowV T st i) (rowAt l i).1.got T.name[i]? else false := by
    unfold quietB
    rw [if_neg (by simp [ha, hk1]), if_neg hk4]
  -- what the last comparison reads
  have hlast : 0 < nowV T st i → ∃ (n : Nat) (vb vo vc mb mo mc ib io ic v : Nat), T.name[i]? = some (n : Int) ∧ X.vv = .slice (some ⟨vb, vo, none⟩) X.svs.length vc ∧ X.mv = .slice (some ⟨mb, mo, none⟩) T.name.length mc ∧ n < X.svs.length ∧ X.svs.length ≤ 20 ∧
      w.cell? ⟨mb, mo + i, none⟩ = some (.int .i64 (n : Int)) ∧ w.cell? ⟨vb, vo + n, none⟩ = some (.slice (some ⟨ib, io, none⟩) (T.vals.getD n []).length ic) ∧ (T.vals.getD n []).length ≤ 20 ∧ nowV T st i ≤ (T.vals.getD n []).length ∧
      w.cell? ⟨ib, io + (nowV T st i - 1), none⟩ = some (.int .u64 (v : Int)) ∧ (T.vals.getD n []).getD (nowV T st i - 1) 0 = v := by
    intro hpos
    obtain ⟨m, hm⟩ : ∃ m, T.name[i]? = some m := ⟨_, List.getElem?_eq_getElem (by omega)⟩
    have hnow : nowV T st i = nowO st (some m) := by unfold nowV; rw [hm]
    cases m with
    | negSucc k => rw [hnow] at hpos; exact absurd hpos (by simp [nowO])
    | ofNat n =>
      have hn := hlt n hm
      have hno : nowV T st i = st.getD n 0 := hnow
      obtain ⟨h20, hle⟩ := hvv n (by omega)
      rw [hno] at hpos ⊢
      obtain ⟨mb, mo, mc, hmv, hmc⟩ := sl_elem hT.name (i64s_at hm)
      obtain ⟨sv, hsv⟩ : ∃ sv, X.svs[n]? = some sv := ⟨_, List.getElem?_eq_getElem (by rw [hT.svs.1]; omega)⟩
      obtain ⟨vb, vo, vc, hvv', hvc⟩ := sl_elem hT.vals hsv
      have hvs : T.vals[n]? = some (T.vals.getD n []) := by rw [List.getD_eq_getElem?_getD, List.getElem?_eq_getElem (by omega)]; rfl
      have hin := (hT.svs.2 n sv _ hsv hvs).1
      have hve : (T.vals.getD n [])[st.getD n 0 - 1]? = some ((T.vals.getD n []).getD (st.getD n 0 - 1) 0) := by
        rw [List.getD_eq_getElem?_getD (l := T.vals.getD n []), List.getElem?_eq_getElem (by omega)]; rfl
      obtain ⟨ib, io, ic, hiv, hic⟩ := sl_elem hin (u64s_at hve)
      rw [show (u64s (T.vals.getD n [])).length = (T.vals.getD n []).length by simp [u64s]] at hiv
      rw [show (i64s T.name).length = T.name.length by simp [i64s]] at hmv
      exact ⟨n, vb, vo, vc, mb, mo, mc, ib, io, ic, _, hm, hvv', hmv, by rw [hT.svs.1]; omega, by rw [hT.svs.1]; omega, hmc, by rw [← hiv]; exact hvc, h20, hle, hic, rfl⟩
  have HL := Lib.hid hlast
  have HQB := Lib.hid hqb
  clear hqb hlast hlt hvv
  obtain ⟨LA, lc, hov⟩ := sln_slice hT.ops
  have hO := hT.ops
  rw [hov] at hO
  obtain ⟨b, o, rfl⟩ := sln_some hO (fun e => by have := List.map_eq_nil_iff.1 e; subst this; simp at hi)
  obtain ⟨r0, r1, r2, r3, r4, r5, r6, r7⟩ := row_cells hO hi
  have c0 := hT.blk.cell 0
  have c2 := hT.blk.cell 2
  have c3 := hT.blk.cell 3
  simp at c0 c2 c3
  rw [hov, List.length_map] at c0
  have hna : nowV T st i ≤ 20 ∨ True := .inr trivial
  generalize rowAt l i = x at *
  have hX := At.new w 37 #[.int .i64 x.1.kind, .string x.1.name, .int .u64 x.1.value, .int .i64 x.1.start, .int .i64 x.1.fin, .int .i64 x.1.err, .int .u64 x.1.got, .slice x.2.1 x.1.names.length x.2.2]
  have hE := (Ext.refl w).alloc (.cells #[.int .i64 x.1.kind, .string x.1.name, .int .u64 x.1.value, .int .i64 x.1.start, .int .i64 x.1.fin, .int .i64 x.1.err, .int .u64 x.1.got, .slice x.2.1 x.1.names.length x.2.2] 37)
  have hb1 : (x.1.kind == 1) = false := by simp [hk1]
  have hb4 : (x.1.kind == 4) = false := by simp [hk4]
  have HN := Lib.hid (show nowV T st i = nowV T st i from rfl)
  clear hO hov hk1 hk4 hsl hn20 hvl hna
  go_enter Try.func32, Try.ntmps32
  go_wp2_with fail
  refine (answered_any _ x).mono ?_
  rintro e w1 ⟨rfl, hE1⟩
  rw [ha]
  have hX1 := hX.ext hE1
  replace hE := hE.trans hE1
  have d0 := hX1.cell 0
  simp at d0
  have hT1 := hT.ext hE
  have hst1 := hst.ext hE
  clear hX hE1 r0 r1 r2 r3 r4 r5 r6 r7 c0 hT hst
  go_wp2_with fail
  refine (cnow _ hT1 hst1).mono ?_
  rintro e w2 ⟨rfl, hE2⟩
  have hX2 := hX1.ext hE2
  replace hE := hE.trans hE2
  have f0 := hX2.cell 0
  have f1 := hX2.cell 1
  have f2 := hX2.cell 2
  have f3 := hX2.cell 3
  have f4 := hX2.cell 4
  have f5 := hX2.cell 5
  have f6 := hX2.cell 6
  have f7 := hX2.cell 7
  simp at f0 f1 f2 f3 f4 f5 f6 f7
  clear cnow hT1 hst1 hX1 hE2 d0
  by_cases he : x.1.err = 5
  · have hb5 : (x.1.err == 5) = true := by simp [he]
    have hq := HQB.out
    rw [if_pos he] at hq
    have HQ := Lib.hid hq
    clear hq he HQB HL c2 c3
    go_wp2_with fail
    go_ret
    exact ⟨ret_beq0 HQ.out, hE⟩
  · have hb5 : (x.1.err == 5) = false := by simp [he]
    have hq := HQB.out
    rw [if_neg he] at hq
    have HQ := Lib.hid hq
    clear hq he HQB
    have g2 := (Ext.cell (p := ⟨g, 2, none⟩) hE (cell_lt c2)).trans c2
    have g3 := (Ext.cell (p := ⟨g, 3, none⟩) hE (cell_lt c3)).trans c3
    clear c2 c3
    have rg : ∀ {p : Addr} {u : Value}, w2.cell? p = some u → ∀ d os, (grow (redrawn w2 d) os).cell? p = some u := fun h d os => (Ext.cell (ext_regrown w2 d os) (cell_lt h)).trans h
    have y0 := rg f0
    have y1 := rg f1
    have y2 := rg f2
    have y3 := rg f3
    have y4 := rg f4
    have y5 := rg f5
    have y6 := rg f6
    have y7 := rg f7
    have cw : ∀ d os, Calls Try.prog 24 #[hagg x] (grow (redrawn w2 d) os) fun e w'' => e = .returned (.bool x.1.readsB) ∧ ∃ p : Regrown, w'' = grow (redrawn w2 p.d) p.os := fun d os => Calls.ext_of (reads_any _ x)
    cases hrb : x.1.readsB
    · rw [hrb] at cw
      have hq : quietB T st i x.1 = false := by rw [HQ.out, if_neg (by simp [hrb])]
      have HQ' := Lib.hid hq
      clear hq rg hX2 g2 g3 HL
      go_wp2_with fail
      refine wp_region_quiet_ext (by kernel_rfl) (by kernel_rfl) ?_
      repeat (go_big_quiet_step (first | with_reducible exact cw _ _))
      refine wpQuiet_nil ?_
      intro W8 hE8
      go_wp2_with fail
      go_ret
      exact ⟨ret_bool HQ'.out.symm, hE.trans hE8⟩
    · rw [hrb] at cw
      rcases Nat.eq_zero_or_pos (nowV T st i) with hz | hz
      · have hq : quietB T st i x.1 = false := by rw [HQ.out, if_neg (by simp [hz])]
        have HQ' := Lib.hid hq
        have t1 : decide (0 < nowV T st i) = false := by simp [hz]
        clear hq rg hX2 g2 g3 HL hz
        go_wp2_with fail
        refine wp_region_quiet_ext (by kernel_rfl) (by kernel_rfl) ?_
        repeat (go_big_quiet_step (first | with_reducible exact cw _ _))
        refine wpQuiet_nil ?_
        intro W8 hE8
        go_wp2_with fail
        go_ret
        exact ⟨ret_bool HQ'.out.symm, hE.trans hE8⟩
      · obtain ⟨n, vb, vo, vc, mb, mo, mc, ib, io, ic, v, hnm, hvv, hmv, hn1, hn2, k1, k2, k3, k4, k5, k6⟩ := HL.out hz
        have hq : quietB T st i x.1 = ((v : Int) == (x.1.got : Int)) := by
          rw [HQ.out, if_pos ⟨hrb, hz⟩, hnm]
          show ((T.vals.getD n []).getD (nowV T st i - 1) 0 == x.1.got) = _
          rw [k6, Bool.eq_iff_iff]; simp; omega
        have HQ' := Lib.hid hq
        have t1 : decide (0 < nowV T st i) = true := by simp [hz]
        have hil : i < T.name.length := (List.getElem?_eq_some_iff.1 hnm).1
        rw [hvv] at g2
        rw [hmv] at g3
        have z2 := rg g2
        have z3 := rg g3
        have z4 := rg ((Ext.cell (p := ⟨mb, mo + i, none⟩) hE (cell_lt k1)).trans k1)
        have z5 := rg ((Ext.cell (p := ⟨vb, vo + n, none⟩) hE (cell_lt k2)).trans k2)
        have z6 := rg ((Ext.cell (p := ⟨ib, io + (nowV T st i - 1), none⟩) hE (cell_lt k5)).trans k5)
        generalize nowV T st i = nw at *
        generalize (T.vals.getD n []).length = vl at *
        clear hq rg hX2 g2 g3 HL hnm hvv hmv k1 k2 k5 k6
        have hwr : IntKind.i64.wrap ((nw : Int) - 1) = (nw : Int) - 1 := by rw [IntKind.wrap_i64]; omega
        have hw2 : ((nw : Int) - 1).toNat = nw - 1 := by omega
        have hw3 : 0 ≤ (nw : Int) - 1 := by omega
        have hw4 : (nw : Int) - 1 < (vl : Int) := by omega
        go_wp2_with fail
        refine wp_region_quiet_ext (by kernel_rfl) (by kernel_rfl) ?_
        repeat (go_big_quiet_step (first | with_reducible exact cw _ _))
        refine wpQuiet_nil ?_
        intro W8 hE8
        go_wp2_with fail
        go_ret
        exact ⟨ret_bool HQ'.out.symm, hE.trans hE8⟩
end Go.Proofs.Ytlodaffiamegpaa
