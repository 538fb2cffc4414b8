/-
  Layer 18: HistoryCan, walked.
-/
import Derived.Test.YtlodaffiamegpaaHsDoneW
import Derived.Test.YtlodaffiamegpaaHsTurnedW
namespace Go.Proofs.Ytlodaffiamegpaa
open Go.ChangeShapes Go.WideShapes Go.ChangeAt Go.RowKit Go.Sort

set_option maxRecDepth 100000 in
theorem open_bools {H : Type} {enc : TypeId × Value → H} {W : World} {r : Reach} {b0 : Nat} {v : Value} {d : DataW H} {p : List MemPlace}
    (hv : Value.okWide Try.prog W r b0 38 v) (h : DataW.Trod enc Try.prog W 0 (fun _ => true) true 38 v d p) :
    ∃ l : List Bool, Sl W v (l.map Value.bool) ∧ l.length ≤ maxLen := by
  obtain ⟨a0, len0, cap0, rfl⟩ := okWide_slice Try.underlying38 hv
  obtain ⟨fuel, hf⟩ := h
  rcases Go.Deep.open_slice Try.underlying38 hf with ⟨hcs, _⟩ | ⟨a, len, cap, m, n, D, Pl, hcs, _, hl, hm, hmm, _, hx⟩
  · simp only [Value.cells, List.cons.injEq, and_true] at hcs
    rw [hcs]
    exact ⟨[], Sl.nil _ _, Nat.zero_le _⟩
  · simp only [Value.cells, List.cons.injEq, and_true] at hcs
    rw [hcs]
    have hlm : len ≤ m := by rw [hmm]; split <;> omega
    have each : ∀ i, i < len → ∃ x : Bool, W.cell? (a.add i) = some (.bool x) := fun i hi => by
      obtain ⟨cs', h1, h2⟩ := hx i (by omega)
      rw [show Try.prog.cellsOf 4 = 1 by kernel_rfl] at h1
      obtain ⟨_, hlen, hcell⟩ := World.cells?_some h1
      obtain ⟨x, e0, _⟩ := DataW.trod_bool Try.underlying4 h2
      have := hcell 0 (by omega)
      rw [Go.Deep.add_add, Nat.mul_one, Nat.add_zero] at this
      exact ⟨x, by rw [this, e0]; rfl⟩
    obtain ⟨f, hfx⟩ := Go.Deep.choose_lt each
    refine ⟨(List.range len).map f, ⟨some a, cap, by simp, fun hne => ?_⟩, by simp; omega⟩
    have hpos : 0 < len := by
      rcases Nat.eq_zero_or_pos len with h0 | h0
      · subst h0; exact absurd rfl hne
      · exact h0
    obtain ⟨b, off, spot⟩ := a
    have hspot : spot = none := by
      have := hfx 0 hpos
      simpa [Addr.add] using World.cell?_spot this
    subst hspot
    refine ⟨b, off, rfl, fun i u hi => ?_⟩
    rw [List.map_map, List.getElem?_map] at hi
    by_cases hlt : i < len
    · rw [List.getElem?_range hlt] at hi
      simp only [Option.map_some, Option.some.injEq, Function.comp_apply] at hi
      subst hi
      have := hfx i hlt
      rw [Go.WideShapes.add_plain] at this
      exact this
    · rw [List.getElem?_eq_none (by simpa using hlt)] at hi
      cases hi

def fewOf (l : List HRow) : List HOp := ((opsOf l).take 10).map fewOp
theorem fewOf_fine (l : List HRow) : ∀ x ∈ fewOf l, badB x = false := by
  intro x hx
  obtain ⟨y, _, rfl⟩ := List.mem_map.1 hx
  exact few_fine y
theorem fewOf_len (l : List HRow) : (fewOf l).length ≤ 10 := by
  unfold fewOf; rw [List.length_map]; exact List.length_take_le _ _
theorem openL_at (ops : List HOp) (a b : Int) (f : Nat → Bool) (k : Nat) : ∀ n, k < n → opAt (openL ops a b f n) k = if f k then openOp (doneOp (stE ops k) (opAt ops k) k a b) else doneOp (stE ops k) (opAt ops k) k a b
  | 0, h => by omega
  | n + 1, h => by
    unfold openL opAt
    rw [List.getD_eq_getElem?_getD]
    by_cases hk : k < n
    · rw [List.getElem?_append_left (by rw [openL_len]; exact hk)]
      have := openL_at ops a b f k n hk
      unfold opAt at this
      rw [List.getD_eq_getElem?_getD] at this
      exact this
    · have : k = n := by omega
      subst this
      rw [List.getElem?_append_right (by rw [openL_len]; exact Nat.le_refl _), openL_len, Nat.sub_self]
      rfl
/-- Check of calls that were done, answered or not -/
theorem check_open (wx : World) (v : Value) (ops : List HOp) (rows : List HRow) (a b : Int) (f : Nat → Bool) (k : Nat) (ha : 0 ≤ a) (hb : 0 ≤ b) (hf : ∀ x ∈ ops, badB x = false) (hl : ops.length ≤ 10) (hk : k ≤ ops.length)
    (hops : opsOf rows = openL ops a b f k) (hc : ChkIn wx rows v) : Calls Try.prog 11 #[v] wx fun e w2 => e = .returned (.tuple #[.bool true, .int .i64 0]) ∧ Ext wx w2 := by
  refine (check_any wx rows v hc).mono ?_
  rintro e w2 ⟨⟨b', m, rfl, hres⟩, hE2⟩
  rw [hops] at hres
  obtain ⟨rfl, hb'⟩ := res_fine hres (by rw [openL_len]; omega) (open_fine ops f ha hb hf k hk)
  obtain rfl : b' = true := hb'.2 (open_lin ops f ha hb (fun x hx => fine_kind (hf x hx)) hk)
  exact ⟨rfl, hE2⟩
theorem DoneOut.len {w w' : World} {v : Value} {l rows : List HRow} {a b : Int} (h : DoneOut w w' v l rows a b) : rows.length = (fewOf l).length := by
  rw [← opsOf_len, h.ops]; exact openL_len _ _ _ _ _
theorem DoneOut.chk {w w' : World} {v : Value} {l rows : List HRow} {a b : Int} (h : DoneOut w w' v l rows a b) : ChkIn w' rows v where
  ops := Sln.of_own h.own (rows_8 rows) (by simp)
  rows := fun x hx => Sl.of_own (h.names x hx)
  xn := fun x hx => by have := h.few x hx; omega
theorem ChkIn.ext {w w' : World} {v : Value} {rows : List HRow} (h : ChkIn w rows v) (hE : Ext w w') : ChkIn w' rows v := ⟨h.ops.ext hE, fun x hx => (h.rows x hx).ext hE, h.xn⟩
theorem check_done {w w' : World} {v : Value} {l rows : List HRow} {a b : Int} (h : DoneOut w w' v l rows a b) (ha : 0 ≤ a) (hb : 0 ≤ b) (wx : World) (hE : Ext w' wx) :
    Calls Try.prog 11 #[v] wx fun e w2 => e = .returned (.tuple #[.bool true, .int .i64 0]) ∧ Ext wx w2 :=
  check_open wx v (fewOf l) rows a b (fun _ => false) (fewOf l).length ha hb (fewOf_fine l) (fewOf_len l) (Nat.le_refl _) h.ops (h.chk.ext hE)
theorem cl20_nonneg (a : Int) : 0 ≤ cl20 a := by unfold cl20; omega

set_option maxRecDepth 100000 in
set_option maxHeartbeats 2000000 in
theorem canw_any (w : World) (l : List HRow) (ov : Value) (a b n : Int) (bs : List Bool) (bv : Value) (hI : OpsIn w l ov) (hB : Sl w bv (bs.map Value.bool)) :
    Calls Try.prog 5 #[ov, .int .i64 a, .int .i64 b, .int .i64 n, bv] w fun e w' => e = .returned (.bool true) ∧ Ext w w' := by
  have ha0 := cl20_nonneg a
  have hb0 := cl20_nonneg b
  go_enter Try.func5, Try.ntmps5
  go_wp2_with fail
  refine (done_any w l ov a b hI.few).mono ?_
  rintro e w1 ⟨v1, rows, rfl, hD⟩
  have HD := Lib.hid hD
  have hE1 := hD.ext
  have HLEN := Lib.hid hD.len
  have hr10 : rows.length ≤ 10 := by rw [hD.len]; exact fewOf_len l
  obtain ⟨A1, c1, rfl⟩ := own_slice' hD.own
  clear hD
  go_wp2_with fail
  refine (check_done HD.out ha0 hb0 w1 (Ext.refl _)).mono ?_
  rintro e w2 ⟨rfl, hE2⟩
  go_wp2_with fail
  refine (awake_any w2).mono ?_
  rintro e w3 ⟨rfl, hE3⟩
  have hE13 := hE2.trans hE3
  have hSB := hB.ext (hE1.trans hE13)
  obtain ⟨B1, c2, hbv⟩ : ∃ B c, bv = .slice B bs.length c := by obtain ⟨B, c, h, _⟩ := hB; rw [List.length_map] at h; exact ⟨B, c, h⟩
  subst hbv
  clear hE2 hE3 hB
  go_wp2_with fail
  go_loopw [14, 43] (fun ov iv wx => ∃ (k : Nat) (rows2 : List HRow), k ≤ rows.length ∧ iv = .int .i64 (k : Int) ∧ rows2.length = k ∧ wx.ownsRow w3.heap.size 37 8 ov k ((rows2.map hrow).flatten) ∧ Hid (opsOf rows2 = openL (fewOf l) (cl20 a) (cl20 b) (fun i => bs.getD i false) k) ∧
    Hid (∀ x ∈ rows2, ∃ y ∈ rows, x.2 = y.2 ∧ x.1.names = y.1.names) ∧ Ext w3 wx) (fun _ iv _ => rows.length - (intOf iv).toNat)
  case atStart => exact ⟨0, [], Nat.zero_le _, rfl, rfl, w3.ownsRow_made #[] 0 (Nat.le_refl _) (by unfold maxLen; omega) rfl, Lib.hid rfl, Lib.hid (fun x h => by cases h), (Ext.refl w3).alloc _⟩
  case round =>
    obtain ⟨k, rows2, hk, rfl, hrl, hO, HOPS, HNM, hE⟩ := hrel
    by_cases hlt : k < rows.length
    · have hS2 := Sln.of_own (own_ext HD.out.own (hE13.trans hE)) (rows_8 rows) (by simp)
      obtain ⟨fb, fof, rfl⟩ := sln_some hS2 (fun e => by have := List.map_eq_nil_iff.1 e; subst this; simp at hlt)
      obtain ⟨r0, r1, r2, r3, r4, r5, r6, r7⟩ := row_cells hS2 hlt
      have hxm : rowAt rows k ∈ rows := List.mem_of_getElem? (rowAt_get hlt)
      have hxo : (rowAt rows k).1 = doneOp (stE (fewOf l) k) (opAt (fewOf l) k) k (cl20 a) (cl20 b) := by
        rw [rowAt_op hlt, HD.out.ops]
        exact openL_at _ _ _ _ k _ (by have := HLEN.out; unfold fewOf at this; omega)
      have hnx : ∀ x2 : HRow, x2.1 = (if bs.getD k false then openOp (rowAt rows k).1 else (rowAt rows k).1) → opsOf (rows2 ++ [x2]) = openL (fewOf l) (cl20 a) (cl20 b) (fun i => bs.getD i false) (k + 1) := fun x2 hx2 => by
        have e : opsOf (rows2 ++ [x2]) = opsOf rows2 ++ [x2.1] := by unfold opsOf; rw [List.map_append]; rfl
        rw [e, HOPS.out, hx2, hxo]; rfl
      have HNX := Lib.hid hnx
      have HXM := Lib.hid hxm
      clear hxo hnx hxm HOPS
      generalize rowAt rows k = x at *
      have hYb := At.new wr 37 (opCells x)
      have hO2 := hO.alloc (.cells (opCells x) 37)
      have hE2 := hE.alloc (.cells (opCells x) 37)
      have HOY := Lib.hid (own_lt hO)
      have hbase := hE.size
      have hSB2 := hSB.ext hE2
      clear hO hE hS2
      go_upto_region 9 with fail
      clear r0 r1 r2 r3 r4 r5 r6 r7
      generalize hyb : wr.heap.size = yb at *
      generalize wr.alloc _ = W1 at *
      have q4 := hYb.cell 4
      have f4 := hYb.frozen 4
      have hy := hYb.lt
      simp at q4
      generalize hfk : bs.getD k false = fk at *
      have HFK := Lib.hid hfk
      clear hfk
      go_cut [57] from 48 to 57 (fun tv wx => tv = .bool fk ∧ wx = W1)
      case first =>
        by_cases hlb : (k : Int) < (bs.length : Int)
        · have hbk : (bs.map Value.bool)[k]? = some (.bool fk) := by
            rw [List.getElem?_map, List.getElem?_eq_getElem (by omega)]
            have := HFK.out
            rw [List.getD_eq_getElem?_getD, List.getElem?_eq_getElem (by omega)] at this
            rw [← this]; rfl
          obtain ⟨nb, no, nc', hnv, hn0⟩ := sl_elem hSB2 hbk
          injection hnv with hnv1 hnv2 hnv3
          clear hnv2 hbk
          subst hnv1 hnv3
          cases fk
          all_goals
            go_wp2_with fail
            go_meet
            case rel => exact ⟨rfl, rfl⟩
        · have hfk : fk = false := by
            have := HFK.out
            rw [List.getD_eq_getElem?_getD, List.getElem?_eq_none (by omega)] at this
            exact this.symm
          subst hfk
          go_wp2_with fail
          go_meet
          case rel => exact ⟨rfl, rfl⟩
      case rest =>
        obtain ⟨rfl, hwc⟩ := hcut
        subst hwc
        obtain ⟨W2, hW2⟩ : ∃ W2, W2 = wc := ⟨_, rfl⟩
        subst hW2
        obtain ⟨oA, oc, rfl⟩ := own_slice' hO2
        have hx2 : ∃ x2 : HRow, x2 = (if fk then (openOp x.1, x.2) else x) := ⟨_, rfl⟩
        obtain ⟨x2, hx2⟩ := hx2
        have h21 : x2.1 = if fk then openOp x.1 else x.1 := by rw [hx2]; split <;> rfl
        have h22 : x2.2 = x.2 ∧ x2.1.names = x.1.names := by rw [hx2]; split <;> exact ⟨rfl, rfl⟩
        have HO2 := Lib.hid (HNX.out x2 h21)
        have HN2 := Lib.hid h22
        clear h21 h22 HNX
        go_upto_if 57 with fail
        go_cut [] from 57 to 58 (fun wx => At wx yb 37 (opCells x2) ∧ Chg (· = yb) W2 wx)
        case first =>
          cases fk
          · rw [if_neg (by simp)] at hx2
            subst hx2
            go_wp2_with fail
            go_meet
            case rel => exact ⟨hYb, Chg.refl _ _⟩
          · rw [if_pos rfl] at hx2
            subst hx2
            go_wp2_with fail
            go_meet
            case rel => exact ⟨hYb.set 4 _, (Chg.refl (· = yb) W2).setCell (p := ⟨yb, 4, none⟩) (.inl rfl) _⟩
        case rest =>
          clear q4 f4 hy hx2 hYb
          obtain ⟨hYc, hCc⟩ := hcut
          have hO3 := own_far hO2 hCc (fun k' hk' h => by have h' : k' = yb := h; have := HOY.out k' hk'.symm; omega)
          have hE3 : Ext w3 wc := Chg.mono (hE2.chg_trans hCc) fun j hj h => by
            have h' : j = yb := h
            omega
          clear hO2 hE2 hCc hSB2
          have q0 := hYc.cell 0
          have q1 := hYc.cell 1
          have q2 := hYc.cell 2
          have q3 := hYc.cell 3
          have q4 := hYc.cell 4
          have q5 := hYc.cell 5
          have q6 := hYc.cell 6
          have q7 := hYc.cell 7
          simp at q0 q1 q2 q3 q4 q5 q6 q7
          have hsz3 := hE3.size
          go_wp2_with (at_builtin; refine wpList_append_row _ hO3 22 Try.underlying22 op_info rfl rfl (by decide) (by decide) rfl (by omega) (by omega) rfl _ _ rfl rfl rfl ?_)
          intro v1 w4 hO4 hC4
          have hE4 := Chg.own_ext hE3 hC4 hO3 (Nat.le_refl _)
          have HNM4 : Hid (∀ z ∈ rows2 ++ [x2], ∃ y ∈ rows, z.2 = y.2 ∧ z.1.names = y.1.names) := Lib.hid (fun z hz => by
            rcases List.mem_append.1 hz with hz | hz
            · exact HNM.out z hz
            · rw [List.mem_singleton] at hz; subst hz; exact ⟨x, HXM.out, HN2.out⟩)
          clear hC4 hO3 hYc hE3 q0 q1 q2 q3 q4 q5 q6 q7
          go_wp2_with fail
          refine ⟨⟨k + 1, rows2 ++ [x2], by omega, by go_num, by simp; omega, ?_, HO2, HNM4, hE4⟩, by simp [intOf]; omega⟩
          simpa [hrow] using hO4
    · obtain rfl : k = rows.length := by omega
      have hchk : ChkIn wr rows2 u14 := by
        have hE5 := hE13.trans hE
        refine ⟨Sln.of_own hO (rows_8 rows2) (by simp [hrl]), fun z hz => ?_, fun z hz => ?_⟩
        · obtain ⟨y, hy, h1, h2⟩ := HNM.out z hz
          rw [h1, h2]
          exact (HD.out.chk.rows y hy).ext hE5
        · obtain ⟨y, hy, h1, h2⟩ := HNM.out z hz
          rw [h2]; exact HD.out.chk.xn y hy
      have HC := Lib.hid (check_open wr u14 (fewOf l) rows2 (cl20 a) (cl20 b) (fun i => bs.getD i false) rows.length ha0 hb0 (fewOf_fine l) (fewOf_len l) (by rw [HLEN.out]; exact Nat.le_refl _) HOPS.out hchk)
      clear hchk
      obtain ⟨oA, oc, rfl⟩ := own_slice' hO
      go_wp2_with fail
      refine HC.out.mono ?_
      rintro e w5 ⟨rfl, hE5⟩
      have hE6 := hE1.trans (hE13.trans (hE.trans hE5))
      clear HC hO hSB
      by_cases hgo : n < 0 ∨ (rows.length : Int) < n
      · have hgo2 : n < 0 ∨ ¬ n < 0 ∧ (rows.length : Int) < n := by omega
        clear hgo
        rcases hgo2 with hg | ⟨hg, hg2⟩
        all_goals
          go_wp2_with fail
          go_ret
          exact ⟨ret_bool (by simp), hE6⟩
      · have hn0 : 0 ≤ n := by omega
        obtain ⟨m, rfl⟩ := Int.eq_ofNat_of_zero_le hn0
        have hg1 : ¬ (m : Int) < 0 := by omega
        have hg2 : ¬ (rows.length : Int) < (m : Int) := by omega
        obtain ⟨LA, lc, rfl, hlc, hlm⟩ := hI.cap
        have hl63 := hI.len
        unfold maxLen at hl63
        obtain ⟨mm, hmm⟩ : ∃ q : Nat, q = min m l.length := ⟨_, rfl⟩
        have hmi : min (m : Int) (l.length : Int) = (mm : Int) := by omega
        have hml : mm ≤ l.length := by omega
        have hmc : mm ≤ lc := by omega
        have hFI : FewIn w5 (l.take mm) (.slice LA mm lc) := by
          have hf := hI.few
          have hS0 := hf.ops.pre (k := mm) (c' := lc) hml
          rw [← List.map_take] at hS0
          exact ⟨hS0.ext hE6, fun x hx => (hf.rows x (List.mem_of_mem_take hx)).ext hE6, fun x hx => hf.xn x (List.mem_of_mem_take hx), fun x hx => hf.xs x (List.mem_of_mem_take hx), fun x hx => hf.caps x (List.mem_of_mem_take hx), by rw [List.length_take]; omega⟩
        have HFI := Lib.hid (done_any w5 (l.take mm) _ a b hFI)
        clear hFI hmm hgo hn0 hI
        go_wp2_with fail
        refine HFI.out.mono ?_
        rintro e w6 ⟨v6, rows6, rfl, hD6⟩
        have HD6 := Lib.hid hD6
        have hE7 := hE6.trans hD6.ext
        clear hD6 HFI
        go_wp2_with fail
        refine (check_done HD6.out ha0 hb0 w6 (Ext.refl _)).mono ?_
        rintro e w7 ⟨rfl, hE8⟩
        go_wp2_with fail
        go_ret
        exact ⟨ret_bool (by simp), hE7.trans hE8⟩
end Go.Proofs.Ytlodaffiamegpaa
