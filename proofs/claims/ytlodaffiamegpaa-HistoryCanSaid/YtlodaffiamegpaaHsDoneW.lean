/-
  Layer 18: done, walked.
-/
import Derived.Test.YtlodaffiamegpaaHsChecksW
import Derived.Test.YtlodaffiamegpaaOwnSet
import Derived.Test.YtlodaffiamegpaaHistCan
namespace Go.Proofs.Ytlodaffiamegpaa
open Go.RowKit Go.Sort

def cl20 (a : Int) : Int := min (max a 0) 20
theorem stE_next (ops : List HOp) (k : Nat) : stE ops (k + 1) = reff (stE ops k) (opAt ops k) := rfl
theorem doneL_next (ops : List HOp) (a b : Int) (k : Nat) : doneL ops a b (k + 1) = doneL ops a b k ++ [doneOp (stE ops k) (opAt ops k) k a b] := by
  unfold doneL; rw [openL]; rfl
/-- what done leaves -/
structure DoneOut (w w' : World) (v : Value) (l rows : List HRow) (a b : Int) : Prop where
  own : w'.ownsRow w.heap.size 37 8 v rows.length ((rows.map hrow).flatten)
  ops : opsOf rows = doneL (((opsOf l).take 10).map fewOp) a b (((opsOf l).take 10).map fewOp).length
  names : ∀ x ∈ rows, w'.ownsRow w.heap.size 9 1 (.slice x.2.1 x.1.names.length x.2.2) x.1.names.length (x.1.names.map Value.string)
  few : ∀ x ∈ rows, x.1.names.length ≤ 10
  ext : Ext w w'

set_option maxRecDepth 100000 in
set_option maxHeartbeats 4000000 in
theorem done_any (w : World) (l : List HRow) (ov : Value) (a b : Int) (hI : FewIn w l ov) :
    Calls Try.prog 16 #[ov, .int .i64 a, .int .i64 b] w fun e w' => ∃ v' rows, e = .returned v' ∧ DoneOut w w' v' l rows (cl20 a) (cl20 b) := by
  have hab : 0 ≤ cl20 a ∧ cl20 a ≤ 20 ∧ 0 ≤ cl20 b ∧ cl20 b ≤ 20 := by unfold cl20; omega
  go_enter Try.func16, Try.ntmps16
  go_upto_region 2 with fail
  rw [show min (max a 0) 20 = cl20 a from rfl, show min (max b 0) 20 = cl20 b from rfl]
  generalize hca : cl20 a = ca at *
  generalize hcb : cl20 b = cb at *
  have HCA := Lib.hid hca
  have HCB := Lib.hid hcb
  clear hca hcb
  have hOe := (w.ownsRow_made (e := 63) (size := 2) (base := w.heap.size) #[] 0 (Nat.le_refl _) (by unfold maxLen; omega) rfl).alloc (.cells #[] 37)
  have hEa := (Ext.refl w).alloc (.cells #[] 63)
  have hOo := (w.alloc (.cells #[] 63)).ownsRow_made (e := 37) (size := 8) (base := w.heap.size) #[] 0 hEa.size (by unfold maxLen; omega) rfl
  have hE0 := hEa.alloc (.cells #[] 37)
  have hob : ((w.alloc (.cells #[] 63)).heap.size < ((w.alloc (.cells #[] 63)).alloc (.cells #[] 37)).heap.size) := by simp
  go_upto_region 4 with fail
  have hobe : (w.alloc (.cells #[] 63)).heap.size = w.heap.size + 1 := by simp
  rw [hobe] at hOo hob
  clear hobe
  generalize World.alloc _ _ = W0 at hOe hOo hE0 hob ⊢
  clear hEa
  go_wp2_with fail
  refine (few_c W0 l ov 10 ⟨hI.ops.ext hE0, fun x hx => (hI.rows x hx).ext hE0, hI.xn, hI.xs, hI.caps, hI.len⟩ (by omega)).mono ?_
  rintro e w1 ⟨fv, fr, rfl, hF⟩
  have hflen := hF.len
  have hE1 := hE0.trans hF.ext
  have hfo : w1.ownsRow w.heap.size 37 8 fv fr.length ((fr.map hrow).flatten) := own_base hF.own hE0.size
  have hfge := own_ge hF.own
  have HOPF := Lib.hid hF.ops
  have hfine := hF.fine
  have hOe1 := own_ext hOe hF.ext
  have hOo1 := own_ext hOo hF.ext
  obtain ⟨fA, fc, rfl⟩ := few_slice hF
  have hap : ∀ k', (Value.slice (some ⟨w.heap.size + 1, 0, none⟩) 0 0).ownBlock = some k' → (Value.slice fA fr.length fc).ownBlock ≠ some k' := fun k' hk' h => by
    have h1 := hfge k' h.symm
    have h2 : some (w.heap.size + 1) = some k' := hk'
    injection h2 with h2
    omega
  have HAP := Lib.hid hap
  have HKD := Lib.hid (fun (x : HOp) (hx : x ∈ opsOf fr) => fine_kind (hfine x hx))
  clear hF hap hOe hOo hob hfge hfine
  go_wp2_with fail
  go_loopw [7, 8, 28] (fun ev av iv wx => ∃ (k : Nat) (rows : List HRow), k ≤ fr.length ∧ iv = .int .i64 (k : Int) ∧ wx.ownsRow w.heap.size 63 2 ev (stE (opsOf fr) k).length (((stE (opsOf fr) k).map erow).flatten) ∧
    wx.ownsRow w.heap.size 37 8 av k ((rows.map hrow).flatten) ∧ rows.length = k ∧ Hid (opsOf rows = doneL (opsOf fr) ca cb k) ∧
    Hid (∀ x ∈ rows, wx.ownsRow w.heap.size 9 1 (.slice x.2.1 x.1.names.length x.2.2) x.1.names.length (x.1.names.map Value.string)) ∧ Hid (∀ x ∈ rows, x.1.names.length ≤ 10) ∧
    wx.ownsRow w.heap.size 37 8 (.slice fA fr.length fc) fr.length ((fr.map hrow).flatten) ∧ Hid (∀ k', av.ownBlock = some k' → (Value.slice fA fr.length fc).ownBlock ≠ some k') ∧ Ext w wx) (fun _ _ iv _ => fr.length - (intOf iv).toNat)
  case atStart => exact ⟨0, [], Nat.zero_le _, rfl, hOe1, hOo1, rfl, Lib.hid rfl, Lib.hid (fun x h => by cases h), Lib.hid (fun x h => by cases h), hfo, HAP, hE1⟩
  case round =>
    clear hfo hOe1 hOo1 HAP hE1 hE0
    obtain ⟨k, rows, hk, rfl, hOe, hOo, hrl, HOPS, HNM, HNF, hfo, HAP, hE⟩ := hrel
    by_cases hlt : k < fr.length
    · have hS2 := Sln.of_own hfo (rows_8 fr) (by simp)
      obtain ⟨fb, fof, rfl⟩ := sln_some hS2 (fun e => by have := List.map_eq_nil_iff.1 e; subst this; simp at hlt)
      obtain ⟨r0, r1, r2, r3, r4, r5, r6, r7⟩ := row_cells hS2 hlt
      have hop := rowAt_op hlt
      have hkd := HKD.out _ (List.mem_of_getElem? (opAt_get (by rw [opsOf_len]; exact hlt)) : opAt (opsOf fr) k ∈ opsOf fr)
      rw [← hop] at hkd
      have hnx := stE_next (opsOf fr) k
      have hdn := doneL_next (opsOf fr) ca cb k
      rw [← hop] at hnx hdn
      have hel := stE_len (opsOf fr) k
      have her := stE_rises (opsOf fr) k
      have HNX := Lib.hid hnx
      have HDN := Lib.hid hdn
      have HKX := Lib.hid hkd
      clear hop hkd hnx hdn
      generalize hst : stE (opsOf fr) k = E at *
      clear hst
      generalize rowAt fr k = x at *
      have hYb := At.new wr 37 (opCells x)
      have hOe2 := hOe.alloc (.cells (opCells x) 37)
      have hOo2 := hOo.alloc (.cells (opCells x) 37)
      have hfo2 := hfo.alloc (.cells (opCells x) 37)
      have hE2 := hE.alloc (.cells (opCells x) 37)
      have HNM2 := Lib.hid (fun y hy => (HNM.out y hy).alloc (.cells (opCells x) 37))
      have HOY := Lib.hid (own_lt hOo)
      have HFY := Lib.hid (own_lt hfo)
      have hbase := hE.size
      clear hOe hOo hfo hE hS2
      go_upto_region 7 with fail
      clear r0 r1 r2 r3 r4 r5 r6 r7
      generalize hyb : wr.heap.size = yb at *
      generalize wr.alloc _ = W1 at *
      have q1 := hYb.cell 1
      simp at q1
      obtain ⟨eA, ec, rfl⟩ := own_slice' hOe2
      go_wp2_with fail
      refine (find_any W1 E _ x.1.name (Sln.of_own hOe2 (by intro r hr; obtain ⟨z, _, rfl⟩ := List.mem_map.1 hr; rfl) (by simp)) (by omega)).mono ?_
      rintro e w3 ⟨rfl, hE3⟩
      have hY3 := hYb.ext hE3
      have hOe3 := own_ext hOe2 hE3
      have hOo3 := own_ext hOo2 hE3
      have hfo3 := own_ext hfo2 hE3
      have HNM3 := Lib.hid (fun y hy => own_ext (HNM2.out y hy) hE3)
      have hEw3 := hE2.trans hE3
      clear hYb hOe2 hOo2 hfo2 HNM2 hE2 hE3 q1
      have q5 := hY3.cell 5
      have q6 := hY3.cell 6
      have q7 := hY3.cell 7
      have f5 := hY3.frozen 5
      have f6 := hY3.frozen 6
      have f7 := hY3.frozen 7
      have hy := hY3.lt
      simp at q5 q6 q7
      go_upto_region 11 with fail
      have hY4 : At (((w3.setCell ⟨yb, 5, none⟩ (.int .i64 0)).setCell ⟨yb, 6, none⟩ (.int .u64 0)).setCell ⟨yb, 7, none⟩ (.slice none 0 0)) yb 37 #[.int .i64 x.1.kind, .string x.1.name, .int .u64 x.1.value, .int .i64 x.1.start, .int .i64 x.1.fin, .int .i64 0, .int .u64 0, .slice none 0 0] := ((hY3.set 5 _).set 6 _).set 7 _
      have hC4 := (((Chg.refl (· = yb) w3).setCell (p := ⟨yb, 5, none⟩) (.inl rfl) (.int .i64 0)).setCell (p := ⟨yb, 6, none⟩) (.inl rfl) (.int .u64 0)).setCell (p := ⟨yb, 7, none⟩) (.inl rfl) (.slice none 0 0)
      clear q5 q6 q7 f5 f6 f7 hy
      generalize World.setCell _ _ _ = W4 at hY4 hC4 ⊢
      have q0 := hY4.cell 0
      have q5 := hY4.cell 5
      have q6 := hY4.cell 6
      have q7 := hY4.cell 7
      have f5 := hY4.frozen 5
      have f6 := hY4.frozen 6
      have f7 := hY4.frozen 7
      have hy := hY4.lt
      simp at q0 q5 q6 q7
      have hOe4 := own_far hOe3 hC4 (fun k' hk' h => own_apart hOe3 hY3 (by decide) k' hk' h)
      generalize hgv : lget x.1.name E = gv at *
      have HGV := Lib.hid hgv
      clear hgv
      go_upto_block 2 with fail
      go_cut [14] from 45 to 73 (fun _ wx => (∃ A c, At wx yb 37 #[.int .i64 x.1.kind, .string x.1.name, .int .u64 x.1.value, .int .i64 x.1.start, .int .i64 x.1.fin, .int .i64 (ansErr E x.1), .int .u64 (ansGot E x.1 : Nat), .slice A (ansNames E x.1).length c] ∧ wx.ownsRow W4.heap.size 9 1 (.slice A (ansNames E x.1).length c) (ansNames E x.1).length ((ansNames E x.1).map Value.string)) ∧ Chg (· = yb) W4 wx)
      case first =>
        rcases HKX.out with k1 | k2 | k3 | k4 | k5
        · have b2 : (x.1.kind == 2) = false := by rw [k1]; rfl
          have b5 : (x.1.kind == 5) = false := by rw [k1]; rfl
          have b3 : (x.1.kind == 3) = false := by rw [k1]; rfl
          have b4 : (x.1.kind == 4) = false := by rw [k1]; rfl
          have he : ansErr E x.1 = 0 := by unfold ansErr; rw [HGV.out]; simp [k1]
          have hgt : ansGot E x.1 = 0 := by unfold ansGot; rw [HGV.out]; simp [k1]
          have hns : ansNames E x.1 = [] := by unfold ansNames; simp [k1]
          have HE := Lib.hid he
          have HG := Lib.hid hgt
          have HN := Lib.hid hns
          clear he hgt hns k1
          go_wp2_with fail
          go_meet
          case rel =>
            refine ⟨⟨none, 0, ?_, ?_⟩, Chg.refl _ _⟩
            · rw [HE.out, HG.out, HN.out]; exact hY4
            · rw [HN.out]; exact World.ownsRow_nil _ _ _ _
        · have b2 : (x.1.kind == 2) = true := by rw [k2]; rfl
          have b5 : (x.1.kind == 5) = false := by rw [k2]; rfl
          have b3 : (x.1.kind == 3) = false := by rw [k2]; rfl
          have b4 : (x.1.kind == 4) = false := by rw [k2]; rfl
          cases gv with
          | none =>
            have he : ansErr E x.1 = 5 := by unfold ansErr; rw [HGV.out]; simp [k2]
            have hgt : ansGot E x.1 = 0 := by unfold ansGot; rw [HGV.out]; simp [k2]
            have hns : ansNames E x.1 = [] := by unfold ansNames; simp [k2]
            have HE := Lib.hid he
            have HG := Lib.hid hgt
            have HN := Lib.hid hns
            clear he hgt hns k2
            go_wp2_with fail
            go_meet
            case rel =>
              refine ⟨⟨none, 0, ?_, ?_⟩, ((Chg.refl (· = yb) W4).setCell (p := ⟨yb, 6, none⟩) (.inl rfl) _).setCell (p := ⟨yb, 5, none⟩) (.inl rfl) _⟩
              · rw [HE.out, HG.out, HN.out]; exact (hY4.set 6 _).set 5 _
              · rw [HN.out]; exact World.ownsRow_nil _ _ _ _
          | some v =>
            have he : ansErr E x.1 = 0 := by unfold ansErr; rw [HGV.out]; simp [k2]
            have hgt : ansGot E x.1 = v := by unfold ansGot; rw [HGV.out]; simp [k2]
            have hns : ansNames E x.1 = [] := by unfold ansNames; simp [k2]
            have HE := Lib.hid he
            have HG := Lib.hid hgt
            have HN := Lib.hid hns
            clear he hgt hns k2
            go_wp2_with fail
            go_meet
            case rel =>
              refine ⟨⟨none, 0, ?_, ?_⟩, (Chg.refl (· = yb) W4).setCell (p := ⟨yb, 6, none⟩) (.inl rfl) _⟩
              · rw [HE.out, HG.out, HN.out]; exact hY4.set 6 _
              · rw [HN.out]; exact World.ownsRow_nil _ _ _ _
        · have b2 : (x.1.kind == 2) = false := by rw [k3]; rfl
          have b5 : (x.1.kind == 5) = false := by rw [k3]; rfl
          have b3 : (x.1.kind == 3) = true := by rw [k3]; rfl
          have b4 : (x.1.kind == 4) = false := by rw [k3]; rfl
          cases gv with
          | none =>
            have he : ansErr E x.1 = 5 := by unfold ansErr; rw [HGV.out]; simp [k3]
            have hgt : ansGot E x.1 = 0 := by unfold ansGot; rw [HGV.out]; simp [k3]
            have hns : ansNames E x.1 = [] := by unfold ansNames; simp [k3]
            have HE := Lib.hid he
            have HG := Lib.hid hgt
            have HN := Lib.hid hns
            clear he hgt hns k3
            go_wp2_with fail
            go_meet
            case rel =>
              refine ⟨⟨none, 0, ?_, ?_⟩, (Chg.refl (· = yb) W4).setCell (p := ⟨yb, 5, none⟩) (.inl rfl) _⟩
              · rw [HE.out, HG.out, HN.out]; exact hY4.set 5 _
              · rw [HN.out]; exact World.ownsRow_nil _ _ _ _
          | some v =>
            have he : ansErr E x.1 = 0 := by unfold ansErr; rw [HGV.out]; simp [k3]
            have hgt : ansGot E x.1 = 0 := by unfold ansGot; rw [HGV.out]; simp [k3]
            have hns : ansNames E x.1 = [] := by unfold ansNames; simp [k3]
            have HE := Lib.hid he
            have HG := Lib.hid hgt
            have HN := Lib.hid hns
            clear he hgt hns k3
            go_wp2_with fail
            go_meet
            case rel =>
              refine ⟨⟨none, 0, ?_, ?_⟩, Chg.refl _ _⟩
              · rw [HE.out, HG.out, HN.out]; exact hY4
              · rw [HN.out]; exact World.ownsRow_nil _ _ _ _
        · have b2 : (x.1.kind == 2) = false := by rw [k4]; rfl
          have b5 : (x.1.kind == 5) = false := by rw [k4]; rfl
          have b3 : (x.1.kind == 3) = false := by rw [k4]; rfl
          have b4 : (x.1.kind == 4) = true := by rw [k4]; rfl
          have he : ansErr E x.1 = 0 := by unfold ansErr; rw [HGV.out]; simp [k4]
          have hgt : ansGot E x.1 = 0 := by unfold ansGot; rw [HGV.out]; simp [k4]
          have hns : ansNames E x.1 = E.map (·.1) := by unfold ansNames; simp [k4]
          have HE := Lib.hid he
          have HG := Lib.hid hgt
          have HN := Lib.hid hns
          clear he hgt hns k4
          go_wp2_with fail
          go_loopw [62] (fun iv wx => ∃ (j : Nat) (A : Option Addr) (c : Nat), j ≤ E.length ∧ iv = .int .i64 (j : Int) ∧ At wx yb 37 #[.int .i64 x.1.kind, .string x.1.name, .int .u64 x.1.value, .int .i64 x.1.start, .int .i64 x.1.fin, .int .i64 0, .int .u64 0, .slice A j c] ∧ wx.ownsRow W4.heap.size 9 1 (.slice A j c) j (((E.take j).map (·.1)).map Value.string) ∧ Chg (· = yb) W4 wx) (fun iv _ => E.length - (intOf iv).toNat)
          case atStart => exact ⟨0, none, 0, Nat.zero_le _, rfl, hY4, World.ownsRow_nil _ _ _ _, Chg.refl _ _⟩
          case round =>
            clear q0 q5 q6 q7 f5 f6 f7
            obtain ⟨j, A, c, hj, rfl, hYj, hNj, hCj⟩ := hrel
            have hszj := hCj.size
            by_cases hlj : j < E.length
            · have hOej := own_far hOe4 hCj (fun k' hk' h => own_apart hOe4 hY4 (by decide) k' hk' h)
              have hSe := ent_sln hOej
              obtain ⟨eb, eo, rfl⟩ := sln_some hSe (fun e => by have := List.map_eq_nil_iff.1 e; subst this; simp at hlj)
              obtain ⟨r0, r1⟩ := ent_cells hSe hlj
              have htk : E.take (j + 1) = E.take j ++ [entAt E j] := by rw [List.take_add_one, entAt_get hlj]; rfl
              have HTK := Lib.hid htk
              clear htk hSe hOej
              generalize entAt E j = z at *
              generalize E.take j = Ej at *
              have hZ := At.new wr 63 (ecells z)
              have hYj2 := hYj.alloc (.cells (ecells z) 63)
              have hNj2 := hNj.alloc (.cells (ecells z) 63)
              have hCj2 := hCj.alloc (.cells (ecells z) 63)
              have hszw := hCj2.size
              clear hYj hNj hCj
              go_upto_region 24 with fail
              clear r0 r1
              generalize wr.heap.size = zb at *
              generalize wr.alloc _ = W5 at *
              have z0 := hZ.cell 0
              have y7 := hYj2.cell 7
              have g7 := hYj2.frozen 7
              simp at z0 y7
              go_wp2_with (at_builtin; refine wpList_append_row _ hNj2 35 Try.underlying35 str_info rfl rfl (by decide) (by decide) rfl (by omega) (by omega) rfl _ _ rfl rfl rfl ?_)
              intro v7 w7 hN7 hC7
              obtain ⟨A7, c7, rfl⟩ := own_slice' hN7
              have hY7 := hYj2.chg hC7 (fun h => own_apart hNj2 hYj2 (by decide) yb h rfl)
              have hC47 : Chg (· = yb) W4 w7 := Chg.trans hCj2 hC7 fun q hq h => by
                have := own_ge hNj2 q h; omega
              have y7 := hY7.cell 7
              have g7 := hY7.frozen 7
              have hyl := hY7.lt
              simp at y7
              clear hNj2 hYj2 hCj2 hC7 z0
              go_wp2_with fail
              refine ⟨⟨j + 1, A7, c7, by omega, by go_num, hY7.set 7 _, ?_, hC47.setCell (.inl rfl) _⟩, by simp [intOf]; omega⟩
              have := own_far hN7 ((Chg.refl (· = yb) w7).setCell (p := ⟨yb, 7, none⟩) (.inl rfl) (.slice A7 (j + 1) c7)) (fun k' hk' h => own_apart hN7 hY7 (by decide) k' hk' h)
              rw [HTK.out]
              simpa using this
            · obtain rfl : j = E.length := by omega
              rw [List.take_length] at hNj
              go_wp2_with fail
              go_meet
              case rel =>
                refine ⟨⟨A, c, ?_, ?_⟩, hCj⟩
                · rw [HE.out, HG.out, HN.out, List.length_map]; exact hYj
                · rw [HN.out, List.length_map]; exact hNj
        · have b2 : (x.1.kind == 2) = false := by rw [k5]; rfl
          have b5 : (x.1.kind == 5) = true := by rw [k5]; rfl
          have b3 : (x.1.kind == 3) = false := by rw [k5]; rfl
          have b4 : (x.1.kind == 4) = false := by rw [k5]; rfl
          cases gv with
          | none =>
            have he : ansErr E x.1 = 5 := by unfold ansErr; rw [HGV.out]; simp [k5]
            have hgt : ansGot E x.1 = 0 := by unfold ansGot; rw [HGV.out]; simp [k5]
            have hns : ansNames E x.1 = [] := by unfold ansNames; simp [k5]
            have HE := Lib.hid he
            have HG := Lib.hid hgt
            have HN := Lib.hid hns
            clear he hgt hns k5
            go_wp2_with fail
            go_meet
            case rel =>
              refine ⟨⟨none, 0, ?_, ?_⟩, ((Chg.refl (· = yb) W4).setCell (p := ⟨yb, 6, none⟩) (.inl rfl) _).setCell (p := ⟨yb, 5, none⟩) (.inl rfl) _⟩
              · rw [HE.out, HG.out, HN.out]; exact (hY4.set 6 _).set 5 _
              · rw [HN.out]; exact World.ownsRow_nil _ _ _ _
          | some v =>
            have he : ansErr E x.1 = 0 := by unfold ansErr; rw [HGV.out]; simp [k5]
            have hgt : ansGot E x.1 = v := by unfold ansGot; rw [HGV.out]; simp [k5]
            have hns : ansNames E x.1 = [] := by unfold ansNames; simp [k5]
            have HE := Lib.hid he
            have HG := Lib.hid hgt
            have HN := Lib.hid hns
            clear he hgt hns k5
            go_wp2_with fail
            go_meet
            case rel =>
              refine ⟨⟨none, 0, ?_, ?_⟩, (Chg.refl (· = yb) W4).setCell (p := ⟨yb, 6, none⟩) (.inl rfl) _⟩
              · rw [HE.out, HG.out, HN.out]; exact hY4.set 6 _
              · rw [HN.out]; exact World.ownsRow_nil _ _ _ _
      case rest =>
        clear q0 q5 q6 q7 f5 f6 f7 hy hOe4 hY4
        obtain ⟨⟨A, c, hY5, hN5⟩, hC5⟩ := hcut
        have hC : Chg (· = yb) w3 wc := Chg.trans hC4 hC5 (fun _ _ h => h)
        have hcsz := hC.size
        have hOe5 := own_far hOe3 hC (fun k' hk' h => own_apart hOe3 hY3 (by decide) k' hk' h)
        have hOo5 := own_far hOo3 hC (fun k' hk' h => by have h' : k' = yb := h; have := HOY.out k' hk'.symm; omega)
        have hfo5 := own_far hfo3 hC (fun k' hk' h => by have h' : k' = yb := h; have := HFY.out k' hk'.symm; omega)
        have HNM5 := Lib.hid (fun y hy => own_far (HNM3.out y hy) hC (fun k' hk' h => own_apart (HNM3.out y hy) hY3 (by decide) k' hk' h))
        have hEw5 : Ext w wc := Chg.mono (hEw3.chg_trans hC) fun j hj h => by
          have h' : j = yb := h
          omega
        have hN5' := own_base (b2 := w.heap.size) hN5 (by have := hC4.size; have := hEw3.size; omega)
        have hnl : (ansNames E x.1).length ≤ 10 := by
          unfold ansNames
          split
          · rw [List.length_map]; omega
          · simp
        clear hOe3 hOo3 hfo3 HNM3 hC4 hC5 hN5 hC hY3 hEw3
        have q0 := hY5.cell 0
        have q1 := hY5.cell 1
        have q2 := hY5.cell 2
        have q3 := hY5.cell 3
        have q4 := hY5.cell 4
        have q5 := hY5.cell 5
        have q6 := hY5.cell 6
        have q7 := hY5.cell 7
        simp at q0 q1 q2 q3 q4 q5 q6 q7
        have hRb : At (wc.alloc (.cells #[.int .i64 x.1.kind, .string x.1.name, .int .u64 x.1.value, .int .i64 x.1.start, .int .i64 x.1.fin, .int .i64 (ansErr E x.1), .int .u64 (ansGot E x.1 : Nat), .slice A (ansNames E x.1).length c] 37)) wc.heap.size 37 (opCells (ansOp E x.1, A, c)) := At.new wc _ _
        have hEb := (Ext.refl wc).alloc (.cells #[.int .i64 x.1.kind, .string x.1.name, .int .u64 x.1.value, .int .i64 x.1.start, .int .i64 x.1.fin, .int .i64 (ansErr E x.1), .int .u64 (ansGot E x.1 : Nat), .slice A (ansNames E x.1).length c] 37)
        have HT := Lib.hid (told_any _ [(ansOp E x.1, A, c)] (.slice (some ⟨wc.heap.size, 0, none⟩) 1 1) (sln_lit hRb rfl (rows_8 _) rfl) (by simp))
        clear hRb
        go_wp2_with fail
        refine HT.out.mono ?_
        rintro e w6 ⟨v6, rfl, hS6, hE6⟩
        have hEc := hEb.trans hE6
        clear hEb hE6 HT
        obtain ⟨tb, tof, tc, rfl⟩ := sln_some' hS6 (by simp)
        obtain ⟨r0, r1, r2, r3, r4, r5, r6, r7⟩ := row_cells hS6 (i := 0) (by simp)
        rw [show rowAt [(ansOp E x.1, A, c)] 0 = (ansOp E x.1, A, c) from rfl] at r0 r1 r2 r3 r4 r5 r6 r7
        simp only [Nat.zero_mul, Nat.add_zero] at r0 r1 r2 r3 r4 r5 r6 r7
        have hOe6 := own_ext hOe5 hEc
        have hDO := do_any w6 E (.slice eA E.length ec) (ansOp E x.1, A, c) (ent_sln hOe6) (by omega) her (Sl.of_own (own_ext hN5' hEc)) (show (ansNames E x.1).length ≤ _ by omega)
        have HDO := Lib.hid hDO
        have hw6 := hEc.size
        clear hDO q0 q1 q2 q3 q4 q5 q6 q7 hS6
        simp only [ansOp] at r0 r1 r2 r3 r4 r5 r6 r7
        simp only [List.map_cons, List.map_nil, List.length_cons, List.length_nil, Nat.zero_add]
        go_wp2_with fail
        refine HDO.out.mono ?_
        rintro e w8 ⟨nv, rfl, hS8, HOW, hE8⟩
        have hEc8 := hEc.trans hE8
        have hOe8 := HOW.out w.heap.size (by have := hEw5.size; omega) hOe6
        rw [reff_ans] at hOe8
        have hOo8 := own_ext hOo5 hEc8
        have hfo8 := own_ext hfo5 hEc8
        have HNM8 := Lib.hid (fun y hy => own_ext (HNM5.out y hy) hEc8)
        have hN8 := own_ext hN5' hEc8
        have hY8 := hY5.ext hEc8
        have hEw8 := hEw5.trans hEc8
        clear r0 r1 r2 r3 r4 r5 r6 r7 hOe6 HDO HOW hS8 hOe5 hOo5 hfo5 HNM5 hN5' hY5 hEc hEc8 hEw5 hE8
        have q3 := hY8.cell 3
        have q4 := hY8.cell 4
        have f3 := hY8.frozen 3
        have f4 := hY8.frozen 4
        have hy := hY8.lt
        simp at q3 q4
        obtain ⟨nA, nc, rfl⟩ := own_slice' hOe8
        have hk10 : k ≤ 10 := by omega
        go_upto_region 30 with fail
        have hY9 : At ((w8.setCell ⟨yb, 3, none⟩ (.int .i64 (max (10 * (k : Int) + 5 - ca) 0))).setCell ⟨yb, 4, none⟩ (.int .i64 (10 * (k : Int) + 5 + cb))) yb 37 #[.int .i64 x.1.kind, .string x.1.name, .int .u64 x.1.value, .int .i64 (max (10 * (k : Int) + 5 - ca) 0), .int .i64 (10 * (k : Int) + 5 + cb), .int .i64 (ansErr E x.1), .int .u64 (ansGot E x.1 : Nat), .slice A (ansNames E x.1).length c] := (hY8.set 3 _).set 4 _
        have hC9 := ((Chg.refl (· = yb) w8).setCell (p := ⟨yb, 3, none⟩) (.inl rfl) (.int .i64 (max (10 * (k : Int) + 5 - ca) 0))).setCell (p := ⟨yb, 4, none⟩) (.inl rfl) (.int .i64 (10 * (k : Int) + 5 + cb))
        have hOe9 := own_far hOe8 hC9 (fun k' hk' h => own_apart hOe8 hY8 (by decide) k' hk' h)
        have hOo9 := own_far hOo8 hC9 (fun k' hk' h => by have h' : k' = yb := h; have := HOY.out k' hk'.symm; omega)
        have hfo9 := own_far hfo8 hC9 (fun k' hk' h => by have h' : k' = yb := h; have := HFY.out k' hk'.symm; omega)
        have hN9 := own_far hN8 hC9 (fun k' hk' h => own_apart hN8 hY8 (by decide) k' hk' h)
        have HNM9 := Lib.hid (fun y hy => own_far (HNM8.out y hy) hC9 (fun k' hk' h => own_apart (HNM8.out y hy) hY8 (by decide) k' hk' h))
        have hEw9 : Ext w ((w8.setCell ⟨yb, 3, none⟩ (.int .i64 (max (10 * (k : Int) + 5 - ca) 0))).setCell ⟨yb, 4, none⟩ (.int .i64 (10 * (k : Int) + 5 + cb))) := Chg.mono (hEw8.chg_trans hC9) fun j hj h => by
          have h' : j = yb := h
          omega
        clear hOe8 hOo8 hfo8 hN8 HNM8 hEw8 hY8 hC9 q3 q4 f3 f4 hy
        generalize World.setCell _ _ _ = W9 at *
        have q0 := hY9.cell 0
        have q1 := hY9.cell 1
        have q2 := hY9.cell 2
        have q3 := hY9.cell 3
        have q4 := hY9.cell 4
        have q5 := hY9.cell 5
        have q6 := hY9.cell 6
        have q7 := hY9.cell 7
        simp at q0 q1 q2 q3 q4 q5 q6 q7
        obtain ⟨oA, oc, rfl⟩ := own_slice' hOo9
        have hsz9 := hEw9.size
        go_wp2_with (at_builtin; refine wpList_append_row2 _ hOo9 22 Try.underlying22 op_info rfl rfl (by decide) (by decide) rfl (by omega) (by omega) rfl _ _ rfl rfl rfl ?_)
        intro v10 w10 hOo10 hC10 hob10
        have hE10 : Ext w w10 := Chg.own_ext hEw9 hC10 hOo9 (Nat.le_refl _)
        have hOe10 := own_far hOe9 hC10 (fun k' hk' h => own_own hOo9 hOe9 (by decide) k' h hk')
        have hfo10 := own_far hfo9 hC10 (fun k' hk' h => HAP.out k' h.symm hk'.symm)
        have hN10 := own_far hN9 hC10 (fun k' hk' h => own_own hOo9 hN9 (by decide) k' h hk')
        have HNM10 : Hid (∀ y ∈ rows ++ [(doneOp E x.1 k ca cb, A, c)], w10.ownsRow w.heap.size 9 1 (.slice y.2.1 y.1.names.length y.2.2) y.1.names.length (y.1.names.map Value.string)) := Lib.hid (fun y hy => by
          rcases List.mem_append.1 hy with hy | hy
          · have h0 := HNM9.out y hy
            exact own_far h0 hC10 (fun k' hk' h => own_own hOo9 h0 (by decide) k' h hk')
          · rw [List.mem_singleton] at hy; subst hy; exact hN10)
        have HNF10 : Hid (∀ y ∈ rows ++ [(doneOp E x.1 k ca cb, A, c)], y.1.names.length ≤ 10) := Lib.hid (fun y hy => by
          rcases List.mem_append.1 hy with hy | hy
          · exact HNF.out y hy
          · rw [List.mem_singleton] at hy; subst hy; exact hnl)
        have HAP10 : Hid (∀ k', v10.ownBlock = some k' → (Value.slice (some ⟨fb, fof, none⟩) fr.length fc).ownBlock ≠ some k') := Lib.hid (fun k' hk' h => by
          rcases hob10 with hh | hh
          · exact HAP.out k' (by rw [← hh]; exact hk') h
          · rw [hh] at hk'
            have h1 := own_lt hfo9 k' h
            injection hk' with hk'
            omega)
        have HO10 : Hid (w10.ownsRow w.heap.size 37 8 v10 (k + 1) (((rows ++ [(doneOp E x.1 k ca cb, A, c)]).map hrow).flatten)) := Lib.hid (by
          have e : ((rows ++ [(doneOp E x.1 k ca cb, A, c)]).map hrow).flatten = (rows.map hrow).flatten ++ #[.int .i64 x.1.kind, .string x.1.name, .int .u64 x.1.value, .int .i64 (max (10 * (k : Int) + 5 - ca) 0), .int .i64 (10 * (k : Int) + 5 + cb), .int .i64 (ansErr E x.1), .int .u64 (ansGot E x.1 : Nat), .slice A (ansNames E x.1).length c].toList := by
            rw [List.map_append, List.flatten_append]; rfl
          rw [e]; exact hOo10)
        have HOPS10 : Hid (opsOf (rows ++ [(doneOp E x.1 k ca cb, A, c)]) = doneL (opsOf fr) ca cb (k + 1)) := Lib.hid (by
          rw [HDN.out, ← HOPS.out]
          unfold opsOf
          rw [List.map_append]; rfl)
        clear hOo10 hC10 hob10 hOo9 hOe9 hfo9 hN9 hN10 hY9 HNM9 HAP HNM hEw9 q0 q1 q2 q3 q4 q5 q6 q7
        go_wp2_with fail
        exact ⟨⟨k + 1, rows ++ [(doneOp E x.1 k ca cb, A, c)], by omega, by go_num, by rw [HNX.out]; exact hOe10, HO10.out, by simp; omega, HOPS10, HNM10, HNF10, hfo10, HAP10, hE10⟩, by simp [intOf]; omega⟩
    · obtain rfl : k = fr.length := by omega
      go_wp2_with fail
      go_ret
      refine ⟨_, rows, rfl, by rw [hrl]; exact hOo, ?_, HNM.out, HNF.out, hE⟩
      rw [HOPS.out, ← HOPF.out, opsOf_len, HCA.out, HCB.out]
end Go.Proofs.Ytlodaffiamegpaa
