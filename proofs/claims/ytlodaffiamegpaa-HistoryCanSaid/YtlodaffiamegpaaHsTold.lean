/-
  Layer 18: told, and the answers that the document fixes.
-/
import Derived.Test.YtlodaffiamegpaaHsFew
namespace Go.Proofs.Ytlodaffiamegpaa
open Go.RowKit Go.Sort

set_option maxRecDepth 100000 in
set_option maxHeartbeats 2000000 in
theorem told_any (w : World) (l : List HRow) (lv : Value) (hS : Sln w lv 8 (l.map hrow)) (hl : l.length ≤ 1000) :
    Calls Try.prog 14 #[lv] w fun e w' => ∃ v', e = .returned v' ∧ Sln w' v' 8 (l.map hrow) ∧ Ext w w' := by
  obtain ⟨LA, lc, hov⟩ := sln_slice hS
  rw [List.length_map] at hov
  subst hov
  go_enter Try.func14, Try.ntmps14
  go_wp2_with fail
  go_loopw [3, 9] (fun ov iv wx => ∃ k : Nat, k ≤ l.length ∧ iv = .int .i64 (k : Int) ∧ wx.ownsRow w.heap.size 56 8 ov k (((l.take k).map hrow).flatten) ∧ Ext w wx) (fun _ iv _ => l.length - (intOf iv).toNat)
  case atStart => exact ⟨0, Nat.zero_le _, rfl, w.ownsRow_made #[] 0 (Nat.le_refl _) (by unfold maxLen; omega) rfl, (Ext.refl w).alloc _⟩
  case round =>
    obtain ⟨k, hk, rfl, hO, hE⟩ := hrel
    by_cases hlt : k < l.length
    · have hS2 := hS.ext hE
      obtain ⟨b, o, rfl⟩ := sln_some hS2 (fun e => by have := List.map_eq_nil_iff.1 e; subst this; simp at hlt)
      obtain ⟨r0, r1, r2, r3, r4, r5, r6, r7⟩ := row_cells hS2 hlt
      have htk : l.take (k + 1) = l.take k ++ [rowAt l k] := by
        rw [List.take_add_one, rowAt_get hlt]; rfl
      have HTK := Lib.hid htk
      clear htk
      generalize l.take k = q at *
      generalize rowAt l k = x at *
      have hO2 := hO.alloc (.cells (opCells x) 37)
      have hE2 := hE.alloc (.cells (opCells x) 37)
      have hYb := At.new wr 37 (opCells x)
      have hsz := hE2.size
      clear hO hE hS2
      go_upto_region 5 with fail
      clear r0 r1 r2 r3 r4 r5 r6 r7
      generalize hyb : wr.heap.size = yb at *
      generalize wr.alloc _ = W1 at *
      obtain ⟨oA, oc, rfl⟩ := own_slice' hO2
      have q0 := hYb.cell 0
      have q1 := hYb.cell 1
      have q2 := hYb.cell 2
      have q3 := hYb.cell 3
      have q4 := hYb.cell 4
      have q5 := hYb.cell 5
      have q6 := hYb.cell 6
      have q7 := hYb.cell 7
      simp at q0 q1 q2 q3 q4 q5 q6 q7
      go_wp2_with (at_builtin; refine wpList_append_row _ hO2 29 Try.underlying29 rop_info rfl rfl (by decide) (by decide) rfl (by omega) (by omega) rfl _ _ rfl rfl rfl ?_)
      intro v1 w4 hO4 hC4
      have hE4 := Chg.own_ext hE2 hC4 hO2 (Nat.le_refl _)
      clear hC4 hO2 hYb hE2 q0 q1 q2 q3 q4 q5 q6 q7
      go_wp2_with fail
      refine ⟨⟨k + 1, by omega, by go_num, ?_, hE4⟩, by simp [intOf]; omega⟩
      rw [HTK.out]; simpa [hrow] using hO4
    · obtain rfl : k = l.length := by omega
      rw [List.take_length] at hO
      go_wp2_with fail
      go_ret
      exact ⟨_, rfl, Sln.of_own hO (by intro r hr; obtain ⟨x, _, rfl⟩ := List.mem_map.1 hr; rfl) (by simp), hE⟩

/-- what Check answers of calls that may be checked -/
theorem res_fine {l : List HOp} {b : Bool} {n : Int} (h : ChkRes l b n) (h20 : l.length ≤ 20) (hf : ∀ x ∈ l, badB x = false) : n = 0 ∧ (b = true ↔ Lin l hnone) := (h.2 h20).2 hf
theorem hlook_nil : hlook [] = hnone := by
  funext n; rfl
theorem lin_rchk {l : List HOp} {m : Nat} (h : l.length ≤ m) : Lin l hnone ↔ rchk m l [] = true := by
  have := rchk_iff m (E := []) h List.Pairwise.nil
  rw [this, hlook_nil]
theorem res_rchk {l : List HOp} {b : Bool} {n : Int} (h : ChkRes l b n) (h20 : l.length ≤ 20) (hf : l.all (fun x => !badB x) = true) : n = 0 ∧ b = rchk l.length l [] := by
  have h1 := res_fine h h20 (fun x hx => by have := List.all_eq_true.1 hf x hx; simpa using this)
  refine ⟨h1.1, ?_⟩
  rw [lin_rchk (Nat.le_refl _)] at h1
  rw [Bool.eq_iff_iff]; exact h1.2

def strA : ByteArray := ⟨#[97]⟩
def aPut : HOp := ⟨1, strA, 1, 0, 3, 0, 0, []⟩
def aGet : HOp := ⟨2, strA, 0, 1, 2, 0, 1, []⟩
def aNone : HOp := ⟨2, strA, 0, 1, 2, 5, 0, []⟩
def aLate : HOp := ⟨2, strA, 0, 4, 5, 5, 0, []⟩
theorem awake1 : rchk 2 [aPut, aGet] [] = true := by kernel_rfl
theorem awake2 : rchk 2 [aPut, aNone] [] = true := by kernel_rfl
theorem awake3 : rchk 2 [aPut, aLate] [] = false := by kernel_rfl
theorem awakef : [aPut, aGet, aNone, aLate].all (fun x => !badB x) = true := by kernel_rfl
theorem sln_lit {w : World} {b : Nat} {t : TypeId} {cs : Array Value} {size n c : Nat} {rows : List (List Value)} (h : At w b t cs) (hcs : cs.toList = rows.flatten) (hr : ∀ r ∈ rows, r.length = size) (hn : rows.length = n) : Sln w (.slice (some ⟨b, 0, none⟩) n c) size rows := by
  subst hn
  refine ⟨some ⟨b, 0, none⟩, c, rfl, fun _ => ⟨b, 0, rfl, fun i row hi j x hj => ?_⟩⟩
  have h5 := flat_get hr hi hj
  rw [← hcs] at h5
  have := h.cell (0 + i * size + j)
  rw [this, Nat.zero_add]
  simpa using h5
theorem chk_two {w : World} {b : Nat} {t : TypeId} {x y : HOp} (hx : x.names = []) (hy : y.names = []) (h : At w b t (opCells (x, none, 0) ++ opCells (y, none, 0))) : ChkIn w [(x, none, 0), (y, none, 0)] (.slice (some ⟨b, 0, none⟩) 2 2) where
  ops := sln_lit h rfl (by intro r hr; obtain ⟨z, _, rfl⟩ := List.mem_map.1 hr; rfl) rfl
  rows := by
    intro z hz
    rcases List.mem_cons.1 hz with rfl | hz
    · show Sl w (.slice none x.names.length 0) _; rw [hx]; exact Sl.nil _ _
    · rw [List.mem_singleton] at hz; subst hz
      show Sl w (.slice none y.names.length 0) _; rw [hy]; exact Sl.nil _ _
  xn := by
    intro z hz
    rcases List.mem_cons.1 hz with rfl | hz
    · show x.names.length ≤ _; rw [hx]; simp
    · rw [List.mem_singleton] at hz; subst hz
      show y.names.length ≤ _; rw [hy]; simp
theorem check_two (w : World) (b : Nat) (t : TypeId) {x y : HOp} {r : Bool} (hx : x.names = []) (hy : y.names = []) (h : At w b t (opCells (x, none, 0) ++ opCells (y, none, 0))) (hf : [x, y].all (fun x => !badB x) = true) (hr : rchk 2 [x, y] [] = r) :
    Calls Try.prog 11 #[.slice (some ⟨b, 0, none⟩) 2 2] w fun e w' => e = .returned (.tuple #[.bool r, .int .i64 0]) ∧ Ext w w' := by
  refine (check_any w _ _ (chk_two hx hy h)).mono ?_
  rintro e w' ⟨⟨b', n, rfl, hres⟩, hE⟩
  obtain ⟨rfl, rfl⟩ := res_rchk hres (by simp [opsOf]) hf
  exact ⟨by rw [← hr]; rfl, hE⟩

set_option maxRecDepth 100000 in
set_option maxHeartbeats 2000000 in
theorem awake_any (w : World) : Calls Try.prog 12 #[] w fun e w' => e = .returned (.bool true) ∧ Ext w w' := by
  go_enter Try.func12, Try.ntmps12
  go_upto_region 5 with fail
  have hP : At ((((w.alloc (.cells #[.int .i64 1, .string ⟨#[97]⟩, .int .u64 1, .int .i64 0, .int .i64 3, .int .i64 0, .int .u64 0, .slice none 0 0] 37)).alloc (.cells #[.int .i64 2, .string ⟨#[97]⟩, .int .u64 0, .int .i64 1, .int .i64 2, .int .i64 0, .int .u64 1, .slice none 0 0] 37)).alloc (.cells #[.int .i64 2, .string ⟨#[97]⟩, .int .u64 0, .int .i64 1, .int .i64 2, .int .i64 5, .int .u64 0, .slice none 0 0] 37)).alloc (.cells #[.int .i64 2, .string ⟨#[97]⟩, .int .u64 0, .int .i64 4, .int .i64 5, .int .i64 5, .int .u64 0, .slice none 0 0] 37)) w.heap.size 37 #[.int .i64 1, .string ⟨#[97]⟩, .int .u64 1, .int .i64 0, .int .i64 3, .int .i64 0, .int .u64 0, .slice none 0 0] := (((At.new w _ _).alloc _).alloc _).alloc _
  have hG := ((At.new (w.alloc (.cells #[.int .i64 1, .string ⟨#[97]⟩, .int .u64 1, .int .i64 0, .int .i64 3, .int .i64 0, .int .u64 0, .slice none 0 0] 37)) 37 #[.int .i64 2, .string ⟨#[97]⟩, .int .u64 0, .int .i64 1, .int .i64 2, .int .i64 0, .int .u64 1, .slice none 0 0]).alloc (.cells #[.int .i64 2, .string ⟨#[97]⟩, .int .u64 0, .int .i64 1, .int .i64 2, .int .i64 5, .int .u64 0, .slice none 0 0] 37)).alloc (.cells #[.int .i64 2, .string ⟨#[97]⟩, .int .u64 0, .int .i64 4, .int .i64 5, .int .i64 5, .int .u64 0, .slice none 0 0] 37)
  have hN := (At.new ((w.alloc (.cells #[.int .i64 1, .string ⟨#[97]⟩, .int .u64 1, .int .i64 0, .int .i64 3, .int .i64 0, .int .u64 0, .slice none 0 0] 37)).alloc (.cells #[.int .i64 2, .string ⟨#[97]⟩, .int .u64 0, .int .i64 1, .int .i64 2, .int .i64 0, .int .u64 1, .slice none 0 0] 37)) 37 #[.int .i64 2, .string ⟨#[97]⟩, .int .u64 0, .int .i64 1, .int .i64 2, .int .i64 5, .int .u64 0, .slice none 0 0]).alloc (.cells #[.int .i64 2, .string ⟨#[97]⟩, .int .u64 0, .int .i64 4, .int .i64 5, .int .i64 5, .int .u64 0, .slice none 0 0] 37)
  have hL := At.new (((w.alloc (.cells #[.int .i64 1, .string ⟨#[97]⟩, .int .u64 1, .int .i64 0, .int .i64 3, .int .i64 0, .int .u64 0, .slice none 0 0] 37)).alloc (.cells #[.int .i64 2, .string ⟨#[97]⟩, .int .u64 0, .int .i64 1, .int .i64 2, .int .i64 0, .int .u64 1, .slice none 0 0] 37)).alloc (.cells #[.int .i64 2, .string ⟨#[97]⟩, .int .u64 0, .int .i64 1, .int .i64 2, .int .i64 5, .int .u64 0, .slice none 0 0] 37)) 37 #[.int .i64 2, .string ⟨#[97]⟩, .int .u64 0, .int .i64 4, .int .i64 5, .int .i64 5, .int .u64 0, .slice none 0 0]
  have hE := ((((Ext.refl w).alloc (.cells #[.int .i64 1, .string ⟨#[97]⟩, .int .u64 1, .int .i64 0, .int .i64 3, .int .i64 0, .int .u64 0, .slice none 0 0] 37)).alloc (.cells #[.int .i64 2, .string ⟨#[97]⟩, .int .u64 0, .int .i64 1, .int .i64 2, .int .i64 0, .int .u64 1, .slice none 0 0] 37)).alloc (.cells #[.int .i64 2, .string ⟨#[97]⟩, .int .u64 0, .int .i64 1, .int .i64 2, .int .i64 5, .int .u64 0, .slice none 0 0] 37)).alloc (.cells #[.int .i64 2, .string ⟨#[97]⟩, .int .u64 0, .int .i64 4, .int .i64 5, .int .i64 5, .int .u64 0, .slice none 0 0] 37)
  simp only [World.size_alloc] at hG hN hL
  generalize World.alloc _ _ = W0 at hP hG hN hL hE ⊢
  generalize w.heap.size = bp at hP hG hN hL ⊢
  have p0 := hP.cell 0
  have p1 := hP.cell 1
  have p2 := hP.cell 2
  have p3 := hP.cell 3
  have p4 := hP.cell 4
  have p5 := hP.cell 5
  have p6 := hP.cell 6
  have p7 := hP.cell 7
  simp at p0 p1 p2 p3 p4 p5 p6 p7
  have q0 := hG.cell 0
  have q1 := hG.cell 1
  have q2 := hG.cell 2
  have q3 := hG.cell 3
  have q4 := hG.cell 4
  have q5 := hG.cell 5
  have q6 := hG.cell 6
  have q7 := hG.cell 7
  simp at q0 q1 q2 q3 q4 q5 q6 q7
  have hB := At.new W0 37 #[.int .i64 1, .string ⟨#[97]⟩, .int .u64 1, .int .i64 0, .int .i64 3, .int .i64 0, .int .u64 0, .slice none 0 0, .int .i64 2, .string ⟨#[97]⟩, .int .u64 0, .int .i64 1, .int .i64 2, .int .i64 0, .int .u64 1, .slice none 0 0]
  have hEb := (Ext.refl W0).alloc (.cells #[.int .i64 1, .string ⟨#[97]⟩, .int .u64 1, .int .i64 0, .int .i64 3, .int .i64 0, .int .u64 0, .slice none 0 0, .int .i64 2, .string ⟨#[97]⟩, .int .u64 0, .int .i64 1, .int .i64 2, .int .i64 0, .int .u64 1, .slice none 0 0] 37)
  go_wp2_with fail
  refine (check_two _ _ 37 (x := aPut) (y := aGet) rfl rfl hB rfl awake1).mono ?_
  rintro e w1 ⟨rfl, hE1⟩
  replace hE := hE.trans (hEb.trans hE1)
  replace hP := hP.ext (hEb.trans hE1)
  replace hG := hG.ext (hEb.trans hE1)
  replace hN := hN.ext (hEb.trans hE1)
  replace hL := hL.ext (hEb.trans hE1)
  clear p0 p1 p2 p3 p4 p5 p6 p7
  clear q0 q1 q2 q3 q4 q5 q6 q7
  clear hB hEb hE1
  have p0 := hP.cell 0
  have p1 := hP.cell 1
  have p2 := hP.cell 2
  have p3 := hP.cell 3
  have p4 := hP.cell 4
  have p5 := hP.cell 5
  have p6 := hP.cell 6
  have p7 := hP.cell 7
  simp at p0 p1 p2 p3 p4 p5 p6 p7
  have q0 := hN.cell 0
  have q1 := hN.cell 1
  have q2 := hN.cell 2
  have q3 := hN.cell 3
  have q4 := hN.cell 4
  have q5 := hN.cell 5
  have q6 := hN.cell 6
  have q7 := hN.cell 7
  simp at q0 q1 q2 q3 q4 q5 q6 q7
  have hB := At.new w1 37 #[.int .i64 1, .string ⟨#[97]⟩, .int .u64 1, .int .i64 0, .int .i64 3, .int .i64 0, .int .u64 0, .slice none 0 0, .int .i64 2, .string ⟨#[97]⟩, .int .u64 0, .int .i64 1, .int .i64 2, .int .i64 5, .int .u64 0, .slice none 0 0]
  have hEb := (Ext.refl w1).alloc (.cells #[.int .i64 1, .string ⟨#[97]⟩, .int .u64 1, .int .i64 0, .int .i64 3, .int .i64 0, .int .u64 0, .slice none 0 0, .int .i64 2, .string ⟨#[97]⟩, .int .u64 0, .int .i64 1, .int .i64 2, .int .i64 5, .int .u64 0, .slice none 0 0] 37)
  go_wp2_with fail
  refine (check_two _ _ 37 (x := aPut) (y := aNone) rfl rfl hB rfl awake2).mono ?_
  rintro e w2 ⟨rfl, hE1⟩
  replace hE := hE.trans (hEb.trans hE1)
  replace hP := hP.ext (hEb.trans hE1)
  replace hG := hG.ext (hEb.trans hE1)
  replace hN := hN.ext (hEb.trans hE1)
  replace hL := hL.ext (hEb.trans hE1)
  clear p0 p1 p2 p3 p4 p5 p6 p7
  clear q0 q1 q2 q3 q4 q5 q6 q7
  clear hB hEb hE1
  have p0 := hP.cell 0
  have p1 := hP.cell 1
  have p2 := hP.cell 2
  have p3 := hP.cell 3
  have p4 := hP.cell 4
  have p5 := hP.cell 5
  have p6 := hP.cell 6
  have p7 := hP.cell 7
  simp at p0 p1 p2 p3 p4 p5 p6 p7
  have q0 := hL.cell 0
  have q1 := hL.cell 1
  have q2 := hL.cell 2
  have q3 := hL.cell 3
  have q4 := hL.cell 4
  have q5 := hL.cell 5
  have q6 := hL.cell 6
  have q7 := hL.cell 7
  simp at q0 q1 q2 q3 q4 q5 q6 q7
  have hB := At.new w2 37 #[.int .i64 1, .string ⟨#[97]⟩, .int .u64 1, .int .i64 0, .int .i64 3, .int .i64 0, .int .u64 0, .slice none 0 0, .int .i64 2, .string ⟨#[97]⟩, .int .u64 0, .int .i64 4, .int .i64 5, .int .i64 5, .int .u64 0, .slice none 0 0]
  have hEb := (Ext.refl w2).alloc (.cells #[.int .i64 1, .string ⟨#[97]⟩, .int .u64 1, .int .i64 0, .int .i64 3, .int .i64 0, .int .u64 0, .slice none 0 0, .int .i64 2, .string ⟨#[97]⟩, .int .u64 0, .int .i64 4, .int .i64 5, .int .i64 5, .int .u64 0, .slice none 0 0] 37)
  go_wp2_with fail
  refine (check_two _ _ 37 (x := aPut) (y := aLate) rfl rfl hB rfl awake3).mono ?_
  rintro e w3 ⟨rfl, hE1⟩
  replace hE := hE.trans (hEb.trans hE1)
  replace hP := hP.ext (hEb.trans hE1)
  replace hG := hG.ext (hEb.trans hE1)
  replace hN := hN.ext (hEb.trans hE1)
  replace hL := hL.ext (hEb.trans hE1)
  clear p0 p1 p2 p3 p4 p5 p6 p7
  clear q0 q1 q2 q3 q4 q5 q6 q7
  clear hB hEb hE1
  go_wp2_with fail
  go_ret
  exact ⟨rfl, hE⟩
end Go.Proofs.Ytlodaffiamegpaa
