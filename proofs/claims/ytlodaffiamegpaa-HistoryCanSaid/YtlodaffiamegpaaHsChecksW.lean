/-
  Layer 18: HistoryChecks, walked.
-/
import Derived.Test.YtlodaffiamegpaaHsTold
import Derived.Test.YtlodaffiamegpaaOpenOps
namespace Go.Proofs.Ytlodaffiamegpaa
open Go.RowKit Go.Sort

/-- what few leaves -/
structure FewOut (w w' : World) (v : Value) (ops : List HOp) (rows : List HRow) (n : Nat) : Prop where
  own : w'.ownsRow w.heap.size 37 8 v rows.length ((rows.map hrow).flatten)
  ops : opsOf rows = (ops.take n).map fewOp
  rows : ∀ x ∈ rows, w'.ownsRow w.heap.size 9 1 (.slice x.2.1 x.1.names.length x.2.2) x.1.names.length (x.1.names.map Value.string)
  ext : Ext w w'
theorem rows_8 (rows : List HRow) : ∀ r ∈ rows.map hrow, r.length = 8 := by
  intro r hr; obtain ⟨x, _, rfl⟩ := List.mem_map.1 hr; rfl
theorem FewOut.fine {w w' : World} {v : Value} {ops : List HOp} {rows : List HRow} {n : Nat} (h : FewOut w w' v ops rows n) : ∀ x ∈ opsOf rows, badB x = false := by
  rw [h.ops]
  intro x hx
  obtain ⟨y, _, rfl⟩ := List.mem_map.1 hx
  exact few_fine y
theorem FewOut.len {w w' : World} {v : Value} {ops : List HOp} {rows : List HRow} {n : Nat} (h : FewOut w w' v ops rows n) : rows.length ≤ n := by
  rw [← opsOf_len, h.ops, List.length_map]
  exact List.length_take_le _ _
theorem FewOut.names {w w' : World} {v : Value} {ops : List HOp} {rows : List HRow} {n : Nat} (h : FewOut w w' v ops rows n) : ∀ x ∈ rows, x.1.names.length ≤ 9223372036854775807 := by
  intro x hx
  have : x.1 ∈ opsOf rows := List.mem_map.2 ⟨x, hx, rfl⟩
  rw [h.ops] at this
  obtain ⟨y, _, e⟩ := List.mem_map.1 this
  rw [← e]
  show (y.names.take 4).length ≤ _
  have := List.length_take_le 4 y.names
  omega
theorem FewOut.chk {w w' : World} {v : Value} {ops : List HOp} {rows : List HRow} {n : Nat} (h : FewOut w w' v ops rows n) : ChkIn w' rows v where
  ops := Sln.of_own h.own (rows_8 rows) (by simp)
  rows := fun x hx => Sl.of_own (h.rows x hx)
  xn := h.names
theorem few_c (w : World) (l : List HRow) (ov : Value) (n : Nat) (hI : FewIn w l ov) (hn : n ≤ 100) :
    Calls Try.prog 10 #[ov, .int .i64 (n : Int)] w fun e w' => ∃ v' rows, e = .returned v' ∧ FewOut w w' v' (opsOf l) rows n := by
  refine (few_any w l ov n hI hn).mono ?_
  rintro e w' ⟨v', rows, rfl, h1, h2, h3, h4⟩
  exact ⟨v', rows, rfl, h1, h2, h3, h4⟩
theorem few_slice {w w' : World} {v : Value} {ops : List HOp} {rows : List HRow} {n : Nat} (h : FewOut w w' v ops rows n) : ∃ A c, v = .slice A rows.length c := own_slice' h.own
/-- Check of calls that few gave -/
theorem check_few {w w' : World} {v : Value} {ops : List HOp} {rows : List HRow} {n : Nat} (h : FewOut w w' v ops rows n) (hn : n ≤ 20) (wx : World) (hE : Ext w' wx) :
    Calls Try.prog 11 #[v] wx fun e w2 => ∃ b, e = .returned (.tuple #[.bool b, .int .i64 0]) ∧ (b = true ↔ Lin (opsOf rows) hnone) ∧ Ext wx w2 := by
  have hc := h.chk
  refine (check_any wx rows v ⟨hc.ops.ext hE, fun x hx => (hc.rows x hx).ext hE, hc.xn⟩).mono ?_
  rintro e w2 ⟨⟨b, m, rfl, hres⟩, hE2⟩
  obtain ⟨rfl, hb⟩ := res_fine hres (by rw [opsOf_len]; have := h.len; omega) h.fine
  exact ⟨b, rfl, hb, hE2⟩

set_option maxRecDepth 100000 in
set_option maxHeartbeats 2000000 in
theorem checksw_any (w : World) (l : List HRow) (ov : Value) (hI : OpsIn w l ov) :
    Calls Try.prog 3 #[ov] w fun e w' => e = .returned (.bool true) ∧ Ext w w' := by
  go_enter Try.func3, Try.ntmps3
  go_wp2_with fail
  refine (few_c w l ov 7 hI.few (by omega)).mono ?_
  rintro e w1 ⟨v1, rows, rfl, hF⟩
  have HF := Lib.hid hF
  have hE1 := hF.ext
  obtain ⟨A1, c1, rfl⟩ := few_slice hF
  clear hF
  go_wp2_with fail
  refine (check_few HF.out (by omega) w1 (Ext.refl _)).mono ?_
  rintro e w2 ⟨b, rfl, hb, hE2⟩
  have HB := Lib.hid hb
  clear hb
  go_wp2_with fail
  refine (awake_any w2).mono ?_
  rintro e w3 ⟨rfl, hE3⟩
  have hE23 := hE2.trans hE3
  have hlen := HF.out.len
  go_wp2_with fail
  refine (told_any w3 rows _ (HF.out.chk.ops.ext hE23) (by omega)).mono ?_
  rintro e w4 ⟨v4, rfl, hS4, hE4⟩
  have hE5 := hE23.trans (hE4.alloc (.cells #[] 63))
  have HS4 := Lib.hid (hS4.ext ((Ext.refl w4).alloc (.cells #[] 63)))
  clear hS4
  go_wp2_with fail
  refine (rchk_any rows.length _ rows [] v4 _ (Nat.le_refl _) HS4.out (fun x hx => (HF.out.chk.rows x hx).ext hE5) HF.out.names ⟨some ⟨w4.heap.size, 0, none⟩, 0, rfl, fun h => absurd rfl h⟩ List.Pairwise.nil (by simp; omega)).mono ?_
  rintro e w6 ⟨rfl, hE6⟩
  have hbb : b = rchk rows.length (opsOf rows) [] := by
    rw [Bool.eq_iff_iff, HB.out, lin_rchk (by rw [opsOf_len]; exact Nat.le_refl _)]
  have HBB := Lib.hid hbb
  clear hbb
  generalize rchk rows.length (opsOf rows) [] = b2 at *
  obtain rfl : b = b2 := HBB.out
  go_wp2_with fail
  go_ret
  exact ⟨ret_bool (by simp), hE1.trans (hE5.trans hE6)⟩
end Go.Proofs.Ytlodaffiamegpaa
