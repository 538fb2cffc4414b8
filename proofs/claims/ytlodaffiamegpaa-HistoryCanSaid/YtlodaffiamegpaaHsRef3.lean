/-
  Layer 18: the document's functions: Without and Do, walked.
-/
import Derived.Test.YtlodaffiamegpaaHsRef2
namespace Go.Proofs.Ytlodaffiamegpaa
open Go.RowKit Go.Sort

theorem erase_next {l : List HRow} {n k : Nat} (h : k < l.length) : (l.take (k + 1)).eraseIdx n = (l.take k).eraseIdx n ++ (if k = n then [] else [rowAt l k]) := by
  have e : l.take (k + 1) = l.take k ++ [rowAt l k] := by
    rw [List.take_add_one, rowAt_get h]; rfl
  have hl : (l.take k).length = k := by rw [List.length_take]; omega
  rw [e]
  by_cases hn : n < k
  · rw [List.eraseIdx_append_of_lt_length (by omega), if_neg (by omega)]
  · rw [List.eraseIdx_append_of_length_le (by omega), List.eraseIdx_of_length_le (l := l.take k) (by omega), hl]
    by_cases hk : k = n
    · subst hk; simp
    · rw [if_neg hk, List.eraseIdx_of_length_le (by simp; omega)]
theorem erase_len (l : List HRow) (n k : Nat) : ((l.take k).eraseIdx n).length ≤ k := Nat.le_trans (List.length_eraseIdx_le _ _) (List.length_take_le _ _)

set_option maxRecDepth 100000 in
set_option maxHeartbeats 2000000 in
theorem without_any (w : World) (l : List HRow) (lv : Value) (n : Nat) (hS : Sln w lv 8 (l.map hrow)) (hl : l.length ≤ 1000) :
    Calls Try.prog 21 #[lv, .int .i64 (n : Int)] w fun e w' => ∃ v', e = .returned v' ∧ Sln w' v' 8 ((l.eraseIdx n).map hrow) ∧ Ext w w' := by
  obtain ⟨LA, lc, hov⟩ := sln_slice hS
  rw [List.length_map] at hov
  subst hov
  go_enter Try.func21, Try.ntmps21
  go_wp2_with fail
  go_loopw [5, 11] (fun ov iv wx => ∃ k : Nat, k ≤ l.length ∧ iv = .int .i64 (k : Int) ∧ wx.ownsRow w.heap.size 56 8 ov ((l.take k).eraseIdx n).length ((((l.take k).eraseIdx n).map hrow).flatten) ∧ Ext w wx) (fun _ iv _ => l.length - (intOf iv).toNat)
  case atStart => exact ⟨0, Nat.zero_le _, rfl, w.ownsRow_made #[] 0 (Nat.le_refl _) (by unfold maxLen; omega) rfl, (Ext.refl w).alloc _⟩
  case round =>
    obtain ⟨k, hk, rfl, hO, hE⟩ := hrel
    have hql := erase_len l n k
    by_cases hlt : k < l.length
    · have hS2 := hS.ext hE
      obtain ⟨b, o, rfl⟩ := sln_some hS2 (fun e => by have := List.map_eq_nil_iff.1 e; subst this; simp at hlt)
      obtain ⟨r0, r1, r2, r3, r4, r5, r6, r7⟩ := row_cells hS2 hlt
      have HNX := Lib.hid (erase_next (n := n) hlt)
      generalize (l.take k).eraseIdx n = q at *
      generalize rowAt l k = x at *
      have hO2 := hO.alloc (.cells (opCells x) 56)
      have hE2 := hE.alloc (.cells (opCells x) 56)
      have hYb := At.new wr 56 (opCells x)
      have hsz := hE2.size
      clear hO hE hS2
      go_upto_region 5 with fail
      clear r0 r1 r2 r3 r4 r5 r6 r7
      generalize hyb : wr.heap.size = yb at *
      generalize wr.alloc _ = W1 at *
      by_cases hkn : (k : Int) = (n : Int)
      · rw [if_pos (by omega), List.append_nil] at HNX
        go_wp2_with fail
        refine ⟨⟨k + 1, by omega, by go_num, ?_, hE2⟩, by simp [intOf]; omega⟩
        rw [HNX.out]; exact hO2
      · rw [if_neg (by omega)] at HNX
        obtain ⟨oA, oc, rfl⟩ := own_slice' hO2
        have q0 := hYb.cell 0
        have q1 := hYb.cell 1
        have q2 := hYb.cell 2
        have q3 := hYb.cell 3
        have q4 := hYb.cell 4
        have q5 := hYb.cell 5
        have q6 := hYb.cell 6
        have q7 := hYb.cell 7
        simp at q0 q1 q2 q3 q4 q5 q6 q7
        go_wp2_with (at_builtin; refine wpList_append_row _ hO2 29 Try.underlying29 rop_info rfl rfl (by decide) (by decide) rfl (by omega) (by omega) rfl _ _ rfl rfl rfl ?_)
        intro v1 w4 hO4 hC4
        have hE4 := Chg.own_ext hE2 hC4 hO2 (Nat.le_refl _)
        clear hC4 hO2 hYb hE2 q0 q1 q2 q3 q4 q5 q6 q7
        go_wp2_with fail
        refine ⟨⟨k + 1, by omega, by go_num, ?_, hE4⟩, by simp [intOf]; omega⟩
        rw [HNX.out]; simpa [hrow] using hO4
    · obtain rfl : k = l.length := by omega
      rw [List.take_length] at hO
      go_wp2_with fail
      go_ret
      exact ⟨_, rfl, Sln.of_own hO (by intro r hr; obtain ⟨x, _, rfl⟩ := List.mem_map.1 hr; rfl) (by simp), hE⟩
end Go.Proofs.Ytlodaffiamegpaa
