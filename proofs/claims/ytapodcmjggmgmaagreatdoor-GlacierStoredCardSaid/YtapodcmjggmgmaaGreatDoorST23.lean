/-
  Part 23 of what the law leans on.
-/
import Derived.Test.YtapodcmjggmgmaaGreatDoorST22
set_option linter.unusedVariables false
set_option linter.unusedSimpArgs false
set_option linter.unusedSectionVars false
namespace Go.Proofs.YtapodcmjggmgmaaGreatDoor
open Go.RowKit Go.Sort
theorem enc300 : ([] : List UInt8) ++ [300].flatMap uenc = [130, 44] := by decide +kernel
theorem crc19 : crc ([(⟨#[49, 50, 51, 52, 53, 54, 55, 56, 57]⟩ : ByteArray)].flatMap fun s => s.data.toList) = 3421780262 := by decide +kernel
theorem seg1 : segN 1 = ⟨#[115, 101, 103, 45, 48, 48, 48, 48, 48, 48, 49]⟩ := by decide +kernel
abbrev b19 : ByteArray := ⟨#[49, 50, 51, 52, 53, 54, 55, 56, 57]⟩
theorem sum19 (w3 : World) (hT : Tab w3) : Calls Tryz.prog 13 #[.slice (some ⟨w3.heap.size, 0, none⟩) 1 1] (w3.alloc (.cells #[.string b19] 9)) fun e w' => e = .returned (.int .u32 3421780262) ∧ w' = w3.alloc (.cells #[.string b19] 9) := by
  have h := sum_any (w3.alloc (.cells #[.string b19] 9)) (.slice (some ⟨w3.heap.size, 0, none⟩) 1 1) [b19] (sl_one w3 9 (.string b19) 1) (Nat.le_trans (Nat.le_refl _) (by decide)) (fun s hs => by rw [List.mem_singleton.1 hs]; unfold maxLen; decide) (hT.alloc _)
  have hc := crc19
  generalize crc ([b19].flatMap fun s => s.data.toList) = c at h hc
  subst hc
  exact h
theorem name1 (w : World) : Calls Tryz.prog 22 #[.int .i64 1] w fun e w' => e = .returned (.string ⟨#[115, 101, 103, 45, 48, 48, 48, 48, 48, 48, 49]⟩) ∧ Ext w w' := by
  have h := name_any w 1 (by decide) (by decide)
  have hc := seg1
  generalize segN 1 = c at h hc
  subst hc
  exact h
set_option maxRecDepth 100000 in
theorem parts401 (w : World) : Calls Tryz.prog 21 #[.int .i64 401] w fun e w' => e = .returned (.int .i64 3) ∧ Ext w w' := by
  go_enter Tryz.func21, Tryz.ntmps21
  go_wp2_with fail
  go_ret
  exact ⟨rfl, Ext.refl w⟩
set_option maxRecDepth 100000 in
set_option maxHeartbeats 2000000 in
theorem live_any (w : World) (hT : Tab w) : Calls Tryz.prog 5 #[] w fun e w' => e = .returned (.bool true) ∧ Ext w w' := by
  have hA := At.new w 67 #[.slice none 0 0]
  have hE0 := (Ext.refl w).alloc (.cells #[.slice none 0 0] 67)
  go_enter Tryz.func5, Tryz.ntmps5
  go_wp2_with fail
  have hs1 : (w.alloc (.cells #[.slice none 0 0] 67)).heap.size = w.heap.size + 1 := by simp
  generalize w.alloc (.cells #[.slice none 0 0] 67) = w1 at hA hE0 hs1 ⊢
  obtain ⟨x, hx⟩ : ∃ x, w.heap.size = x := ⟨_, rfl⟩
  have hxw : w.heap.size ≤ x := by omega
  rw [hx] at hA hs1 ⊢
  clear hx
  have hE1 := (Ext.refl w1).alloc (.cells #[.int .u64 300] 28)
  have cu := eu_any (w := w1.alloc (.cells #[.int .u64 300] 28)) (base := x) (e := x) (bs := []) ⟨Nat.le_refl _, .slice none 0 0, hA.ext hE1, World.ownsRow_nil _ _ _ _⟩ (.slice (some ⟨w1.heap.size, 0, none⟩) 1 1) [300] (SlE.new w1 x (cs := #[.int .u64 300]) (by decide)) (by simp) (by decide) (by decide)
  rw [enc300, hs1] at cu
  refine cu.mono ?_
  rintro e w2 ⟨rfl, hC2, hA2⟩
  have hE2 : Ext w w2 := ((hE0.trans hE1).chg_trans hC2).mono (fun k hk hs => by have := hs.1; omega)
  clear cu hE1 hA hE0 hC2
  have cb := bytes_any _ _ _ _ hA2
  clear hA2
  go_wp2_with fail
  refine cb.mono ?_
  rintro e w3 ⟨rfl, rfl⟩
  clear cb
  have cs1 := sum19 w3 (hT.ext hE2)
  go_wp2_with fail
  refine cs1.mono ?_
  rintro e w4 ⟨rfl, rfl⟩
  clear cs1
  go_wp2_with fail
  refine (parts401 _).mono ?_
  rintro e w5 ⟨rfl, hE5⟩
  go_wp2_with fail
  refine (name1 _).mono ?_
  rintro e w6 ⟨rfl, hE6⟩
  go_wp2_with fail
  go_ret
  exact ⟨rfl, ((hE2.alloc _).trans hE5).trans hE6⟩
end Go.Proofs.YtapodcmjggmgmaaGreatDoor
