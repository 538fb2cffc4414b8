/-
  Part 17 of what the law leans on.
-/
import Derived.Test.YtapodcmjggmgmaaGreatDoorST12
import Derived.Test.YtapodcmjggmgmaaGreatDoorST13
set_option linter.unusedVariables false
set_option linter.unusedSimpArgs false
set_option linter.unusedSectionVars false
namespace Go.Proofs.YtapodcmjggmgmaaGreatDoor
open Go.RowKit Go.Sort
structure FixA where
  b : Nat
  nb : Nat
  no : Nat
  nc : Nat
  l : Nat
  vb : Nat
  vo : Nat
  vc : Nat
  db : Nat
  do_ : Nat
  dc : Nat
  v0 : Nat
  v1 : Nat
  ib : Nat
  io : Nat
  ic : Nat
def FixA.blk (A : FixA) (k : Nat) : Prop := k = A.b ∨ k = A.nb ∨ k = A.l ∨ k = A.vb ∨ k = A.db ∨ k = A.v0 ∨ k = A.v1 ∨ k = A.ib
end Go.Proofs.YtapodcmjggmgmaaGreatDoor
namespace Go.Proofs.YtapodcmjggmgmaaGreatDoor
open Go.RowKit Go.Sort
set_option maxRecDepth 100000 in
theorem mhas_any (w : World) (v : Value) (l : List Int) (hS : Sl w v (l.map (Value.int .i64))) (n : Int) (hl : l.length ≤ 1000) :
    Calls Tryz.prog 32 #[v, .int .i64 n] w fun e w' => e = .returned (.bool (decide (n ∈ l))) ∧ Ext w w' := by
  obtain ⟨LA, lc, rfl, hx⟩ := hS
  rw [List.length_map]
  go_enter Tryz.func32, Tryz.ntmps32
  go_wp2_with fail
  go_loopw [9] (fun iv wr => ∃ k : Nat, k ≤ l.length ∧ iv = .int .i64 (k : Int) ∧ (∀ (j : Nat) (x : Int), j < k → l[j]? = some x → x ≠ n) ∧ Ext w wr) (fun iv _ => l.length - (intOf iv).toNat)
  case atStart => exact ⟨0, by omega, rfl, fun j x hj => absurd hj (by omega), Ext.refl w⟩
  case round =>
    obtain ⟨k, hk, rfl, hno, hE⟩ := hrel
    by_cases hlt : k < l.length
    · obtain ⟨b, o, rfl, hc⟩ := hx (fun e => by have := List.map_eq_nil_iff.1 e; subst this; simp at hlt)
      have hck := hc k (.int .i64 l[k]) (by rw [List.getElem?_map, List.getElem?_eq_getElem hlt]; rfl)
      have hck := (Ext.cell (p := ⟨b, o + k, none⟩) hE (cell_lt hck)).trans hck
      have hlk : l[k]? = some l[k] := List.getElem?_eq_getElem hlt
      obtain ⟨y, hy⟩ : ∃ y, l[k] = y := ⟨_, rfl⟩
      rw [hy] at hck hlk
      clear hc hx hy
      by_cases hyn : y = n
      · subst hyn
        go_wp2_with fail
        go_ret
        refine ⟨?_, hE⟩
        rw [decide_eq_true (List.mem_of_getElem? hlk)]
        rfl
      · have hbn : (y == n) = false := by simpa using hyn
        go_wp2_with fail
        go_roundw
        case rel =>
          refine ⟨k + 1, by omega, by go_num, fun j x hj hjx => ?_, hE⟩
          rcases (show j < k ∨ j = k by omega) with h | rfl
          · exact hno j x h hjx
          · rw [hlk] at hjx; obtain rfl := Option.some.inj hjx; exact hyn
        case measure => simp [intOf]; omega
    · obtain rfl : k = l.length := by omega
      go_wp2_with fail
      go_ret
      refine ⟨?_, hE⟩
      rw [decide_eq_false (fun hm => by
        obtain ⟨j, hj, e⟩ := List.mem_iff_getElem.1 hm
        exact hno j n hj (by rw [List.getElem?_eq_getElem hj, e]) rfl)]
      rfl
theorem label_any (w : World) (i : Nat) (hi : i < 100) : Calls Tryz.prog 28 #[.int .i64 (i : Int), .int .i64 0] w fun e w' => ∃ s, e = .returned (.string s) ∧ Ext w w' := by
  have ci := fun w => Tryz.strconv_Itoa_small i hi w
  have c0 := fun w => Tryz.strconv_Itoa_small 0 (by decide) w
  obtain ⟨_, hd⟩ := digits_len i hi
  obtain ⟨_, hz⟩ := digits_len 0 (by decide)
  go_enter Tryz.func28, Tryz.ntmps28
  go_wp2_with fail
  refine (ci _).mono ?_
  rintro e w1 ⟨rfl, rfl⟩
  clear ci
  obtain ⟨C, hC⟩ : ∃ C : ByteArray, (⟨(Lib.decDigits i).toArray⟩ : ByteArray) = C := ⟨_, rfl⟩
  have hcs : C.size ≤ 2 := by rw [← hC]; exact hd
  rw [hC]
  clear hC hd
  go_wp2_with fail
  refine (c0 _).mono ?_
  rintro e w1 ⟨rfl, rfl⟩
  clear c0
  obtain ⟨D, hD⟩ : ∃ D : ByteArray, (⟨(Lib.decDigits 0).toArray⟩ : ByteArray) = D := ⟨_, rfl⟩
  have hds : D.size ≤ 2 := by rw [← hD]; exact hz
  rw [hD]
  clear hD hz
  go_wp2_with fail
  go_ret
  exact ⟨_, rfl, Ext.refl w1⟩
end Go.Proofs.YtapodcmjggmgmaaGreatDoor
