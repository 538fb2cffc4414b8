/-
  Walks through meter: Free, Fits, Used, Take, Give, Try, Made, Pick. Receivers lie anywhere: their cells are given.
-/
import Derived.Test.YteleafbfdfipdaaChecked
import Derived.Test.YteleafbfdfipdaaBase
import Derived.BigQuiet
import Derived.WalkSpells
import Derived.WalkLawsBesides
namespace Go.Proofs.Yteleafbfdfipdaa
open Go.RowKit

section meter
variable (b o : Nat) (room used : Int) (w : World) (h0 : w.cell? ⟨b, o, none⟩ = some (.int .i64 room)) (h1 : w.cell? ⟨b, o+1, none⟩ = some (.int .i64 used))
   (hf : w.frozen? ⟨b, o+1, none⟩ = false) (hu0 : 0 ≤ used) (hu1 : used ≤ room) (hr1 : room ≤ 9223372036854775807)
include h0 h1 hu0 hu1 hr1
theorem free_any : Calls Try.prog 63 #[.pointer (some ⟨b, o, none⟩)] w fun e w' => e = .returned (.int .i64 (room - used)) ∧ ∃ n, w' = w.drewN n := by
  go_enter Try.func63, Try.ntmps63
  go_wp2
  go_quiet (fail)
  go_wp2
  go_ret
  exact ⟨rfl, _, rfl⟩
theorem fits_any (n : Int) : Calls Try.prog 58 #[.pointer (some ⟨b, o, none⟩), .int .i64 n] w fun e w' => e = .returned (.bool (decide (n ≤ room - used))) ∧ ∃ n, w' = w.drewN n := by
  go_enter Try.func58, Try.ntmps58
  go_wp2_with (go_at_call 63; refine (free_any _ _ _ _ _ h0 h1 hu0 hu1 hr1).mono ?_; rintro e w' ⟨rfl, k, rfl⟩)
  go_ret
  exact ⟨rfl, _, rfl⟩
omit h0 hu0 hu1 hr1 in
theorem used_any : Calls Try.prog 8 #[.pointer (some ⟨b, o, none⟩)] w fun e w' => e = .returned (.int .i64 used) ∧ w' = w := by
  go_enter Try.func8, Try.ntmps8
  go_wp2
  go_ret
  exact ⟨rfl, rfl⟩
include hf
theorem take_ok (n : Int) (hn : 0 ≤ n) (hn1 : n ≤ room - used) : Calls Try.prog 51 #[.pointer (some ⟨b, o, none⟩), .int .i64 n] w fun e w' => e = .returned (.int .i64 0) ∧ ∃ k, w' = (w.drewN k).setCell ⟨b, o+1, none⟩ (.int .i64 (used + n)) := by
  have hd : decide (n ≤ room - used) = true := by simpa using hn1
  go_enter Try.func51, Try.ntmps51
  go_wp2_with (go_at_call 58; refine (fits_any _ _ _ _ _ h0 h1 hu0 hu1 hr1 _).mono ?_; rintro e w' ⟨rfl, k, rfl⟩)
  go_ret
  exact ⟨rfl, _, rfl⟩
omit hf in
theorem take_full (n : Int) (hn : 0 ≤ n) (hn1 : room - used < n) : Calls Try.prog 51 #[.pointer (some ⟨b, o, none⟩), .int .i64 n] w fun e w' => e = .returned (.int .i64 7) ∧ ∃ k, w' = w.drewN k := by
  have hd : decide (n ≤ room - used) = false := by simp; omega
  go_enter Try.func51, Try.ntmps51
  go_wp2_with (go_at_call 58; refine (fits_any _ _ _ _ _ h0 h1 hu0 hu1 hr1 _).mono ?_; rintro e w' ⟨rfl, k, rfl⟩)
  go_ret
  exact ⟨rfl, _, rfl⟩
omit h0 hu0 in
theorem give_ok (n : Int) (hn : 0 ≤ n) (hn1 : n ≤ used) : Calls Try.prog 52 #[.pointer (some ⟨b, o, none⟩), .int .i64 n] w fun e w' => e = .returned (.int .i64 0) ∧ w' = w.setCell ⟨b, o+1, none⟩ (.int .i64 (used - n)) := by
  have hd : decide (n < 0) = false := by simp; omega
  have hd2 : decide (used < n) = false := by simp; omega
  go_enter Try.func52, Try.ntmps52
  go_wp2
  go_ret
  exact ⟨rfl, rfl⟩
end meter

section luck
variable (b o : Nat) (w : World)
theorem try_lost (h0 : w.cell? ⟨b, o, none⟩ = some (.bool true)) : Calls Try.prog 36 #[.pointer (some ⟨b, o, none⟩)] w fun e w' => e = .returned (.int .i64 14) ∧ w' = w := by
  go_enter Try.func36, Try.ntmps36
  go_wp2
  go_ret
  exact ⟨rfl, rfl⟩
theorem try_calm (h0 : w.cell? ⟨b, o, none⟩ = some (.bool false)) (h1 : w.cell? ⟨b, o+1, none⟩ = some (.int .i64 0)) : Calls Try.prog 36 #[.pointer (some ⟨b, o, none⟩)] w fun e w' => e = .returned (.int .i64 0) ∧ w' = w := by
  go_enter Try.func36, Try.ntmps36
  go_wp2
  go_ret
  exact ⟨rfl, rfl⟩
theorem try_last (h0 : w.cell? ⟨b, o, none⟩ = some (.bool false)) (h1 : w.cell? ⟨b, o+1, none⟩ = some (.int .i64 1)) (hf : w.frozen? ⟨b, o+1, none⟩ = false) : Calls Try.prog 36 #[.pointer (some ⟨b, o, none⟩)] w fun e w' => e = .returned (.int .i64 8) ∧ w' = w.setCell ⟨b, o+1, none⟩ (.int .i64 0) := by
  go_enter Try.func36, Try.ntmps36
  go_wp2
  go_ret
  exact ⟨rfl, rfl⟩
theorem try_more (armed : Int) (ha : 2 ≤ armed) (ha1 : armed ≤ 9223372036854775807) (h0 : w.cell? ⟨b, o, none⟩ = some (.bool false)) (h1 : w.cell? ⟨b, o+1, none⟩ = some (.int .i64 armed)) (hf : w.frozen? ⟨b, o+1, none⟩ = false) : Calls Try.prog 36 #[.pointer (some ⟨b, o, none⟩)] w fun e w' => e = .returned (.int .i64 0) ∧ w' = w.setCell ⟨b, o+1, none⟩ (.int .i64 (armed - 1)) := by
  have hd : ((armed - 1 : Int) == 0) = false := by simp; omega
  have hd1 : ((armed : Int) == 1) = false := by simp; omega
  go_enter Try.func36, Try.ntmps36
  go_wp2
  go_ret
  exact ⟨rfl, rfl⟩
end luck

theorem made_any (room : Int) (w : World) : Calls Try.prog 20 #[.int .i64 room] w fun e w' => e = .returned (.agg #[.int .i64 (max room 0), .int .i64 0]) ∧ Ext w w' := by
  go_enter Try.func20, Try.ntmps20
  go_wp2
  · have e : max room 0 = 0 := by omega
    exact bodyPost_ret (v := .agg #[.int .i64 0, .int .i64 0]) (by simp [results, Try.results20, go_sem]) rfl ⟨by rw [e], (Ext.refl _).alloc _⟩
  · have e : max room 0 = room := by omega
    exact bodyPost_ret (v := .agg #[.int .i64 room, .int .i64 0]) (by simp [results, Try.results20, go_sem]) rfl ⟨by rw [e], (Ext.refl _).alloc _⟩

section pick
theorem tmod_neg (x m : Int) (hm : 1 ≤ m) (hm1 : m ≤ 9223372036854775807) (h : x.tmod m < 0) : wrap64 (x.tmod m + m) = x % m := by
  have h1 := Int.tmod_eq_emod (a := x) (b := m)
  have h2 := Int.emod_nonneg x (show m ≠ 0 by omega)
  have h3 := Int.emod_lt_of_pos x (show 0 < m by omega)
  have h4 : (m.natAbs : Int) = m := by omega
  by_cases c : 0 ≤ x ∨ m ∣ x
  · rw [if_pos c] at h1; omega
  · rw [if_neg c] at h1
    have e : x.tmod m + m = x % m := by omega
    rw [e, IntWalk.wrap64_in _ (by omega)]
theorem tmod_pos (x m : Int) (hm : 1 ≤ m) (h : 0 ≤ x.tmod m) : x.tmod m = x % m := by
  have h1 := Int.tmod_eq_emod (a := x) (b := m)
  have h3 := Int.emod_lt_of_pos x (show 0 < m by omega)
  by_cases c : 0 ≤ x ∨ m ∣ x
  · rw [if_pos c] at h1; omega
  · rw [if_neg c] at h1; omega
theorem pick_none (A : Option Addr) (n c : Nat) (at_ m : Int) (w : World) (h : m < 1 ∨ at_ < 0 ∨ (n : Int) ≤ at_) (_hn : n ≤ 9223372036854775807) :
    Calls Try.prog 54 #[.slice A n c, .int .i64 at_, .int .i64 m] w fun e w' => e = .returned (.int .i64 0) ∧ w' = w := by
  by_cases h1 : m < 1
  · go_enter Try.func54, Try.ntmps54
    go_wp2
    go_ret
    exact ⟨rfl, rfl⟩
  · by_cases h2 : at_ < 0
    · go_enter Try.func54, Try.ntmps54
      go_wp2
      go_ret
      exact ⟨rfl, rfl⟩
    · have h3 : (n : Int) ≤ at_ := by omega
      go_enter Try.func54, Try.ntmps54
      go_wp2
      go_ret
      exact ⟨rfl, rfl⟩
theorem pick_some (b off : Nat) (n c : Nat) (at_ : Nat) (x m : Int) (w : World) (hm : 1 ≤ m) (hm1 : m ≤ 9223372036854775807) (hat : at_ < n) (_hn : n ≤ 9223372036854775807)
    (_hx0 : -9223372036854775808 ≤ x) (_hx1 : x ≤ 9223372036854775807) (hc : w.cell? ⟨b, off + at_, none⟩ = some (.int .i64 x)) :
    Calls Try.prog 54 #[.slice (some ⟨b, off, none⟩) n c, .int .i64 at_, .int .i64 m] w fun e w' => e = .returned (.int .i64 (x % m)) ∧ w' = w := by
  have g1 : decide (m < 1) = false := by simp; omega
  have g3 : decide ((n : Int) ≤ at_) = false := by simp; omega
  have g4 : decide (n ≤ at_) = false := by simp; omega
  have hz : (m == 0) = false := by simp; omega
  go_enter Try.func54, Try.ntmps54
  go_wp2
  all_goals go_ret
  · exact ⟨ret_i64 (tmod_neg x m hm hm1 (by assumption)), rfl⟩
  · exact ⟨ret_i64 (tmod_pos x m hm (by assumption)), rfl⟩
end pick
end Go.Proofs.Yteleafbfdfipdaa
