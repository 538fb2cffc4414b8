/-
  PlatterGone: the walk.
-/
import Derived.Test.YtjjcknkffkpkhaaWhole
import Derived.Test.YtjjcknkffkpkhaaRemove
import Derived.Test.YtjjcknkffkpkhaaOpen
namespace Go.Proofs.Ytjjcknkffkpkhaa
open Go.RowKit Go.Sort

theorem nuse_same (u : Int) (h : 0 ≤ u) : nuse u 0 = u := by unfold nuse; rw [if_neg (by omega)]; omega
theorem nuse_all (u : Int) (h : 0 ≤ u) : nuse u (0 - u) = 0 := by unfold nuse; rw [if_neg (by omega)]; omega
theorem new_eq (R : Int) (h : 0 ≤ R) : Dk.new R = ⟨R, 0, false, 0, []⟩ := by unfold Dk.new; rw [show max R 0 = R by omega]
theorem new_crash (R : Int) (ch : List Int) : (Dk.new R).crash ch = Dk.new R := rfl
theorem new_read (R : Int) : (Dk.new R).read bA = (ByteArray.empty, 5) := by
  unfold Dk.read
  rw [if_neg (by simp [Dk.e, tryE, Dk.new]), new_get, if_neg (by simp [Fl.zero])]
theorem one_remove (R u : Int) (s : ByteArray) (h : 0 ≤ u) : (one R u ⟨true, s, true, s⟩).remove [bA] = (0, one R u ⟨false, ByteArray.empty, true, s⟩) := by
  unfold Dk.remove
  rw [if_neg (by rw [one_e]; simp), if_pos (by simp [Dk.rmOk, one_get]), one_tick]
  show (0, Dk.remove1 (one R u ⟨true, s, true, s⟩) bA) = _
  unfold Dk.remove1
  have hn : need ⟨true, s, true, s⟩ ⟨false, ByteArray.empty, true, s⟩ = 0 := by unfold need wt; simp only [ByteArray.size_empty]; omega
  rw [one_get, one_put R u ⟨true, s, true, s⟩ ⟨false, ByteArray.empty, true, s⟩ rfl (.inl (by omega)), hn, nuse_same u h]
theorem gone_sync (R : Int) (s : ByteArray) (h : 0 ≤ R) : (one R s.size ⟨false, ByteArray.empty, true, s⟩).sync [bA] = (0, Dk.new R) := by
  rw [one_sync _ _ _ _ (.inr rfl), one_drop1 _ _ _ rfl, new_eq R h]
  have hn : need ⟨false, ByteArray.empty, true, s⟩ ⟨false, ByteArray.empty, false, ByteArray.empty⟩ = 0 - s.size := by unfold need wt; simp only [ByteArray.size_empty]; omega
  rw [hn, nuse_all _ (by omega)]
theorem gone_crash (R : Int) (s : ByteArray) (h : 0 ≤ R) (ch : List Int) : (one R s.size ⟨false, ByteArray.empty, true, s⟩).crash ch = Dk.new R ∨ (one R s.size ⟨false, ByteArray.empty, true, s⟩).crash ch = one R s.size ⟨true, s, true, s⟩ := by
  rw [one_crash _ _ _ (by simp [Fl.safe])]
  have hl : Fl.left ⟨false, ByteArray.empty, true, s⟩ ch 0 = (true, s) ∨ Fl.left ⟨false, ByteArray.empty, true, s⟩ ch 0 = (false, ByteArray.empty) := by
    unfold Fl.left
    rw [if_neg (by simp)]
    split
    · exact .inl rfl
    · exact .inr rfl
  rcases hl with e | e <;> rw [e] <;> simp only
  · right
    have hn : need ⟨false, ByteArray.empty, true, s⟩ ⟨true, s, true, s⟩ = 0 := by unfold need wt; simp only [ByteArray.size_empty]; omega
    rw [one_put _ _ _ _ rfl (.inl (by omega)), hn, nuse_same _ (by omega)]
  · left
    have hn : need ⟨false, ByteArray.empty, true, s⟩ ⟨false, ByteArray.empty, false, ByteArray.empty⟩ = 0 - s.size := by unfold need wt; simp only [ByteArray.size_empty]; omega
    rw [one_drop _ _ _ _ rfl (by omega), hn, nuse_all _ (by omega), new_eq R h]

set_option maxRecDepth 100000 in
set_option maxHeartbeats 2000000 in
theorem gone_any (s1 : ByteArray) (sy : Bool) (cv : Value) (ch : List Int) (w : World) (h1 : s1.size ≤ maxLen) (hS : Sl w cv (ch.map (Value.int .i64))) (hr : ∀ x ∈ ch, I64 x) (hcl : ch.length ≤ maxLen) :
    Calls Try.prog 6 #[.string s1, .bool sy, cv] w fun e w' => e = .returned (.bool true) ∧ Ext w w' := by
  unfold maxLen at hcl
  have hcb := sl_block hS
  have g1 := cut_size s1 60
  have k1 := cut_any s1 60 w h1 (by omega)
  generalize cut s1 60 = s at g1 k1
  cases sy
  all_goals
    go_enter Try.func6, Try.ntmps6
    go_wp2_with fail
    refine k1.mono ?_
    rintro e w' ⟨rfl, rfl⟩
    clear k1
    go_wp2_with fail
    refine (new_any _ _).mono ?_
    rintro e w1 ⟨d, m, rfl, hD, hE, hd, hm⟩
    go_wp2_with fail
    refine (awake_any _).mono ?_
    rintro e w1' ⟨rfl, hE1⟩
    replace hD := hD.ext hE1
    replace hE := hE.trans hE1
    clear hE1
    go_wp2_with fail
    have c1 := write_any w1' d m (Dk.new 1000) hD (Dk.new_ok 1000 (by decide)) bA s (by unfold maxLen; omega)
    rw [new_change 1000 (fun _ => s) (by decide) (by omega)] at c1
    refine c1.mono ?_
    rintro e w2 ⟨rfl, hC2, hD2⟩
    clear c1
    go_wp2_with fail
    have c2 := sync_any _ d m _ hD2 (one_ok _ _ _ (by omega) (by omega) (by decide) (by simp only; omega) (Nat.zero_le _)) (.slice none 0 0) [] (Sl.nil _ _) (by simp) (by simp) (by simp [one]) (fun _ => ⟨_, rfl⟩)
    rw [one_sync _ _ _ _ (.inl rfl), one_sync1 _ _ _ rfl] at c2
    have hn2 : need ⟨true, s, false, ByteArray.empty⟩ ⟨true, s, true, s⟩ = 0 := by unfold need wt; simp only [ByteArray.size_empty]; omega
    rw [show need ⟨true, s, false, ByteArray.empty⟩ ⟨(⟨true, s, false, ByteArray.empty⟩ : Fl).nt, (⟨true, s, false, ByteArray.empty⟩ : Fl).nx, (⟨true, s, false, ByteArray.empty⟩ : Fl).nt, (⟨true, s, false, ByteArray.empty⟩ : Fl).nx⟩ = 0 from hn2, nuse_same _ (by omega)] at c2
    clear hn2
    refine c2.mono ?_
    rintro e w3 ⟨rfl, hC3, hD3⟩
    clear c2
    go_wp2_with fail
    have c3 := remove_any _ d m _ (hD3.alloc (.cells #[.string bA] 9)) (one_ok _ _ _ (by omega) (by omega) (by decide) (by simp only; omega) (by simp only; omega)) (.slice (some ⟨w3.heap.size, 0, none⟩) 1 1) [bA] (sl_one w3 9 _ 1) (by intro n hn; simp at hn; subst hn; unfold maxLen; decide) (by simp)
    rw [one_remove _ _ _ (by omega)] at c3
    refine c3.mono ?_
    rintro e w4 ⟨rfl, hC4, hD4⟩
    clear c3
    go_wp2_with fail
    have X : Ext _ w4 := (hE.chg_trans (((hC2.trans hC3 (fun _ _ h => h)).alloc (.cells #[.string bA] 9)).trans hC4 (fun _ _ h => h))).mono (fun k hk h => by rcases h with rfl | rfl <;> omega)
    have ok4 := one_ok 1000 s.size ⟨false, ByteArray.empty, true, s⟩ (by omega) (by omega) (by decide) (Nat.zero_le _) (by simp only; omega)
    clear hC2 hC3 hC4 hD hE hD2 hD3
  · have c4 := crash_any _ d m _ hD4 ok4 (aw_small _ _ _ (Nat.zero_le _) (by simp only; omega)) (by simp [one]) cv ch (hS.ext X) hr hcl (fun b o n c hv hne hb => by have := hcb b o n c hv hne; omega)
    refine c4.mono ?_
    rintro e w5 ⟨rfl, hC5, hD5⟩
    clear c4
    go_wp2_with fail
    rcases gone_crash 1000 s (by decide) ch with hcr | hcr
    all_goals rw [hcr] at hD5; clear hcr
    · have c5 := read_any w5 d m (Dk.new 1000) hD5 (Dk.new_ok 1000 (by decide)) bA
      rw [new_read] at c5
      refine c5.mono ?_
      rintro e w6 ⟨rfl, hC6, hD6⟩
      clear c5
      have u1 : w6.cell? ⟨d, 0 + 1, none⟩ = some (.int .i64 0) := hD6.1.cell 1
      go_wp2_with fail
      refine (used_any d 0 0 w6 u1).mono ?_
      rintro e w7 ⟨rfl, rfl⟩
      go_wp2_with fail
      go_ret
      exact ⟨rfl, (X.chg_trans (hC5.trans hC6 (fun _ _ h => .inl h))).mono (fun k hk h => by rcases h with rfl | rfl <;> omega)⟩
    · have c5 := read_any w5 d m _ hD5 (one_ok _ _ _ (by omega) (by omega) (by decide) (by simp only; omega) (by simp only; omega)) bA
      rw [one_read _ _ _ rfl] at c5
      refine c5.mono ?_
      rintro e w6 ⟨rfl, hC6, hD6⟩
      clear c5
      go_wp2_with fail
      go_ret
      exact ⟨rfl, (X.chg_trans (hC5.trans hC6 (fun _ _ h => .inl h))).mono (fun k hk h => by rcases h with rfl | rfl <;> omega)⟩
  · have c4 := sync_any _ d m _ (hD4.alloc (.cells #[.string bA] 9)) ok4 (.slice (some ⟨w4.heap.size, 0, none⟩) 1 1) [bA] (sl_one w4 9 _ 1) (by intro n hn; simp at hn; subst hn; unfold maxLen; decide) (by simp) (by simp [one]) (fun h => by cases h)
    rw [gone_sync 1000 s (by decide)] at c4
    refine c4.mono ?_
    rintro e w4' ⟨rfl, hC4', hD4'⟩
    clear c4
    replace X : Ext _ w4' := (X.chg_trans (((Chg.refl (fun k => k = d ∨ k = m) _).alloc (.cells #[.string bA] 9)).trans hC4' (fun _ _ h => h))).mono (fun k hk h => by rcases h with rfl | rfl <;> omega)
    go_wp2_with fail
    have c4 := crash_any _ d m _ hD4' (Dk.new_ok 1000 (by decide)) (fun n => ⟨Nat.zero_le _, Nat.zero_le _⟩) (by simp [Dk.new]) cv ch (hS.ext X) hr hcl (fun b o n c hv hne hb => by have := hcb b o n c hv hne; omega)
    rw [new_crash] at c4
    refine c4.mono ?_
    rintro e w5 ⟨rfl, hC5, hD5⟩
    clear c4
    go_wp2_with fail
    have c5 := read_any w5 d m (Dk.new 1000) hD5 (Dk.new_ok 1000 (by decide)) bA
    rw [new_read] at c5
    refine c5.mono ?_
    rintro e w6 ⟨rfl, hC6, hD6⟩
    clear c5
    have u1 : w6.cell? ⟨d, 0 + 1, none⟩ = some (.int .i64 0) := hD6.1.cell 1
    go_wp2_with fail
    refine (used_any d 0 0 w6 u1).mono ?_
    rintro e w7 ⟨rfl, rfl⟩
    go_wp2_with fail
    go_ret
    exact ⟨rfl, (X.chg_trans (hC5.trans hC6 (fun _ _ h => .inl h))).mono (fun k hk h => by rcases h with rfl | rfl <;> omega)⟩
end Go.Proofs.Ytjjcknkffkpkhaa
