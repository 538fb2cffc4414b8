/-
  New, Cut, Used on a disk; awake.
-/
import Derived.Test.YteleafbfdfipdaaCrash
namespace Go.Proofs.Yteleafbfdfipdaa
open Go.RowKit Go.Sort

def Dk.new (room : Int) : Dk := ⟨max room 0, 0, false, 0, []⟩
theorem Dk.new_ok (room : Int) (h : room ≤ 9223372036854775807) : (Dk.new room).Ok :=
  ⟨Int.le_refl _, by simp only [Dk.new]; omega, by simp only [Dk.new]; omega, Int.le_refl _, by simp [Dk.new], by simp [Dk.new, Rises], by simp [Dk.new], fun n => by
    have e : (Dk.new room).get n = Fl.zero := rfl
    rw [e]; exact ⟨Nat.zero_le _, Nat.zero_le _⟩⟩

theorem new_any (room : Int) (w : World) : Calls Try.prog 4 #[.int .i64 room] w fun e w' =>
    ∃ d m, e = .returned (.pointer (some ⟨d, 0, none⟩)) ∧ DkAt w' d m (Dk.new room) ∧ Ext w w' ∧ w.heap.size ≤ d ∧ w.heap.size ≤ m := by
  have hmm := @run_makeMap Try.prog
  go_enter Try.func4, Try.ntmps4
  go_wp2_with fail
  refine (made_any _ _).mono ?_
  rintro e w1 ⟨rfl, hE⟩
  go_wp2_with fail
  go_ret
  refine ⟨_, _, rfl, ⟨At.new_eq (by simp) _ _, (MapAt.new strWay Fl.val w1).alloc _⟩, (hE.alloc _).alloc _, ?_, hE.size⟩
  have := hE.size
  omega

def cut (s : ByteArray) (n : Nat) : ByteArray := if n < s.size then s.extract 0 n else s
theorem cut_size (s : ByteArray) (n : Nat) : (cut s n).size ≤ n := by
  unfold cut; split
  · simp only [ByteArray.size_extract]; omega
  · omega
theorem cut_any (s : ByteArray) (n : Nat) (w : World) (_hs : s.size ≤ maxLen) (hn : n ≤ 1000000) : Calls Try.prog 25 #[.string s, .int .i64 n] w fun e w' => e = .returned (.string (cut s n)) ∧ w' = w := by
  unfold maxLen at _hs
  by_cases h : n < s.size
  · have e : cut s n = s.extract 0 n := if_pos h
    go_enter Try.func25, Try.ntmps25
    go_wp2_with fail
    go_ret
    rw [e]
    exact ⟨rfl, rfl⟩
  · have e : cut s n = s := if_neg h
    go_enter Try.func25, Try.ntmps25
    go_wp2_with fail
    go_ret
    rw [e]
    exact ⟨rfl, rfl⟩

abbrev bA : ByteArray := ⟨#[97]⟩
abbrev bXY : ByteArray := ⟨#[120, 121]⟩
abbrev bXYZ : ByteArray := ⟨#[120, 121, 122]⟩
abbrev bXYZ1 : ByteArray := ⟨#[120, 121, 122, 49]⟩
def one (R used : Int) (f : Fl) : Dk := ⟨R, used, false, 0, [(bA, f)]⟩
abbrev aw (used : Int) (f : Fl) : Dk := one 100 used f
theorem aw_get (R used : Int) (f : Fl) (n : ByteArray) : (one R used f).get n = if bA = n then f else Fl.zero := by
  unfold one Dk.get
  simp only
  rw [lget_cons]
  split <;> rfl
theorem one_ok (R used : Int) (f : Fl) (h0 : 0 ≤ used) (h1 : used ≤ R) (hR : R ≤ 9223372036854775807) (h2 : f.nx.size ≤ 1000) (h3 : f.sx.size ≤ 1000) : (one R used f).Ok :=
  ⟨h0, h1, hR, Int.le_refl _, show (0 : Int) ≤ 9223372036854775807 by decide, by simp [one, Rises], fun p hp => (by rw [show p = (bA, f) by simpa [one] using hp]; exact (by unfold maxLen; decide : 1 ≤ maxLen)), fun n => by
    rw [aw_get]; unfold maxLen
    split
    · omega
    · exact ⟨Nat.zero_le _, Nat.zero_le _⟩⟩
theorem aw_ok (used : Int) (f : Fl) (h0 : 0 ≤ used) (h1 : used ≤ 100) (h2 : f.nx.size ≤ 1000) (h3 : f.sx.size ≤ 1000) : (aw used f).Ok := one_ok 100 used f h0 h1 (by decide) h2 h3
theorem aw_small (R used : Int) (f : Fl) (h2 : f.nx.size ≤ 1000) (h3 : f.sx.size ≤ 1000) (n : ByteArray) : ((one R used f).get n).nx.size ≤ 1000000 ∧ ((one R used f).get n).sx.size ≤ 1000000 := by
  rw [aw_get]
  split
  · omega
  · exact ⟨Nat.zero_le _, Nat.zero_le _⟩
theorem aw1 : (Dk.new 100).change bA (fun x => x ++ bXY) = (0, aw 2 ⟨true, bXY, false, ByteArray.empty⟩) := by kernel_rfl
theorem aw2 : (aw 2 ⟨true, bXY, false, ByteArray.empty⟩).sync [] = (0, aw 2 ⟨true, bXY, true, bXY⟩) := by kernel_rfl
theorem aw3 : (aw 2 ⟨true, bXY, true, bXY⟩).change bA (fun x => x ++ ⟨#[122, 49]⟩) = (0, aw 4 ⟨true, bXYZ1, true, bXY⟩) := by kernel_rfl
theorem aw4 : (aw 4 ⟨true, bXYZ1, true, bXY⟩).crash [1] = aw 3 ⟨true, bXYZ, true, bXYZ⟩ := by kernel_rfl
theorem aw5 : (aw 3 ⟨true, bXYZ, true, bXYZ⟩).read bA = (bXYZ, 0) := by kernel_rfl
theorem aw5' : (aw 3 ⟨true, bXYZ, true, bXYZ⟩).tick = aw 3 ⟨true, bXYZ, true, bXYZ⟩ := by kernel_rfl
theorem aw6 : (aw 3 ⟨true, bXYZ, true, bXYZ⟩).change bA (fun _ => ⟨#[113]⟩) = (0, aw 3 ⟨true, ⟨#[113]⟩, true, bXYZ⟩) := by kernel_rfl
theorem aw7 : (aw 3 ⟨true, ⟨#[113]⟩, true, bXYZ⟩).crash [2] = aw 3 ⟨true, bXYZ, true, bXYZ⟩ := by kernel_rfl

theorem sl_one (w : World) (t : TypeId) (x : Value) (c : Nat) : Sl (w.alloc (.cells #[x] t)) (.slice (some ⟨w.heap.size, 0, none⟩) 1 c) [x] :=
  ⟨_, c, rfl, fun _ => ⟨_, _, rfl, fun i y hi => by
    have e : i = 0 := by have := (List.getElem?_eq_some_iff.1 hi).1; simp at this; omega
    subst e
    have h := (At.new w t #[x]).cell 0
    rw [Nat.add_zero, h]; exact hi⟩⟩

set_option maxRecDepth 100000 in
set_option maxHeartbeats 1000000 in
theorem awake_any (w : World) : Calls Try.prog 6 #[] w fun e w' => e = .returned (.bool true) ∧ Ext w w' := by
  go_enter Try.func6, Try.ntmps6
  go_wp2_with fail
  refine (new_any _ _).mono ?_
  rintro e w1 ⟨d, m, rfl, hD, hE, hd, hm⟩
  go_wp2_with fail
  have c1 := append_any w1 d m (Dk.new 100) hD (Dk.new_ok 100 (by decide)) bA bXY (by decide)
  rw [aw1] at c1
  refine c1.mono ?_
  rintro e w2 ⟨rfl, hC2, hD2⟩
  clear c1
  go_wp2_with fail
  have c2 := sync_any w2 d m _ hD2 (aw_ok _ _ (by decide) (by decide) (by decide) (by decide)) (.slice none 0 0) [] (Sl.nil _ _) (by simp) (by simp) (by simp [one]) (fun _ => ⟨_, rfl⟩)
  rw [aw2] at c2
  refine c2.mono ?_
  rintro e w3 ⟨rfl, hC3, hD3⟩
  clear c2
  go_wp2_with fail
  have c3 := append_any w3 d m _ hD3 (aw_ok _ _ (by decide) (by decide) (by decide) (by decide)) bA ⟨#[122, 49]⟩ (by decide)
  rw [aw3] at c3
  refine c3.mono ?_
  rintro e w4 ⟨rfl, hC4, hD4⟩
  clear c3
  go_wp2_with fail
  have l4 := hD4.1.lt
  have l4m := hD4.2.lt
  have c4 := crash_any _ d m _ (hD4.alloc (.cells #[.int .i64 1] 3)) (aw_ok _ _ (by decide) (by decide) (by decide) (by decide)) (aw_small _ _ _ (by decide) (by decide)) (by simp [one]) (.slice (some ⟨w4.heap.size, 0, none⟩) 1 1) [1] (sl_one w4 3 _ 1)
    (by intro x hx; simp at hx; subst hx; unfold I64; omega) (by simp) (by rintro b o n c hv _; injection hv with hv; injection hv with hv; injection hv with hb _; omega)
  rw [aw4] at c4
  refine c4.mono ?_
  rintro e w5 ⟨rfl, hC5, hD5⟩
  clear c4
  go_wp2_with fail
  have c5 := read_any w5 d m _ hD5 (aw_ok _ _ (by decide) (by decide) (by decide) (by decide)) bA
  rw [aw5, aw5'] at c5
  refine c5.mono ?_
  rintro e w6 ⟨rfl, hC6, hD6⟩
  clear c5
  go_wp2_with fail
  have c6 := write_any w6 d m _ hD6 (aw_ok _ _ (by decide) (by decide) (by decide) (by decide)) bA ⟨#[113]⟩ (by decide)
  rw [aw6] at c6
  refine c6.mono ?_
  rintro e w7 ⟨rfl, hC7, hD7⟩
  clear c6
  go_wp2_with fail
  have l7 := hD7.1.lt
  have l7m := hD7.2.lt
  have c7 := crash_any _ d m _ (hD7.alloc (.cells #[.int .i64 2] 3)) (aw_ok _ _ (by decide) (by decide) (by decide) (by decide)) (aw_small _ _ _ (by decide) (by decide)) (by simp [one]) (.slice (some ⟨w7.heap.size, 0, none⟩) 1 1) [2] (sl_one w7 3 _ 1)
    (by intro x hx; simp at hx; subst hx; unfold I64; omega) (by simp) (by rintro b o n c hv _; injection hv with hv; injection hv with hv; injection hv with hb _; omega)
  rw [aw7] at c7
  refine c7.mono ?_
  rintro e w8 ⟨rfl, hC8, hD8⟩
  clear c7
  go_wp2_with fail
  have c8 := read_any w8 d m _ hD8 (aw_ok _ _ (by decide) (by decide) (by decide) (by decide)) bA
  rw [aw5, aw5'] at c8
  refine c8.mono ?_
  rintro e w9 ⟨rfl, hC9, hD9⟩
  clear c8
  have u1 : w9.cell? ⟨d, 0 + 1, none⟩ = some (.int .i64 3) := hD9.1.cell 1
  go_wp2_with fail
  refine (used_any d 0 3 w9 u1).mono ?_
  rintro e w' ⟨rfl, rfl⟩
  go_wp2_with fail
  go_ret
  refine ⟨rfl, ?_⟩
  have X := hE.chg_trans (((((((hC2.trans hC3 (fun _ _ h => h)).trans hC4 (fun _ _ h => h)).alloc _).trans hC5 (fun _ _ h => h)).trans hC6 (fun _ _ h => .inl h)).trans hC7 (fun _ _ h => h)).alloc _ |>.trans hC8 (fun _ _ h => h) |>.trans hC9 (fun _ _ h => .inl h))
  exact X.mono (fun k hk h => by rcases h with rfl | rfl <;> omega)
end Go.Proofs.Yteleafbfdfipdaa
