/-
  PlatterWhole: the walk.
-/
import Derived.Test.YtjjcknkffkpkhaaTorn
namespace Go.Proofs.Ytjjcknkffkpkhaa
open Go.RowKit Go.Sort

/-- What is left of a text that was synced and written anew, behind a crash. -/
theorem whole_crash (R u : Int) (old new : ByteArray) (choice : Int) : ∃ (t : ByteArray) (u' : Int), (one R u ⟨true, new, true, old⟩).crash [choice] = one R u' ⟨true, t, true, t⟩ ∧
    (Lib.hasPrefix new.data.toList old.data.toList = true → old.size ≤ t.size ∧ t.size ≤ new.size) ∧ (Lib.hasPrefix new.data.toList old.data.toList = false → t = new ∨ t = old) := by
  have hlen : Lib.hasPrefix new.data.toList old.data.toList = true → old.size ≤ new.size := fun h => by
    have := List.IsPrefix.length_le (List.isPrefixOf_iff_prefix.1 h)
    simpa using this
  by_cases he : new = old
  · subst he
    exact ⟨new, u, one_crash_safe R u _ (by simp [Fl.safe]) _, fun _ => ⟨Nat.le_refl _, Nat.le_refl _⟩, fun _ => .inl rfl⟩
  · have hs : Fl.safe ⟨true, new, true, old⟩ = false := by simp [Fl.safe, he]
    have hl : ∃ t, Fl.left ⟨true, new, true, old⟩ [choice] 0 = (true, t) ∧ t.size ≤ max new.size old.size ∧ (Lib.hasPrefix new.data.toList old.data.toList = true → old.size ≤ t.size ∧ t.size ≤ new.size) ∧ (Lib.hasPrefix new.data.toList old.data.toList = false → t = new ∨ t = old) := by
      unfold Fl.left
      by_cases hp : Lib.hasPrefix new.data.toList old.data.toList = true
      · have hle := hlen hp
        by_cases hg : 0 < (new.size : Int) - old.size
        · rw [if_pos ⟨rfl, hg, hp⟩]
          have r := pick_range [choice] 0 ((new.size : Int) - old.size + 1) (by omega)
          simp only
          split
          · exact ⟨old, rfl, by omega, fun _ => ⟨Nat.le_refl _, hle⟩, fun h => by rw [hp] at h; cases h⟩
          · refine ⟨_, rfl, ?_, fun _ => ?_, fun h => by rw [hp] at h; cases h⟩ <;> simp only [ByteArray.size_extract] <;> omega
        · rw [if_neg (fun h => hg h.2.1)]
          simp only
          split
          · exact ⟨old, rfl, by omega, fun _ => ⟨Nat.le_refl _, hle⟩, fun h => by rw [hp] at h; cases h⟩
          · exact ⟨new, rfl, by omega, fun _ => ⟨hle, Nat.le_refl _⟩, fun h => by rw [hp] at h; cases h⟩
      · rw [if_neg (fun h => hp h.2.2)]
        simp only
        split
        · exact ⟨old, rfl, by omega, fun h => absurd h hp, fun _ => .inr rfl⟩
        · exact ⟨new, rfl, by omega, fun h => absurd h hp, fun _ => .inl rfl⟩
    obtain ⟨t, ht, hsz, h1, h2⟩ := hl
    refine ⟨t, nuse u (need ⟨true, new, true, old⟩ ⟨true, t, true, t⟩), ?_, h1, h2⟩
    rw [one_crash R u _ hs, ht, one_put _ _ _ _ rfl (.inl ?_)]
    unfold need wt
    simp only
    omega
theorem whole_prefix (old new : ByteArray) : Lib.hasPrefix new.data.toList old.data.toList = true ↔ (old.size ≤ new.size ∧ new.extract 0 old.size = old) := by
  unfold Lib.hasPrefix
  rw [List.isPrefixOf_iff_prefix, List.prefix_iff_eq_take]
  constructor
  · intro h
    have e : new.extract 0 old.size = old := by
      apply WideShapes.bytes_inj
      rw [bext]
      rw [show old.size = old.data.toList.length by simp]; exact h.symm
    refine ⟨?_, e⟩
    have := congrArg ByteArray.size e
    simp only [ByteArray.size_extract] at this; omega
  · rintro ⟨_, h⟩
    have := congrArg (fun b : ByteArray => b.data.toList) h
    simp only [bext] at this
    rw [show old.data.toList.length = old.size by simp]; exact this.symm

set_option maxRecDepth 100000 in
set_option maxHeartbeats 2000000 in
theorem whole_any (s1 s2 : ByteArray) (choice : Int) (w : World) (h1 : s1.size ≤ maxLen) (h2 : s2.size ≤ maxLen) (hc : I64 choice) :
    Calls Try.prog 4 #[.string s1, .string s2, .int .i64 choice] w fun e w' => e = .returned (.bool true) ∧ Ext w w' := by
  have g1 := cut_size s1 60
  have g2 := cut_size s2 60
  have k1 := cut_any s1 60 w h1 (by omega)
  have k2 := cut_any s2 60 w h2 (by omega)
  generalize cut s1 60 = old at g1 k1
  generalize cut s2 60 = new at g2 k2
  go_enter Try.func4, Try.ntmps4
  go_wp2_with fail
  refine k1.mono ?_
  rintro e w' ⟨rfl, rfl⟩
  go_wp2_with fail
  refine k2.mono ?_
  rintro e w' ⟨rfl, rfl⟩
  clear k1 k2
  go_wp2_with fail
  refine (new_any _ _).mono ?_
  rintro e w1 ⟨d, m, rfl, hD, hE, hd, hm⟩
  go_wp2_with fail
  refine (awake_any _).mono ?_
  rintro e w1' ⟨rfl, hE1⟩
  replace hD := hD.ext hE1
  replace hE := hE.trans hE1
  clear hE1
  go_wp2_with fail
  have c1 := write_any w1' d m (Dk.new 1000) hD (Dk.new_ok 1000 (by decide)) bA old (by unfold maxLen; omega)
  rw [new_change 1000 (fun _ => old) (by decide) (by omega)] at c1
  refine c1.mono ?_
  rintro e w2 ⟨rfl, hC2, hD2⟩
  clear c1
  go_wp2_with fail
  have c2 := sync_any _ d m _ (hD2.alloc (.cells #[.string bA] 9)) (one_ok _ _ _ (by omega) (by omega) (by decide) (by simp only; omega) (Nat.zero_le _)) (.slice (some ⟨w2.heap.size, 0, none⟩) 1 1) [bA] (sl_one w2 9 _ 1) (by intro n hn; simp at hn; subst hn; unfold maxLen; decide) (by simp) (by simp [one]) (fun h => by cases h)
  rw [one_sync _ _ _ _ (.inr rfl), one_sync1 _ _ _ rfl] at c2
  refine c2.mono ?_
  rintro e w3 ⟨rfl, hC3, hD3⟩
  clear c2
  go_wp2_with fail
  generalize hu2 : nuse _ _ = u2 at hD3
  have hu2a : 0 ≤ u2 ∧ u2 ≤ (old.size : Int) := by
    rw [← hu2]; unfold nuse need wt; simp only [ByteArray.size_empty]; split <;> omega
  clear hu2
  obtain ⟨hu2a, hu2b⟩ := hu2a
  have c3 := write_any w3 d m _ hD3 (one_ok _ _ _ hu2a (by omega) (by decide) (by simp only; omega) (by simp only; omega)) bA new (by unfold maxLen; omega)
  rw [one_change _ _ _ _ (.inr (by unfold need wt; simp only; omega))] at c3
  refine c3.mono ?_
  rintro e w4 ⟨rfl, hC4, hD4⟩
  clear c3
  go_wp2_with fail
  generalize hu3 : nuse _ _ = u3 at hD4
  have hu3a : 0 ≤ u3 ∧ u3 ≤ 1000 := by
    rw [← hu3]; unfold nuse need wt; simp only; split <;> omega
  clear hu3
  obtain ⟨hu3a, hu3b⟩ := hu3a
  have l4 := hD4.1.lt
  have l4m := hD4.2.lt
  have ok4 := one_ok 1000 u3 ⟨true, new, true, old⟩ hu3a hu3b (by decide) (by simp only; omega) (by simp only; omega)
  obtain ⟨t, u4, hcr, hp1, hp2⟩ := whole_crash 1000 u3 old new choice
  have ok5 : ((one 1000 u3 ⟨true, new, true, old⟩).crash [choice]).Ok := ok4.crashL [choice] (fun n h => by obtain ⟨p, hp, rfl⟩ := List.mem_map.1 h; exact ok4.keys p hp)
  rw [hcr] at ok5
  have c4 := crash_any _ d m _ (hD4.alloc (.cells #[.int .i64 choice] 3)) ok4 (aw_small _ _ _ (by simp only; omega) (by simp only; omega)) (by simp [one]) (.slice (some ⟨w4.heap.size, 0, none⟩) 1 1) [choice] (sl_one w4 3 _ 1)
    (by intro x hx; simp at hx; subst hx; exact hc) (by simp) (by rintro b o n c hv _; injection hv with hv; injection hv with hv; injection hv with hb _; omega)
  rw [hcr] at c4
  clear hcr
  refine c4.mono ?_
  rintro e w5 ⟨rfl, hC5, hD5⟩
  clear c4
  go_wp2_with fail
  have c5 := read_any w5 d m _ hD5 ok5 bA
  rw [one_read _ _ _ rfl] at c5
  refine c5.mono ?_
  rintro e w6 ⟨rfl, hC6, hD6⟩
  clear c5
  have X := hE.chg_trans ((((((hC2.alloc (.cells #[.string bA] 9)).trans hC3 (fun _ _ h => h)).trans hC4 (fun _ _ h => h)).alloc (.cells #[.int .i64 choice] 3)).trans hC5 (fun _ _ h => h)).trans hC6 (fun _ _ h => .inl h))
  replace X : Ext _ w6 := X.mono (fun k hk h => by rcases h with rfl | rfl <;> omega)
  clear hC2 hC3 hC4 hC5 hC6 hD hE hD2 hD3 hD4 hD5 hD6 ok4 ok5 hd hm l4 l4m hc hu2a hu2b hu3a hu3b
  simp only
  by_cases hp : old.size ≤ new.size ∧ new.extract 0 old.size = old
  · have hq := hp1 ((whole_prefix old new).2 hp)
    clear hp1 hp2
    obtain ⟨hpa, hpb⟩ := hp
    have hpc : ((new.extract 0 old.size).toList == old.toList) = true := by rw [hpb]; exact beq_self_eq_true _
    clear hpb
    obtain ⟨hq1, hq2⟩ := hq
    go_wp2_with fail
    go_ret
    exact ⟨rfl, X⟩
  · have hq := hp2 (by cases h : Lib.hasPrefix new.data.toList old.data.toList; rfl; exact absurd ((whole_prefix old new).1 h) hp)
    clear hp1 hp2
    by_cases hle : old.size ≤ new.size
    · have hpc : ((new.extract 0 old.size).toList == old.toList) = false := by
        rw [beq_eq_false_iff_ne]; exact fun h => hp ⟨hle, toList_inj.1 h⟩
      clear hp
      rcases hq with rfl | rfl
      all_goals
        go_wp2_with fail
        all_goals (go_ret; exact ⟨rfl, X⟩)
    · clear hp
      rcases hq with rfl | rfl
      all_goals
        go_wp2_with fail
        all_goals (go_ret; exact ⟨rfl, X⟩)
end Go.Proofs.Ytjjcknkffkpkhaa
