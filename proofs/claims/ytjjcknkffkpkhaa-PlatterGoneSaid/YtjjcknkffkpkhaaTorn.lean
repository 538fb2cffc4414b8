/-
  PlatterTorn: the walk.
-/
import Derived.Test.YtjjcknkffkpkhaaOne
namespace Go.Proofs.Ytjjcknkffkpkhaa
open Go.RowKit Go.Sort

theorem bext (s : ByteArray) (n : Nat) : (s.extract 0 n).data.toList = s.data.toList.take n := by simp [ByteArray.data_extract]
theorem bapp (a b : ByteArray) : (a ++ b).data.toList = a.data.toList ++ b.data.toList := by simp [ByteArray.data_append]
theorem ext_zero (s : ByteArray) : s.extract 0 s.size = s := by
  apply WideShapes.bytes_inj
  rw [bext]
  exact List.take_of_length_le (by rw [Array.length_toList]; exact Nat.le_refl _)
theorem ext_append (a b : ByteArray) : (a ++ b).extract 0 a.size = a := by
  apply WideShapes.bytes_inj
  rw [bext, bapp]
  exact List.take_left' (by rw [Array.length_toList]; rfl)
theorem pre_append (a b : ByteArray) : Lib.hasPrefix (a ++ b).data.toList a.data.toList = true := by
  unfold Lib.hasPrefix
  rw [bapp]
  simp

/-- What is left of a text that was synced and appended to, behind a crash. -/
theorem torn_crash (R u : Int) (old more : ByteArray) (choice : Int) : ∃ (k : Nat) (u' : Int), (k : Int) = (if more.size = 0 then 0 else choice % ((more.size : Int) + 1)) ∧ k ≤ more.size ∧
    (one R u ⟨true, old ++ more, true, old⟩).crash [choice] = one R u' ⟨true, (old ++ more).extract 0 (old.size + k), true, (old ++ more).extract 0 (old.size + k)⟩ := by
  by_cases h : more.size = 0
  · have e : old ++ more = old := by
      apply WideShapes.bytes_inj
      rw [bapp]
      have : more.data.toList = [] := List.eq_nil_of_length_eq_zero (by rw [Array.length_toList]; exact h)
      rw [this, List.append_nil]
    refine ⟨0, u, by rw [if_pos h]; rfl, Nat.zero_le _, ?_⟩
    rw [e, one_crash_safe R u _ (by simp [Fl.safe]), Nat.add_zero, ext_zero]
  · have hm : (1 : Int) ≤ (more.size : Int) + 1 := by omega
    have r := pick_range [choice] 0 ((more.size : Int) + 1) hm
    have rk : pick [choice] 0 ((more.size : Int) + 1) = choice % ((more.size : Int) + 1) := rfl
    obtain ⟨k, hk⟩ := Int.eq_ofNat_of_zero_le r.1
    have hsub : ((old ++ more).size : Int) - old.size + 1 = (more.size : Int) + 1 := by rw [ByteArray.size_append]; omega
    have hne : (old ++ more) ≠ old := fun e => by have := congrArg ByteArray.size e; rw [ByteArray.size_append] at this; omega
    have hs : Fl.safe ⟨true, old ++ more, true, old⟩ = false := by simp [Fl.safe, hne]
    have hleft : Fl.left ⟨true, old ++ more, true, old⟩ [choice] 0 = (true, (old ++ more).extract 0 (old.size + k)) := by
      unfold Fl.left
      rw [if_pos ⟨rfl, by simp only; rw [ByteArray.size_append]; omega, pre_append _ _⟩]
      simp only
      rw [hsub, hk, Int.toNat_natCast]
      by_cases h0 : (k : Int) = 0
      · rw [if_pos h0]
        have : k = 0 := by omega
        subst this
        rw [Nat.add_zero, ext_append]
      · rw [if_neg h0]
    refine ⟨k, nuse u (need ⟨true, old ++ more, true, old⟩ ⟨true, (old ++ more).extract 0 (old.size + k), true, (old ++ more).extract 0 (old.size + k)⟩), by rw [if_neg h, ← hk, rk], by omega, ?_⟩
    rw [one_crash R u _ hs, hleft, one_put _ _ _ _ rfl (.inl ?_)]
    unfold need wt
    simp only [ByteArray.size_extract, ByteArray.size_append]
    omega

set_option maxRecDepth 100000 in
set_option maxHeartbeats 2000000 in
theorem torn_any (s1 s2 : ByteArray) (choice : Int) (w : World) (h1 : s1.size ≤ maxLen) (h2 : s2.size ≤ maxLen) (hc : I64 choice) :
    Calls Try.prog 3 #[.string s1, .string s2, .int .i64 choice] w fun e w' => e = .returned (.bool true) ∧ Ext w w' := by
  have g1 := cut_size s1 60
  have g2 := cut_size s2 60
  have k1 := cut_any s1 60 w h1 (by omega)
  have k2 := cut_any s2 60 w h2 (by omega)
  generalize cut s1 60 = old at g1 k1
  generalize cut s2 60 = more at g2 k2
  go_enter Try.func3, Try.ntmps3
  go_wp2_with fail
  refine k1.mono ?_
  rintro e w' ⟨rfl, rfl⟩
  go_wp2_with fail
  refine k2.mono ?_
  rintro e w' ⟨rfl, rfl⟩
  clear k1 k2
  go_wp2_with fail
  refine (new_any _ _).mono ?_
  rintro e w1 ⟨d, m, rfl, hD, hE, hd, hm⟩
  go_wp2_with fail
  refine (awake_any _).mono ?_
  rintro e w1' ⟨rfl, hE1⟩
  replace hD := hD.ext hE1
  replace hE := hE.trans hE1
  clear hE1
  go_wp2_with fail
  have c1 := write_any w1' d m (Dk.new 1000) hD (Dk.new_ok 1000 (by decide)) bA old (by unfold maxLen; omega)
  rw [new_change 1000 (fun _ => old) (by decide) (by omega)] at c1
  refine c1.mono ?_
  rintro e w2 ⟨rfl, hC2, hD2⟩
  clear c1
  go_wp2_with fail
  have c2 := sync_any w2 d m _ hD2 (one_ok _ _ _ (by omega) (by omega) (by decide) (by simp only; omega) (Nat.zero_le _)) (.slice none 0 0) [] (Sl.nil _ _) (by simp) (by simp) (by simp [one]) (fun _ => ⟨_, rfl⟩)
  rw [one_sync _ _ _ _ (.inl rfl), one_sync1 _ _ _ rfl] at c2
  refine c2.mono ?_
  rintro e w3 ⟨rfl, hC3, hD3⟩
  clear c2
  go_wp2_with fail
  generalize hu2 : nuse _ _ = u2 at hD3
  have hu2a : 0 ≤ u2 ∧ u2 ≤ (old.size : Int) := by
    rw [← hu2]; unfold nuse need wt; simp only [ByteArray.size_empty]; split <;> omega
  clear hu2
  obtain ⟨hu2a, hu2b⟩ := hu2a
  have c3 := append_any w3 d m _ hD3 (one_ok _ _ _ hu2a (by omega) (by decide) (by simp only; omega) (by simp only; omega)) bA more (by rw [one_get]; simp only; omega)
  rw [one_change _ _ _ _ (.inr (by unfold need wt; simp only [ByteArray.size_append]; omega))] at c3
  refine c3.mono ?_
  rintro e w4 ⟨rfl, hC4, hD4⟩
  clear c3
  go_wp2_with fail
  generalize hu3 : nuse _ _ = u3 at hD4
  have hu3a : 0 ≤ u3 ∧ u3 ≤ 1000 := by
    rw [← hu3]; unfold nuse need wt; simp only [ByteArray.size_append]; split <;> omega
  clear hu3
  obtain ⟨hu3a, hu3b⟩ := hu3a
  have l4 := hD4.1.lt
  have l4m := hD4.2.lt
  have ok4 := one_ok 1000 u3 ⟨true, old ++ more, true, old⟩ hu3a hu3b (by decide) (by simp only [ByteArray.size_append]; omega) (by simp only; omega)
  obtain ⟨k, u4, hk, hkl, hcr⟩ := torn_crash 1000 u3 old more choice
  have ok5 : ((one 1000 u3 ⟨true, old ++ more, true, old⟩).crash [choice]).Ok := ok4.crashL [choice] (fun n h => by obtain ⟨p, hp, rfl⟩ := List.mem_map.1 h; exact ok4.keys p hp)
  rw [hcr] at ok5
  have c4 := crash_any _ d m _ (hD4.alloc (.cells #[.int .i64 choice] 3)) ok4 (aw_small _ _ _ (by simp only [ByteArray.size_append]; omega) (by simp only; omega)) (by simp [one]) (.slice (some ⟨w4.heap.size, 0, none⟩) 1 1) [choice] (sl_one w4 3 _ 1)
    (by intro x hx; simp at hx; subst hx; exact hc) (by simp) (by rintro b o n c hv _; injection hv with hv; injection hv with hv; injection hv with hb _; omega)
  rw [hcr] at c4
  clear hcr
  refine c4.mono ?_
  rintro e w5 ⟨rfl, hC5, hD5⟩
  clear c4
  go_wp2_with fail
  have c5 := read_any w5 d m _ hD5 ok5 bA
  rw [one_read _ _ _ rfl] at c5
  refine c5.mono ?_
  rintro e w6 ⟨rfl, hC6, hD6⟩
  clear c5
  have X := hE.chg_trans ((((((hC2.trans hC3 (fun _ _ h => h)).trans hC4 (fun _ _ h => h)).alloc (.cells #[.int .i64 choice] 3)).trans hC5 (fun _ _ h => h)).trans hC6 (fun _ _ h => .inl h)))
  replace X : Ext _ w6 := X.mono (fun k hk h => by rcases h with rfl | rfl <;> omega)
  clear hC2 hC3 hC4 hC5 hC6 hD hE hD2 hD3 hD4 hD5 hD6 ok4 ok5 hd hm l4 l4m
  have hts : ((old ++ more).extract 0 (old.size + k)).size = old.size + k := by simp only [ByteArray.size_extract, ByteArray.size_append]; omega
  have hall : (old ++ more).size = old.size + more.size := ByteArray.size_append
  simp only
  have hkk : 0 ≤ choice → choice ≤ more.size → (k : Int) = choice := fun a b => by
    rw [hk]; split
    · omega
    · exact Int.emod_eq_of_lt a (by omega)
  clear hk
  by_cases hcc : 0 ≤ choice ∧ choice ≤ more.size
  · have hkc := hkk hcc.1 hcc.2
    clear hkk hcc hc
    subst hkc
    go_wp2_with fail
    go_ret
    exact ⟨rfl, X⟩
  · clear hkk
    by_cases hneg : choice < 0
    · clear hcc
      go_wp2_with fail
      go_ret
      exact ⟨rfl, X⟩
    · have hpos : (more.size : Int) < choice := by omega
      clear hcc
      go_wp2_with fail
      go_ret
      exact ⟨rfl, X⟩
end Go.Proofs.Ytjjcknkffkpkhaa
