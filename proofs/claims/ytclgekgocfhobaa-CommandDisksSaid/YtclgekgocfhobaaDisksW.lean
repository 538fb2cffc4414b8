/-
  CommandDisks: the walk.
-/
import Derived.Test.YtclgekgocfhobaaCmdAwake
import Derived.Test.YtclgekgocfhobaaOpen2
namespace Go.Proofs.Ytclgekgocfhobaa
open Go.RowKit

theorem Sl.take {w : World} {A : Option Addr} {c : Nat} {xs : List Value} (h : Sl w (.slice A xs.length c) xs) (k : Nat) (hk : k ≤ xs.length) : Sl w (.slice A k c) (xs.take k) := by
  obtain ⟨A', c', hv, hx⟩ := h
  injection hv with h1 h2 h3
  subst h1 h3
  refine ⟨A, c, by rw [List.length_take, Nat.min_eq_left hk], fun hne => ?_⟩
  have hne' : xs ≠ [] := fun e => hne (by rw [e]; simp)
  obtain ⟨b, o, rfl, hc⟩ := hx hne'
  refine ⟨b, o, rfl, fun i x hi => hc i x ?_⟩
  rw [List.getElem?_take] at hi
  split at hi
  · exact hi
  · cases hi

def hasV (ks : List Int) : Array Value := (six.map fun x => Value.bool (decide (x ∈ ks))).toArray
theorem hasV_at (ks : List Int) (n : Nat) (h : n < 6) : (hasV ks)[n]? = some (.bool (decide ((n : Int) ∈ ks))) := by
  rcases (show n = 0 ∨ n = 1 ∨ n = 2 ∨ n = 3 ∨ n = 4 ∨ n = 5 by omega) with rfl | rfl | rfl | rfl | rfl | rfl <;> rfl
theorem hasV_set (ks : List Int) (n : Nat) (h : n < 6) : (hasV ks).setIfInBounds n (.bool true) = hasV (ks ++ [(n : Int)]) := by
  rcases (show n = 0 ∨ n = 1 ∨ n = 2 ∨ n = 3 ∨ n = 4 ∨ n = 5 by omega) with rfl | rfl | rfl | rfl | rfl | rfl <;> simp [hasV, six, List.mem_append]
theorem hasV_more (ks : List Int) (x : Int) (h : x ∉ six ∨ x ∈ ks) : hasV (ks ++ [x]) = hasV ks := by
  unfold hasV
  congr 1
  refine List.map_congr_left fun y hy => ?_
  have : (y ∈ ks ++ [x]) ↔ y ∈ ks := by
    rw [List.mem_append, List.mem_singleton]
    refine ⟨fun hh => hh.elim id fun e => ?_, .inl⟩
    subst e
    rcases h with h | h
    · exact absurd hy h
    · exact h
  rw [show decide (y ∈ ks ++ [x]) = decide (y ∈ ks) from by simp only [this]]
def cntV (ks : List Int) : Nat := (six.filter fun x => decide (x ∈ ks)).length
theorem cnt_add (p : Int → Bool) (x : Int) (hp : p x = false) : ∀ L : List Int, L.Nodup → x ∈ L → (L.filter fun y => p y || decide (y = x)).length = (L.filter p).length + 1
  | [], _, hx => by cases hx
  | y :: r, hn, hx => by
    obtain ⟨h1, h2⟩ := List.nodup_cons.1 hn
    by_cases e : y = x
    · subst e
      have hr : r.filter (fun z => p z || decide (z = y)) = r.filter p := List.filter_congr fun z hz => by
        have : z ≠ y := fun e => h1 (e ▸ hz)
        simp [this]
      simp [List.filter_cons, hp, hr]
    · have ih := cnt_add p x hp r h2 (by rcases List.mem_cons.1 hx with h | h; exact absurd h.symm e; exact h)
      simp only [List.filter_cons, e, decide_false, Bool.or_false]
      split
      · simp only [List.length_cons]; rw [ih]
      · exact ih
theorem cntV_add (ks : List Int) (x : Int) (h : x ∈ six) (h2 : x ∉ ks) : cntV (ks ++ [x]) = cntV ks + 1 := by
  unfold cntV
  rw [← cnt_add (fun y => decide (y ∈ ks)) x (by simpa using h2) six (by unfold six; decide) h]
  congr 1
  refine List.filter_congr fun y _ => ?_
  simp [List.mem_append]
theorem cntV_more (ks : List Int) (x : Int) (h : x ∉ six ∨ x ∈ ks) : cntV (ks ++ [x]) = cntV ks := by
  unfold cntV
  congr 1
  refine List.filter_congr fun y hy => ?_
  have : (y ∈ ks ++ [x]) ↔ y ∈ ks := by
    rw [List.mem_append, List.mem_singleton]
    refine ⟨fun hh => hh.elim id fun e => ?_, .inl⟩
    subst e
    rcases h with h | h
    · exact absurd hy h
    · exact h
  simp only [this]
theorem cntV_le (ks : List Int) : cntV ks ≤ 6 := List.length_filter_le _ _

set_option maxRecDepth 100000 in
set_option maxHeartbeats 4000000 in
theorem disks_any (w : World) (lv : Value) (l : List Int) (hS : SlC w lv (l.map (Value.int .i64))) (hw : ∀ x ∈ l, -9223372036854775808 ≤ x ∧ x ≤ 9223372036854775807) :
    Calls Try.prog 5 #[lv] w fun e w' => e = .returned (.bool true) ∧ Ext w w' := by
  obtain ⟨hSl, A, c, rfl, hlc, hcm⟩ := hS
  rw [List.length_map] at hSl hlc ⊢
  unfold maxLen at hcm
  have hmk : ∀ w : World, (Instr.makeSlice 39 (.int .i64 6) (.int .i64 6)).run Try.prog w = .ok (.slice (some ⟨w.heap.size, 0, none⟩) 6 6) (w.alloc (.cells #[.bool false, .bool false, .bool false, .bool false, .bool false, .bool false] 4)) := fun _ => by kernel_rfl
  obtain ⟨k, hk⟩ : ∃ k, k = min l.length 20 := ⟨_, rfl⟩
  have hm : min (l.length : Int) 20 = (k : Int) := by omega
  have hkc : (k : Int) ≤ (c : Int) := by omega
  have hk20 : k ≤ 20 := by omega
  have hkl : k ≤ l.length := by omega
  have hS1 : Sl w (.slice A k c) ((l.take k).map (Value.int .i64)) := by
    have h0 := Sl.take (xs := l.map (Value.int .i64)) (by rw [List.length_map]; exact hSl) k (by simpa using hkl)
    rw [← List.map_take] at h0
    have e : ((l.take k).map (Value.int .i64)).length = k := by simp; omega
    obtain ⟨B, c', hv, hx⟩ := h0
    injection hv with h1 h2 h3
    subst h1 h3
    refine ⟨A, c, by rw [e], fun hne => ?_⟩
    obtain ⟨b, o, rfl, hc⟩ := hx hne
    exact ⟨b, o, rfl, hc⟩
  have hlen : (l.take k).length = k := by rw [List.length_take]; omega
  have hw' : ∀ x ∈ l.take k, -9223372036854775808 ≤ x ∧ x ≤ 9223372036854775807 := fun x hx => hw x (List.mem_of_mem_take hx)
  generalize l.take k = ks at hS1 hlen hw'
  clear hk hSl hw
  go_enter Try.func5, Try.ntmps5
  go_wp2_with fail
  refine (disk_any _ _ ks hS1 (by omega)).mono ?_
  rintro e w1 ⟨v, rfl, hown, hE1⟩
  have hS2 := hS1.ext hE1
  have hD := Sl.of_own hown
  obtain ⟨dA, dn, dc, rfl⟩ := own_slice hown
  clear hown
  go_wp2_with fail
  have hH := At.new w1 4 (hasV [])
  rw [show hasV [] = #[.bool false, .bool false, .bool false, .bool false, .bool false, .bool false] from rfl] at hH
  have hE2 : Ext w (w1.alloc (.cells #[.bool false, .bool false, .bool false, .bool false, .bool false, .bool false] 4)) := hE1.alloc _
  have hS3 := hS2.ext ((Ext.refl w1).alloc (.cells #[.bool false, .bool false, .bool false, .bool false, .bool false, .bool false] 4))
  have hD3 := hD.ext ((Ext.refl w1).alloc (.cells #[.bool false, .bool false, .bool false, .bool false, .bool false, .bool false] 4))
  have hbl : w.heap.size ≤ w1.heap.size := hE1.size
  have hSf : ∀ b o n c', Value.slice A k c = .slice (some ⟨b, o, none⟩) n c' → ks.map (Value.int .i64) ≠ [] → b < w1.heap.size := by
    rintro b o n c' hv hne
    have := sl_block hS2 b o n c' hv hne
    exact this
  have hDf : ∀ b o n c', Value.slice dA dn dc = .slice (some ⟨b, o, none⟩) n c' → (diskOf ks).map (Value.int .i64) ≠ [] → b < w1.heap.size := fun b o n c' hv hne => sl_block hD b o n c' hv hne
  clear hS2 hD hE1 hS1
  generalize w1.alloc (.cells #[.bool false, .bool false, .bool false, .bool false, .bool false, .bool false] 4) = W at hH hE2 hS3 hD3 ⊢
  generalize w1.heap.size = bh at hH hSf hDf hbl ⊢
  obtain rfl : dn = (diskOf ks).length := by obtain ⟨B, c', hv, _⟩ := hD3; injection hv with _ h _; rw [h]; simp
  go_loopw [5, 20] (fun nv iv wr => ∃ j : Nat, j ≤ ks.length ∧ iv = .int .i64 (j : Int) ∧ nv = .int .i64 (cntV (ks.take j) : Int) ∧ At wr bh 4 (hasV (ks.take j)) ∧ Chg (· = bh) W wr) (fun _ iv _ => ks.length - (intOf iv).toNat)
  case atStart => exact ⟨0, Nat.zero_le _, rfl, rfl, hH, Chg.refl _ _⟩
  case round =>
    clear hH
    obtain ⟨j, hj, rfl, rfl, hH, hC⟩ := hrel
    by_cases hlt : j < ks.length
    · have hSr := hS3.chg hC (fun b o n c' hv hne h => by have := hSf b o n c' hv hne; omega)
      obtain ⟨B, c', hv, hx⟩ := hSr
      injection hv with h1 h2 h3
      subst h1 h3
      obtain ⟨b, o, rfl, hcell⟩ := hx (by intro e; rw [List.map_eq_nil_iff] at e; rw [e] at hlt; simp at hlt)
      have r0 : wr.cell? ⟨b, o + j, none⟩ = some (.int .i64 ks[j]) := hcell j _ (by rw [List.getElem?_map, List.getElem?_eq_getElem hlt]; rfl)
      have htk : ks.take (j + 1) = ks.take j ++ [ks[j]] := List.take_succ_eq_append_getElem hlt
      have hjk : (j : Int) < (k : Int) := by omega
      have hxw := hw' _ (List.getElem_mem hlt)
      have hcl := cntV_le (ks.take j)
      clear hcell hx h2
      generalize ks[j] = x at r0 htk hxw
      generalize hpre : ks.take j = pre at htk hH hcl ⊢
      have HT := Lib.hid htk
      clear htk hpre
      rcases (show x < 0 ∨ (0 ≤ x ∧ 6 ≤ x) ∨ (0 ≤ x ∧ x < 6) by omega) with g | ⟨g, g2⟩ | ⟨g, g2⟩
      · have HX : x ∉ six ∨ x ∈ pre := .inl fun h => by unfold six at h; simp at h; omega
        have t1 : decide (0 ≤ x) = false := by simp; omega
        have HV := Lib.hid (hasV_more pre _ HX)
        have HC := Lib.hid (cntV_more pre _ HX)
        clear HX
        go_wp2_with fail
        go_roundw
        case rel => exact ⟨j + 1, by omega, by go_num, by rw [HT.out, HC.out], by rw [HT.out, HV.out]; exact hH, hC⟩
        case measure => simp [intOf]; omega
      · have HX : x ∉ six ∨ x ∈ pre := .inl fun h => by unfold six at h; simp at h; omega
        have t1 : decide (0 ≤ x) = true := by simp; omega
        have t2 : decide (x < 6) = false := by simp; omega
        have HV := Lib.hid (hasV_more pre _ HX)
        have HC := Lib.hid (cntV_more pre _ HX)
        clear HX
        go_wp2_with fail
        go_roundw
        case rel => exact ⟨j + 1, by omega, by go_num, by rw [HT.out, HC.out], by rw [HT.out, HV.out]; exact hH, hC⟩
        case measure => simp [intOf]; omega
      · obtain ⟨n0, rfl⟩ := Int.eq_ofNat_of_zero_le g
        have hn6 : n0 < 6 := by omega
        have hsix : (n0 : Int) ∈ six := (upB_six _).1 (by unfold upB; simp; omega)
        have rc : wr.cell? ⟨bh, n0, none⟩ = some (.bool (decide ((n0 : Int) ∈ pre))) := (hH.cell n0).trans (hasV_at pre n0 hn6)
        have rf := hH.frozen n0
        have t1 : decide ((0 : Int) ≤ (n0 : Int)) = true := by simp
        have t2 : decide ((n0 : Int) < 6) = true := by simp; omega
        clear g
        by_cases hm : (n0 : Int) ∈ pre
        · have HX : (n0 : Int) ∉ six ∨ (n0 : Int) ∈ pre := .inr hm
          rw [show decide ((n0 : Int) ∈ pre) = true from by simpa using hm] at rc
          clear hm hsix
          have HV := Lib.hid (hasV_more pre _ HX)
          have HC := Lib.hid (cntV_more pre _ HX)
          clear HX
          go_wp2_with fail
          go_roundw
          case rel => exact ⟨j + 1, by omega, by go_num, by rw [HT.out, HC.out], by rw [HT.out, HV.out]; exact hH, hC⟩
          case measure => simp [intOf]; omega
        · rw [show decide ((n0 : Int) ∈ pre) = false from by simpa using hm] at rc
          have HV := Lib.hid (hasV_set pre n0 hn6)
          have HC := Lib.hid (cntV_add pre n0 hsix hm)
          clear hm hsix
          go_wp2_with fail
          go_roundw
          case rel => exact ⟨j + 1, by omega, by go_num, by rw [HT.out, HC.out]; go_num, by rw [HT.out, ← HV.out]; exact hH.set n0 _, hC.setCell (.inl rfl) _⟩
          case measure => simp [intOf]; omega
    · have hge : k ≤ j := by omega
      rw [List.take_of_length_le (by omega)] at hH ⊢
      have hD4 := hD3.chg hC (fun b o n c' hv hne h => by have := hDf b o n c' hv hne; omega)
      have hE3 : Ext w wr := Chg.mono (hE2.chg_trans hC) fun q hq h => by have h' : q = bh := h; omega
      clear hD3 hS3 hE2 hC
      have hdl := diskOf_len ks
      have hdl0 : ((diskOf ks).length : Int) ≤ 6 := by omega
      go_wp2_with fail
      go_loop [45] (fun iv => ∃ q : Nat, q ≤ (diskOf ks).length ∧ iv = .int .i64 (q : Int)) (fun iv => (diskOf ks).length - (intOf iv).toNat)
      case atStart => exact ⟨0, Nat.zero_le _, rfl⟩
      case round =>
        obtain ⟨q, hq, rfl⟩ := hrel
        by_cases hlt2 : q < (diskOf ks).length
        · obtain ⟨B, c', hv, hx⟩ := hD4
          injection hv with h1 h2 h3
          subst h1 h3
          obtain ⟨b, o, rfl, hcell⟩ := hx (by intro e; rw [List.map_eq_nil_iff] at e; rw [e] at hlt2; simp at hlt2)
          have r0 : wr.cell? ⟨b, o + q, none⟩ = some (.int .i64 (diskOf ks)[q]) := hcell q _ (by rw [List.getElem?_map, List.getElem?_eq_getElem hlt2]; rfl)
          have hmem := (diskOf_mem ks _).1 (List.getElem_mem hlt2)
          have hpr : 0 < q → wr.cell? ⟨b, o + (q - 1), none⟩ = some (.int .i64 ((diskOf ks).getD (q - 1) 0)) ∧ (diskOf ks).getD (q - 1) 0 < (diskOf ks)[q] := fun h => by
            have hl' : q - 1 < (diskOf ks).length := by omega
            have hg : (diskOf ks).getD (q - 1) 0 = (diskOf ks)[q - 1] := by rw [List.getD_eq_getElem?_getD, List.getElem?_eq_getElem hl']; rfl
            rw [hg]
            exact ⟨hcell (q - 1) _ (by rw [List.getElem?_map, List.getElem?_eq_getElem hl']; rfl), List.pairwise_iff_getElem.1 (diskOf_rises ks) (q - 1) q hl' hlt2 (by omega)⟩
          clear hcell hx h2
          generalize (diskOf ks)[q] = x at r0 hmem hpr
          generalize (diskOf ks).getD (q - 1) 0 = y at hpr
          obtain ⟨hm1, hm2⟩ := hmem
          have hxr : 0 ≤ x ∧ x ≤ 5 := by unfold upB at hm2; simpa using hm2
          obtain ⟨n0, rfl⟩ := Int.eq_ofNat_of_zero_le hxr.1
          have hn6 : n0 < 6 := by omega
          have rc : wr.cell? ⟨bh, n0, none⟩ = some (.bool (decide ((n0 : Int) ∈ ks))) := (hH.cell n0).trans (hasV_at ks n0 hn6)
          rw [show decide ((n0 : Int) ∈ ks) = true from by simpa using hm1] at rc
          have t1 : decide ((n0 : Int) < 0) = false := by simp
          have t2 : decide ((5 : Int) < (n0 : Int)) = false := by simp; omega
          clear hm1 hm2 hxr
          by_cases hq0 : q = 0
          · have hqz : (q : Int) ≤ 0 := by omega
            have t3 : decide ((0 : Int) < (q : Int)) = false := by simp; omega
            clear hq0 hpr
            go_wp2_with fail
            go_round
            case rel => exact ⟨_, _, _, .int .i64 ((q + 1 : Nat) : Int), ⟨q + 1, by omega, rfl⟩, rfl, rfl, rfl, by go_num⟩
            case measure => first | (simp [intOf]; omega) | omega
          · obtain ⟨r1, hyx⟩ := hpr (by omega)
            have hqp : (1 : Int) ≤ (q : Int) := by omega
            have t3 : decide ((0 : Int) < (q : Int)) = true := by simp; omega
            have ek : ((q : Int) - 1).toNat = q - 1 := by omega
            have t4 : decide ((n0 : Int) ≤ y) = false := by simp; omega
            clear hq0 hpr
            go_wp2_with fail
            go_round
            case rel => exact ⟨_, _, _, .int .i64 ((q + 1 : Nat) : Int), ⟨q + 1, by omega, rfl⟩, rfl, rfl, rfl, by go_num⟩
            case measure => first | (simp [intOf]; omega) | omega
        · have hge2 : (diskOf ks).length ≤ q := by omega
          have hcnt : ((diskOf ks).length : Int) = (cntV ks : Int) := by rw [diskOf_eq]; rfl
          have tq : (((diskOf ks).length : Int) == (cntV ks : Int)) = true := by simpa using hcnt
          have tq2 : ((diskOf ks).length == cntV ks) = true := by simp; omega
          clear hcnt
          go_wp2_with fail
          refine (cawake_any _).mono ?_
          rintro e w5 ⟨rfl, hE5⟩
          go_wp2_with fail
          go_ret
          exact ⟨rfl, hE3.trans hE5⟩
end Go.Proofs.Ytclgekgocfhobaa
