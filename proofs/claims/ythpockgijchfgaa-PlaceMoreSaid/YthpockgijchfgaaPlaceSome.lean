/-
  Layer 15: awake, Spots, Some.
-/
import Derived.Test.YthpockgijchfgaaPlaceDisks
import Derived.Test.YthpockgijchfgaaOpenSpots
namespace Go.Proofs.Ythpockgijchfgaa
open Go.RowKit Go.Sort

theorem own_far {w w' : World} {base : Nat} {e : TypeId} {size : Nat} {v : Value} {n : Nat} {xs : List Value} {S : Nat → Prop} (h : w.ownsRow base e size v n xs) (hc : Chg S w w') (hS : ∀ k, some k = v.ownBlock → ¬ S k) : w'.ownsRow base e size v n xs := by
  obtain ⟨h1, h2⟩ := h
  refine ⟨h1, ?_⟩
  rcases h2 with h2 | ⟨g, cap, cur, rfl, hb, hg, h3⟩
  · exact .inl h2
  · exact .inr ⟨g, cap, cur, rfl, hb, (hc.block g (lt_of_block hg) (hS g rfl)).trans hg, h3⟩
theorem own_apart {w : World} {base : Nat} {e t : TypeId} {size : Nat} {v : Value} {n : Nat} {xs : List Value} {g : Nat} {cs : Array Value} (h : w.ownsRow base e size v n xs) (ha : At w g t cs) (hne : e ≠ t) : ∀ k, some k = v.ownBlock → k ≠ g := by
  intro k hk
  rcases h.2 with ⟨rfl, _⟩ | ⟨g', cap, cur, rfl, hb, hg, h3⟩
  · cases hk
  · cases hk
    exact At.ne (t := e) (cs := cur) hg ha hne
theorem own_empty' (w : World) (e : TypeId) (size : Nat) {g : Nat} (hg : g = w.heap.size) : (w.alloc (.cells #[] e)).ownsRow g e size (.slice (some ⟨g, 0, none⟩) 0 0) 0 [] := by
  subst hg
  refine ⟨by simp, .inr ⟨w.heap.size, 0, #[], rfl, Nat.le_refl _, At.new w e #[], Nat.le_refl _, by simp [maxLen], by simp, by simp⟩⟩

/-! ### Some -/
def has12 (r : List Int) : Array Value := #[.bool (decide ((0 : Int) ∈ r)), .bool (decide ((1 : Int) ∈ r)), .bool (decide ((2 : Int) ∈ r)), .bool (decide ((3 : Int) ∈ r)), .bool (decide ((4 : Int) ∈ r)), .bool (decide ((5 : Int) ∈ r)),
  .bool (decide ((6 : Int) ∈ r)), .bool (decide ((7 : Int) ∈ r)), .bool (decide ((8 : Int) ∈ r)), .bool (decide ((9 : Int) ∈ r)), .bool (decide ((10 : Int) ∈ r)), .bool (decide ((11 : Int) ∈ r))]
theorem has12_at (r : List Int) (n : Nat) (hn : n < 12) : (has12 r)[n]? = some (.bool (decide ((n : Int) ∈ r))) := by
  rcases (show n = 0 ∨ n = 1 ∨ n = 2 ∨ n = 3 ∨ n = 4 ∨ n = 5 ∨ n = 6 ∨ n = 7 ∨ n = 8 ∨ n = 9 ∨ n = 10 ∨ n = 11 by omega) with rfl | rfl | rfl | rfl | rfl | rfl | rfl | rfl | rfl | rfl | rfl | rfl <;> rfl
theorem has12_set (r : List Int) (n : Nat) (hn : n < 12) : (has12 r).setIfInBounds n (.bool true) = has12 (r ++ [(n : Int)]) := by
  rcases (show n = 0 ∨ n = 1 ∨ n = 2 ∨ n = 3 ∨ n = 4 ∨ n = 5 ∨ n = 6 ∨ n = 7 ∨ n = 8 ∨ n = 9 ∨ n = 10 ∨ n = 11 by omega) with rfl | rfl | rfl | rfl | rfl | rfl | rfl | rfl | rfl | rfl | rfl | rfl <;> simp [has12]
theorem nodup_le {α : Type} [DecidableEq α] : ∀ {r s : List α}, r.Nodup → (∀ x ∈ r, x ∈ s) → r.length ≤ s.length
  | [], _, _, _ => Nat.zero_le _
  | a :: r, s, hn, h => by
    obtain ⟨ha, hn'⟩ := List.nodup_cons.1 hn
    have hs := h a (List.mem_cons_self ..)
    have := nodup_le (s := s.erase a) hn' fun x hx => (List.mem_erase_of_ne (fun e => ha (by rw [← e]; exact hx))).2 (h x (List.mem_cons_of_mem _ hx))
    rw [List.length_erase_of_mem hs] at this
    have hp : 0 < s.length := List.length_pos_of_mem hs
    simp only [List.length_cons]; omega
theorem few12 {r : List Int} (hn : r.Nodup) (hr : ∀ x ∈ r, 0 ≤ x ∧ x < 12) : r.length ≤ 12 := by
  have : r.length ≤ ((List.range 12).map Int.ofNat).length := by
    refine nodup_le hn fun x hx => ?_
    have := hr x hx
    exact List.mem_map.2 ⟨x.toNat, List.mem_range.2 (by omega), by show ((x.toNat : Nat) : Int) = x; omega⟩
  simpa using this

set_option maxHeartbeats 1000000 in
theorem some_any (w : World) (v : Value) (l : List Int) (n : Nat) (hS : Sl w v (l.map (Value.int .i64))) (hl : l.length ≤ maxLen) (hn : n ≤ 12) :
    Calls Try.prog 9 #[v, .int .i64 (n : Int)] w fun e w' => ∃ (v' : Value) (r : List Int), e = .returned v' ∧ r.length ≤ 12 ∧ w'.ownsRow w.heap.size 3 1 v' r.length (r.map (Value.int .i64)) ∧ Ext w w' := by
  obtain ⟨i0, hi, hz0, hz1, hz2⟩ := info_parts int_info
  unfold maxLen at hl
  obtain ⟨A, c, rfl, hx⟩ := hS
  have hS : Sl w (.slice A (l.map (Value.int .i64)).length c) (l.map (Value.int .i64)) := ⟨A, c, rfl, hx⟩
  clear hx
  rw [List.length_map] at hS ⊢
  have hmk : ∀ w : World, (Instr.makeSlice 59 (.int .i64 12) (.int .i64 12)).run Try.prog w = .ok (.slice (some ⟨w.heap.size, 0, none⟩) 12 12) (w.alloc (.cells #[.bool false, .bool false, .bool false, .bool false, .bool false, .bool false, .bool false, .bool false, .bool false, .bool false, .bool false, .bool false] 4)) := fun _ => by kernel_rfl
  go_enter Try.func9, Try.ntmps9
  go_wp2_with fail
  have hO0 := (own_empty' w 3 1 rfl).alloc (.cells #[.bool false, .bool false, .bool false, .bool false, .bool false, .bool false, .bool false, .bool false, .bool false, .bool false, .bool false, .bool false] 4)
  have hH := At.new (w.alloc (.cells #[] 3)) 4 (has12 [])
  rw [show has12 [] = #[.bool false, .bool false, .bool false, .bool false, .bool false, .bool false, .bool false, .bool false, .bool false, .bool false, .bool false, .bool false] from rfl] at hH
  have hE0 := ((Ext.refl w).alloc (.cells #[] 3)).alloc (.cells #[.bool false, .bool false, .bool false, .bool false, .bool false, .bool false, .bool false, .bool false, .bool false, .bool false, .bool false, .bool false] 4)
  have hbh : (w.alloc (.cells #[] 3)).heap.size = w.heap.size + 1 := by simp
  rw [hbh] at hH
  clear hbh
  generalize (w.alloc (.cells #[] 3)).alloc (.cells #[.bool false, .bool false, .bool false, .bool false, .bool false, .bool false, .bool false, .bool false, .bool false, .bool false, .bool false, .bool false] 4) = W at hO0 hH hE0 ⊢
  go_loopw [5, 13] (fun ov iv wr => ∃ (k : Nat) (r : List Int), k ≤ l.length ∧ iv = .int .i64 (k : Int) ∧ r.Nodup ∧ (∀ x ∈ r, 0 ≤ x ∧ x < 12) ∧ wr.ownsRow w.heap.size 3 1 ov r.length (r.map (Value.int .i64)) ∧ At wr (w.heap.size + 1) 4 (has12 r) ∧ Ext w wr) (fun _ iv _ => l.length - (intOf iv).toNat)
  case atStart => exact ⟨0, [], Nat.zero_le _, rfl, List.nodup_nil, by simp, hO0, hH, hE0⟩
  case round =>
    clear hO0 hH hE0
    obtain ⟨k, r, hk, rfl, hnd, hr, hown, hH, hE⟩ := hrel
    have hsz := hE.size
    by_cases hlt : k < l.length
    · have hS2 := hS.ext hE
      obtain ⟨B, c', hv, hx⟩ := hS2
      injection hv with h1 h2 h3
      subst h1 h3
      obtain ⟨b, o, rfl, hcell⟩ := hx (by intro e; rw [List.map_eq_nil_iff] at e; rw [e] at hlt; simp at hlt)
      have r0 : wr.cell? ⟨b, o + k, none⟩ = some (.int .i64 l[k]) := hcell k _ (by rw [List.getElem?_map, List.getElem?_eq_getElem hlt]; rfl)
      clear hcell hx h2
      generalize l[k] = x at r0
      rcases (show x < 0 ∨ (0 ≤ x ∧ (n : Int) ≤ x) ∨ (0 ≤ x ∧ x < n) by omega) with g | ⟨g, g2⟩ | ⟨g, g2⟩
      · have t1 : decide (0 ≤ x) = false := by simp; omega
        go_wp2_with fail
        go_roundw
        case rel => exact ⟨k + 1, r, by omega, by go_num, hnd, hr, hown, hH, hE⟩
        case measure => simp [intOf]; omega
      · have t1 : decide (0 ≤ x) = true := by simp; omega
        have t2 : decide (x < (n : Int)) = false := by simp; omega
        go_wp2_with fail
        go_roundw
        case rel => exact ⟨k + 1, r, by omega, by go_num, hnd, hr, hown, hH, hE⟩
        case measure => simp [intOf]; omega
      · obtain ⟨n0, rfl⟩ := Int.eq_ofNat_of_zero_le g
        have hn6 : n0 < 12 := by omega
        have rc : wr.cell? ⟨w.heap.size + 1, n0, none⟩ = some (.bool (decide ((n0 : Int) ∈ r))) := (hH.cell n0).trans (has12_at r n0 hn6)
        have rf := hH.frozen n0
        have t1 : decide ((0 : Int) ≤ (n0 : Int)) = true := by simp
        have t2 : decide (n0 < n) = true := by simp; omega
        clear g
        by_cases hm : (n0 : Int) ∈ r
        · rw [show decide ((n0 : Int) ∈ r) = true from by simpa using hm] at rc
          clear hm
          go_wp2_with fail
          go_roundw
          case rel => exact ⟨k + 1, r, by omega, by go_num, hnd, hr, hown, hH, hE⟩
          case measure => simp [intOf]; omega
        · rw [show decide ((n0 : Int) ∈ r) = false from by simpa using hm] at rc
          have hr' : ∀ x ∈ r ++ [(n0 : Int)], 0 ≤ x ∧ x < 12 := fun x hx => by
            rcases List.mem_append.1 hx with hx | hx
            · exact hr x hx
            · simp at hx; omega
          have hnd' : (r ++ [(n0 : Int)]).Nodup := by
            rw [List.nodup_append]
            refine ⟨hnd, by simp, fun a ha b hb => ?_⟩
            simp at hb
            rintro rfl; rw [hb] at ha; exact hm ha
          have HH := Lib.hid (has12_set r n0 hn6)
          have hl12 := few12 hnd hr
          clear hm hr
          have hH2 := hH.set n0 (.bool true)
          rw [HH.out] at hH2
          have hap := own_apart hown hH (by decide)
          have hown2 := own_far hown ((Chg.refl (· = w.heap.size + 1) wr).setCell (p := ⟨w.heap.size + 1, n0, none⟩) (.inl rfl) (.bool true)) hap
          have hE2 := hE.setCell (p := ⟨w.heap.size + 1, n0, none⟩) (by simp) (.bool true)
          clear hH hown hE
          go_wp2_with (at_builtin; refine wpList_append_own _ rfl _ _ 26 rfl w.heap.size 3 i0 (.int .i64 0) 1 8 Try.underlying26 hi hz0 hz1 hz2 rfl (by decide) _ _ _ rfl (hown2.alloc _) ⟨wr.heap.size, 0, none⟩ 1 1 [.int .i64 (n0 : Int)] ?hx rfl ?c1 ?c2 ?c3 ?c4 ?c5 ?_)
          case hx => rfl
          case c1 =>
            intro j x hx
            have := cell_one (w := wr.setCell ⟨w.heap.size + 1, n0, none⟩ (.bool true)) (t := 3) j x hx
            simpa using this
          case c2 => simp [Value.oneCell']
          case c3 => unfold maxLen; omega
          case c4 => omega
          case c5 => simp; omega
          intro v1 w4 hown4 hgrow4 _
          have hge := own_ge hown2
          have hE4 : Ext w w4 := Chg.mono ((hE2.alloc (.cells #[.int .i64 (n0 : Int)] 3)).chg_trans (Chg.of_grown hgrow4)) fun j hj h => by have := hge j h; omega
          have hH4 := (hH2.alloc (.cells #[.int .i64 (n0 : Int)] 3)).chg (Chg.of_grown hgrow4) (fun h => hap _ h rfl)
          clear hgrow4 hge hH2 hap hown2 hE2
          go_wp2
          go_roundw
          case rel => exact ⟨k + 1, r ++ [(n0 : Int)], by omega, by go_num, hnd', hr', by simpa using hown4, hH4, hE4⟩
          case measure => simp [intOf]; omega
    · obtain rfl : k = l.length := by omega
      have hl12 := few12 hnd hr
      go_wp2_with fail
      go_ret
      exact ⟨_, r, rfl, hl12, hown, hE⟩

/-! ### Spots -/
theorem sln_at {w : World} {A : Option Addr} {n c k i : Nat} {l : List Spot} (h : Sln w (.slice A n c) k (l.map Spot.cells)) (hl : i < l.length) : ∃ b o, A = some ⟨b, o, none⟩ := by
  obtain ⟨A', c', hv, hx⟩ := h
  simp only [Value.slice.injEq] at hv
  obtain ⟨b, o, rfl, _⟩ := hx (fun e => by have := List.map_eq_nil_iff.1 e; subst this; simp at hl)
  exact ⟨b, o, hv.1⟩
def SlnC (w : World) (v : Value) (k : Nat) (xs : List (List Value)) : Prop := Sln w v k xs ∧ ∃ A c, v = .slice A xs.length c ∧ xs.length ≤ c ∧ c ≤ maxLen ∧ (A = none → c = 0)
theorem spot_info : (Try.prog.info? 52).map (fun i => (i.zero, i.size, i.bytes)) = some (some (.agg #[.bool false, .int .i64 0]), 2, 16) := by kernel_rfl
set_option maxHeartbeats 1000000 in
theorem spots_any (w : World) (v : Value) (l : List Spot) (hS : SlnC w v 2 (l.map Spot.cells)) :
    Calls Try.prog 6 #[v] w fun e w' => ∃ v1 v2 : Value, e = .returned (.tuple #[v1, v2]) ∧ Sln w' v1 2 ((l.take 12).map Spot.cells) ∧ Ext w w' ∧ ∃ A c, v1 = .slice A (l.take 12).length c ∧ (A = none → c = 0) := by
  obtain ⟨i0, hi, hz0, hz1, hz2⟩ := info_parts spot_info
  obtain ⟨hSl, A, c, rfl, hlc, hcm, hn0⟩ := hS
  rw [List.length_map] at hSl hlc ⊢
  unfold maxLen at hcm
  obtain ⟨k, hk⟩ : ∃ k, k = min l.length 12 := ⟨_, rfl⟩
  have hm : min (l.length : Int) 12 = (k : Int) := by omega
  have hkc : (k : Int) ≤ (c : Int) := by omega
  have hk20 : k ≤ 12 := by omega
  have hkl : k ≤ l.length := by omega
  have hS1 : Sln w (.slice A k c) 2 ((l.take k).map Spot.cells) := by
    rw [List.map_take]; exact hSl.pre hkl
  have hlen : (l.take k).length = k := by rw [List.length_take]; omega
  have he : l.take 12 = l.take k := by rw [List.take_eq_take_iff]; omega
  rw [he]
  generalize l.take k = ks at hS1 hlen
  subst hlen
  clear hk hSl he
  have HN := Lib.hid hn0
  clear hn0
  go_enter Try.func6, Try.ntmps6
  go_wp2_with fail
  have hO0 := own_empty' w 52 2 rfl
  have hE0 := (Ext.refl w).alloc (.cells #[] 52)
  generalize w.alloc (.cells #[] 52) = W at hO0 hE0 ⊢
  go_loopw [4, 15] (fun ov iv wr => ∃ (j : Nat) (xs : List Value), j ≤ ks.length ∧ iv = .int .i64 (j : Int) ∧ wr.ownsRow w.heap.size 52 2 ov j xs ∧ Ext w wr) (fun _ iv _ => ks.length - (intOf iv).toNat)
  case atStart => exact ⟨0, [], Nat.zero_le _, rfl, hO0, hE0⟩
  case round =>
    clear hO0 hE0
    obtain ⟨j, xs, hj, rfl, hown, hE⟩ := hrel
    have hsz := hE.size
    by_cases hlt : j < ks.length
    · have hS2 := hS1.ext hE
      obtain ⟨b, o, rfl⟩ := sln_at hS2 hlt
      obtain ⟨r0, r1⟩ := spot_cells hS2 hlt
      generalize spotAt ks j = s at r0 r1
      go_wp2_with (at_builtin; refine wpList_append_own _ rfl _ _ 23 rfl w.heap.size 52 i0 (.agg #[.bool false, .int .i64 0]) 2 16 Try.underlying23 hi hz0 hz1 hz2 rfl (by decide) _ _ _ rfl ((hown.alloc _).alloc _) ⟨wr.heap.size + 1, 0, none⟩ 1 1 [.bool s.up, .int .i64 s.free] ?hx rfl ?c1 ?c2 ?c3 ?c4 ?c5 ?_)
      case hx => rfl
      case c1 =>
        intro q x hx
        have hA := At.new (wr.alloc (.cells #[.bool s.up, .int .i64 s.free] 30)) 52 #[.bool s.up, .int .i64 s.free]
        have hq := hA.cell q
        rw [show (wr.alloc (.cells #[.bool s.up, .int .i64 s.free] 30)).heap.size = wr.heap.size + 1 by simp] at hq
        rw [Go.WideShapes.add_plain, Nat.zero_add, hq]
        simpa using hx
      case c2 => simp [Value.oneCell']
      case c3 => unfold maxLen; omega
      case c4 => omega
      case c5 => simp; omega
      intro v1 w4 hown4 hgrow4 _
      have hge := own_ge hown
      have hE4 : Ext w w4 := Chg.mono (((hE.alloc (.cells #[.bool s.up, .int .i64 s.free] 30)).alloc (.cells #[.bool s.up, .int .i64 s.free] 52)).chg_trans (Chg.of_grown hgrow4)) fun j hj h => by have := hge j h; omega
      clear hgrow4 hge hown hE
      go_wp2
      go_roundw
      case rel => exact ⟨j + 1, _, by omega, by go_num, hown4, hE4⟩
      case measure => simp [intOf]; omega
    · obtain rfl : j = ks.length := by omega
      go_wp2_with fail
      go_ret2
      exact ⟨_, _, rfl, hS1.ext hE, hE, _, _, rfl, HN.out⟩

/-! ### awake -/
def spots4 : List Spot := [⟨true, 10⟩, ⟨true, 30⟩, ⟨false, 90⟩, ⟨true, 30⟩]
theorem chosen_awake {r : List Int} (h : Chosen spots4 5 2 [] r) : r = [1, 3] := by
  obtain ⟨ys, h1, h2, h3, h4⟩ := h
  have ho : others spots4 5 [] spots4.length = [0, 1, 3] := by decide
  rw [ho] at h1
  have hq : ([1, 3, 0] : List Nat).Pairwise (Ahead spots4) := by
    simp [Ahead, spotAt, spots4]
  have hy : ys = [1, 3, 0] := by
    refine List.Perm.eq_of_pairwise (le := Ahead spots4) (fun a b _ _ h1 h2 => ?_) h2 hq (h1.trans (by decide))
    unfold Ahead at h1 h2; omega
  subst hy
  have h5 : r.Perm [1, 3] := by simpa using h3
  exact List.Perm.eq_of_pairwise (le := fun a b : Int => a ≤ b) (fun a b _ _ h1 h2 => by omega) h4 (by simp) h5
theorem awake_any (w : World) : Calls Try.prog 8 #[] w fun e w' => e = .returned (.bool true) ∧ Ext w w' := by
  have hB := At.new w 30 #[.bool true, .int .i64 10, .bool true, .int .i64 30, .bool false, .int .i64 90, .bool true, .int .i64 30]
  have hE := (Ext.refl w).alloc (.cells #[.bool true, .int .i64 10, .bool true, .int .i64 30, .bool false, .int .i64 90, .bool true, .int .i64 30] 30)
  have hS : Sln (w.alloc (.cells #[.bool true, .int .i64 10, .bool true, .int .i64 30, .bool false, .int .i64 90, .bool true, .int .i64 30] 30)) (.slice (some ⟨w.heap.size, 0, none⟩) 4 4) 2 (spots4.map Spot.cells) := by
    refine ⟨_, 4, rfl, fun _ => ⟨w.heap.size, 0, rfl, fun i row hi j x hj => ?_⟩⟩
    rw [Nat.zero_add, hB.cell]
    have hi4 : i < 4 := by have := (List.getElem?_eq_some_iff.1 hi).1; simpa [spots4] using this
    rcases (show i = 0 ∨ i = 1 ∨ i = 2 ∨ i = 3 by omega) with rfl | rfl | rfl | rfl <;>
    · simp only [spots4, Spot.cells, List.map_cons, List.map_nil, List.getElem?_cons_zero, List.getElem?_cons_succ, Option.some.injEq] at hi
      subst hi
      have hj2 : j < 2 := by have := (List.getElem?_eq_some_iff.1 hj).1; simpa using this
      rcases (show j = 0 ∨ j = 1 by omega) with rfl | rfl <;> simpa using hj
  go_enter Try.func8, Try.ntmps8
  go_wp2_with fail
  refine (disks_any _ _ _ spots4 [] hS (Sl.nil _ 0) (by decide) (by decide) 5 2 (by decide) (by decide)).mono ?_
  rintro e w1 ⟨v, r, rfl, hC, hown, hE1⟩
  obtain rfl := chosen_awake hC
  have hX := hE.trans hE1
  clear hC hE hS hB hE1
  obtain ⟨A, c, rfl, hA⟩ := own_slice hown
  rcases hA with ⟨_, h0, _⟩ | ⟨g, rfl, _, _, _⟩
  · simp at h0
  have c0 : w1.cell? ⟨g, 0, none⟩ = some (.int .i64 1) := hown.cellAt 0 (by decide)
  have c1 : w1.cell? ⟨g, 1, none⟩ = some (.int .i64 3) := hown.cellAt 1 (by decide)
  clear hown
  go_wp2_with fail
  go_ret
  exact ⟨rfl, hX⟩
end Go.Proofs.Ythpockgijchfgaa
