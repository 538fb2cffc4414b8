/-
  Layer 15: the walk of PlaceMore.
-/
import Derived.Test.YthpockgijchfgaaFitsW
import Derived.Test.YthpockgijchfgaaOpen2
import Derived.Deep.Cut
import Derived.Deep.CutRange
namespace Go.Proofs.Ythpockgijchfgaa
open Go.RowKit Go.Sort

theorem place_info : (Try.prog.info? 30).map (fun i => (i.zero, i.size, i.bytes)) = some (some (.agg #[.bool false, .int .i64 0]), 2, 16) := by kernel_rfl
theorem spots_flat_len (l : List Spot) : ((l.map Spot.cells).flatten).length = l.length * 2 := by
  induction l with
  | nil => rfl
  | cons x r ih => simp only [List.map_cons, List.flatten_cons, List.length_append, ih, Spot.cells, List.length_cons, List.length_nil]; omega
theorem spots_flat_cell {w : World} {b o n c : Nat} {l : List Spot} (h : Sln w (.slice (some ⟨b, o, none⟩) n c) 2 (l.map Spot.cells)) : ∀ j u, ((l.map Spot.cells).flatten)[j]? = some u → w.cell? (Addr.add ⟨b, o, none⟩ j) = some u := by
  intro j u hj
  have hjl : j < l.length * 2 := by
    have := (List.getElem?_eq_some_iff.1 hj).1
    rw [spots_flat_len] at this; exact this
  have hi : j / 2 < l.length := by omega
  obtain ⟨q0, q1⟩ := spot_cells h hi
  rw [Go.WideShapes.add_plain]
  have hg : (l.map Spot.cells)[j / 2]? = some (spotAt l (j / 2)).cells := by
    rw [List.getElem?_map, List.getElem?_eq_getElem hi]
    unfold spotAt
    rw [List.getD_eq_getElem?_getD, List.getElem?_eq_getElem hi]; rfl
  have hall : ∀ r ∈ l.map Spot.cells, r.length = 2 := fun r hr => by obtain ⟨s, _, rfl⟩ := List.mem_map.1 hr; rfl
  rcases Nat.mod_two_eq_zero_or_one j with h2 | h2
  · have := flat_get hall hg (j := 0) (x := .bool (spotAt l (j / 2)).up) rfl
    rw [show j / 2 * 2 + 0 = j by omega, hj] at this
    rw [show o + j = o + j / 2 * 2 by omega, q0, ← this]
  · have := flat_get hall hg (j := 1) (x := .int .i64 (spotAt l (j / 2)).free) rfl
    rw [show j / 2 * 2 + 1 = j by omega, hj] at this
    rw [show o + j = o + j / 2 * 2 + 1 by omega, q1, ← this]
theorem spots_flat_one (l : List Spot) : ∀ u ∈ (l.map Spot.cells).flatten, u.oneCell' = true := by
  intro u hu
  obtain ⟨r, hr, hu⟩ := List.mem_flatten.1 hu
  obtain ⟨s, _, rfl⟩ := List.mem_map.1 hr
  simp only [Spot.cells, List.mem_cons, List.not_mem_nil, or_false] at hu
  rcases hu with rfl | rfl <;> rfl
theorem sln_own {w : World} {base : Nat} {e : TypeId} {v : Value} {n : Nat} {l : List Spot} (h : w.ownsRow base e 2 v n ((l.map Spot.cells).flatten)) (hn : l.length = n) : Sln w v 2 (l.map Spot.cells) :=
  Sln.of_own h (fun r hr => by obtain ⟨s, _, rfl⟩ := List.mem_map.1 hr; rfl) (by simpa using hn)

theorem mem_take_next {a : List Int} {j : Nat} (h : Int) (hj : j < a.length) : decide (h ∈ a.take (j + 1)) = (decide (h ∈ a.take j) || a[j] == h) := by
  rw [List.take_succ_eq_append_getElem hj, Bool.eq_iff_iff]
  simp only [List.mem_append, List.mem_singleton, decide_eq_true_eq, Bool.or_eq_true, beq_iff_eq]
  exact ⟨fun hh => hh.elim .inl (fun e => .inr e.symm), fun hh => hh.elim .inl (fun e => .inr e.symm)⟩
theorem own_at {w : World} {base : Nat} {e : TypeId} {size : Nat} {v : Value} {n : Nat} {xs : List Value} (h : w.ownsRow base e size v n xs) (hn : 0 < n) : ∃ g c cur, v = .slice (some ⟨g, 0, none⟩) n c ∧ base ≤ g ∧ At w g e cur := by
  rcases h.2 with ⟨rfl, h0⟩ | ⟨g, cap, cur, rfl, hb, hg, _⟩
  · omega
  · exact ⟨g, cap, cur, rfl, hb, hg⟩
theorem sln_set {w : World} {g n c : Nat} {l : List Spot} {i : Nat} (u : Bool) (f : Int) (h : Sln w (.slice (some ⟨g, 0, none⟩) n c) 2 (l.map Spot.cells)) (hi : i < l.length) :
    Sln ((w.setCell ⟨g, i * 2, none⟩ (.bool u)).setCell ⟨g, i * 2 + 1, none⟩ (.int .i64 f)) (.slice (some ⟨g, 0, none⟩) n c) 2 ((l.set i ⟨u, f⟩).map Spot.cells) := by
  obtain ⟨q0, q1⟩ := spot_cells h hi
  rw [Nat.zero_add] at q0 q1
  have hn : n = l.length := by obtain ⟨A, c', hv, _⟩ := h; simp only [Value.slice.injEq, List.length_map] at hv; exact hv.2.1
  refine ⟨some ⟨g, 0, none⟩, c, by simp [hn], fun _ => ⟨g, 0, rfl, fun j row hj q x hq => ?_⟩⟩
  rw [List.getElem?_map, List.getElem?_set] at hj
  rw [Nat.zero_add]
  by_cases hji : i = j
  · subst hji
    rw [if_pos rfl, if_pos hi] at hj
    simp only [Option.map_some, Option.some.injEq] at hj
    subst hj
    have hq2 : q < 2 := (List.getElem?_eq_some_iff.1 hq).1
    rcases (show q = 0 ∨ q = 1 by omega) with rfl | rfl
    · simp only [Spot.cells, List.getElem?_cons_zero, Option.some.injEq] at hq
      subst hq
      have e1 : ((w.setCell ⟨g, i * 2, none⟩ (.bool u)).setCell ⟨g, i * 2 + 1, none⟩ (.int .i64 f)).cell? ⟨g, i * 2, none⟩ = (w.setCell ⟨g, i * 2, none⟩ (.bool u)).cell? ⟨g, i * 2, none⟩ := World.cell?_setCell_other _ _ _ _ (by simp)
      exact e1.trans (World.cell?_setCell_same _ _ _ q0)
    · simp only [Spot.cells, List.getElem?_cons_succ, List.getElem?_cons_zero, Option.some.injEq] at hq
      subst hq
      have e1 : (w.setCell ⟨g, i * 2, none⟩ (.bool u)).cell? ⟨g, i * 2 + 1, none⟩ = w.cell? ⟨g, i * 2 + 1, none⟩ := World.cell?_setCell_other _ _ _ _ (by simp)
      exact World.cell?_setCell_same _ _ _ (e1.trans q1)
  · rw [if_neg hji] at hj
    rw [World.cell?_setCell_other, World.cell?_setCell_other]
    · obtain ⟨A, c', hv, hx⟩ := h
      obtain ⟨b, o, rfl, hc⟩ := hx (fun e => by have := List.map_eq_nil_iff.1 e; subst this; simp at hi)
      simp only [Value.slice.injEq, Option.some.injEq, Addr.mk.injEq, and_true] at hv
      obtain ⟨⟨rfl, rfl⟩, -, -⟩ := hv
      have := hc j row (by rw [List.getElem?_map]; exact hj) q x hq
      rwa [Nat.zero_add] at this
    · have hq2 : q < 2 := by
        cases hg : l[j]? with
        | none => rw [hg] at hj; cases hj
        | some s =>
          rw [hg] at hj
          simp only [Option.map_some, Option.some.injEq] at hj
          subst hj
          exact (List.getElem?_eq_some_iff.1 hq).1
      intro e; injection e with _ e _; omega
    · have hq2 : q < 2 := by
        cases hg : l[j]? with
        | none => rw [hg] at hj; cases hj
        | some s =>
          rw [hg] at hj
          simp only [Option.map_some, Option.some.injEq] at hj
          subst hj
          exact (List.getElem?_eq_some_iff.1 hq).1
      intro e; injection e with _ e _; omega
set_option maxRecDepth 100000 in
set_option maxHeartbeats 4000000 in
theorem morew_any (w : World) (v hv : Value) (l : List Spot) (hl : List Int) (hS : SlnC w v 2 (l.map Spot.cells)) (hH : Sl w hv (hl.map (Value.int .i64))) (hhl : hl.length ≤ maxLen) (size copies which more : Int) (hmore : -9223372036854775808 ≤ more ∧ more ≤ 9223372036854775807) :
    Calls Try.prog 4 #[v, hv, .int .i64 size, .int .i64 copies, .int .i64 which, .int .i64 more] w fun e w' => e = .returned (.bool true) ∧ Ext w w' := by
  obtain ⟨i0, hi, hz0, hz1, hz2⟩ := info_parts place_info
  have hlen : (l.take 12).length ≤ 12 := by rw [List.length_take]; omega
  obtain ⟨cp, hcp, hcp20⟩ : ∃ c : Nat, min (max copies 0) 20 = (c : Int) ∧ c ≤ 20 := ⟨(min (max copies 0) 20).toNat, by omega, by omega⟩
  go_enter Try.func4, Try.ntmps4
  go_wp2_with fail
  refine (spots_any w v l hS).mono ?_
  rintro e w1 ⟨v1, v2, rfl, hS1, hE1, LA, lc, rfl, hn0⟩
  have HN := Lib.hid hn0
  clear hn0
  generalize l.take 12 = ks at hS1 hlen ⊢
  have hH1 := hH.ext hE1
  clear hS hH
  go_wp2_with fail
  refine (some_any w1 hv hl ks.length hH1 hhl hlen).mono ?_
  rintro e w2 ⟨sv, r, rfl, hr12, hown, hE2⟩
  have hS2 := hS1.ext hE2
  have hR2 := Sl.of_own hown
  replace hE1 := hE1.trans hE2
  clear hown hE2 hS1 hH1 hhl
  go_wp2_with fail
  refine (disks_any w2 _ sv ks r hS2 hR2 hlen (by omega) size cp (by omega) (by omega)).mono ?_
  rintro e w3 ⟨av, a, rfl, hCa, hownA, hE3⟩
  have hS3 := hS2.ext hE3
  have hR3 := hR2.ext hE3
  replace hE1 := hE1.trans hE3
  clear hS2 hR2 hE3
  have hA3 := Sl.of_own hownA
  clear hownA
  have hsz3 := hE1.size
  go_upto_region 5 with fail
  go_cut [17] from 25 (fun tv wx => wx.ownsRow w3.heap.size 30 2 tv ks.length ((ks.map Spot.cells).flatten) ∧ Ext w wx ∧ Sl wx sv (r.map (Value.int .i64)) ∧ Sl wx av (a.map (Value.int .i64)))
  case first =>
    have HE := Lib.hid hE1
    have HR := Lib.hid hR3
    have HA := Lib.hid hA3
    have hE4 := hE1.alloc (.cells #[] 30)
    have hX := (Ext.refl w3).alloc (.cells #[] 30)
    have hO := own_empty' w3 30 2 rfl
    have hR4 := hR3.ext hX
    have hA4 := hA3.ext hX
    have hS4 := hS3.ext hX
    clear hR3 hA3 hS3 hE1
    cases LA with
    | none =>
      have hks : ks = [] := by
        obtain ⟨A, c, hv, hx⟩ := hS4
        refine Classical.byContradiction fun hne => ?_
        obtain ⟨b, o, rfl, _⟩ := hx (fun e => hne (List.map_eq_nil_iff.1 e))
        injection hv with h1 _ _; cases h1
      subst hks
      obtain rfl := HN.out rfl
      go_wp2_with (at_builtin; refine wpList_append_none rfl _ _ 22 rfl w3.heap.size 30 i0 2 Try.underlying22 hi _ _ _ rfl hO rfl ?_)
      go_wp2_with fail
      go_meet
      case rel => exact ⟨hO, hE4, hR4, hA4⟩
    | some la =>
      have hla : ∀ j u, ((ks.map Spot.cells).flatten)[j]? = some u → (w3.alloc (.cells #[] 30)).cell? (la.add j) = some u := by
        intro j u hj
        by_cases hks : ks = []
        · subst hks; simp at hj
        · obtain ⟨b, o, hbo⟩ := sln_at (i := 0) hS4 (List.length_pos_iff.2 hks)
          injection hbo with hbo
          subst hbo
          exact spots_flat_cell hS4 j u hj
      have hfl := spots_flat_len ks
      have hfo := spots_flat_one ks
      generalize hfs : (ks.map Spot.cells).flatten = fs at hla hfl hfo
      have HFS := Lib.hid hfs
      clear hfs
      have HL := Lib.hid hla
      have HO := Lib.hid hfo
      have HF := Lib.hid hfl
      clear hla hfo hfl hS4
      go_wp2_with (at_builtin; refine wpList_append_own _ rfl _ _ 22 rfl w3.heap.size 30 i0 (.agg #[.bool false, .int .i64 0]) 2 16 Try.underlying22 hi hz0 hz1 hz2 rfl (by decide) _ _ _ rfl hO la ks.length lc fs rfl HF.out HL.out HO.out (by unfold maxLen; omega) (by omega) (by simp) ?_)
      intro v1 w4 hown4 hgrow4 _
      have hge := own_ge hO
      have hX4 : Ext w3 w4 := Chg.mono (hX.chg_trans (Chg.of_grown hgrow4)) fun j hj h => by have := hge j h; omega
      clear hge hgrow4 HL HO HF hO
      go_wp2_with fail
      go_meet
      case rel => exact ⟨by rw [HFS.out]; exact hown4, HE.out.trans hX4, HR.out.ext hX4, HA.out.ext hX4⟩
  case rest =>
  obtain ⟨hO, hE5, hR5, hA5⟩ := hcut
  have hsz5 := hE5.size
  have hT : Sln wc u17 2 (ks.map Spot.cells) := sln_own hO rfl
  obtain ⟨tA, tc, rfl⟩ := (show ∃ A c, u17 = .slice A ks.length c from by obtain ⟨A, c, h, _⟩ := hT; exact ⟨A, c, by rw [h, List.length_map]⟩)
  have hcs : (which < 0 ∨ 0 ≤ which ∧ (ks.length : Int) ≤ which ∨ 0 ≤ which ∧ which < ks.length ∧ more < 0) ∨ (0 ≤ which ∧ which < ks.length ∧ 0 ≤ more) := by omega
  have HM := Lib.hid hmore
  clear hmore
  obtain ⟨cnd, hcnd⟩ : ∃ c : Bool, c = decide (0 ≤ which ∧ which < (ks.length : Int) ∧ 0 ≤ more) := ⟨_, rfl⟩
  go_upto_region 6 with fail
  go_cut [59] from 25 (fun c wx => c = .bool cnd ∧ wx = wc)
  case first =>
    clear hcs
    rcases (show which < 0 ∨ (0 ≤ which ∧ ((ks.length : Int) ≤ which ∨ (which < ks.length ∧ (more < 0 ∨ 0 ≤ more)))) by omega) with g | ⟨g, g | ⟨g1, g | g2⟩⟩
    · have t1 : decide (0 ≤ which) = false := by simp; omega
      obtain rfl : cnd = false := by rw [hcnd]; simp; omega
      clear hcnd
      go_wp2_with fail
      go_meet
      case rel => exact ⟨rfl, rfl⟩
    · have t1 : decide (0 ≤ which) = true := by simp; omega
      have t2 : decide (which < (ks.length : Int)) = false := by simp; omega
      obtain rfl : cnd = false := by rw [hcnd]; simp; omega
      clear hcnd
      go_wp2_with fail
      go_meet
      case rel => exact ⟨rfl, rfl⟩
    · have t1 : decide (0 ≤ which) = true := by simp; omega
      have t2 : decide (which < (ks.length : Int)) = true := by simp; omega
      have t3 : decide (0 ≤ more) = false := by simp; omega
      obtain rfl : cnd = false := by rw [hcnd]; simp; omega
      clear hcnd
      go_wp2_with fail
      go_meet
      case rel => exact ⟨rfl, rfl⟩
    · have t1 : decide (0 ≤ which) = true := by simp; omega
      have t2 : decide (which < (ks.length : Int)) = true := by simp; omega
      have t3 : decide (0 ≤ more) = true := by simp; omega
      obtain rfl : cnd = true := by rw [hcnd]; simp; omega
      clear hcnd
      go_wp2_with fail
      go_meet
      case rel => exact ⟨rfl, rfl⟩
  case rest =>
  obtain ⟨rfl, rfl⟩ := hcut
  go_upto_if 59 with fail
  go_cut [] from 25 (fun wx => ∃ m : List Spot, m.length = ks.length ∧ (∀ i, (spotAt ks i).fits size = true → (spotAt m i).fits size = true) ∧ Sln wx (.slice tA ks.length tc) 2 (m.map Spot.cells) ∧ Ext w wx ∧ Sl wx sv (r.map (Value.int .i64)) ∧ Sl wx av (a.map (Value.int .i64)))
  case first =>
    cases cnd with
    | false =>
      clear hcnd
      go_wp2_with fail
      go_meet
      case rel => exact ⟨ks, rfl, fun _ h => h, hT, hE5, hR5, hA5⟩
    | true =>
      have hc : 0 ≤ which ∧ which < (ks.length : Int) ∧ 0 ≤ more := by simpa using hcnd.symm
      obtain ⟨g0, g1, g2⟩ := hc
      obtain ⟨n0, rfl⟩ := Int.eq_ofNat_of_zero_le g0
      have hn0 : n0 < ks.length := by omega
      obtain ⟨g, c', cur, hv, hgb, hAt⟩ := own_at hO (by omega)
      simp only [Value.slice.injEq] at hv
      obtain ⟨rfl, -, rfl⟩ := hv
      obtain ⟨q0, q1⟩ := spot_cells hT hn0
      rw [Nat.zero_add] at q0 q1
      have f0 := hAt.frozen (n0 * 2)
      have f1 := hAt.frozen (n0 * 2 + 1)
      have hset := sln_set true (max (spotAt ks n0).free more) hT hn0
      have hE7 := (hE5.setCell (p := ⟨g, n0 * 2, none⟩) (by show w.heap.size ≤ g; omega) (.bool true)).setCell (p := ⟨g, n0 * 2 + 1, none⟩) (by show w.heap.size ≤ g; omega) (.int .i64 (max (spotAt ks n0).free more))
      have hCg := ((Chg.refl (· = g) wc).setCell (p := ⟨g, n0 * 2, none⟩) (.inl rfl) (.bool true)).setCell (p := ⟨g, n0 * 2 + 1, none⟩) (.inl rfl) (.int .i64 (max (spotAt ks n0).free more))
      have hR7 := hR5.chg hCg fun b o n c hv hne h => by have := sl_block hR3 b o n c hv hne; omega
      have hA7 := hA5.chg hCg fun b o n c hv hne h => by have := sl_block hA3 b o n c hv hne; omega
      have HS := Lib.hid hset
      clear hset hcs hcnd hAt hT hCg
      go_wp2_with fail
      go_meet
      case rel => exact ⟨_, by simp, fun i h => set_fits h, HS.out, hE7, hR7, hA7⟩
  case rest =>
  obtain ⟨m, hml, hmf, hm, hE6, hR6, hA6⟩ := hcut
  clear hT hE5 hR5 hA5 hO hcnd hcs hR3 hA3 hS3 hE1 hsz3 hsz5
  have HML := Lib.hid hml
  have HMF := Lib.hid hmf
  clear hml hmf
  go_wp2_with fail
  refine (disks_any wc _ sv m r hm hR6 (by have := HML.out; omega) (by omega) size cp (by omega) (by omega)).mono ?_
  rintro e w7 ⟨bv, b, rfl, hCb, hownB, hE7⟩
  have hlen2 : a.length ≤ b.length := hCa.more HML.out (HMF.out) hCb
  have hmem : ∀ h ∈ r, h ∈ a := fun h hh => hCa.have_ hh
  have hal := hCa.len
  have hal2 : a.length ≤ 100 := by split at hal <;> omega
  have hbl := hCb.len
  have hbl2 : b.length ≤ 100 := by split at hbl <;> omega
  replace hE6 := hE6.trans hE7
  have hR8 := hR6.ext hE7
  have hA8 := hA6.ext hE7
  obtain ⟨bA, bc, rfl, -⟩ := own_slice hownB
  clear hCa hCb hal hbl hm hE7 hownB HML HMF hR6 hA6
  obtain ⟨rA, rc, rfl⟩ := (show ∃ A c, sv = .slice A r.length c from by obtain ⟨A, c, h, _⟩ := hR8; exact ⟨A, c, by rw [h, List.length_map]⟩)
  obtain ⟨aA, ac, rfl⟩ := (show ∃ A c, av = .slice A a.length c from by obtain ⟨A, c, h, _⟩ := hA8; exact ⟨A, c, by rw [h, List.length_map]⟩)
  have HMem := Lib.hid hmem
  clear hmem
  go_wp2_with fail
  refine (awake_any w7).mono ?_
  rintro e w8 ⟨rfl, hE8⟩
  have hR9 := hR8.ext hE8
  have hA9 := hA8.ext hE8
  clear hR8 hA8
  have t1 : decide (b.length < a.length) = false := by simp; omega
  have ht2 : decide (cp ≤ a.length) = true ∧ decide (cp ≤ b.length) = true ∨ decide (cp ≤ a.length) = false := by
    by_cases h : cp ≤ a.length
    · exact .inl ⟨by simpa using h, by simp; omega⟩
    · exact .inr (by simpa using h)
  rcases ht2 with ⟨t2, t3⟩ | t2
  all_goals
    go_wp2_with fail
    go_loopw [97] (fun iv wx => ∃ k : Nat, k ≤ r.length ∧ iv = .int .i64 (k : Int) ∧ wx = w8) (fun iv _ => r.length - (intOf iv).toNat)
    case atStart => exact ⟨0, Nat.zero_le _, rfl, rfl⟩
    case round =>
      obtain ⟨k, hk, rfl, rfl⟩ := hrel
      by_cases hlt : k < r.length
      · have hin := HMem.out r[k] (List.getElem_mem hlt)
        obtain ⟨rb, ro, rc', hrv, hc0⟩ := sl_elem hR9 (x := .int .i64 r[k]) (by rw [List.getElem?_map, List.getElem?_eq_getElem hlt]; rfl)
        simp only [Value.slice.injEq] at hrv
        obtain ⟨rfl, -, rfl⟩ := hrv
        generalize r[k] = h at hin hc0
        have HI := Lib.hid hin
        clear hin
        obtain ⟨wo, hwo⟩ : ∃ wo : World, wo = wr := ⟨_, rfl⟩
        subst hwo
        go_wp2_with fail
        go_loopw [22, 103] (fun fv iv wx => ∃ (j : Nat) (fb : Bool), j ≤ a.length ∧ iv = .int .i64 (j : Int) ∧ fv = .bool fb ∧ Hid (fb = decide (h ∈ a.take j)) ∧ wx = wo) (fun _ iv _ => a.length - (intOf iv).toNat)
        case atStart => exact ⟨0, false, Nat.zero_le _, rfl, rfl, Lib.hid (by simp), rfl⟩
        case round =>
          obtain ⟨j, fb, hj, rfl, rfl, HB, rfl⟩ := hrel
          by_cases hjt : j < a.length
          · have HN := Lib.hid (mem_take_next h hjt)
            obtain ⟨ab, ao, ac', hav, hd0⟩ := sl_elem hA9 (x := .int .i64 a[j]) (by rw [List.getElem?_map, List.getElem?_eq_getElem hjt]; rfl)
            simp only [Value.slice.injEq] at hav
            obtain ⟨rfl, -, rfl⟩ := hav
            generalize a[j] = d at HN hd0
            cases fb
            · go_wp2_with fail
              go_roundw
              case rel => exact ⟨j + 1, d == h, by omega, by go_num, rfl, Lib.hid (by rw [HN.out, ← HB.out]; rfl), trivial⟩
              case measure => simp [intOf]; omega
            · go_wp2_with fail
              go_roundw
              case rel => exact ⟨j + 1, true, by omega, by go_num, rfl, Lib.hid (by rw [HN.out, ← HB.out]; rfl), trivial⟩
              case measure => simp [intOf]; omega
          · obtain rfl : j = a.length := by omega
            obtain rfl : fb = true := by
              have h1 := HB.out
              rw [List.take_length] at h1
              rw [h1]; exact decide_eq_true HI.out
            go_wp2_with fail
            go_roundw
            case rel => exact ⟨k + 1, by omega, by go_num, trivial⟩
            case measure => simp [intOf]; omega
      · obtain rfl : k = r.length := by omega
        go_wp2_with fail
        go_ret
        exact ⟨rfl, hE6.trans hE8⟩
end Go.Proofs.Ythpockgijchfgaa
