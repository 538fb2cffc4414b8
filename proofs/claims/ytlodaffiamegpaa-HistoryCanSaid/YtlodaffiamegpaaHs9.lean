/-
  Layer 18: possible, whatever call it is.
-/
import Derived.Test.YtlodaffiamegpaaHs8
namespace Go.Proofs.Ytlodaffiamegpaa
open Go.RowKit Go.Sort

theorem poss1 {T : HTab} {x : HOp} (h : x.kind = 1) : (x.err == 0) = true ↔ Poss T x := by
  unfold Poss; rw [beq_iff_eq]
  constructor
  · intro e; exact .inl ⟨h, e⟩
  · rintro (h' | h' | h' | h') <;> omega
theorem poss3 {T : HTab} {x : HOp} (h : x.kind = 3) : (x.err == 5 || (x.err == 0 && hasL T.names x.name)) = true ↔ Poss T x := by
  unfold Poss
  rw [Bool.or_eq_true, Bool.and_eq_true, beq_iff_eq, beq_iff_eq]
  constructor
  · intro e; exact .inr (.inl ⟨h, e⟩)
  · rintro (h' | h' | h' | h')
    · omega
    · exact h'.2
    · omega
    · omega
theorem poss2 {T : HTab} {x : HOp} (h : x.kind = 2 ∨ x.kind = 5) : (x.err == 5 || (x.err == 0 && (hasL T.names x.name && hasL (T.vals.getD (ixOf T.names x.name) []) x.got))) = true ↔ Poss T x := by
  unfold Poss
  rw [Bool.or_eq_true, Bool.and_eq_true, Bool.and_eq_true, beq_iff_eq, beq_iff_eq, hasL_iff (l := T.vals.getD _ _)]
  constructor
  · intro e; exact .inr (.inr (.inr ⟨h, e⟩))
  · rintro (h' | h' | h' | h')
    · omega
    · omega
    · omega
    · exact h'.2

set_option maxHeartbeats 2000000 in
theorem possible_one {S : Nat → Prop} (w : World) (g : Nat) (l : List HRow) (T : HTab) (X : HLoc) (hT : TabAt S w g l T X) (i : Nat) (_hi20 : T.name.length ≤ 20) (hnn : T.names.length ≤ 20) (hvl : T.vals.length = T.names.length) (hv20 : ∀ n, (T.vals.getD n []).length ≤ 20) (x : HRow)
    (hnm : T.name[i]? = some (idxV T.names x.1.name)) (hk : x.1.kind = 1 ∨ x.1.kind = 2 ∨ x.1.kind = 3 ∨ x.1.kind = 5) :
    Calls Try.prog 30 #[.pointer (some ⟨g, 0, none⟩), .int .i64 (i : Int), hagg x] w fun e w' => PossOut T x.1 w e w' := by
  have hil : i < T.name.length := (List.getElem?_eq_some_iff.1 hnm).1
  obtain ⟨mb, mo, mc, hmv, hm0⟩ := sl_elem hT.name (i64s_at hnm)
  have hml : (i64s T.name).length = T.name.length := by simp [i64s]
  rw [hml] at hmv
  have hE0 := (Ext.refl w).alloc (.cells #[.int .i64 x.1.kind, .string x.1.name, .int .u64 x.1.value, .int .i64 x.1.start, .int .i64 x.1.fin, .int .i64 x.1.err, .int .u64 x.1.got, .slice x.2.1 x.1.names.length x.2.2] 37)
  have hX := At.new w 37 #[.int .i64 x.1.kind, .string x.1.name, .int .u64 x.1.value, .int .i64 x.1.start, .int .i64 x.1.fin, .int .i64 x.1.err, .int .u64 x.1.got, .slice x.2.1 x.1.names.length x.2.2]
  have hT1 := hT.ext hE0
  have c3 := hT1.blk.cell 3
  simp at c3
  rw [hmv] at c3
  have k3 := (Ext.cell (p := ⟨mb, mo + i, none⟩) hE0 (cell_lt hm0)).trans hm0
  have hge : decide (0 ≤ idxV T.names x.1.name) = hasL T.names x.1.name := idxV_has _ _
  -- what Contains is asked of
  have hin : hasL T.names x.1.name = true → ∃ (vb vo vc : Nat) (sv : Value), idxV T.names x.1.name = ((ixOf T.names x.1.name : Nat) : Int) ∧ X.vv = .slice (some ⟨vb, vo, none⟩) X.svs.length vc ∧ X.svs.length ≤ 20 ∧ ixOf T.names x.1.name < X.svs.length ∧
      w.cell? ⟨vb, vo + ixOf T.names x.1.name, none⟩ = some sv ∧ Sl w sv (u64s (T.vals.getD (ixOf T.names x.1.name) [])) := fun hm => by
    have hlt := ixOf_lt hm
    have hsl := hT.svs.1
    obtain ⟨sv, hsv⟩ : ∃ sv, X.svs[ixOf T.names x.1.name]? = some sv := ⟨_, List.getElem?_eq_getElem (by omega)⟩
    obtain ⟨vb, vo, vc, hvv', hvc⟩ := sl_elem hT.vals hsv
    have hvs : T.vals[ixOf T.names x.1.name]? = some (T.vals.getD (ixOf T.names x.1.name) []) := by rw [List.getD_eq_getElem?_getD, List.getElem?_eq_getElem (by omega)]; rfl
    exact ⟨vb, vo, vc, sv, by rw [idxV_eq, if_pos hm], hvv', by omega, by omega, hvc, (hT.svs.2 _ sv _ hsv hvs).1⟩
  have HIN := Lib.hid hin
  have HGE := Lib.hid hge
  have HV := Lib.hid hv20
  have c2 := hT1.blk.cell 2
  simp at c2
  have k1 : (x.1.kind == 1) = decide (x.1.kind = 1) := by rw [Bool.eq_iff_iff]; simp
  have k33 : (x.1.kind == 3) = decide (x.1.kind = 3) := by rw [Bool.eq_iff_iff]; simp
  have k4 : (x.1.kind == 4) = false := by simp; omega
  have K1 := Lib.hid k1
  have K3 := Lib.hid k33
  clear hv20 hin hge hT hT1 hmv hml hnm k1 k33
  generalize hnv : idxV T.names x.1.name = nv at *
  have HNV := Lib.hid hnv
  clear hnv
  rcases hk with hk | hk | hk | hk
  case inl =>
    have t1 : (x.1.kind == 1) = true := by simp [hk]
    have HP := Lib.hid (poss1 (T := T) hk)
    clear hk
    go_enter Try.func30, Try.ntmps30
    go_wp2_with fail
    go_ret
    exact ⟨⟨_, rfl, HP.out⟩, hE0⟩
  case inr.inr.inl =>
    have t1 : (x.1.kind == 1) = false := by simp [hk]
    have t3 : (x.1.kind == 3) = true := by simp [hk]
    have HP := Lib.hid (poss3 (T := T) hk)
    clear hk
    cases e5 : (x.1.err == 5)
    · cases e0 : (x.1.err == 0)
      · have hp : (false = true) ↔ Poss T x.1 := by rw [← HP.out, e5, e0]; simp
        have HP2 := Lib.hid hp
        clear hp
        go_enter Try.func30, Try.ntmps30
        go_wp2_with fail
        go_ret
        exact ⟨⟨_, rfl, by simpa using HP2.out⟩, hE0⟩
      · have hp : decide (0 ≤ nv) = true ↔ Poss T x.1 := by rw [← HP.out, e5, e0, HGE.out]; simp
        have HP2 := Lib.hid hp
        clear hp
        go_enter Try.func30, Try.ntmps30
        go_wp2_with fail
        go_ret
        exact ⟨⟨_, rfl, by simpa using HP2.out⟩, hE0⟩
    · have hp : (true = true) ↔ Poss T x.1 := by rw [← HP.out, e5]; simp
      have HP2 := Lib.hid hp
      clear hp
      go_enter Try.func30, Try.ntmps30
      go_wp2_with fail
      go_ret
      exact ⟨⟨_, rfl, by simpa using HP2.out⟩, hE0⟩
  all_goals
    have t1 : (x.1.kind == 1) = false := by simp [hk]
    have t3 : (x.1.kind == 3) = false := by simp [hk]
    have HP := Lib.hid (poss2 (T := T) (x := x.1) (by omega))
    clear hk
    have hX1 := hX
    go_enter Try.func30, Try.ntmps30
    go_wp2_with fail
    generalize w.alloc (.cells #[.int .i64 x.1.kind, .string x.1.name, .int .u64 x.1.value, .int .i64 x.1.start, .int .i64 x.1.fin, .int .i64 x.1.err, .int .u64 x.1.got, .slice x.2.1 x.1.names.length x.2.2] 37) = W at *
    have d5 := hX1.cell 5
    have d6 := hX1.cell 6
    simp at d5 d6
    have rg : ∀ {p : Addr} {u : Value}, W.cell? p = some u → ∀ d os, (grow (redrawn W d) os).cell? p = some u := fun h d os => (Ext.cell (ext_regrown W d os) (cell_lt h)).trans h
    have y5 := rg d5
    have y6 := rg d6
    clear c3 k3 hX hX1
    have hcs : (x.1.err == 5) = true ∨ ((x.1.err == 5) = false ∧ (x.1.err == 0) = false) ∨ ((x.1.err == 5) = false ∧ (x.1.err == 0) = true ∧ hasL T.names x.1.name = false) ∨ ((x.1.err == 5) = false ∧ (x.1.err == 0) = true ∧ hasL T.names x.1.name = true) := by
      cases x.1.err == 5 <;> cases x.1.err == 0 <;> cases hasL T.names x.1.name <;> simp
    rcases hcs with e5 | ⟨e5, e0⟩ | ⟨e5, e0, hh⟩ | ⟨e5, e0, hh⟩
    · have hp : (true = true) ↔ Poss T x.1 := by rw [← HP.out, e5]; simp
      have HP2 := Lib.hid hp
      clear hp rg c2
      refine wp_region_quiet_ext (by kernel_rfl) (by kernel_rfl) ?_
      repeat (go_big_quiet_step (fail))
      refine wpQuiet_nil ?_
      intro W8 hE8
      go_wp2_with fail
      go_ret
      exact ⟨⟨_, rfl, by simpa using HP2.out⟩, hE0.trans hE8⟩
    · have hp : (false = true) ↔ Poss T x.1 := by rw [← HP.out, e5, e0]; simp
      have HP2 := Lib.hid hp
      clear hp rg c2
      refine wp_region_quiet_ext (by kernel_rfl) (by kernel_rfl) ?_
      repeat (go_big_quiet_step (fail))
      refine wpQuiet_nil ?_
      intro W8 hE8
      go_wp2_with fail
      go_ret
      exact ⟨⟨_, rfl, by simpa using HP2.out⟩, hE0.trans hE8⟩
    · have hp : (false = true) ↔ Poss T x.1 := by rw [← HP.out, e5, e0, hh]; simp
      have HP2 := Lib.hid hp
      have t0 : decide (0 ≤ nv) = false := by rw [HGE.out]; exact hh
      clear hp rg c2 hh
      refine wp_region_quiet_ext (by kernel_rfl) (by kernel_rfl) ?_
      repeat (go_big_quiet_step (fail))
      refine wpQuiet_nil ?_
      intro W8 hE8
      go_wp2_with fail
      go_ret
      exact ⟨⟨_, rfl, by simpa using HP2.out⟩, hE0.trans hE8⟩
    · obtain ⟨vb, vo, vc, sv, hix, hvv, hs20, hslt, hc, hsl⟩ := HIN.out hh
      have hp : hasL (T.vals.getD (ixOf T.names x.1.name) []) x.1.got = true ↔ Poss T x.1 := by rw [← HP.out, e5, e0, hh]; simp
      have HP2 := Lib.hid hp
      have h20 := HV.out (ixOf T.names x.1.name)
      rw [hvv] at c2
      have y2 := rg c2
      have z2 := rg ((Ext.cell (p := ⟨vb, vo + ixOf T.names x.1.name, none⟩) hE0 (cell_lt hc)).trans hc)
      have cw : ∀ d os, Calls Try.prog 41 #[sv, .int .u64 (x.1.got : Int)] (grow (redrawn W d) os) fun e w'' => e = .returned (.bool (hasL (T.vals.getD (ixOf T.names x.1.name) []) x.1.got)) ∧ ∃ p : Regrown, w'' = grow (redrawn W p.d) p.os := fun d os =>
        (has_u64 _ sv _ x.1.got ((hsl.ext hE0).ext (ext_regrown W d os)) (by omega)).mono (by rintro e w' ⟨rfl, rfl⟩; exact ⟨rfl, ⟨⟨d, os⟩, rfl⟩⟩)
      generalize hasL (T.vals.getD (ixOf T.names x.1.name) []) x.1.got = hv at *
      generalize (T.vals.getD (ixOf T.names x.1.name) []) = vv at *
      generalize ixOf T.names x.1.name = ix at *
      subst hix
      clear hp rg c2 hh hvv hc hsl
      refine wp_region_quiet_ext (by kernel_rfl) (by kernel_rfl) ?_
      repeat (go_big_quiet_step (first | with_reducible exact cw _ _))
      refine wpQuiet_nil ?_
      intro W8 hE8
      go_wp2_with fail
      go_ret
      exact ⟨⟨_, rfl, by simpa using HP2.out⟩, hE0.trans hE8⟩
end Go.Proofs.Ytlodaffiamegpaa
