/-
  Layer 15: a spot's fits; the comparison of two disks.
-/
import Derived.Test.YthpockgijchfgaaSortI
import Derived.Test.YthpockgijchfgaaPlaceSort
import Derived.Test.YthpockgijchfgaaOpenSpots
namespace Go.Proofs.Ythpockgijchfgaa
open Go.RowKit Go.Sort

theorem fits_any (w : World) (s : Spot) (size : Int) : Calls Try.prog 18 #[.agg #[.bool s.up, .int .i64 s.free], .int .i64 size] w fun e w' => e = .returned (.bool (s.fits size)) ∧ Ext w w' := by
  have hB := At.new w 30 #[.bool s.up, .int .i64 s.free]
  have c0 := hB.cell 0
  have c1 := hB.cell 1
  simp at c0 c1
  unfold Spot.fits
  obtain ⟨up, free⟩ := s
  cases up
  · go_enter Try.func18, Try.ntmps18
    go_wp2
    go_ret
    exact ⟨by simp, (Ext.refl w).alloc _⟩
  · go_enter Try.func18, Try.ntmps18
    go_wp2
    go_ret
    exact ⟨by simp, (Ext.refl w).alloc _⟩

theorem spot_cells {w : World} {b o n c : Nat} {l : List Spot} (h : Sln w (.slice (some ⟨b, o, none⟩) n c) 2 (l.map Spot.cells)) {i : Nat} (hi : i < l.length) :
    w.cell? ⟨b, o + i * 2, none⟩ = some (.bool (spotAt l i).up) ∧ w.cell? ⟨b, o + i * 2 + 1, none⟩ = some (.int .i64 (spotAt l i).free) := by
  obtain ⟨A, c', hv, hx⟩ := h
  have hne : l.map Spot.cells ≠ [] := fun e => by
    have := List.map_eq_nil_iff.1 e
    subst this; simp at hi
  obtain ⟨b', o', rfl, hc⟩ := hx hne
  simp only [Value.slice.injEq, Option.some.injEq, Addr.mk.injEq, and_true] at hv
  obtain ⟨⟨rfl, rfl⟩, _, _⟩ := hv
  have hg : (l.map Spot.cells)[i]? = some (spotAt l i).cells := by
    rw [List.getElem?_map, List.getElem?_eq_getElem hi]
    unfold spotAt
    rw [List.getD_eq_getElem?_getD, List.getElem?_eq_getElem hi]; rfl
  exact ⟨hc i _ hg 0 _ rfl, hc i _ hg 1 _ rfl⟩

set_option maxHeartbeats 1000000 in
theorem dis1_any (w : World) (L b o n c : Nat) (l : List Spot) (hL : w.cell? ⟨L, 0, none⟩ = some (.slice (some ⟨b, o, none⟩) n c)) (hS : Sln w (.slice (some ⟨b, o, none⟩) n c) 2 (l.map Spot.cells)) (x y : Nat) (hx : x < l.length) (hy : y < l.length) (hl : l.length ≤ 12) :
    Calls Try.prog 21 #[.int .i64 x, .int .i64 y, .pointer (some ⟨L, 0, none⟩)] w fun e w' => e = .returned (.int .i64 (Lib.compareInt (spotAt l y).free (spotAt l x).free)) ∧ Ext w w' := by
  have hxc := (spot_cells hS hx).2
  have hyc := (spot_cells hS hy).2
  have hn : n = l.length := by
    obtain ⟨A, c', hv, _⟩ := hS
    simp only [Value.slice.injEq, List.length_map] at hv
    exact hv.2.1
  subst hn
  have rg : ∀ {p : Addr} {u : Value}, w.cell? p = some u → ∀ d os, (grow (redrawn w d) os).cell? p = some u := fun h d os => (Ext.cell (ext_regrown w d os) (cell_lt h)).trans h
  have r1 := rg hL
  have r2 := rg hxc
  have r3 := rg hyc
  have cw : ∀ d os, Calls Try.prog 22 #[.int .i64 (spotAt l y).free, .int .i64 (spotAt l x).free] (grow (redrawn w d) os) fun e w'' => e = .returned (.int .i64 (Lib.compareInt (spotAt l y).free (spotAt l x).free)) ∧ ∃ p : Regrown, w'' = grow (redrawn w p.d) p.os := fun d os =>
    (Try.cmp_Compare_int _ _ _).mono (by rintro e w' ⟨rfl, rfl⟩; exact ⟨rfl, ⟨⟨d, os⟩, rfl⟩⟩)
  clear rg hL hS hxc hyc
  go_enter Try.func21, Try.ntmps21
  go_wp2_with fail
  refine wp_region_quiet_ext (by kernel_rfl) (by kernel_rfl) ?_
  repeat (go_big_quiet_step (first | with_reducible exact cw _ _))
  refine wpQuiet_nil ?_
  intro W8 hE8
  go_wp2_with fail
  go_ret
  exact ⟨rfl, hE8⟩
end Go.Proofs.Ythpockgijchfgaa
