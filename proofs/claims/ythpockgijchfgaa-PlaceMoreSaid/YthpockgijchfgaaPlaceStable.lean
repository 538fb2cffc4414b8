/-
  Layer 15: slices.SortStableFunc of at most 12 disks.
-/
import Derived.Test.YthpockgijchfgaaPlaceIns
namespace Go.Proofs.Ythpockgijchfgaa
open Go.RowKit Go.Sort

theorem insc_none (w : World) (v fv : Value) : Calls Try.prog 42 #[v, .int .i64 0, .int .i64 0, fv] w fun e w' => e = .returned (.tuple #[]) ∧ w' = w := by
  go_enter Try.func42, Try.ntmps42
  go_wp2_with fail
  go_loopw [8] (fun iv wr => iv = .int .i64 1 ∧ wr = w) (fun _ _ => 0)
  case atStart => exact ⟨rfl, rfl⟩
  case round =>
    obtain ⟨rfl, rfl⟩ := hrel
    go_wp2_with fail
    go_end0
    exact ⟨rfl, rfl⟩

set_option maxRecDepth 100000 in
theorem stablec_of (w : World) (v fv : Value) (n : Nat) (hn : n ≤ 12) (R : World → Prop)
    (hc : Calls Try.prog 42 #[v, .int .i64 0, .int .i64 n, fv] w fun e w' => e = .returned (.tuple #[]) ∧ R w') :
    Calls Try.prog 32 #[v, .int .i64 n, fv] w fun e w' => e = .returned (.tuple #[]) ∧ R w' := by
  go_enter Try.func32, Try.ntmps32
  go_wp2_with fail
  go_loopw [7, 8] (fun a b wr => a = .int .i64 0 ∧ b = .int .i64 20 ∧ wr = w) (fun _ _ _ => 0)
  case atStart => exact ⟨rfl, rfl, rfl⟩
  case round =>
    obtain ⟨rfl, rfl, rfl⟩ := hrel
    go_wp2_with fail
    refine hc.mono ?_
    rintro e w1 ⟨rfl, hR⟩
    go_wp2_with fail
    go_loopw [6, 7, 8, 9] (fun a _ _ _ wx => a = .int .i64 20 ∧ wx = w1) (fun _ _ _ _ _ => 0)
    case atStart => exact ⟨rfl, rfl⟩
    case round =>
      obtain ⟨rfl, rfl⟩ := hrel
      go_wp2_with fail
      go_end0
      exact ⟨rfl, hR⟩

set_option maxRecDepth 100000 in
theorem stable_any (w : World) (L b o m c0 n base : Nat) (v : Value) (l : List Spot) (xs : List Nat) (hL : w.cell? ⟨L, 0, none⟩ = some (.slice (some ⟨b, o, none⟩) m c0)) (hS : Sln w (.slice (some ⟨b, o, none⟩) m c0) 2 (l.map Spot.cells))
    (hgL : L < base) (hgb : b < base) (hown : w.ownsRow base 3 1 v n (xs.map ival)) (hx : ∀ x ∈ xs, x < l.length) (hr : xs.Pairwise (· < ·)) (hl : l.length ≤ 12) (hn1 : n ≤ 12) :
    Calls Try.prog 20 #[v, .func (.func 21) #[] #[.pointer (some ⟨L, 0, none⟩)]] w fun e w' => e = .returned (.tuple #[]) ∧
      ∃ ys : List Nat, ys.Perm xs ∧ ys.Pairwise (Ahead l) ∧ w'.ownsRow base 3 1 v n (ys.map ival) ∧ Chg (fun k => base ≤ k) w w' := by
  have hlen : xs.length = n := by have := hown.1; simpa using this
  have key : ∃ A c, v = .slice A n c ∧ Calls Try.prog 32 #[v, .int .i64 n, .func (.func 21) #[] #[.pointer (some ⟨L, 0, none⟩)]] w fun e w' => e = .returned (.tuple #[]) ∧
      ∃ ys : List Nat, ys.Perm xs ∧ ys.Pairwise (Ahead l) ∧ w'.ownsRow base 3 1 v n (ys.map ival) ∧ Chg (fun k => base ≤ k) w w' := by
    have nil : n = 0 → Calls Try.prog 32 #[v, .int .i64 n, .func (.func 21) #[] #[.pointer (some ⟨L, 0, none⟩)]] w fun e w' => e = .returned (.tuple #[]) ∧
      ∃ ys : List Nat, ys.Perm xs ∧ ys.Pairwise (Ahead l) ∧ w'.ownsRow base 3 1 v n (ys.map ival) ∧ Chg (fun k => base ≤ k) w w' := fun h0 => by
      have hxs : xs = [] := List.eq_nil_of_length_eq_zero (by omega)
      subst h0
      refine stablec_of w v _ 0 hn1 _ ((insc_none w v _).mono ?_)
      rintro e w' ⟨rfl, rfl⟩
      exact ⟨rfl, xs, List.Perm.refl _, by rw [hxs]; exact List.Pairwise.nil, hown, Chg.refl _ _⟩
    rcases hown.2 with ⟨rfl, h0⟩ | ⟨g, cap, cur, rfl, hbase, hg, _⟩
    · exact ⟨none, 0, by rw [h0], nil h0⟩
    · refine ⟨some ⟨g, 0, none⟩, cap, rfl, ?_⟩
      rcases Nat.eq_zero_or_pos n with h0 | h0
      · exact nil h0
      · refine stablec_of w _ _ n hn1 _ ((insc_any w L b o m c0 g n cap base l xs hL hS (by omega) (by omega) hown hx hr hl h0 hn1).mono ?_)
        rintro e w' ⟨rfl, ys, h1, h2, h3, h4⟩
        exact ⟨rfl, ys, h1, h2, h3, h4.mono fun k _ h => by have h' : k = g := h; show base ≤ k; omega⟩
  obtain ⟨A, c, rfl, hc⟩ := key
  go_enter Try.func20, Try.ntmps20
  go_wp2_with fail
  refine hc.mono ?_
  rintro e w1 ⟨rfl, hR⟩
  go_wp2_with fail
  go_end0
  exact ⟨rfl, hR⟩
end Go.Proofs.Ythpockgijchfgaa
