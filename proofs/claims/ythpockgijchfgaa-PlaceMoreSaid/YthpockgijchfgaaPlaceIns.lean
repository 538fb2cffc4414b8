/-
  Layer 15: the library's stable sort, of at most 12 disks.
-/
import Derived.Test.YthpockgijchfgaaPlaceW
import Derived.RegionTactic
namespace Go.Proofs.Ythpockgijchfgaa
open Go.RowKit Go.Sort

def ival (i : Nat) : Value := .int .i64 (i : Int)

set_option maxRecDepth 100000 in
set_option maxHeartbeats 4000000 in
theorem insc_any (w : World) (L b o m c0 g n cap base : Nat) (l : List Spot) (xs : List Nat) (hL : w.cell? ⟨L, 0, none⟩ = some (.slice (some ⟨b, o, none⟩) m c0)) (hS : Sln w (.slice (some ⟨b, o, none⟩) m c0) 2 (l.map Spot.cells))
    (hgL : L ≠ g) (hgb : b ≠ g) (hown : w.ownsRow base 3 1 (.slice (some ⟨g, 0, none⟩) n cap) n (xs.map ival)) (hx : ∀ x ∈ xs, x < l.length) (hr : xs.Pairwise (· < ·)) (hl : l.length ≤ 12) (hn0 : 0 < n) (hn1 : n ≤ 12) :
    Calls Try.prog 42 #[.slice (some ⟨g, 0, none⟩) n cap, .int .i64 0, .int .i64 n, .func (.func 21) #[] #[.pointer (some ⟨L, 0, none⟩)]] w fun e w' => e = .returned (.tuple #[]) ∧
      ∃ ys : List Nat, ys.Perm xs ∧ ys.Pairwise (Ahead l) ∧ w'.ownsRow base 3 1 (.slice (some ⟨g, 0, none⟩) n cap) n (ys.map ival) ∧ Chg (· = g) w w' := by
  have hlen : xs.length = n := by have := hown.1; simpa using this
  go_enter Try.func42, Try.ntmps42
  go_wp2_with fail
  go_loopw [8] (fun iv wr => ∃ (k : Nat) (S : List Nat), 1 ≤ k ∧ k ≤ n ∧ iv = .int .i64 (k : Int) ∧ S.length = k ∧ S.Perm (xs.take k) ∧ S.Pairwise (Ahead l) ∧ wr.ownsRow base 3 1 (.slice (some ⟨g, 0, none⟩) n cap) n ((S ++ xs.drop k).map ival) ∧ Chg (· = g) w wr) (fun iv _ => n - (intOf iv).toNat)
  case atStart =>
    refine ⟨1, xs.take 1, Nat.le_refl _, hn0, rfl, by simp; omega, List.Perm.refl _, ?_, by rw [List.take_append_drop]; exact hown, Chg.refl _ _⟩
    cases xs with
    | nil => exact List.Pairwise.nil
    | cons x r => simp
  case round =>
    obtain ⟨k, S, hk1, hkn, rfl, hSl, hSp, hSA, hown, hC⟩ := hrel
    by_cases hlt : k < n
    · have hkx : k < xs.length := by omega
      have hdrop : xs.drop k = xs[k] :: xs.drop (k + 1) := List.drop_eq_getElem_cons hkx
      have hxl : xs[k] < l.length := hx _ (List.getElem_mem hkx)
      have hbelow : ∀ y ∈ S, y < xs[k] := fun y hy => by
        have hy' := hSp.mem_iff.1 hy
        obtain ⟨i, hi⟩ := List.mem_iff_getElem?.1 hy'
        rw [List.getElem?_take] at hi
        split at hi
        · rename_i hik
          rw [List.getElem?_eq_getElem (by omega), Option.some.injEq] at hi
          rw [← hi]
          exact List.pairwise_iff_getElem.1 hr i k (by omega) hkx hik
        · cases hi
      have hSin : ∀ y ∈ S, y < l.length := fun y hy => hx y (List.mem_of_mem_take (hSp.mem_iff.1 hy))
      have htake : (xs.take (k + 1)) = xs.take k ++ [xs[k]] := List.take_succ_eq_append_getElem hkx
      have hrl : (xs.drop (k + 1)).length = n - (k + 1) := by simp; omega
      rw [hdrop, ← insAt_top] at hown
      obtain ⟨rest, hrest⟩ : ∃ r, r = xs.drop (k + 1) := ⟨_, rfl⟩
      rw [← hrest] at hdrop hown hrl
      have H0 := Lib.hid hrest
      clear hrest
      generalize xs[k] = x at *
      have H1 := Lib.hid hdrop
      have H2 := Lib.hid htake
      clear hdrop htake
      subst hSl
      go_wp2_with fail
      go_loopw [9] (fun jv wx => ∃ j : Nat, j ≤ S.length ∧ jv = .int .i64 (j : Int) ∧ wx.ownsRow base 3 1 (.slice (some ⟨g, 0, none⟩) n cap) n ((insAt S x rest j).map ival) ∧ (∀ y ∈ S.drop j, (spotAt l y).free < (spotAt l x).free) ∧ Chg (· = g) w wx) (fun jv _ => (intOf jv).toNat)
      case atStart => exact ⟨S.length, Nat.le_refl _, rfl, hown, by simp, hC⟩
      case round =>
        obtain ⟨j, hj, rfl, hown2, hd, hC2⟩ := hrel
        have hL2 : wr.cell? ⟨L, 0, none⟩ = some (.slice (some ⟨b, o, none⟩) m c0) := (hC2.cell (p := ⟨L, 0, none⟩) (cell_lt hL) hgL).trans hL
        have hS2 := hS.chg hC2 (fun b' o' n' c' hv _ hh => by
          simp only [Value.slice.injEq, Option.some.injEq, Addr.mk.injEq] at hv
          exact hgb (hv.1.1.trans hh))
        have rg : ∀ {p : Addr} {u : Value}, wr.cell? p = some u → ∀ d os, (grow (redrawn wr d) os).cell? p = some u := fun h d os => (Ext.cell (ext_regrown wr d os) (cell_lt h)).trans h
        rcases Nat.eq_zero_or_pos j with h0 | h0
        · subst h0
          have hfin := insAt_sorted hSA hbelow (Nat.zero_le _) hd (fun k h => by omega)
          go_wp2_with fail
          refine wp_region_quiet_ext (by kernel_rfl) (by kernel_rfl) ?_
          repeat (go_big_quiet_step (fail))
          refine wpQuiet_nil ?_
          intro W8 hE8
          go_wp2_with fail
          go_roundw
          case rel =>
            refine ⟨S.length + 1, insAt S x [] 0, by omega, by omega, by go_num, ?_, ?_, hfin, ?_, ?_⟩
            · rw [insAt_len (Nat.zero_le _)]; rfl
            · rw [H2.out]; exact (insAt_perm (rest := [])).trans (hSp.append_right _)
            · rw [← H0.out, ← insAt_rest]; exact own_chg hown2 (Ext.chg (S := fun _ => False) hE8) (fun _ h => h.elim)
            · exact hC2.ext_trans hE8
          case measure => simp [intOf]; omega
        · obtain ⟨i, rfl⟩ : ∃ i, j = i + 1 := ⟨j - 1, by omega⟩
          have hi : i < S.length := by omega
          have hfin : ¬ (spotAt l S[i]).free < (spotAt l x).free → (insAt S x [] (i + 1)).Pairwise (Ahead l) := fun hn => insAt_sorted hSA hbelow hj hd (fun k h y hy => by
            obtain rfl : k = i := by omega
            rw [List.getElem?_eq_getElem hi, Option.some.injEq] at hy
            rw [← hy]; exact hn)
          have hstep : (spotAt l S[i]).free < (spotAt l x).free → ∀ y ∈ S.drop i, (spotAt l y).free < (spotAt l x).free := fun hlt y hy => by
            rw [List.drop_eq_getElem_cons hi] at hy
            rcases List.mem_cons.1 hy with rfl | hy
            · exact hlt
            · exact hd y hy
          have hswap := insAt_swap (rest := rest) (x := x) hi
          have g1 : (insAt S x rest (i + 1))[i + 1]? = some x := insAt_x hj
          have g0 := insAt_ahead (rest := rest) (x := x) hi
          have hyl := hSin _ (List.getElem_mem hi)
          have hmlen : ((insAt S x rest (i + 1)).map ival).length = n := by have := hown2.1; simpa using this
          generalize S[i] = y at *
          have r1 : wr.cell? ⟨g, i + 1, none⟩ = some (.int .i64 (x : Int)) := by rw [hown2.cellAt (i + 1) (by omega), List.getElem?_map, g1]; rfl
          have r0 : wr.cell? ⟨g, i, none⟩ = some (.int .i64 (y : Int)) := by rw [hown2.cellAt i (by omega), List.getElem?_map, g0]; rfl
          have q1 := rg r1
          have q0 := rg r0
          have cw : ∀ d os, Calls Try.prog 21 #[.int .i64 x, .int .i64 y, .pointer (some ⟨L, 0, none⟩)] (grow (redrawn wr d) os) fun e w'' => e = .returned (.int .i64 (Lib.compareInt (spotAt l y).free (spotAt l x).free)) ∧ ∃ p : Regrown, w'' = grow (redrawn wr p.d) p.os := fun d os =>
            Calls.ext_of (dis1_any _ L b o m c0 l (rg hL2 d os) (hS2.ext (ext_regrown wr d os)) x y hxl hyl hl)
          go_wp2_with fail
          refine wp_region_quiet_ext (by kernel_rfl) (by kernel_rfl) ?_
          repeat (go_big_quiet_step (first | with_reducible exact cw _ _))
          refine wpQuiet_nil ?_
          intro W8 hE8
          have hfr := hown2.frozenAt
          replace hown2 := own_chg hown2 (Ext.chg (S := fun _ => False) hE8) (fun _ h => h.elim)
          by_cases hc : (spotAt l y).free < (spotAt l x).free
          · have t1 : Lib.compareInt (spotAt l y).free (spotAt l x).free < 0 := by unfold Lib.compareInt; rw [if_pos hc]; decide
            have hcr := hstep hc
            clear hfin hstep hd cw q1 q0 r1 r0 rg
            have r1 : W8.cell? ⟨g, i + 1, none⟩ = some (.int .i64 (x : Int)) := by rw [hown2.cellAt (i + 1) (by omega), List.getElem?_map, g1]; rfl
            have r0 : W8.cell? ⟨g, i, none⟩ = some (.int .i64 (y : Int)) := by rw [hown2.cellAt i (by omega), List.getElem?_map, g0]; rfl
            have f1 := hown2.frozenAt (i + 1)
            have f0 := hown2.frozenAt i
            go_wp2_with fail
            go_region
            have hst := ((hown2.stored (i + 1) (ival y)).1.stored i (ival x)).1
            rw [← List.map_set, ← List.map_set, hswap] at hst
            have hCs : Chg (· = g) w ((W8.setCell ⟨g, i + 1, none⟩ (ival y)).setCell ⟨g, i, none⟩ (ival x)) := ((hC2.ext_trans hE8).setCell (.inl rfl) _).setCell (.inl rfl) _
            unfold ival at hst hCs
            generalize (W8.setCell ⟨g, i + 1, none⟩ (.int .i64 (y : Int))).setCell ⟨g, i, none⟩ (.int .i64 (x : Int)) = W9 at hst hCs ⊢
            go_wp2_with fail
            go_roundw
            case rel => exact ⟨i, by omega, by go_num, hst.drew, hcr, hCs.drew⟩
            case measure => simp [intOf]
          · have t1 : ¬ Lib.compareInt (spotAt l y).free (spotAt l x).free < 0 := by
              unfold Lib.compareInt; rw [if_neg hc]; split <;> omega
            have hcr := hfin (by omega)
            clear hfin hstep hd cw q1 q0 r1 r0 rg
            go_wp2_with fail
            go_roundw
            case rel =>
              refine ⟨S.length + 1, insAt S x [] (i + 1), by omega, by omega, by go_num, ?_, ?_, hcr, ?_, ?_⟩
              · rw [insAt_len hj]; rfl
              · rw [H2.out]; exact (insAt_perm (rest := [])).trans (hSp.append_right _)
              · rw [← H0.out, ← insAt_rest]; exact hown2
              · exact hC2.ext_trans hE8
            case measure => simp [intOf]; omega
    · have hge : k = n := by omega
      subst hge
      rw [List.drop_of_length_le (by omega), List.append_nil] at hown
      rw [List.take_of_length_le (by omega)] at hSp
      go_wp2_with fail
      go_end0
      exact ⟨rfl, S, hSp, hSA, hown, hC⟩
end Go.Proofs.Ythpockgijchfgaa
