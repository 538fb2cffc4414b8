/-
  Part 13 of what the law leans on.
-/
import Derived.Test.YtapodcmjggmgmaaGreatDoorST1
import Derived.Test.YtapodcmjggmgmaaGreatDoorST2
import Derived.Test.YtapodcmjggmgmaaGreatDoorST4
import Derived.Lib.OwnBridge
import Derived.Sort.OwnSortedInts
import Derived.Test.YtapodcmjggmgmaaGreatDoorChecked
import Derived.BigQuiet
import Derived.WalkSpells
import Derived.WalkLawsBesides
import Derived.Test.YtapodcmjggmgmaaGreatDoorRows
import Derived.WalkKit
import Derived.ProofKit
import Derived.OpenShut
import Derived.ShutString
import Derived.Deep.Slices
import Derived.RegionTactic
set_option linter.unusedVariables false
set_option linter.unusedSimpArgs false
set_option linter.unusedSectionVars false
namespace Go.Proofs.YtapodcmjggmgmaaGreatDoor
structure Cmd where
  kind : Int
  client : Int
  seq : Int
  name : ByteArray
  blob : Nat
  size : Int
  sum : Nat
  disks : List Int
  pool : Int
  vol : Int
  at_ : Int
end Go.Proofs.YtapodcmjggmgmaaGreatDoor
namespace Go.Proofs.YtapodcmjggmgmaaGreatDoor
end Go.Proofs.YtapodcmjggmgmaaGreatDoor
namespace Go.Proofs.YtapodcmjggmgmaaGreatDoor
open Go.RowKit Go.Sort
section
variable {w : World} {base : Nat} {v : Value} {n : Nat} {zs : List Int}
def sortI (zs : List Int) : List Int := zs.mergeSort fun x y => decide (x ≤ y)
theorem sort_own (h : w.ownsRow base 3 1 v n (zs.map (Value.int .i64))) (hn : n ≤ 17592186043904) :
    Calls Tryz.prog 60 #[v] w fun e w' => e = .returned (.tuple #[]) ∧ w'.ownsRow base 3 1 v n ((sortI zs).map (Value.int .i64)) ∧ Chg (fun k => some k = v.ownBlock) w w' := by
  have hl : zs.length = n := by simpa using h.1
  have hsl : (sortI zs).length = zs.length := by unfold sortI; simp
  rcases h.2 with ⟨rfl, h0⟩ | ⟨g, cap, cur, rfl, hbase, hb, h1, h2, h3, h4⟩
  · subst h0
    have hz : zs = [] := List.eq_nil_of_length_eq_zero hl
    subst hz
    refine (Tryz.slices_Sort_int_none none 0 w).mono ?_
    rintro e w' ⟨rfl, rfl⟩
    exact ⟨rfl, by simpa [sortI] using h, Chg.refl _ _⟩
  · subst hl
    refine (Tryz.slices_Sort_int g 0 cap zs w (holds_of_blockI hb (by simpa using h4)) (lt_of_block hb) (by omega)).mono ?_
    rintro e w' ⟨rfl, q, os, rfl⟩
    refine ⟨rfl, ?_, Chg.of_grown (grownBy_sortedI _)⟩
    have := ownsRow_sortedI (n := q) (os := os) (ts := sortI zs) (cap := cap) hsl hbase hb h1 h2 h3
    exact this
end
end Go.Proofs.YtapodcmjggmgmaaGreatDoor
namespace Go.Proofs.YtapodcmjggmgmaaGreatDoor
open Go.RowKit Go.Sort
section
variable {w : World} {base : Nat} {v : Value} {n : Nat} {zs : List Int}
end
end Go.Proofs.YtapodcmjggmgmaaGreatDoor
namespace Go.Proofs.YtapodcmjggmgmaaGreatDoor
open Go.RowKit
section
variable (w : World) (c : Cmd) (dv : Value)
end
end Go.Proofs.YtapodcmjggmgmaaGreatDoor
namespace Go.Proofs.YtapodcmjggmgmaaGreatDoor
open Go.RowKit
end Go.Proofs.YtapodcmjggmgmaaGreatDoor
namespace Go.Proofs.YtapodcmjggmgmaaGreatDoor
end Go.Proofs.YtapodcmjggmgmaaGreatDoor
namespace Go.Proofs.YtapodcmjggmgmaaGreatDoor
structure Spot where
  up : Bool
  free : Int
def Spot.fits (s : Spot) (size : Int) : Bool := s.up && decide (size ≤ s.free)
def spotAt (l : List Spot) (i : Nat) : Spot := l.getD i ⟨false, 0⟩
def mayB (l : List Spot) (size : Int) (hv : List Int) (i : Nat) : Bool := (spotAt l i).fits size && !(hv.contains (i : Int))
def others (l : List Spot) (size : Int) (hv : List Int) (n : Nat) : List Nat := (List.range n).filter (mayB l size hv)
def Ahead (l : List Spot) (a b : Nat) : Prop := (spotAt l b).free < (spotAt l a).free ∨ (spotAt l a).free = (spotAt l b).free ∧ a < b
def Chosen (l : List Spot) (size copies : Int) (hv r : List Int) : Prop :=
  ∃ ys : List Nat, ys.Perm (others l size hv l.length) ∧ ys.Pairwise (Ahead l) ∧ r.Perm (hv ++ (if (hv.length : Int) < copies then (ys.take (copies - hv.length).toNat).map Int.ofNat else [])) ∧ r.Pairwise (· ≤ ·)
theorem others_succ (l : List Spot) (size : Int) (hv : List Int) (n : Nat) : others l size hv (n + 1) = others l size hv n ++ (if mayB l size hv n then [n] else []) := by
  unfold others
  rw [List.range_succ, List.filter_append]
  by_cases h : mayB l size hv n = true <;> simp [h]
theorem others_len (l : List Spot) (size : Int) (hv : List Int) (n : Nat) : (others l size hv n).length ≤ n := by
  have := List.length_filter_le (mayB l size hv) (List.range n)
  simpa [others] using this
theorem others_nodup (l : List Spot) (size : Int) (hv : List Int) (n : Nat) : (others l size hv n).Nodup := List.Nodup.sublist List.filter_sublist List.nodup_range
theorem others_lt {l : List Spot} {size : Int} {hv : List Int} {n i : Nat} (h : i ∈ others l size hv n) : i < n ∧ mayB l size hv i = true := by
  unfold others at h
  simpa using h
end Go.Proofs.YtapodcmjggmgmaaGreatDoor
namespace Go.Proofs.YtapodcmjggmgmaaGreatDoor
section
variable {l : List Spot}
theorem ahead_trans {a b c : Nat} (h : Ahead l a b) (h' : Ahead l b c) : Ahead l a c := by
  unfold Ahead at *; omega
def insAt (S : List Nat) (x : Nat) (rest : List Nat) (j : Nat) : List Nat := S.take j ++ x :: (S.drop j ++ rest)
theorem insAt_len {S rest : List Nat} {x j : Nat} (hj : j ≤ S.length) : (insAt S x rest j).length = S.length + rest.length + 1 := by
  unfold insAt; simp; omega
theorem insAt_x {S rest : List Nat} {x j : Nat} (hj : j ≤ S.length) : (insAt S x rest j)[j]? = some x := by
  unfold insAt
  rw [List.getElem?_append_right (by simp; omega), List.length_take, Nat.min_eq_left hj, Nat.sub_self]; rfl
theorem insAt_ahead {S rest : List Nat} {x j : Nat} (hj : j < S.length) : (insAt S x rest (j + 1))[j]? = some S[j] := by
  unfold insAt
  rw [List.getElem?_append_left (by simp; omega), List.getElem?_take, if_pos (by omega), List.getElem?_eq_getElem hj]
theorem insAt_swap {S rest : List Nat} {x j : Nat} (hj : j < S.length) : ((insAt S x rest (j + 1)).set (j + 1) S[j]).set j x = insAt S x rest j := by
  apply List.ext_getElem?
  intro i
  have hl : (insAt S x rest (j + 1)).length = S.length + rest.length + 1 := insAt_len (by omega)
  rw [List.getElem?_set, List.getElem?_set]
  simp only [List.length_set, hl]
  unfold insAt
  by_cases h1 : j = i
  · subst h1
    rw [if_pos rfl, if_pos (by omega), List.getElem?_append_right (by simp; omega), List.length_take, Nat.min_eq_left (by omega), Nat.sub_self]; rfl
  · rw [if_neg h1]
    by_cases h2 : j + 1 = i
    · subst h2
      rw [if_pos rfl, if_pos (by omega), List.getElem?_append_right (by simp; omega), List.length_take, Nat.min_eq_left (by omega), show j + 1 - j = 1 by omega, List.getElem?_cons_succ, List.getElem?_append_left (by simp; omega), List.getElem?_drop, Nat.add_zero, List.getElem?_eq_getElem hj]
    · rw [if_neg h2]
      by_cases h3 : i < j
      · rw [List.getElem?_append_left (by simp; omega), List.getElem?_append_left (by simp; omega), List.getElem?_take, List.getElem?_take, if_pos (by omega), if_pos h3]
      · rw [List.getElem?_append_right (by simp; omega), List.getElem?_append_right (by simp; omega), List.length_take, List.length_take, Nat.min_eq_left (by omega), Nat.min_eq_left (by omega)]
        obtain ⟨k, rfl⟩ : ∃ k, i = j + 2 + k := ⟨i - (j + 2), by omega⟩
        rw [show j + 2 + k - (j + 1) = k + 1 by omega, show j + 2 + k - j = k + 1 + 1 by omega, List.getElem?_cons_succ, List.getElem?_cons_succ]
        rw [List.drop_eq_getElem_cons hj, List.cons_append, List.getElem?_cons_succ]
theorem insAt_perm {S rest : List Nat} {x j : Nat} : (insAt S x [] j).Perm (S ++ [x]) := by
  unfold insAt
  rw [List.append_nil]
  have : (S.take j ++ x :: S.drop j).Perm (x :: (S.take j ++ S.drop j)) := List.perm_middle
  rw [List.take_append_drop] at this
  exact this.trans (List.perm_append_comm (l₁ := [x]) (l₂ := S))
theorem insAt_rest {S rest : List Nat} {x j : Nat} : insAt S x rest j = insAt S x [] j ++ rest := by unfold insAt; simp
theorem insAt_top {S rest : List Nat} {x : Nat} : insAt S x rest S.length = S ++ x :: rest := by unfold insAt; simp
theorem insAt_sorted {S : List Nat} {x j : Nat} (hS : S.Pairwise (Ahead l)) (hx : ∀ y ∈ S, y < x) (hj : j ≤ S.length) (h1 : ∀ y ∈ S.drop j, (spotAt l y).free < (spotAt l x).free)
    (h2 : ∀ k, j = k + 1 → ∀ y, S[k]? = some y → ¬ (spotAt l y).free < (spotAt l x).free) : (insAt S x [] j).Pairwise (Ahead l) := by
  unfold insAt
  rw [List.append_nil]
  have hS' := hS
  rw [← List.take_append_drop j S, List.pairwise_append] at hS'
  obtain ⟨p1, p2, p3⟩ := hS'
  have hd : ∀ y ∈ S.drop j, Ahead l x y := fun y hy => .inl (h1 y hy)
  have ht : ∀ y ∈ S.take j, Ahead l y x := by
    cases j with
    | zero => intro y hy; simp at hy
    | succ k =>
      have hk : k < S.length := by omega
      have hlast := h2 k rfl S[k] (List.getElem?_eq_getElem hk)
      have hb : S[k] < x := hx _ (List.getElem_mem hk)
      have hA : Ahead l S[k] x := by unfold Ahead; omega
      intro y hy
      obtain ⟨i, hi⟩ := List.mem_iff_getElem?.1 hy
      rw [List.getElem?_take] at hi
      split at hi
      · rename_i hik
        by_cases e : i = k
        · subst e
          rw [List.getElem?_eq_getElem hk, Option.some.injEq] at hi
          rw [← hi]; exact hA
        · have hi' : i < S.length := by omega
          rw [List.getElem?_eq_getElem hi', Option.some.injEq] at hi
          rw [← hi]
          exact ahead_trans (List.pairwise_iff_getElem.1 hS i k hi' hk (by omega)) hA
      · cases hi
  refine List.pairwise_append.2 ⟨p1, List.pairwise_cons.2 ⟨hd, p2⟩, fun a ha b hb => ?_⟩
  rcases List.mem_cons.1 hb with rfl | hb
  · exact ht a ha
  · exact p3 a ha b hb
end
end Go.Proofs.YtapodcmjggmgmaaGreatDoor
namespace Go.Proofs.YtapodcmjggmgmaaGreatDoor
open Go.ChangeShapes Go.WideShapes Go.ChangeAt Go.RowKit
theorem own : ownKnob Tryz.prog.godebug = none := by kernel_rfl
theorem i64_of_wf {x : Int} (h : (Lit.int .i64 x).wf = true) : -9223372036854775808 ≤ x ∧ x ≤ 9223372036854775807 := bounds_i64 h
section
variable {H : Type} {enc : TypeId × Value → H} {P : Program} {W W' : World}
theorem trodAll_stays (hl : laidOutB P = true) (hb : Below W.heap.size W W') : ∀ (ts : List TypeId) (vs : List Value) (ds : List (DataW H)) (p : List MemPlace),
    (∀ t ∈ ts, P.readableRec t = true ∧ t < P.types.size) → (∀ x ∈ p, x.block < W.heap.size) →
    DataW.TrodAll enc P W 0 (fun _ => true) true ts vs ds p → DataW.TrodAll enc P W' 0 (fun b => decide (b < W.heap.size)) true ts vs ds p
  | [], vs, ds, p, _, _, h => by
    obtain ⟨rfl, rfl, rfl⟩ : vs = [] ∧ ds = [] ∧ p = [] := trodAll_nil h
    exact trodAll_mk0
  | t :: ts, vs, ds, p, ht, hp, h => by
    obtain ⟨v, vs', d, ds', p0, q0, rfl, rfl, rfl, h0, r0⟩ := trodAll_cons h
    have h1 := ht t (List.mem_cons_self ..)
    exact trodAll_cons_mk (Below.trod hl h1.1 h1.2 h0 hb (fun x hx => hp x (List.mem_append_left _ hx)))
      (trodAll_stays hl hb ts vs' ds' q0 (fun t h => ht t (List.mem_cons_of_mem _ h)) (fun x hx => hp x (List.mem_append_right _ hx)) r0)
theorem law_post {f : Func} {s : ChangeSpec} {args : Array Value} {ds : List (DataW H)} {before : List MemPlace} {T : TypeId}
    (hW : DataW.Whole enc P f.params.toList s.vars false W args.toList ds [] before) (hvars : s.vars = [])
    (hspec : s.fn H (ds ++ []) = { results := [.lit (.bool true)], args := ds }) (hrt : f.resultTypes = #[T]) (hT : P.underlying T = some .bool)
    (hl : laidOutB P = true) (hpar : (f.params.toList.all fun t => P.readableRec t && decide (t < P.types.size)) = true) (hb : Below W.heap.size W W') :
    s.post enc P f false true false false W args (.bool true) W' := by
  have hlt : ∀ p ∈ before, p.block < W.heap.size := fun p hp => hW.lt p hp
  have hpar' : ∀ t ∈ f.params.toList, P.readableRec t = true ∧ t < P.types.size := fun t h => by
    have := List.all_eq_true.1 hpar t h
    simpa using this
  have hW0 := hW
  obtain ⟨p, q, hA, hV, rfl, _, _⟩ := hW
  rw [hvars] at hV
  obtain ⟨_, rfl⟩ := trodVars_none hV
  have hA' := trodAll_stays hl hb _ _ _ _ hpar' (fun x hx => hlt x (List.mem_append_left _ hx)) hA
  refine ⟨ds, [], p ++ [], [], p, [], hW0, ?_, ?_, ?_, hb.frame _, fun h => by cases h⟩
  · rw [hspec, hrt]
    exact trodAll_cons_mk (shut_bool hT _) trodAll_mk0
  · rw [hspec]; exact hA'
  · rw [hspec, hvars]; exact rfl
end
end Go.Proofs.YtapodcmjggmgmaaGreatDoor
namespace Go.Proofs.YtapodcmjggmgmaaGreatDoor
open Go.ChangeShapes Go.WideShapes Go.ChangeAt Go.RowKit
def Spot.cells (s : Spot) : List Value := [.bool s.up, .int .i64 s.free]
end Go.Proofs.YtapodcmjggmgmaaGreatDoor
namespace Go.Proofs.YtapodcmjggmgmaaGreatDoor
open Go.RowKit Go.Sort
theorem sfits_any (w : World) (s : Spot) (size : Int) : Calls Tryz.prog 55 #[.agg #[.bool s.up, .int .i64 s.free], .int .i64 size] w fun e w' => e = .returned (.bool (s.fits size)) ∧ Ext w w' := by
  have hB := At.new w 90 #[.bool s.up, .int .i64 s.free]
  have c0 := hB.cell 0
  have c1 := hB.cell 1
  simp at c0 c1
  unfold Spot.fits
  obtain ⟨up, free⟩ := s
  cases up
  · go_enter Tryz.func55, Tryz.ntmps55
    go_wp2
    go_ret
    exact ⟨by simp, (Ext.refl w).alloc _⟩
  · go_enter Tryz.func55, Tryz.ntmps55
    go_wp2
    go_ret
    exact ⟨by simp, (Ext.refl w).alloc _⟩
theorem spot_cells {w : World} {b o n c : Nat} {l : List Spot} (h : Sln w (.slice (some ⟨b, o, none⟩) n c) 2 (l.map Spot.cells)) {i : Nat} (hi : i < l.length) :
    w.cell? ⟨b, o + i * 2, none⟩ = some (.bool (spotAt l i).up) ∧ w.cell? ⟨b, o + i * 2 + 1, none⟩ = some (.int .i64 (spotAt l i).free) := by
  obtain ⟨A, c', hv, hx⟩ := h
  have hne : l.map Spot.cells ≠ [] := fun e => by
    have := List.map_eq_nil_iff.1 e
    subst this; simp at hi
  obtain ⟨b', o', rfl, hc⟩ := hx hne
  simp only [Value.slice.injEq, Option.some.injEq, Addr.mk.injEq, and_true] at hv
  obtain ⟨⟨rfl, rfl⟩, _, _⟩ := hv
  have hg : (l.map Spot.cells)[i]? = some (spotAt l i).cells := by
    rw [List.getElem?_map, List.getElem?_eq_getElem hi]
    unfold spotAt
    rw [List.getD_eq_getElem?_getD, List.getElem?_eq_getElem hi]; rfl
  exact ⟨hc i _ hg 0 _ rfl, hc i _ hg 1 _ rfl⟩
set_option maxHeartbeats 1000000 in
theorem dis1_any (w : World) (L b o n c : Nat) (l : List Spot) (hL : w.cell? ⟨L, 0, none⟩ = some (.slice (some ⟨b, o, none⟩) n c)) (hS : Sln w (.slice (some ⟨b, o, none⟩) n c) 2 (l.map Spot.cells)) (x y : Nat) (hx : x < l.length) (hy : y < l.length) (hl : l.length ≤ 12) :
    Calls Tryz.prog 58 #[.int .i64 x, .int .i64 y, .pointer (some ⟨L, 0, none⟩)] w fun e w' => e = .returned (.int .i64 (Lib.compareInt (spotAt l y).free (spotAt l x).free)) ∧ Ext w w' := by
  have hxc := (spot_cells hS hx).2
  have hyc := (spot_cells hS hy).2
  have hn : n = l.length := by
    obtain ⟨A, c', hv, _⟩ := hS
    simp only [Value.slice.injEq, List.length_map] at hv
    exact hv.2.1
  subst hn
  have rg : ∀ {p : Addr} {u : Value}, w.cell? p = some u → ∀ d os, (grow (redrawn w d) os).cell? p = some u := fun h d os => (Ext.cell (ext_regrown w d os) (cell_lt h)).trans h
  have r1 := rg hL
  have r2 := rg hxc
  have r3 := rg hyc
  have cw : ∀ d os, Calls Tryz.prog 59 #[.int .i64 (spotAt l y).free, .int .i64 (spotAt l x).free] (grow (redrawn w d) os) fun e w'' => e = .returned (.int .i64 (Lib.compareInt (spotAt l y).free (spotAt l x).free)) ∧ ∃ p : Regrown, w'' = grow (redrawn w p.d) p.os := fun d os =>
    (Tryz.cmp_Compare_int _ _ _).mono (by rintro e w' ⟨rfl, rfl⟩; exact ⟨rfl, ⟨⟨d, os⟩, rfl⟩⟩)
  clear rg hL hS hxc hyc
  go_enter Tryz.func58, Tryz.ntmps58
  go_wp2_with fail
  refine wp_region_quiet_ext (by kernel_rfl) (by kernel_rfl) ?_
  repeat (go_big_quiet_step (first | with_reducible exact cw _ _))
  refine wpQuiet_nil ?_
  intro W8 hE8
  go_wp2_with fail
  go_ret
  exact ⟨rfl, hE8⟩
end Go.Proofs.YtapodcmjggmgmaaGreatDoor
namespace Go.Proofs.YtapodcmjggmgmaaGreatDoor
open Go.RowKit Go.Sort
def ival (i : Nat) : Value := .int .i64 (i : Int)
set_option maxRecDepth 100000 in
set_option maxHeartbeats 4000000 in
theorem insc_any (w : World) (L b o m c0 g n cap base : Nat) (l : List Spot) (xs : List Nat) (hL : w.cell? ⟨L, 0, none⟩ = some (.slice (some ⟨b, o, none⟩) m c0)) (hS : Sln w (.slice (some ⟨b, o, none⟩) m c0) 2 (l.map Spot.cells))
    (hgL : L ≠ g) (hgb : b ≠ g) (hown : w.ownsRow base 3 1 (.slice (some ⟨g, 0, none⟩) n cap) n (xs.map ival)) (hx : ∀ x ∈ xs, x < l.length) (hr : xs.Pairwise (· < ·)) (hl : l.length ≤ 12) (hn0 : 0 < n) (hn1 : n ≤ 12) :
    Calls Tryz.prog 130 #[.slice (some ⟨g, 0, none⟩) n cap, .int .i64 0, .int .i64 n, .func (.func 58) #[] #[.pointer (some ⟨L, 0, none⟩)]] w fun e w' => e = .returned (.tuple #[]) ∧
      ∃ ys : List Nat, ys.Perm xs ∧ ys.Pairwise (Ahead l) ∧ w'.ownsRow base 3 1 (.slice (some ⟨g, 0, none⟩) n cap) n (ys.map ival) ∧ Chg (· = g) w w' := by
  have hlen : xs.length = n := by have := hown.1; simpa using this
  go_enter Tryz.func130, Tryz.ntmps130
  go_wp2_with fail
  go_loopw [8] (fun iv wr => ∃ (k : Nat) (S : List Nat), 1 ≤ k ∧ k ≤ n ∧ iv = .int .i64 (k : Int) ∧ S.length = k ∧ S.Perm (xs.take k) ∧ S.Pairwise (Ahead l) ∧ wr.ownsRow base 3 1 (.slice (some ⟨g, 0, none⟩) n cap) n ((S ++ xs.drop k).map ival) ∧ Chg (· = g) w wr) (fun iv _ => n - (intOf iv).toNat)
  case atStart =>
    refine ⟨1, xs.take 1, Nat.le_refl _, hn0, rfl, by simp; omega, List.Perm.refl _, ?_, by rw [List.take_append_drop]; exact hown, Chg.refl _ _⟩
    cases xs with
    | nil => exact List.Pairwise.nil
    | cons x r => simp
  case round =>
    obtain ⟨k, S, hk1, hkn, rfl, hSl, hSp, hSA, hown, hC⟩ := hrel
    by_cases hlt : k < n
    · have hkx : k < xs.length := by omega
      have hdrop : xs.drop k = xs[k] :: xs.drop (k + 1) := List.drop_eq_getElem_cons hkx
      have hxl : xs[k] < l.length := hx _ (List.getElem_mem hkx)
      have hbelow : ∀ y ∈ S, y < xs[k] := fun y hy => by
        have hy' := hSp.mem_iff.1 hy
        obtain ⟨i, hi⟩ := List.mem_iff_getElem?.1 hy'
        rw [List.getElem?_take] at hi
        split at hi
        · rename_i hik
          rw [List.getElem?_eq_getElem (by omega), Option.some.injEq] at hi
          rw [← hi]
          exact List.pairwise_iff_getElem.1 hr i k (by omega) hkx hik
        · cases hi
      have hSin : ∀ y ∈ S, y < l.length := fun y hy => hx y (List.mem_of_mem_take (hSp.mem_iff.1 hy))
      have htake : (xs.take (k + 1)) = xs.take k ++ [xs[k]] := List.take_succ_eq_append_getElem hkx
      have hrl : (xs.drop (k + 1)).length = n - (k + 1) := by simp; omega
      rw [hdrop, ← insAt_top] at hown
      obtain ⟨rest, hrest⟩ : ∃ r, r = xs.drop (k + 1) := ⟨_, rfl⟩
      rw [← hrest] at hdrop hown hrl
      have H0 := Lib.hid hrest
      clear hrest
      generalize xs[k] = x at *
      have H1 := Lib.hid hdrop
      have H2 := Lib.hid htake
      clear hdrop htake
      subst hSl
      go_wp2_with fail
      go_loopw [9] (fun jv wx => ∃ j : Nat, j ≤ S.length ∧ jv = .int .i64 (j : Int) ∧ wx.ownsRow base 3 1 (.slice (some ⟨g, 0, none⟩) n cap) n ((insAt S x rest j).map ival) ∧ (∀ y ∈ S.drop j, (spotAt l y).free < (spotAt l x).free) ∧ Chg (· = g) w wx) (fun jv _ => (intOf jv).toNat)
      case atStart => exact ⟨S.length, Nat.le_refl _, rfl, hown, by simp, hC⟩
      case round =>
        obtain ⟨j, hj, rfl, hown2, hd, hC2⟩ := hrel
        have hL2 : wr.cell? ⟨L, 0, none⟩ = some (.slice (some ⟨b, o, none⟩) m c0) := (hC2.cell (p := ⟨L, 0, none⟩) (cell_lt hL) hgL).trans hL
        have hS2 := hS.chg hC2 (fun b' o' n' c' hv _ hh => by
          simp only [Value.slice.injEq, Option.some.injEq, Addr.mk.injEq] at hv
          exact hgb (hv.1.1.trans hh))
        have rg : ∀ {p : Addr} {u : Value}, wr.cell? p = some u → ∀ d os, (grow (redrawn wr d) os).cell? p = some u := fun h d os => (Ext.cell (ext_regrown wr d os) (cell_lt h)).trans h
        rcases Nat.eq_zero_or_pos j with h0 | h0
        · subst h0
          have hfin := insAt_sorted hSA hbelow (Nat.zero_le _) hd (fun k h => by omega)
          go_wp2_with fail
          refine wp_region_quiet_ext (by kernel_rfl) (by kernel_rfl) ?_
          repeat (go_big_quiet_step (fail))
          refine wpQuiet_nil ?_
          intro W8 hE8
          go_wp2_with fail
          go_roundw
          case rel =>
            refine ⟨S.length + 1, insAt S x [] 0, by omega, by omega, by go_num, ?_, ?_, hfin, ?_, ?_⟩
            · rw [insAt_len (Nat.zero_le _)]; rfl
            · rw [H2.out]; exact (insAt_perm (rest := [])).trans (hSp.append_right _)
            · rw [← H0.out, ← insAt_rest]; exact own_chg hown2 (Ext.chg (S := fun _ => False) hE8) (fun _ h => h.elim)
            · exact hC2.ext_trans hE8
          case measure => simp [intOf]; omega
        · obtain ⟨i, rfl⟩ : ∃ i, j = i + 1 := ⟨j - 1, by omega⟩
          have hi : i < S.length := by omega
          have hfin : ¬ (spotAt l S[i]).free < (spotAt l x).free → (insAt S x [] (i + 1)).Pairwise (Ahead l) := fun hn => insAt_sorted hSA hbelow hj hd (fun k h y hy => by
            obtain rfl : k = i := by omega
            rw [List.getElem?_eq_getElem hi, Option.some.injEq] at hy
            rw [← hy]; exact hn)
          have hstep : (spotAt l S[i]).free < (spotAt l x).free → ∀ y ∈ S.drop i, (spotAt l y).free < (spotAt l x).free := fun hlt y hy => by
            rw [List.drop_eq_getElem_cons hi] at hy
            rcases List.mem_cons.1 hy with rfl | hy
            · exact hlt
            · exact hd y hy
          have hswap := insAt_swap (rest := rest) (x := x) hi
          have g1 : (insAt S x rest (i + 1))[i + 1]? = some x := insAt_x hj
          have g0 := insAt_ahead (rest := rest) (x := x) hi
          have hyl := hSin _ (List.getElem_mem hi)
          have hmlen : ((insAt S x rest (i + 1)).map ival).length = n := by have := hown2.1; simpa using this
          generalize S[i] = y at *
          have r1 : wr.cell? ⟨g, i + 1, none⟩ = some (.int .i64 (x : Int)) := by rw [hown2.cellAt (i + 1) (by omega), List.getElem?_map, g1]; rfl
          have r0 : wr.cell? ⟨g, i, none⟩ = some (.int .i64 (y : Int)) := by rw [hown2.cellAt i (by omega), List.getElem?_map, g0]; rfl
          have q1 := rg r1
          have q0 := rg r0
          have cw : ∀ d os, Calls Tryz.prog 58 #[.int .i64 x, .int .i64 y, .pointer (some ⟨L, 0, none⟩)] (grow (redrawn wr d) os) fun e w'' => e = .returned (.int .i64 (Lib.compareInt (spotAt l y).free (spotAt l x).free)) ∧ ∃ p : Regrown, w'' = grow (redrawn wr p.d) p.os := fun d os =>
            Calls.ext_of (dis1_any _ L b o m c0 l (rg hL2 d os) (hS2.ext (ext_regrown wr d os)) x y hxl hyl hl)
          go_wp2_with fail
          refine wp_region_quiet_ext (by kernel_rfl) (by kernel_rfl) ?_
          repeat (go_big_quiet_step (first | with_reducible exact cw _ _))
          refine wpQuiet_nil ?_
          intro W8 hE8
          have hfr := hown2.frozenAt
          replace hown2 := own_chg hown2 (Ext.chg (S := fun _ => False) hE8) (fun _ h => h.elim)
          by_cases hc : (spotAt l y).free < (spotAt l x).free
          · have t1 : Lib.compareInt (spotAt l y).free (spotAt l x).free < 0 := by unfold Lib.compareInt; rw [if_pos hc]; decide
            have hcr := hstep hc
            clear hfin hstep hd cw q1 q0 r1 r0 rg
            have r1 : W8.cell? ⟨g, i + 1, none⟩ = some (.int .i64 (x : Int)) := by rw [hown2.cellAt (i + 1) (by omega), List.getElem?_map, g1]; rfl
            have r0 : W8.cell? ⟨g, i, none⟩ = some (.int .i64 (y : Int)) := by rw [hown2.cellAt i (by omega), List.getElem?_map, g0]; rfl
            have f1 := hown2.frozenAt (i + 1)
            have f0 := hown2.frozenAt i
            go_wp2_with fail
            go_region
            have hst := ((hown2.stored (i + 1) (ival y)).1.stored i (ival x)).1
            rw [← List.map_set, ← List.map_set, hswap] at hst
            have hCs : Chg (· = g) w ((W8.setCell ⟨g, i + 1, none⟩ (ival y)).setCell ⟨g, i, none⟩ (ival x)) := ((hC2.ext_trans hE8).setCell (.inl rfl) _).setCell (.inl rfl) _
            unfold ival at hst hCs
            generalize (W8.setCell ⟨g, i + 1, none⟩ (.int .i64 (y : Int))).setCell ⟨g, i, none⟩ (.int .i64 (x : Int)) = W9 at hst hCs ⊢
            go_wp2_with fail
            go_roundw
            case rel => exact ⟨i, by omega, by go_num, hst.drew, hcr, hCs.drew⟩
            case measure => simp [intOf]
          · have t1 : ¬ Lib.compareInt (spotAt l y).free (spotAt l x).free < 0 := by
              unfold Lib.compareInt; rw [if_neg hc]; split <;> omega
            have hcr := hfin (by omega)
            clear hfin hstep hd cw q1 q0 r1 r0 rg
            go_wp2_with fail
            go_roundw
            case rel =>
              refine ⟨S.length + 1, insAt S x [] (i + 1), by omega, by omega, by go_num, ?_, ?_, hcr, ?_, ?_⟩
              · rw [insAt_len hj]; rfl
              · rw [H2.out]; exact (insAt_perm (rest := [])).trans (hSp.append_right _)
              · rw [← H0.out, ← insAt_rest]; exact hown2
              · exact hC2.ext_trans hE8
            case measure => simp [intOf]; omega
    · have hge : k = n := by omega
      subst hge
      rw [List.drop_of_length_le (by omega), List.append_nil] at hown
      rw [List.take_of_length_le (by omega)] at hSp
      go_wp2_with fail
      go_end0
      exact ⟨rfl, S, hSp, hSA, hown, hC⟩
end Go.Proofs.YtapodcmjggmgmaaGreatDoor
namespace Go.Proofs.YtapodcmjggmgmaaGreatDoor
open Go.RowKit Go.Sort
theorem insc_none (w : World) (v fv : Value) : Calls Tryz.prog 130 #[v, .int .i64 0, .int .i64 0, fv] w fun e w' => e = .returned (.tuple #[]) ∧ w' = w := by
  go_enter Tryz.func130, Tryz.ntmps130
  go_wp2_with fail
  go_loopw [8] (fun iv wr => iv = .int .i64 1 ∧ wr = w) (fun _ _ => 0)
  case atStart => exact ⟨rfl, rfl⟩
  case round =>
    obtain ⟨rfl, rfl⟩ := hrel
    go_wp2_with fail
    go_end0
    exact ⟨rfl, rfl⟩
set_option maxRecDepth 100000 in
theorem stablec_of (w : World) (v fv : Value) (n : Nat) (hn : n ≤ 12) (R : World → Prop)
    (hc : Calls Tryz.prog 130 #[v, .int .i64 0, .int .i64 n, fv] w fun e w' => e = .returned (.tuple #[]) ∧ R w') :
    Calls Tryz.prog 95 #[v, .int .i64 n, fv] w fun e w' => e = .returned (.tuple #[]) ∧ R w' := by
  go_enter Tryz.func95, Tryz.ntmps95
  go_wp2_with fail
  go_loopw [7, 8] (fun a b wr => a = .int .i64 0 ∧ b = .int .i64 20 ∧ wr = w) (fun _ _ _ => 0)
  case atStart => exact ⟨rfl, rfl, rfl⟩
  case round =>
    obtain ⟨rfl, rfl, rfl⟩ := hrel
    go_wp2_with fail
    refine hc.mono ?_
    rintro e w1 ⟨rfl, hR⟩
    go_wp2_with fail
    go_loopw [6, 7, 8, 9] (fun a _ _ _ wx => a = .int .i64 20 ∧ wx = w1) (fun _ _ _ _ _ => 0)
    case atStart => exact ⟨rfl, rfl⟩
    case round =>
      obtain ⟨rfl, rfl⟩ := hrel
      go_wp2_with fail
      go_end0
      exact ⟨rfl, hR⟩
set_option maxRecDepth 100000 in
theorem stable_any (w : World) (L b o m c0 n base : Nat) (v : Value) (l : List Spot) (xs : List Nat) (hL : w.cell? ⟨L, 0, none⟩ = some (.slice (some ⟨b, o, none⟩) m c0)) (hS : Sln w (.slice (some ⟨b, o, none⟩) m c0) 2 (l.map Spot.cells))
    (hgL : L < base) (hgb : b < base) (hown : w.ownsRow base 3 1 v n (xs.map ival)) (hx : ∀ x ∈ xs, x < l.length) (hr : xs.Pairwise (· < ·)) (hl : l.length ≤ 12) (hn1 : n ≤ 12) :
    Calls Tryz.prog 57 #[v, .func (.func 58) #[] #[.pointer (some ⟨L, 0, none⟩)]] w fun e w' => e = .returned (.tuple #[]) ∧
      ∃ ys : List Nat, ys.Perm xs ∧ ys.Pairwise (Ahead l) ∧ w'.ownsRow base 3 1 v n (ys.map ival) ∧ Chg (fun k => base ≤ k) w w' := by
  have hlen : xs.length = n := by have := hown.1; simpa using this
  have key : ∃ A c, v = .slice A n c ∧ Calls Tryz.prog 95 #[v, .int .i64 n, .func (.func 58) #[] #[.pointer (some ⟨L, 0, none⟩)]] w fun e w' => e = .returned (.tuple #[]) ∧
      ∃ ys : List Nat, ys.Perm xs ∧ ys.Pairwise (Ahead l) ∧ w'.ownsRow base 3 1 v n (ys.map ival) ∧ Chg (fun k => base ≤ k) w w' := by
    have nil : n = 0 → Calls Tryz.prog 95 #[v, .int .i64 n, .func (.func 58) #[] #[.pointer (some ⟨L, 0, none⟩)]] w fun e w' => e = .returned (.tuple #[]) ∧
      ∃ ys : List Nat, ys.Perm xs ∧ ys.Pairwise (Ahead l) ∧ w'.ownsRow base 3 1 v n (ys.map ival) ∧ Chg (fun k => base ≤ k) w w' := fun h0 => by
      have hxs : xs = [] := List.eq_nil_of_length_eq_zero (by omega)
      subst h0
      refine stablec_of w v _ 0 hn1 _ ((insc_none w v _).mono ?_)
      rintro e w' ⟨rfl, rfl⟩
      exact ⟨rfl, xs, List.Perm.refl _, by rw [hxs]; exact List.Pairwise.nil, hown, Chg.refl _ _⟩
    rcases hown.2 with ⟨rfl, h0⟩ | ⟨g, cap, cur, rfl, hbase, hg, _⟩
    · exact ⟨none, 0, by rw [h0], nil h0⟩
    · refine ⟨some ⟨g, 0, none⟩, cap, rfl, ?_⟩
      rcases Nat.eq_zero_or_pos n with h0 | h0
      · exact nil h0
      · refine stablec_of w _ _ n hn1 _ ((insc_any w L b o m c0 g n cap base l xs hL hS (by omega) (by omega) hown hx hr hl h0 hn1).mono ?_)
        rintro e w' ⟨rfl, ys, h1, h2, h3, h4⟩
        exact ⟨rfl, ys, h1, h2, h3, h4.mono fun k _ h => by have h' : k = g := h; show base ≤ k; omega⟩
  obtain ⟨A, c, rfl, hc⟩ := key
  go_enter Tryz.func57, Tryz.ntmps57
  go_wp2_with fail
  refine hc.mono ?_
  rintro e w1 ⟨rfl, hR⟩
  go_wp2_with fail
  go_end0
  exact ⟨rfl, hR⟩
end Go.Proofs.YtapodcmjggmgmaaGreatDoor
namespace Go.Proofs.YtapodcmjggmgmaaGreatDoor
open Go.RowKit Go.Sort
theorem pclone_any (w : World) (v : Value) (hl : List Int) (hH : Sl w v (hl.map (Value.int .i64))) (hb : hl.length ≤ 17592186043904) :
    Calls Tryz.prog 54 #[v] w fun e w' => ∃ v', e = .returned v' ∧ w'.ownsRow w.heap.size 3 1 v' hl.length (hl.map (Value.int .i64)) ∧ Ext w w' := by
  obtain ⟨A, c, rfl, hx⟩ := hH
  rw [List.length_map]
  by_cases hne : hl = []
  · subst hne
    cases A with
    | none =>
      refine (Tryz.slices_Clone_int_nil _ _ _).mono ?_
      rintro e w' ⟨rfl, rfl⟩
      exact ⟨_, rfl, ⟨rfl, .inl ⟨rfl, rfl⟩⟩, Ext.refl _⟩
    | some a =>
      refine (Tryz.slices_Clone_int_zero a c w).mono ?_
      rintro e w' ⟨v', rfl, h1, _, h2⟩
      exact ⟨_, rfl, h1, Ext.of_below h2⟩
  · obtain ⟨b, o, rfl, hc⟩ := hx (by simpa using hne)
    refine (Tryz.slices_Clone_int b o hl.length c hl w (Nat.le_refl _) (by omega) (fun j hj => ?_)).mono ?_
    · exact hc j _ (by rw [List.getElem?_map, List.getElem?_eq_getElem hj, List.getD_eq_getElem?_getD, List.getElem?_eq_getElem hj]; rfl)
    · rintro e w' ⟨v', rfl, h1, _, h2⟩
      rw [List.take_length] at h1
      exact ⟨_, rfl, h1, Ext.of_below h2⟩
theorem wpList_append_none {P : Program} {ops : Array Oper} {rest : List Oper} {o : Oper} {a : Act} {w : World} {Q : Exit → Act → World → Prop} (hgd : o.guard = none) (s x : Operand) (t : TypeId)
    (ho : o.op = .call { callee := .builtin .append, args := #[s, x], argTypes := #[t, t] }) (base : Nat) (e : TypeId) (i : TypeInfo) (size : Nat) (ht : P.underlying t = some (.slice e)) (hi : P.info? e = some i)
    (v : Value) (n : Nat) (xs : List Value) (hs : a.eval s = v) (hown : w.ownsRow base e size v n xs) (hx : a.eval x = .slice none 0 0)
    (h : wpList P ops Q rest (a.put o.dst v) w) : wpList P ops Q (o :: rest) a w :=
  wpList_plain hgd fun _ hK => by
    have hrun := run_append_owned_none (P := P) w base t o.type e i size ht hi v n xs hown
    unfold Oper.wp execOp
    simp only [ho, resolve, invoke, builtin, Sem.run_bind, Sem.run_pure, Result.andThen_ok, List.map_toArray, List.map_cons, List.map_nil, hs, hx, hrun]
    exact hK _ _ h
theorem sortI_le' (zs : List Int) : (sortI zs).Pairwise (· ≤ ·) :=
  (List.pairwise_mergeSort (fun a b c h1 h2 => by simp only [decide_eq_true_eq] at *; omega) (fun a b => by simp only [Bool.or_eq_true, decide_eq_true_eq]; omega) zs).imp (by simp)
theorem own_base {w : World} {base base' : Nat} {v : Value} {xs : List Value} {n : Nat} {e : TypeId} (h : w.ownsRow base e 1 v n xs) (hb : base' ≤ base) : w.ownsRow base' e 1 v n xs := by
  refine ⟨h.1, ?_⟩
  rcases h.2 with h | ⟨g, cap, cur, h1, h2, h3⟩
  · exact .inl h
  · exact .inr ⟨g, cap, cur, h1, by omega, h3⟩
theorem pown_slice {w : World} {base : Nat} {v : Value} {xs : List Value} {n : Nat} {e : TypeId} (h : w.ownsRow base e 1 v n xs) : ∃ A c, v = .slice A n c ∧ ((A = none ∧ n = 0 ∧ c = 0) ∨ ∃ g, A = some ⟨g, 0, none⟩ ∧ base ≤ g ∧ n ≤ c ∧ c ≤ maxLen) := by
  rcases h.2 with ⟨rfl, h0⟩ | ⟨g, cap, cur, rfl, hb, _, h1, h2, _⟩
  · exact ⟨none, 0, by rw [h0], .inl ⟨rfl, h0, rfl⟩⟩
  · exact ⟨_, _, rfl, .inr ⟨g, rfl, hb, h1, h2⟩⟩
theorem pown_keep {w w' : World} {base : Nat} {e : TypeId} {size : Nat} {v : Value} {n : Nat} {xs : List Value} (h : w.ownsRow base e size v n xs) (hc : ∀ k, k < w.heap.size → w'.heap[k]? = w.heap[k]?) : w'.ownsRow base e size v n xs := by
  obtain ⟨h1, h2⟩ := h
  refine ⟨h1, ?_⟩
  rcases h2 with h2 | ⟨g, cap, cur, rfl, hb, hg, h3⟩
  · exact .inl h2
  · exact .inr ⟨g, cap, cur, rfl, hb, (hc g (lt_of_block hg)).trans hg, h3⟩
theorem stable_nil (w : World) (A : Option Addr) (c : Nat) (fv : Value) : Calls Tryz.prog 57 #[.slice A 0 c, fv] w fun e w' => e = .returned (.tuple #[]) ∧ w' = w := by
  have hc := stablec_of w (.slice A 0 c) fv 0 (by omega) (fun w' => w' = w) (insc_none w _ _)
  go_enter Tryz.func57, Tryz.ntmps57
  go_wp2_with fail
  refine hc.mono ?_
  rintro e w1 ⟨rfl, rfl⟩
  go_wp2_with fail
  go_end0
  exact ⟨rfl, rfl⟩
theorem contains_any (w : World) (v : Value) (hl : List Int) (hH : Sl w v (hl.map (Value.int .i64))) (hb : hl.length ≤ 17592186043904) (x : Int) :
    Calls Tryz.prog 56 #[v, .int .i64 x] w fun e w' => e = .returned (.bool (hl.contains x)) ∧ w' = w := by
  obtain ⟨A, c, rfl, hx⟩ := hH
  rw [List.length_map]
  by_cases hne : hl = []
  · subst hne
    exact Tryz.slices_Contains_int_empty A c x w
  · obtain ⟨b, o, rfl, hc⟩ := hx (by simpa using hne)
    have := Tryz.slices_Contains_int b o hl.length c hl x w (Nat.le_refl _) (by omega) (fun j hj => hc j _ (by rw [List.getElem?_map, List.getElem?_eq_getElem hj, List.getD_eq_getElem?_getD, List.getElem?_eq_getElem hj]; rfl))
    rw [List.take_length] at this
    exact this
set_option maxRecDepth 100000 in
set_option maxHeartbeats 1000000 in
theorem disks_any (w : World) (lv hvv : Value) (l : List Spot) (hv : List Int) (hS : Sln w lv 2 (l.map Spot.cells)) (hH : Sl w hvv (hv.map (Value.int .i64))) (hl : l.length ≤ 12) (hhl : hv.length ≤ 1000) (size copies : Int) (hcp : copies ≤ 1000) (hcp0 : 0 ≤ copies) :
    Calls Tryz.prog 30 #[lv, .int .i64 size, .int .i64 copies, hvv] w fun e w' => ∃ (v : Value) (r : List Int), e = .returned (.tuple #[v, .bool (decide (copies ≤ (r.length : Int)))]) ∧ Chosen l size copies hv r ∧ w'.ownsRow w.heap.size 3 1 v r.length (r.map (Value.int .i64)) ∧ Ext w w' := by
  obtain ⟨i0, hi, hz0, hz1, hz2⟩ := info_parts int_info
  obtain ⟨LA, lc, rfl, hlx⟩ := hS
  have hS : Sln w (.slice LA (l.map Spot.cells).length lc) 2 (l.map Spot.cells) := ⟨LA, lc, rfl, hlx⟩
  clear hlx
  rw [List.length_map] at hS ⊢
  go_enter Tryz.func30, Tryz.ntmps30
  go_wp2_with fail
  have hBx := At.new w 85 #[.slice LA l.length lc]
  have hE0 := (Ext.refl w).alloc (.cells #[.slice LA l.length lc] 85)
  generalize w.alloc (.cells #[.slice LA l.length lc] 85) = w0 at hBx hE0 ⊢
  refine (pclone_any w0 hvv hv (hH.ext hE0) (by omega)).mono ?_
  rintro e w1 ⟨rv, rfl, hrown, hE1⟩
  have hE01 := hE0.trans hE1
  replace hBx := hBx.ext hE1
  have c4 := hBx.cell 0
  simp at c4
  go_wp2_with fail
  go_loopw [11, 19] (fun ov iv wr => ∃ k : Nat, k ≤ l.length ∧ iv = .int .i64 (k : Int) ∧ wr.ownsRow w1.heap.size 3 1 ov (others l size hv k).length ((others l size hv k).map ival) ∧ Ext w1 wr) (fun _ iv _ => l.length - (intOf iv).toNat)
  case atStart => exact ⟨0, Nat.zero_le _, rfl, ⟨rfl, .inl ⟨rfl, rfl⟩⟩, Ext.refl _⟩
  case round =>
    obtain ⟨k, hk, rfl, hown, hE⟩ := hrel
    by_cases hlt : k < l.length
    · have hS2 := hS.ext (hE01.trans hE)
      have hH2 := hH.ext (hE01.trans hE)
      obtain ⟨b, o, rfl⟩ : ∃ b o, LA = some ⟨b, o, none⟩ := by
        obtain ⟨A', c', hv', hx⟩ := hS2
        obtain ⟨b, o, rfl, _⟩ := hx (fun e => by have := List.map_eq_nil_iff.1 e; subst this; simp at hlt)
        simp only [Value.slice.injEq] at hv'
        exact ⟨b, o, hv'.1⟩
      obtain ⟨r0, r1⟩ := spot_cells hS2 hlt
      have hsz := hE.size
      have hos := others_succ l size hv k
      have holen := others_len l size hv k
      unfold mayB at hos
      generalize others l size hv k = os at *
      go_wp2_with fail
      refine (sfits_any _ (spotAt l k) size).mono ?_
      rintro e w2 ⟨rfl, hE2⟩
      have hX : Ext w1 w2 := (hE.alloc _).trans hE2
      have hE12 := (Ext.refl wr).alloc (.cells #[.bool (spotAt l k).up, .int .i64 (spotAt l k).free] 90)
      have hown2 := own_chg (own_chg hown hE12.chg (S := fun _ => False) (fun _ h => h.elim)) (Ext.chg (S := fun _ => False) hE2) (fun _ h => h.elim)
      have hH3 := hH.ext (hE01.trans hX)
      have hsz3 := hX.size
      clear r0 r1 hE2 hE12 hown hE hS2 hH2 hsz
      cases hf : (spotAt l k).fits size
      · rw [hf] at hos
        have HO := Lib.hid hos
        clear hos
        go_wp2_with fail
        go_roundw
        case rel => exact ⟨k + 1, by omega, by go_num, by rw [HO.out]; simpa using hown2, hX⟩
        case measure => simp [intOf]; omega
      · rw [hf] at hos
        go_wp2_with fail
        refine (contains_any w2 hvv hv hH3 (by omega) (k : Int)).mono ?_
        rintro e w3 ⟨rfl, rfl⟩
        cases hcn : hv.contains (k : Int)
        · rw [hcn] at hos
          have HO := Lib.hid hos
          clear hos
          go_wp2_with (at_builtin; refine wpList_append_own _ rfl _ _ 30 rfl w1.heap.size 3 i0 (.int .i64 0) 1 8 Tryz.underlying30 hi hz0 hz1 hz2 rfl (by decide) _ _ _ rfl (hown2.alloc _) ⟨w3.heap.size, 0, none⟩ 1 1 [.int .i64 (k : Int)] rfl rfl ?c1 ?c2 ?c3 ?c4 ?c5 ?_)
          case c1 => exact cell_one
          case c2 => simp [Value.oneCell']
          case c3 => unfold maxLen; omega
          case c4 => omega
          case c5 => simp; omega
          intro v1 w4 hown4 hgrow4 _
          have hge := own_ge (hown2.alloc (.cells #[.int .i64 (k : Int)] 3))
          have hE4 : Ext w1 w4 := Chg.mono ((hX.alloc _).chg_trans (Chg.of_grown hgrow4)) fun j hj h => by have := hge j h; omega
          clear hgrow4 hge
          go_wp2
          go_roundw
          case rel => exact ⟨k + 1, by omega, by go_num, by rw [HO.out]; simpa [ival] using hown4, hE4⟩
          case measure => simp [intOf]; omega
        · rw [hcn] at hos
          have HO := Lib.hid hos
          clear hos
          go_wp2_with fail
          go_roundw
          case rel => exact ⟨k + 1, by omega, by go_num, by rw [HO.out]; simpa using hown2, hX⟩
          case measure => simp [intOf]; omega
    · obtain rfl : k = l.length := by omega
      have hos : ∀ x ∈ others l size hv l.length, x < l.length := fun x hx => (others_lt hx).1
      have hor : (others l size hv l.length).Pairwise (· < ·) := List.Pairwise.filter _ List.pairwise_lt_range
      have holen := others_len l size hv l.length
      have hsz := hE.size
      obtain ⟨oA, oc, hoe, hov⟩ := pown_slice hown
      subst hoe
      have hsort : Calls Tryz.prog 57 #[.slice oA (others l size hv l.length).length oc, .func (.func 58) #[] #[.pointer (some ⟨w.heap.size, 0, none⟩)]] wr fun e w' => e = .returned (.tuple #[]) ∧
          ∃ ys : List Nat, ys.Perm (others l size hv l.length) ∧ ys.Pairwise (Ahead l) ∧ w'.ownsRow w1.heap.size 3 1 (.slice oA (others l size hv l.length).length oc) (others l size hv l.length).length (ys.map ival) ∧ Chg (fun k => w1.heap.size ≤ k) wr w' := by
        by_cases h0 : l = []
        · have hon : others l size hv l.length = [] := by subst h0; rfl
          rw [hon] at hown ⊢
          refine (stable_nil wr oA oc _).mono ?_
          rintro e w' ⟨rfl, rfl⟩
          exact ⟨rfl, [], List.Perm.refl _, List.Pairwise.nil, hown, Chg.refl _ _⟩
        · have hS2 := hS.ext (hE01.trans hE)
          obtain ⟨b, o, rfl⟩ : ∃ b o, LA = some ⟨b, o, none⟩ := by
            obtain ⟨A', c', hv', hx⟩ := hS2
            obtain ⟨b, o, rfl, _⟩ := hx (fun e => h0 (List.map_eq_nil_iff.1 e))
            simp only [Value.slice.injEq] at hv'
            exact ⟨b, o, hv'.1⟩
          have hc4 : wr.cell? ⟨w.heap.size, 0, none⟩ = some (.slice (some ⟨b, o, none⟩) l.length lc) := (Ext.cell (p := ⟨w.heap.size, 0, none⟩) hE (cell_lt c4)).trans c4
          have hbl := (hS.ext hE01).block_lt (fun r hr => by obtain ⟨s, _, rfl⟩ := List.mem_map.1 hr; simp [Spot.cells]) b o l.length lc rfl (fun e => h0 (List.map_eq_nil_iff.1 e))
          exact stable_any wr w.heap.size b o l.length lc _ w1.heap.size _ l _ hc4 hS2 (cell_lt c4) hbl hown hos hor hl (by omega)
      clear hown
      obtain ⟨rA, rc, rfl, hrv⟩ := pown_slice hrown
      generalize hosl : others l size hv l.length = os at *
      go_wp2_with fail
      refine hsort.mono ?_
      clear hsort
      rintro e w5 ⟨rfl, ys, hyp, hyA, hyo, hC5⟩
      have hyl := hyp.length_eq
      have hr5 : w5.ownsRow w0.heap.size 3 1 (.slice rA hv.length rc) hv.length (hv.map (Value.int .i64)) := pown_keep hrown fun k hk => (hC5.block k (by have := hE.size; omega) (by show ¬ w1.heap.size ≤ k; omega)).trans (Ext.block hE hk)
      have hX5 : Ext w w5 := Chg.mono (hE01.chg_trans (hE.chg_trans hC5)) fun j hj h => by have h' : w1.heap.size ≤ j := h; have := hE01.size; omega
      have hyl5 : ys.length ≤ 12 := by omega
      by_cases hcl : (hv.length : Int) < copies
      · obtain ⟨d, hd⟩ : ∃ d : Nat, copies = ((hv.length + d : Nat) : Int) := ⟨(copies - hv.length).toNat, by omega⟩
        subst hd
        have hdt : ((((hv.length + d : Nat) : Int) - hv.length).toNat) = d := by omega
        rcases hov with ⟨rfl, hn0, rfl⟩ | ⟨og, rfl, hob, hon, hoc⟩
        · obtain ⟨R6, hR6⟩ : ∃ R, R = hv ++ (if (hv.length : Int) < ((hv.length + d : Nat) : Int) then (ys.take (((hv.length + d : Nat) : Int) - hv.length).toNat).map Int.ofNat else []) := ⟨_, rfl⟩
          have hy0 : ys = [] := List.eq_nil_of_length_eq_zero (by omega)
          have hRe : R6 = hv := by rw [hR6, hy0]; simp
          have HR6 := Lib.hid hR6
          clear hR6
          have hm : (min ((hv.length : Int) + (d : Int) - (hv.length : Int)) 0).toNat = 0 := by omega
          have hm1 : 0 ≤ min ((hv.length : Int) + (d : Int) - (hv.length : Int)) 0 := by omega
          have hm2 : min ((hv.length : Int) + (d : Int) - (hv.length : Int)) 0 ≤ 0 := by omega
          have hr6 : w5.ownsRow w0.heap.size 3 1 (.slice rA hv.length rc) R6.length (R6.map (Value.int .i64)) := by rw [hRe]; exact hr5
          go_wp2_with (at_builtin; refine wpList_append_none rfl _ _ 30 rfl w0.heap.size 3 i0 1 Tryz.underlying30 hi _ _ _ rfl hr5 ?hx ?_)
          case hx => first | (show Value.slice none _ _ = _; rw [hm]) | (go_simp; done) | (go_simp; simp [hm])
          refine (sort_own hr6 (by rw [hRe]; omega)).mono ?_
          rintro e w7 ⟨rfl, hr7, hC7⟩
          have hge := own_ge hr6
          have hX7 : Ext w w7 := Chg.mono (hX5.chg_trans hC7) fun j hj h => by have := hge j h; have := hE0.size; omega
          clear hC7 hge
          go_wp2_with fail
          go_ret2
          have hsl6 : (sortI R6).length = R6.length := by unfold sortI; simp
          refine ⟨.slice rA hv.length rc, sortI R6, ?_, ⟨ys, (by rw [hosl]; exact hyp), hyA, (List.mergeSort_perm _ _).trans (by rw [HR6.out]), ?_⟩, ?_, hX7⟩
          · rw [hsl6, hRe]; simp
          · exact sortI_le' R6
          · rw [hsl6]; exact own_base hr7 hE0.size
        · obtain ⟨mm, hmm⟩ : ∃ mm : Nat, mm = min d os.length := ⟨_, rfl⟩
          obtain ⟨R6, hR6⟩ : ∃ R, R = hv ++ (if (hv.length : Int) < ((hv.length + d : Nat) : Int) then (ys.take (((hv.length + d : Nat) : Int) - hv.length).toNat).map Int.ofNat else []) := ⟨_, rfl⟩
          have hRe : R6.map (Value.int .i64) = hv.map (Value.int .i64) ++ (ys.map ival).take mm := by
            rw [hR6, if_pos hcl, hdt, List.map_append, List.map_map, hmm, ← hyl, ← List.map_take]
            congr 1
            rw [show ys.take (min d ys.length) = ys.take d by rw [List.take_eq_take_iff]; omega]
            rfl
          have hRl : R6.length = hv.length + mm := by have := congrArg List.length hRe; simp at this; omega
          have HR6 := Lib.hid hR6
          clear hR6
          have hm : (min ((hv.length : Int) + (d : Int) - (hv.length : Int)) (os.length : Int)).toNat = mm := by omega
          have hm1 : 0 ≤ min ((hv.length : Int) + (d : Int) - (hv.length : Int)) (os.length : Int) := by omega
          have hm2 : min ((hv.length : Int) + (d : Int) - (hv.length : Int)) (os.length : Int) ≤ (oc : Int) := by omega
          have hcells : ∀ j u, ((ys.map ival).take mm)[j]? = some u → w5.cell? (Addr.add ⟨og, 0, none⟩ j) = some u := fun j u hj => by
            have hj2 : j < mm := by have := (List.getElem?_eq_some_iff.1 hj).1; simp at this; omega
            have := hyo.cellAt j (by omega)
            rw [Go.WideShapes.add_plain, Nat.zero_add, this, ← hj, List.getElem?_take, if_pos hj2]
          have hlen6 : ((ys.map ival).take mm).length = mm := by simp; omega
          have hone : ∀ u ∈ (ys.map ival).take mm, u.oneCell' = true := fun u hu => by
            obtain ⟨q, _, rfl⟩ := List.mem_map.1 (List.mem_of_mem_take hu); rfl
          have hs05 : w0.heap.size ≤ w5.heap.size := by have := hE1.size; have := hE.size; have := hC5.size; omega
          have hmo : mm ≤ os.length := by omega
          clear hmm
          go_wp2_with (at_builtin; refine wpList_append_own _ rfl _ _ 30 rfl w0.heap.size 3 i0 (.int .i64 0) 1 8 Tryz.underlying30 hi hz0 hz1 hz2 rfl (by decide) _ _ _ rfl hr5 ⟨og, 0, none⟩ mm oc ((ys.map ival).take mm) ?hx (by omega) hcells hone (by unfold maxLen; omega) (by omega) hs05 ?_)
          case hx => go_simp
          intro v6 w6 hr6 hg6 _
          rw [← hRe, ← hRl] at hr6
          have hX6 : Ext w w6 := Chg.mono (hX5.chg_trans (Chg.of_grown hg6)) fun j hj h => by have := own_ge hr5 j h; have := hE0.size; omega
          clear hg6 hRe
          have HRl := Lib.hid hRl
          clear hRl hcells hone hlen6 hm hm1 hm2
          obtain ⟨sA, sc, rfl, hsv⟩ := pown_slice hr6
          go_wp2_with fail
          refine (sort_own hr6 (by have := HRl.out; omega)).mono ?_
          rintro e w7 ⟨rfl, hr7, hC7⟩
          have hge := own_ge hr6
          have hX7 : Ext w w7 := Chg.mono (hX6.chg_trans hC7) fun j hj h => by have := hge j h; have := hE0.size; omega
          clear hC7 hge
          have hsl6 : (sortI R6).length = R6.length := by unfold sortI; simp
          have HSL := Lib.hid hsl6
          clear hsl6
          go_wp2_with fail
          go_ret2
          refine ⟨.slice sA R6.length sc, sortI R6, ?_, ⟨ys, (by rw [hosl]; exact hyp), hyA, (List.mergeSort_perm _ _).trans (by rw [HR6.out]), ?_⟩, ?_, hX7⟩
          · rw [HSL.out]; simp
          · exact sortI_le' R6
          · rw [HSL.out]; exact own_base hr7 hE0.size
      · obtain ⟨R6, hR6⟩ : ∃ R, R = hv ++ (if (hv.length : Int) < copies then (ys.take (copies - hv.length).toNat).map Int.ofNat else []) := ⟨_, rfl⟩
        have hRe : R6 = hv := by rw [hR6, if_neg hcl, List.append_nil]
        have HR6 := Lib.hid hR6
        clear hR6
        have hr6 : w5.ownsRow w0.heap.size 3 1 (.slice rA hv.length rc) R6.length (R6.map (Value.int .i64)) := by rw [hRe]; exact hr5
        go_wp2_with fail
        refine (sort_own hr6 (by rw [hRe]; omega)).mono ?_
        rintro e w7 ⟨rfl, hr7, hC7⟩
        have hge := own_ge hr6
        have hX7 : Ext w w7 := Chg.mono (hX5.chg_trans hC7) fun j hj h => by have := hge j h; have := hE0.size; omega
        clear hC7 hge
        go_wp2_with fail
        go_ret2
        have hsl6 : (sortI R6).length = R6.length := by unfold sortI; simp
        refine ⟨.slice rA hv.length rc, sortI R6, ?_, ⟨ys, (by rw [hosl]; exact hyp), hyA, (List.mergeSort_perm _ _).trans (by rw [HR6.out]), ?_⟩, ?_, hX7⟩
        · rw [hsl6, hRe, decide_eq_true (by omega : copies ≤ (hv.length : Int))]; rfl
        · exact sortI_le' R6
        · rw [hsl6]; exact own_base hr7 hE0.size
end Go.Proofs.YtapodcmjggmgmaaGreatDoor
