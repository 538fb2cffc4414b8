/-
  What a crash leaves of a file: Pick at a slice, left.
-/
import Derived.Test.YteleafbfdfipdaaAll
namespace Go.Proofs.Yteleafbfdfipdaa
open Go.RowKit Go.Sort

def I64 (x : Int) : Prop := -9223372036854775808 ≤ x ∧ x ≤ 9223372036854775807
def pick (ch : List Int) (at_ : Nat) (m : Int) : Int := match ch[at_]? with | some x => x % m | none => 0
theorem pick_range (ch : List Int) (at_ : Nat) (m : Int) (hm : 1 ≤ m) : 0 ≤ pick ch at_ m ∧ pick ch at_ m < m := by
  unfold pick
  split
  · exact ⟨Int.emod_nonneg _ (by omega), Int.emod_lt_of_pos _ (by omega)⟩
  · omega

theorem pick_sl (w : World) (v : Value) (ch : List Int) (hS : Sl w v (ch.map (Value.int .i64))) (hr : ∀ x ∈ ch, I64 x) (hn : ch.length ≤ 9223372036854775807) (at_ : Nat) (m : Int) (hm : 1 ≤ m) (hm1 : m ≤ 9223372036854775807) :
    Calls Try.prog 54 #[v, .int .i64 at_, .int .i64 m] w fun e w' => e = .returned (.int .i64 (pick ch at_ m)) ∧ w' = w := by
  obtain ⟨A, c, rfl, hx⟩ := hS
  rw [List.length_map] 
  unfold pick
  cases h : ch[at_]? with
  | none =>
    have hl : ch.length ≤ at_ := List.getElem?_eq_none_iff.1 h
    exact pick_none A ch.length c at_ m w (.inr (.inr (by omega))) hn
  | some x =>
    obtain ⟨hl, hxx⟩ := List.getElem?_eq_some_iff.1 h
    obtain ⟨b, o, rfl, hc⟩ := hx (by intro e; rw [List.map_eq_nil_iff] at e; subst e; simp at h)
    have hi := hr x (hxx ▸ List.getElem_mem hl)
    exact pick_some b o ch.length c at_ x m w hm hm1 hl hn hi.1 hi.2 (hc at_ (.int .i64 x) (by rw [List.getElem?_map, h]; rfl))

def Fl.left (f : Fl) (ch : List Int) (at_ : Nat) : Bool × ByteArray :=
  if f.nt = true ∧ 0 < (f.nx.size : Int) - f.sx.size ∧ Lib.hasPrefix f.nx.data.toList f.sx.data.toList = true then
    if pick ch at_ ((f.nx.size : Int) - f.sx.size + 1) = 0 then (f.st, f.sx)
    else (true, f.nx.extract 0 (f.sx.size + (pick ch at_ ((f.nx.size : Int) - f.sx.size + 1)).toNat))
  else if pick ch at_ 2 = 0 then (f.st, f.sx) else (f.nt, f.nx)

set_option maxRecDepth 100000 in
set_option maxHeartbeats 1000000 in
theorem left_any (w : World) (v : Value) (ch : List Int) (hS : Sl w v (ch.map (Value.int .i64))) (hr : ∀ x ∈ ch, I64 x) (hn : ch.length ≤ 9223372036854775807) (at_ : Nat) (f : Fl)
    (h1 : f.nx.size ≤ 9223372036854775806) (h2 : f.sx.size ≤ 9223372036854775806) :
    Calls Try.prog 42 #[.agg #[.bool f.nt, .string f.nx, .bool f.st, .string f.sx], v, .int .i64 at_] w fun e w' =>
      e = .returned (.agg #[.bool (f.left ch at_).1, .string (f.left ch at_).2]) ∧ Ext w w' := by
  obtain ⟨n1, s1, n2, s2⟩ := f
  simp only at h1 h2 ⊢
  cases n1
  · go_enter Try.func42, Try.ntmps42
    go_wp2_with fail
    have r2 := pick_range ch at_ 2 (by omega)
    refine (pick_sl _ v ch (hS.ext (((Ext.refl w).alloc _).alloc _)) hr hn _ _ (by omega) (by omega)).mono ?_
    rintro e w' ⟨rfl, rfl⟩
    by_cases g5 : pick ch at_ 2 = 0
    · have g5' : (pick ch at_ 2 == 0) = true := by simpa using g5
      have hfin : Fl.left ⟨false, s1, n2, s2⟩ ch at_ = (n2, s2) := by unfold Fl.left; rw [if_neg (by simp), if_pos g5]
      have H := Lib.hid hfin
      clear hfin
      go_wp2_with fail
      rw [H.out]
      exact bodyPost_ret (v := .agg #[.bool n2, .string s2]) (by simp [results, Try.results42, go_sem]) rfl ⟨rfl, ((Ext.refl w).alloc _).alloc _⟩
    · have g5' : (pick ch at_ 2 == 0) = false := by simpa using g5
      have hfin : Fl.left ⟨false, s1, n2, s2⟩ ch at_ = (false, s1) := by unfold Fl.left; rw [if_neg (by simp), if_neg g5]
      have H := Lib.hid hfin
      clear hfin
      go_wp2_with fail
      rw [H.out]
      exact bodyPost_ret (v := .agg #[.bool false, .string s1]) (by simp [results, Try.results42, go_sem]) rfl ⟨rfl, ((Ext.refl w).alloc _).alloc _⟩
  · by_cases g2 : 0 < (s1.size : Int) - s2.size
    · have g2' : decide (0 < (s1.size : Int) - s2.size) = true := by simpa using g2
      cases g3 : Lib.hasPrefix s1.data.toList s2.data.toList
      · go_enter Try.func42, Try.ntmps42
        go_wp2_with fail
        refine (Try.strings_HasPrefix _ _ _).mono ?_
        rintro e w' ⟨rfl, rfl⟩
        rw [g3]
        go_wp2_with fail
        have r2 := pick_range ch at_ 2 (by omega)
        refine (pick_sl _ v ch (hS.ext (((Ext.refl w).alloc _).alloc _)) hr hn _ _ (by omega) (by omega)).mono ?_
        rintro e w' ⟨rfl, rfl⟩
        by_cases g5 : pick ch at_ 2 = 0
        · have g5' : (pick ch at_ 2 == 0) = true := by simpa using g5
          have hfin : Fl.left ⟨true, s1, n2, s2⟩ ch at_ = (n2, s2) := by unfold Fl.left; rw [if_neg (by simp [g3]), if_pos g5]
          have H := Lib.hid hfin
          clear hfin
          go_wp2_with fail
          rw [H.out]
          exact bodyPost_ret (v := .agg #[.bool n2, .string s2]) (by simp [results, Try.results42, go_sem]) rfl ⟨rfl, ((Ext.refl w).alloc _).alloc _⟩
        · have g5' : (pick ch at_ 2 == 0) = false := by simpa using g5
          have hfin : Fl.left ⟨true, s1, n2, s2⟩ ch at_ = (true, s1) := by unfold Fl.left; rw [if_neg (by simp [g3]), if_neg g5]
          have H := Lib.hid hfin
          clear hfin
          go_wp2_with fail
          rw [H.out]
          exact bodyPost_ret (v := .agg #[.bool true, .string s1]) (by simp [results, Try.results42, go_sem]) rfl ⟨rfl, ((Ext.refl w).alloc _).alloc _⟩
      · go_enter Try.func42, Try.ntmps42
        go_wp2_with fail
        refine (Try.strings_HasPrefix _ _ _).mono ?_
        rintro e w' ⟨rfl, rfl⟩
        rw [g3]
        go_wp2_with fail
        have r2 := pick_range ch at_ ((s1.size : Int) - s2.size + 1) (by omega)
        refine (pick_sl _ v ch (hS.ext (((Ext.refl w).alloc _).alloc _)) hr hn _ _ (by omega) (by omega)).mono ?_
        rintro e w' ⟨rfl, rfl⟩
        by_cases g5 : pick ch at_ ((s1.size : Int) - s2.size + 1) = 0
        · have g5' : (pick ch at_ ((s1.size : Int) - s2.size + 1) == 0) = true := by simpa using g5
          have hfin : Fl.left ⟨true, s1, n2, s2⟩ ch at_ = (n2, s2) := by unfold Fl.left; rw [if_pos ⟨rfl, g2, g3⟩, if_pos g5]
          have H := Lib.hid hfin
          clear hfin
          go_wp2_with fail
          rw [H.out]
          exact bodyPost_ret (v := .agg #[.bool n2, .string s2]) (by simp [results, Try.results42, go_sem]) rfl ⟨rfl, ((Ext.refl w).alloc _).alloc _⟩
        · have g5' : (pick ch at_ ((s1.size : Int) - s2.size + 1) == 0) = false := by simpa using g5
          have hfin : Fl.left ⟨true, s1, n2, s2⟩ ch at_ = (true, s1.extract 0 (s2.size + (pick ch at_ ((s1.size : Int) - s2.size + 1)).toNat)) := by unfold Fl.left; rw [if_pos ⟨rfl, g2, g3⟩, if_neg g5]
          obtain ⟨k, hk⟩ := Int.eq_ofNat_of_zero_le r2.1
          rw [hk] at g5' hfin ⊢
          rw [hk] at r2
          rw [Int.toNat_natCast] at hfin
          have H := Lib.hid hfin
          clear hfin hk g5
          have b1 : s2.size + k ≤ s1.size := by omega
          go_wp2_with fail
          rw [H.out]
          exact bodyPost_ret (v := .agg #[.bool true, .string (s1.extract 0 (s2.size + k))]) (by simp [results, Try.results42, go_sem]) rfl ⟨rfl, ((Ext.refl w).alloc _).alloc _⟩
    · have g2' : decide (0 < (s1.size : Int) - s2.size) = false := by simpa using g2
      go_enter Try.func42, Try.ntmps42
      go_wp2_with fail
      have r2 := pick_range ch at_ 2 (by omega)
      refine (pick_sl _ v ch (hS.ext (((Ext.refl w).alloc _).alloc _)) hr hn _ _ (by omega) (by omega)).mono ?_
      rintro e w' ⟨rfl, rfl⟩
      by_cases g5 : pick ch at_ 2 = 0
      · have g5' : (pick ch at_ 2 == 0) = true := by simpa using g5
        have hfin : Fl.left ⟨true, s1, n2, s2⟩ ch at_ = (n2, s2) := by unfold Fl.left; rw [if_neg (fun h => by have := h.2.1; simp only at this; omega), if_pos g5]
        have H := Lib.hid hfin
        clear hfin
        go_wp2_with fail
        rw [H.out]
        exact bodyPost_ret (v := .agg #[.bool n2, .string s2]) (by simp [results, Try.results42, go_sem]) rfl ⟨rfl, ((Ext.refl w).alloc _).alloc _⟩
      · have g5' : (pick ch at_ 2 == 0) = false := by simpa using g5
        have hfin : Fl.left ⟨true, s1, n2, s2⟩ ch at_ = (true, s1) := by unfold Fl.left; rw [if_neg (fun h => by have := h.2.1; simp only at this; omega), if_neg g5]
        have H := Lib.hid hfin
        clear hfin
        go_wp2_with fail
        rw [H.out]
        exact bodyPost_ret (v := .agg #[.bool true, .string s1]) (by simp [results, Try.results42, go_sem]) rfl ⟨rfl, ((Ext.refl w).alloc _).alloc _⟩
end Go.Proofs.Yteleafbfdfipdaa
