/-
  Layer 18: HistoryStale, walked.
-/
import Derived.Test.YtlodaffiamegpaaHsChecksW
namespace Go.Proofs.Ytlodaffiamegpaa
open Go.RowKit Go.Sort

def sPut (v : Nat) (s f : Int) : HOp := ⟨1, strA, v, s, f, 0, 0, []⟩
def sGet (s f : Int) (g : Nat) : HOp := ⟨2, strA, 0, s, f, 0, g, []⟩
theorem stale_rchk (old value : Nat) (gap : Int) (h : old ≠ value) (h0 : 0 ≤ gap) : rchk 3 [sPut old 0 1, sPut value 2 3, sGet (3 + gap) (4 + gap) old] [] = decide (gap = 0) := by
  have h1 : ¬ 4 + gap < 0 := by omega
  have h2 : 0 ≤ 4 + gap := by omega
  have h3 : 2 ≤ 4 + gap := by omega
  have h4 : ¬ 3 + gap ≤ 1 := by omega
  have h5 : (3 + gap ≤ 3) = (gap = 0) := by apply propext; omega
  have hb : blt strA strA = false := blt_ordd.irr _
  by_cases hg : gap = 0
  · simp [rchk, rmay, rok, rtells, reff, sPut, sGet, HOp.ans, List.range, List.range.loop, lput, lget, hb, hg, h]
  · simp [rchk, rmay, rok, rtells, reff, sPut, sGet, HOp.ans, List.range, List.range.loop, lput, lget, hb, h2, h3, h4, h5, hg, h]
theorem stale_fine (old value : Nat) (gap : Int) : [sPut old 0 1, sPut value 2 3, sGet (3 + gap) (4 + gap) old].all (fun x => !badB x) = true := by
  have h1 : badB (sPut old 0 1) = false := by unfold badB sPut strA HOp.ans; rfl
  have h2 : badB (sPut value 2 3) = false := by unfold badB sPut strA HOp.ans; rfl
  have h3 : badB (sGet (3 + gap) (4 + gap) old) = false := by
    unfold badB sGet strA HOp.ans
    have : ¬ (4 + gap < 3 + gap) := by omega
    simp [this, ByteArray.size]
  simp [h1, h2, h3]
theorem chk_three {w : World} {b : Nat} {t : TypeId} {x y z : HOp} (hx : x.names = []) (hy : y.names = []) (hz : z.names = []) (h : At w b t (hrow (x, none, 0) ++ (hrow (y, none, 0) ++ (hrow (z, none, 0) ++ []))).toArray) : ChkIn w [(x, none, 0), (y, none, 0), (z, none, 0)] (.slice (some ⟨b, 0, none⟩) 3 3) where
  ops := sln_lit h (by simp only [List.map_cons, List.map_nil, List.flatten_cons, List.flatten_nil]) (by intro r hr; obtain ⟨z, _, rfl⟩ := List.mem_map.1 hr; rfl) rfl
  rows := by
    intro r hr
    have : r = (x, none, 0) ∨ r = (y, none, 0) ∨ r = (z, none, 0) := by simpa using hr
    rcases this with rfl | rfl | rfl
    · show Sl w (.slice none x.names.length 0) _; rw [hx]; exact Sl.nil _ _
    · show Sl w (.slice none y.names.length 0) _; rw [hy]; exact Sl.nil _ _
    · show Sl w (.slice none z.names.length 0) _; rw [hz]; exact Sl.nil _ _
  xn := by
    intro r hr
    have : r = (x, none, 0) ∨ r = (y, none, 0) ∨ r = (z, none, 0) := by simpa using hr
    rcases this with rfl | rfl | rfl
    · show x.names.length ≤ _; rw [hx]; simp
    · show y.names.length ≤ _; rw [hy]; simp
    · show z.names.length ≤ _; rw [hz]; simp

set_option maxRecDepth 100000 in
set_option maxHeartbeats 2000000 in
theorem stalew_any (w : World) (old value : Nat) (gap : Int) :
    Calls Try.prog 6 #[.int .u64 (old : Int), .int .u64 (value : Int), .int .i64 gap] w fun e w' => e = .returned (.bool true) ∧ Ext w w' := by
  go_enter Try.func6, Try.ntmps6
  go_wp2_with fail
  refine (awake_any w).mono ?_
  rintro e w1 ⟨rfl, hE1⟩
  by_cases hgo : old = value ∨ gap < 0 ∨ 1000 < gap
  · have hb : ((old : Int) == (value : Int)) = true ∨ ((old : Int) == (value : Int)) = false ∧ (gap < 0 ∨ ¬ gap < 0 ∧ 1000 < gap) := by
      rw [got_dec']
      by_cases h : old = value
      · left; simp [h]
      · right; exact ⟨by simp [h], by omega⟩
    clear hgo
    rcases hb with hb | ⟨hb, hg | ⟨hg, hg2⟩⟩
    all_goals
      go_wp2_with fail
      refine (awake_any w1).mono ?_
      rintro e w2 ⟨rfl, hE2⟩
      go_wp2_with fail
      go_ret
      exact ⟨rfl, hE1.trans hE2⟩
  · have hne : old ≠ value := fun e => hgo (.inl e)
    have hb : ((old : Int) == (value : Int)) = false := by rw [got_dec']; simp [hne]
    have hg1 : ¬ gap < 0 := by omega
    have hg2 : ¬ 1000 < gap := by omega
    have hrc := stale_rchk old value gap hne (by omega)
    have HRC := Lib.hid hrc
    have e3 : IntKind.i64.wrap (3 + gap) = 3 + gap := by rw [IntKind.wrap_i64]; omega
    have e4 : IntKind.i64.wrap (4 + gap) = 4 + gap := by rw [IntKind.wrap_i64]; omega
    clear hrc hne hgo
    have hB : At (w1.alloc (.cells #[.int .i64 1, .string ⟨#[97]⟩, .int .u64 (old : Int), .int .i64 0, .int .i64 1, .int .i64 0, .int .u64 0, .slice none 0 0, .int .i64 1, .string ⟨#[97]⟩, .int .u64 (value : Int), .int .i64 2, .int .i64 3, .int .i64 0, .int .u64 0, .slice none 0 0, .int .i64 2, .string ⟨#[97]⟩, .int .u64 0, .int .i64 (3 + gap), .int .i64 (4 + gap), .int .i64 0, .int .u64 (old : Int), .slice none 0 0] 37)) w1.heap.size 37 (hrow (sPut old 0 1, none, 0) ++ (hrow (sPut value 2 3, none, 0) ++ (hrow (sGet (3 + gap) (4 + gap) old, none, 0) ++ []))).toArray := At.new w1 _ _
    have hEb := (Ext.refl w1).alloc (.cells #[.int .i64 1, .string ⟨#[97]⟩, .int .u64 (old : Int), .int .i64 0, .int .i64 1, .int .i64 0, .int .u64 0, .slice none 0 0, .int .i64 1, .string ⟨#[97]⟩, .int .u64 (value : Int), .int .i64 2, .int .i64 3, .int .i64 0, .int .u64 0, .slice none 0 0, .int .i64 2, .string ⟨#[97]⟩, .int .u64 0, .int .i64 (3 + gap), .int .i64 (4 + gap), .int .i64 0, .int .u64 (old : Int), .slice none 0 0] 37)
    have HC := Lib.hid (check_any _ _ _ (chk_three rfl rfl rfl hB))
    go_upto_region 4 with fail
    generalize World.alloc _ _ = W2 at hB hEb HC ⊢
    clear hB
    go_wp2_with fail
    refine HC.out.mono ?_
    rintro e w3 ⟨⟨b, n, rfl, hres⟩, hE3⟩
    obtain ⟨rfl, hb2⟩ := res_rchk hres (by simp [opsOf]) (stale_fine old value gap)
    have hb3 : b = decide (gap = 0) := by rw [hb2, ← HRC.out]; rfl
    have HB3 := Lib.hid hb3
    clear hres hb2 hb3
    go_wp2_with fail
    all_goals
      go_ret
      refine ⟨ret_bool ?_, hE1.trans (hEb.trans hE3)⟩
      rw [HB3.out]
      simp [err_dec]
end Go.Proofs.Ytlodaffiamegpaa
