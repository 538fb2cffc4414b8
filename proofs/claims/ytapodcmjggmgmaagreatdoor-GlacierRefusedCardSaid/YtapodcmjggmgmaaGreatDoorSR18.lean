/-
  Part 18 of what the law leans on.
-/
import Derived.Test.YtapodcmjggmgmaaGreatDoorSR3
import Derived.Test.YtapodcmjggmgmaaGreatDoorSR7
import Derived.Test.YtapodcmjggmgmaaGreatDoorSR13
import Derived.Test.YtapodcmjggmgmaaGreatDoorSR17
import Derived.ProofKit
import Derived.OpenShut
import Derived.SliceStrings
import Derived.LaidMore
import Derived.Lib.LaidTab
import Derived.Stop.LaidErr
import Derived.Stop.Joined
import Derived.MakeChecks
set_option linter.unusedVariables false
set_option linter.unusedSimpArgs false
set_option linter.unusedSectionVars false
namespace Go.Proofs.YtapodcmjggmgmaaGreatDoor
open Go.RowKit Go.Sort
theorem enc300 : ([] : List UInt8) ++ [300].flatMap uenc = [130, 44] := by decide +kernel
theorem crc19 : crc ([(⟨#[49, 50, 51, 52, 53, 54, 55, 56, 57]⟩ : ByteArray)].flatMap fun s => s.data.toList) = 3421780262 := by decide +kernel
theorem seg1 : segN 1 = ⟨#[115, 101, 103, 45, 48, 48, 48, 48, 48, 48, 49]⟩ := by decide +kernel
abbrev b19 : ByteArray := ⟨#[49, 50, 51, 52, 53, 54, 55, 56, 57]⟩
theorem sum19 (w3 : World) (hT : Tab w3) : Calls Tryz.prog 13 #[.slice (some ⟨w3.heap.size, 0, none⟩) 1 1] (w3.alloc (.cells #[.string b19] 9)) fun e w' => e = .returned (.int .u32 3421780262) ∧ w' = w3.alloc (.cells #[.string b19] 9) := by
  have h := sum_any (w3.alloc (.cells #[.string b19] 9)) (.slice (some ⟨w3.heap.size, 0, none⟩) 1 1) [b19] (sl_one w3 9 (.string b19) 1) (Nat.le_trans (Nat.le_refl _) (by decide)) (fun s hs => by rw [List.mem_singleton.1 hs]; unfold maxLen; decide) (hT.alloc _)
  have hc := crc19
  generalize crc ([b19].flatMap fun s => s.data.toList) = c at h hc
  subst hc
  exact h
theorem name1 (w : World) : Calls Tryz.prog 22 #[.int .i64 1] w fun e w' => e = .returned (.string ⟨#[115, 101, 103, 45, 48, 48, 48, 48, 48, 48, 49]⟩) ∧ Ext w w' := by
  have h := name_any w 1 (by decide) (by decide)
  have hc := seg1
  generalize segN 1 = c at h hc
  subst hc
  exact h
set_option maxRecDepth 100000 in
theorem parts401 (w : World) : Calls Tryz.prog 21 #[.int .i64 401] w fun e w' => e = .returned (.int .i64 3) ∧ Ext w w' := by
  go_enter Tryz.func21, Tryz.ntmps21
  go_wp2_with fail
  go_ret
  exact ⟨rfl, Ext.refl w⟩
set_option maxRecDepth 100000 in
set_option maxHeartbeats 2000000 in
theorem live_any (w : World) (hT : Tab w) : Calls Tryz.prog 5 #[] w fun e w' => e = .returned (.bool true) ∧ Ext w w' := by
  have hA := At.new w 67 #[.slice none 0 0]
  have hE0 := (Ext.refl w).alloc (.cells #[.slice none 0 0] 67)
  go_enter Tryz.func5, Tryz.ntmps5
  go_wp2_with fail
  have hs1 : (w.alloc (.cells #[.slice none 0 0] 67)).heap.size = w.heap.size + 1 := by simp
  generalize w.alloc (.cells #[.slice none 0 0] 67) = w1 at hA hE0 hs1 ⊢
  obtain ⟨x, hx⟩ : ∃ x, w.heap.size = x := ⟨_, rfl⟩
  have hxw : w.heap.size ≤ x := by omega
  rw [hx] at hA hs1 ⊢
  clear hx
  have hE1 := (Ext.refl w1).alloc (.cells #[.int .u64 300] 28)
  have cu := eu_any (w := w1.alloc (.cells #[.int .u64 300] 28)) (base := x) (e := x) (bs := []) ⟨Nat.le_refl _, .slice none 0 0, hA.ext hE1, World.ownsRow_nil _ _ _ _⟩ (.slice (some ⟨w1.heap.size, 0, none⟩) 1 1) [300] (SlE.new w1 x (cs := #[.int .u64 300]) (by decide)) (by simp) (by decide) (by decide)
  rw [enc300, hs1] at cu
  refine cu.mono ?_
  rintro e w2 ⟨rfl, hC2, hA2⟩
  have hE2 : Ext w w2 := ((hE0.trans hE1).chg_trans hC2).mono (fun k hk hs => by have := hs.1; omega)
  clear cu hE1 hA hE0 hC2
  have cb := bytes_any _ _ _ _ hA2
  clear hA2
  go_wp2_with fail
  refine cb.mono ?_
  rintro e w3 ⟨rfl, rfl⟩
  clear cb
  have cs1 := sum19 w3 (hT.ext hE2)
  go_wp2_with fail
  refine cs1.mono ?_
  rintro e w4 ⟨rfl, rfl⟩
  clear cs1
  go_wp2_with fail
  refine (parts401 _).mono ?_
  rintro e w5 ⟨rfl, hE5⟩
  go_wp2_with fail
  refine (name1 _).mono ?_
  rintro e w6 ⟨rfl, hE6⟩
  go_wp2_with fail
  go_ret
  exact ⟨rfl, ((hE2.alloc _).trans hE5).trans hE6⟩
theorem nd_ok : NPok Ks.has (fun w K => NdIn w K [] 0 0) 34 where
  chg h hC hS := h.chg hC hS
  own h hO k hk hh := by
    obtain ⟨cs, hA⟩ := own_at hO hk
    obtain ⟨S, dr, h1, _⟩ := h
    rcases hh with rfl | rfl | rfl | rfl | rfl
    · exact absurd rfl (hA.ne h1.nd (by decide))
    · exact absurd rfl (hA.ne h1.st.st (by decide))
    · exact absurd rfl (hA.ne h1.st.dk.1 (by decide))
    · exact h1.st.dk.2.ne_at hA rfl
    · exact h1.st.ch.ne_at hA rfl
  lt h hh := h.lt _ hh
theorem msite_any (w : World) (hT : Tab w) : Calls Tryz.prog 6 #[.agg (cfgC 3 300)] w fun e w' => ∃ (A : FixA) (K : Nat → Ks), e = .returned (.pointer (some ⟨A.b, 0, none⟩)) ∧ SiteIn w' A K (fun _ => []) 0 (fun _ => 0) ∧ Ext w w' ∧ ∀ i k, i < 3 → (K i).has k → w.heap.size ≤ k := by
  refine (mnew_any 3 (by decide) (by decide) 300 nd_ok nnew_any w).mono ?_
  rintro e w' ⟨A, K, rfl, hF, hN, hE, hK, hKK, hKA⟩
  refine ⟨A, K, rfl, ⟨⟨hF.fix, hN⟩, ⟨hKK, hKA, fun i hi hs => ?_⟩, hT.ext hE⟩, hE, fun i k hi => hK i hi k⟩
  have := hK i hi _ hs
  have := hT.lt
  omega
end Go.Proofs.YtapodcmjggmgmaaGreatDoor
namespace Go.Proofs.YtapodcmjggmgmaaGreatDoor
open Go.RowKit Go.Sort
theorem SiteIn.ext {w w' : World} {A : FixA} {K : Nat → Ks} {M : Nat → List (Nat × ByteArray)} {B : Nat} {U : Nat → Int} (h : SiteIn w A K M B U) (hE : Ext w w') : SiteIn w' A K M B U := ⟨h.at_.ext hE, h.ap, h.tab.ext hE⟩
def onN (M : Nat → List (Nat × ByteArray)) (id d : Nat) : Nat := ((List.range d).filter fun i => decide (id ∈ (M i).map (·.1))).length
theorem onN_succ (M : Nat → List (Nat × ByteArray)) (id d : Nat) : onN M id (d + 1) = onN M id d + (if decide (id ∈ (M d).map (·.1)) = true then 1 else 0) := by
  unfold onN
  rw [List.range_succ, List.filter_append, List.length_append]
  congr 1
  by_cases h : id ∈ (M d).map (·.1) <;> simp [h]
theorem onN_le (M : Nat → List (Nat × ByteArray)) (id d : Nat) : onN M id d ≤ d := by
  have := List.length_filter_le (fun i => decide (id ∈ (M i).map (·.1))) (List.range d)
  rw [List.length_range] at this
  exact this
theorem onN_two {M0 M : Nat → List (Nat × ByteArray)} {id : Nat} {data : ByteArray} {rn : List Nat} (h2 : rn.length = 2) (hn : rn.Nodup) (hr : ∀ i ∈ rn, i < 3) (h0 : ∀ i, i < 3 → ∀ y ∈ M0 i, y.1 < id) (hM : ∀ i, i < 3 → if i ∈ rn then M i = M0 i ++ [(id, data)] else M i = M0 i) : onN M id 3 = 2 := by
  have hd : ∀ i ∈ List.range 3, decide (id ∈ (M i).map (·.1)) = decide (i ∈ rn) := fun i hi => by
    have hi3 : i < 3 := List.mem_range.1 hi
    have := hM i hi3
    by_cases hm : i ∈ rn
    · rw [if_pos hm] at this; rw [this]; simp [hm]
    · rw [if_neg hm] at this; rw [this, decide_eq_false hm]
      refine decide_eq_false fun h => ?_
      obtain ⟨y, hy, e⟩ := List.mem_map.1 h
      have := h0 i hi3 y hy; omega
  unfold onN
  rw [List.filter_congr hd]
  match rn, h2, hn, hr with
  | [a, b], _, hn, hr =>
    have ha := hr a (by simp)
    have hb := hr b (by simp)
    rcases (show a = 0 ∨ a = 1 ∨ a = 2 by omega) with rfl | rfl | rfl <;> rcases (show b = 0 ∨ b = 1 ∨ b = 2 by omega) with rfl | rfl | rfl <;> first | decide | (simp at hn)
set_option maxRecDepth 100000 in
set_option maxHeartbeats 8000000 in
theorem refused_law (w0 : World) (ss : List ByteArray) (sv : Value) (hS : Sl w0 sv (ss.map Value.string)) (hT : Tab w0) : Calls Tryz.prog 3 #[sv] w0 fun e w' => e = .returned (.bool true) ∧ Ext w0 w' := by
  obtain ⟨sA, sc, rfl, hsx⟩ := hS
  rw [List.length_map]
  have hS : Sl w0 (.slice sA ss.length sc) (ss.map Value.string) := ⟨sA, sc, by rw [List.length_map], hsx⟩
  clear hsx
  go_enter Tryz.func3, Tryz.ntmps3
  go_wp2_with fail
  refine (live_any w0 hT).mono ?_
  rintro e w1 ⟨rfl, hE1⟩
  have cm := msite_any w1 (hT.ext hE1)
  go_wp2_with fail
  refine cm.mono ?_
  rintro e w2 ⟨A, K, rfl, hI, hE2, hK⟩
  clear cm
  have hK0 : ∀ i b, i < 3 → (K i).has b → w0.heap.size ≤ b := fun i b hi hb => by have := hK i b hi hb; have := hE1.size; omega
  have hE02 := hE1.trans hE2
  clear hK hE1 hE2
  go_wp2_with fail
  go_loopw [4, 5] (fun tv iv wr => ∃ (k : Nat) (tk : Int) (K : Nat → Ks) (M : Nat → List (Nat × ByteArray)) (U : Nat → Int), k ≤ 15 ∧ k ≤ ss.length ∧ iv = .int .i64 (k : Int) ∧ tv = .int .i64 tk ∧ SiteIn wr A K M (3 * k) U ∧ (∀ i, i < 3 → ∀ y ∈ M i, y.1 < 4294967296 + (k + 1)) ∧
    (k = 0 → tk = 0 ∧ ∀ i, i < 3 → U i = 0) ∧ (0 < k → 0 < tk) ∧ 0 ≤ tk ∧ tk ≤ k ∧ (∀ i b, i < 3 → (K i).has b → w0.heap.size ≤ b) ∧ Ext w0 wr) (fun _ iv _ => 15 - (intOf iv).toNat)
  case atStart => exact ⟨0, 0, K, fun _ => [], fun _ => 0, by omega, by omega, rfl, rfl, hI, fun i hi y hy => absurd hy List.not_mem_nil, fun _ => ⟨rfl, fun _ _ => rfl⟩, fun h => absurd h (by omega), Int.le_refl 0, Int.le_refl 0, hK0, hE02⟩
  case round =>
    clear hI hK0 hE02
    obtain ⟨k, tk, K, M, U, hk15, hkl, rfl, rfl, hI, hM, hz, hp, ht0, htk, hK0, hE⟩ := hrel
    by_cases hlt : k < 15 ∧ k < ss.length
    · obtain ⟨hlt15, hltl⟩ := hlt
      obtain ⟨s, hs⟩ : ∃ s, ss[k]? = some s := ⟨_, List.getElem?_eq_getElem hltl⟩
      obtain ⟨b, o, rfl, hcell⟩ := (hS.ext hE).pick (k := k) (x := .string s) (by rw [List.getElem?_map, hs]; rfl)
      go_upto_if 32 with fail
      rename World => wr
      clear hcell hs
      go_cut [6] from 32 to 34 (fun dv wx => ∃ d : ByteArray, d.size ≤ 150 ∧ dv = .string d ∧ wx = wr)
      case first =>
        by_cases hsz : 150 < s.size
        · go_wp2_with fail
          go_meet
          case rel => exact ⟨_, by rw [ByteArray.size_extract]; omega, rfl, rfl⟩
        · go_wp2_with fail
          go_meet
          case rel => exact ⟨_, by omega, rfl, rfl⟩
      obtain ⟨data, hd, rfl, rfl⟩ := hcut
      have cid : ∀ w : World, Calls Tryz.prog 7 #[.int .i64 1, .int .i64 ((k : Int) + 1)] w fun e w' => e = .returned (.int .u64 ((4294967296 + (k + 1) : Nat) : Int)) ∧ Ext w w' := fun w => by simpa using mid_any w (k + 1) (by omega)
      obtain ⟨id, hid⟩ : ∃ id, 4294967296 + (k + 1) = id := ⟨_, rfl⟩
      rw [hid] at cid hM
      go_wp2_with fail
      refine (cid _).mono ?_
      rintro e w3 ⟨rfl, hE3⟩
      clear cid
      have cs := store_any w3 A K M (3 * k) U (hI.ext hE3) (by omega) id (by omega) hM data hd
      have HE := Lib.hid (hE.trans hE3)
      clear hI hE hE3
      go_wp2_with fail
      refine cs.mono ?_
      rintro e w4 ⟨v, K', M', U', hI4, hM4, hC4, hKK, hor⟩
      clear cs
      obtain ⟨ev, rfl, hor2⟩ : ∃ ev : Int, e = .returned (.tuple #[v, .int .i64 ev]) ∧ ((ev = 7 ∧ ¬ ∀ i, i < 3 → U i = 0) ∨ (ev = 0 ∧ ∃ rn : List Nat, rn.length = 2 ∧ rn.Nodup ∧ (∀ i ∈ rn, i < 3) ∧ Sl w4 v ((rn.map Int.ofNat).map (Value.int .i64)) ∧ ∀ i, i < 3 → if i ∈ rn then M' i = M i ++ [(id, data)] else M' i = M i)) := by
        rcases hor with ⟨h1, h2⟩ | ⟨h1, h2⟩
        · exact ⟨7, h1, .inl ⟨rfl, h2⟩⟩
        · exact ⟨0, h1, .inr ⟨rfl, h2⟩⟩
      have hE4 : Ext w0 w4 := (HE.out.chg_trans hC4).mono (fun b hb ⟨i, hi, hk⟩ => by have := hK0 i b hi hk; omega)
      have hK4 : ∀ i b, i < 3 → (K' i).has b → w0.heap.size ≤ b := fun i b hi hb => by
        rcases hKK i b hi hb with h | h
        · exact hK0 i b hi h
        · have := HE.out.size; omega
      have HOR := Lib.hid hor2
      clear hC4 hKK HE hK0 hor hor2
      go_wp2_with fail
      go_loopw [10, 11] (fun nv iv wx => ∃ d : Nat, d ≤ 3 ∧ iv = .int .i64 (d : Int) ∧ nv = .int .i64 (onN M' id d : Int) ∧ Ext w4 wx) (fun _ iv _ => 3 - (intOf iv).toNat)
      case atStart => exact ⟨0, by omega, rfl, rfl, Ext.refl _⟩
      case round =>
        obtain ⟨d, hd3, rfl, rfl, hEx⟩ := hrel
        rename World => wx
        by_cases hlt : d < 3
        · have hIx := hI4.ext hEx
          have cn := nodeI_any wx A _ hIx.at_.fix d hlt
          have hNd := hIx.at_.nd d hlt
          have hsu := onN_succ M' id d
          have hon := onN_le M' id d
          go_wp2_with fail
          refine cn.mono ?_
          rintro e w5 ⟨rfl, hE5⟩
          clear cn
          have ch := nhasI_any w5 (K' d) (M' d) _ (U' d) (hNd.ext hE5) id
          obtain ⟨bb, hbb⟩ : ∃ bb, decide (id ∈ (M' d).map (·.1)) = bb := ⟨_, rfl⟩
          rw [hbb] at ch hsu
          clear hbb
          go_wp2_with fail
          refine ch.mono ?_
          rintro e w6 ⟨rfl, hE6⟩
          clear ch
          have hE56 := hE5.trans hE6
          have cn := nodeI_any w6 A _ (hIx.ext hE56).at_.fix d hlt
          have hdk := fun w (hE : Ext wx w) => (hNd.ext hE).disk
          obtain ⟨_, _, _, _, hu0, hu1⟩ := hNd.disk
          cases bb
          · go_wp2_with fail
            refine cn.mono ?_
            rintro e w7 ⟨rfl, hE7⟩
            clear cn
            have hE57 := hE56.trans hE7
            obtain ⟨q0, q1, q2, _⟩ := hdk w7 hE57
            have cu := used_any (K' d).d 0 (U' d) w7 q2
            clear hdk
            go_wp2_with fail
            refine cu.mono ?_
            rintro e w8 ⟨rfl, rfl⟩
            clear cu
            go_wp2_with fail
            go_roundw
            case rel => exact ⟨d + 1, by omega, by go_num, by rw [hsu]; rfl, hEx.trans hE57⟩
            case measure => simp [intOf]; omega
          · go_wp2_with fail
            refine cn.mono ?_
            rintro e w7 ⟨rfl, hE7⟩
            clear cn
            have hE57 := hE56.trans hE7
            obtain ⟨q0, q1, q2, _⟩ := hdk w7 hE57
            have cu := used_any (K' d).d 0 (U' d) w7 q2
            clear hdk
            go_wp2_with fail
            refine cu.mono ?_
            rintro e w8 ⟨rfl, rfl⟩
            clear cu
            go_wp2_with fail
            go_roundw
            case rel => exact ⟨d + 1, by omega, by go_num, by rw [hsu]; rfl, hEx.trans hE57⟩
            case measure => simp [intOf]; omega
        · obtain rfl : d = 3 := by omega
          have hIx := hI4.ext hEx
          have hEX := hE4.trans hEx
          clear hI4 hE4
          rcases HOR.out with ⟨rfl, hnU⟩ | ⟨rfl, rn, h2, hrn, hr3, hv, hMM⟩
          · have hk0 : k ≠ 0 := fun e => hnU (hz e).2
            have htp := hp (by omega)
            go_wp2_with fail
            go_roundw
            case rel => exact ⟨k + 1, tk, K', M', U', by omega, by omega, by go_num, rfl, by rw [show 3 * (k + 1) = 3 * k + 3 by omega]; exact hIx, fun i hi y hy => by have := hM4 i hi y hy; omega, fun h => absurd h (by omega), fun _ => htp, ht0, by omega, hK4, hEX⟩
            case measure => simp [intOf]; omega
          · have hon2 := onN_two h2 hrn hr3 hM hMM
            rw [hon2]
            obtain ⟨a, ha⟩ : ∃ a, rn[0]? = some a := ⟨_, List.getElem?_eq_getElem (by omega)⟩
            have ham := List.mem_of_getElem? ha
            have ha3 := hr3 a ham
            have hMa := hMM a ha3
            rw [if_pos ham] at hMa
            have hxm : (id, data) ∈ M' a := by rw [hMa]; exact List.mem_append_right _ (List.mem_singleton.2 rfl)
            obtain ⟨vA, vc, hve⟩ : ∃ A c, v = .slice A 2 c := by
              obtain ⟨A, c, h, _⟩ := hv
              exact ⟨A, c, by rw [h]; simp [h2]⟩
            subst hve
            obtain ⟨b', o', rfl, hcell⟩ := (hv.ext hEx).pick (k := 0) (x := .int .i64 (a : Int)) (by simp [ha])
            rw [Nat.add_zero] at hcell
            have cn := nodeI_any wx A _ hIx.at_.fix a ha3
            clear hv ha ham hMa hMM hon2 hrn hr3
            go_wp2_with fail
            refine cn.mono ?_
            rintro e w7 ⟨rfl, hE7⟩
            clear cn
            have cs := sum_any (w7.alloc (.cells #[.string data] 9)) (.slice (some ⟨w7.heap.size, 0, none⟩) 1 1) [data] (sl_one w7 9 (.string data) 1) (by simp) (by intro s hs; simp at hs; subst hs; unfold maxLen; omega) ((hIx.tab.ext hE7).alloc _)
            simp only [List.flatMap_cons, List.flatMap_nil, List.append_nil] at cs
            have hE8 := hE7.alloc (.cells #[.string data] 9)
            have cu := nsure_any (w7.alloc (.cells #[.string data] 9)) (K' a) (M' a) _ (U' a) ((hIx.at_.nd a ha3).ext hE8) id data hxm (hIx.tab.ext hE8)
            generalize crc data.data.toList = cx at cs cu
            go_wp2_with fail
            refine cs.mono ?_
            rintro e w8 ⟨rfl, rfl⟩
            clear cs
            go_wp2_with fail
            refine cu.mono ?_
            rintro e w9 ⟨rfl, hE9⟩
            clear cu
            have hEz := hE8.trans hE9
            go_wp2_with fail
            go_roundw
            case rel => exact ⟨k + 1, tk + 1, K', M', U', by omega, by omega, by go_num, by go_num, by rw [show 3 * (k + 1) = 3 * k + 3 by omega]; exact hIx.ext hEz, fun i hi y hy => by have := hM4 i hi y hy; omega, fun h => absurd h (by omega), fun _ => by omega, by omega, by omega, hK4, hEX.trans hEz⟩
            case measure => simp [intOf]; omega
    · have hend : k = 15 ∨ k = ss.length := by omega
      by_cases hl0 : ss.length = 0
      · obtain rfl : k = 0 := by omega
        obtain ⟨rfl, _⟩ := hz rfl
        go_wp2_with fail
        all_goals (go_ret; exact ⟨rfl, hE⟩)
      · have htp := hp (by omega)
        go_wp2_with fail
        all_goals (go_ret; exact ⟨rfl, hE⟩)
end Go.Proofs.YtapodcmjggmgmaaGreatDoor
namespace Go.Proofs.YtapodcmjggmgmaaGreatDoor
open Go.ChangeShapes Go.WideShapes Go.ChangeAt Go.RowKit
section
variable {H : Type} {enc : TypeId × Value → H} {P : Program} {W : World}
theorem open_texts {t e : TypeId} {r : Reach} {b0 : Nat} {v : Value} {d : DataW H} {p : List MemPlace} (ht : P.underlying t = some (.slice e)) (he : P.underlying e = some .string) (hc : P.cellsOf e = 1)
    (hv : Value.okWide P W r b0 t v) (h : DataW.Trod enc P W 0 (fun _ => true) true t v d p) :
    ∃ ss : List ByteArray, Sl W v (ss.map Value.string) ∧ (∀ s ∈ ss, s.size ≤ maxLen) ∧ ss.length ≤ maxLen := by
  obtain ⟨a0, len0, cap0, rfl⟩ := okWide_slice ht hv
  obtain ⟨fuel, hf⟩ := h
  rcases open_strings ht he hc hf with ⟨hcs, _⟩ | ⟨a, len, cap, ss, hcs, _, hl, hm, hz, _, hcell, hwz⟩
  · simp only [Value.cells, List.cons.injEq, and_true] at hcs
    rw [hcs]
    exact ⟨[], Sl.nil _ _, by simp, Nat.zero_le _⟩
  · simp only [Value.cells, List.cons.injEq, and_true] at hcs
    rw [hcs]
    simp only [if_true] at hz
    have hll : (ss.take len).length = len := by rw [List.length_take]; omega
    refine ⟨ss.take len, ⟨some a, cap, by rw [List.length_map, hll], fun hne => ?_⟩, fun x hx => hwz x (List.mem_of_mem_take hx), by omega⟩
    have hpos : 0 < ss.length := by
      rcases Nat.eq_zero_or_pos ss.length with h0 | h0
      · exact absurd (by rw [List.eq_nil_of_length_eq_zero h0]; simp) hne
      · exact h0
    obtain ⟨b, off, spot⟩ := a
    have hspot : spot = none := by simpa [Addr.add] using World.cell?_spot (hcell 0 hpos)
    subst hspot
    refine ⟨b, off, rfl, fun i x hi => ?_⟩
    rw [List.getElem?_map, List.getElem?_take] at hi
    split at hi
    · rename_i hlt
      have := hcell i (by omega)
      rw [← Go.WideShapes.add_plain, this]
      have hg : ss[i]? = some (ss.getD i ByteArray.empty) := by
        rw [List.getD_eq_getElem?_getD, List.getElem?_eq_getElem (by omega)]; rfl
      rw [hg] at hi
      simpa using hi
    · simp at hi
end
end Go.Proofs.YtapodcmjggmgmaaGreatDoor
namespace Go.Proofs.YtapodcmjggmgmaaGreatDoor
open Go.ChangeShapes Go.WideShapes Go.ChangeAt Go.RowKit
abbrev laidL : List (String × DataW Unit) := [("math/bits.deBruijn32tab", Rows.laid_math_bits_deBruijn32tab), ("math/bits.deBruijn64tab", Rows.laid_math_bits_deBruijn64tab), ("internal/strconv.uint64pow10", Rows.laid_internal_strconv_uint64pow10), ("glacier/seal.steps", Rows.laid_glacier_seal_steps)]
theorem g_steps : Tryz.prog.globalNamed "glacier/seal.steps" = some 0 := by kernel_rfl
theorem tab_of_laid {W : World} (h : laidMetH Tryz.prog laidL W) : Tab W := by
  rw [MakeChecks.laidMetH_plain _ _ _ (by kernel_rfl)] at h
  have h4 : laidMet Tryz.prog [("glacier/seal.steps", Lib.tabData .u32 (crcT.map fun x : Nat => (x : Int)))] W := h.tail.tail.tail
  have h5 := Lib.tabIs_of_head (P := Tryz.prog) (t := 100) (e := 50) (n := 16) g_steps (by kernel_rfl) Tryz.underlying100 Tryz.underlying50 (by kernel_rfl) (by kernel_rfl) h4
  intro i hi
  have := h5.cell g_steps i (by rw [List.length_map]; exact hi)
  rw [this]
  congr 2
  rw [List.getD_eq_getElem?_getD, List.getD_eq_getElem?_getD, List.getElem?_map]
  cases crcT[i]? <;> rfl
theorem door_met (os : Os) (args : Array Value) : laidMetH Tryz.prog laidL ((World.doorLaid Tryz.prog 400 os).forCall (fun _ _ => 0) ⟨#[], args, []⟩).memory :=
  laidMetH_of_parts3 (fuel := 8) (laidMet_of_run' 8 (by kernel_rfl) (by kernel_rfl)) (by kernel_rfl) (by kernel_rfl)
end Go.Proofs.YtapodcmjggmgmaaGreatDoor
