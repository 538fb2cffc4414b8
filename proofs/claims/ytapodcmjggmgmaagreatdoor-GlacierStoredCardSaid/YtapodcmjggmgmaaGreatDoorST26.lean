/-
  Part 26 of what the law leans on.
-/
import Derived.Test.YtapodcmjggmgmaaGreatDoorST25
set_option linter.unusedVariables false
set_option linter.unusedSimpArgs false
set_option linter.unusedSectionVars false
namespace Go.Proofs.YtapodcmjggmgmaaGreatDoor.Four
open Go.Proofs.YtapodcmjggmgmaaGreatDoor Go.RowKit Go.Sort
theorem FixAt.of {w : World} {A : FixA} {n : Nat → Nat} (h : FixN w A n 4) : FixAt w A n :=
  ⟨h.b5, h.b6, h.b7, h.b8, h.b9, h.b10, h.b11, h.nd, h.l0, h.l1, h.d0, h.d1, h.d2, h.d3, h.va, h.vb, h.a0, h.a1, h.a2, h.e0, h.e1, h.e2, h.i0, h.i1⟩
theorem nd_ok : NPok Ks.has (fun w K => NdO w K []) 34 where
  chg h hC hS := h.chg hC hS
  own h hO k hk hh := by
    obtain ⟨cs, hA⟩ := own_at hO hk
    have h1 := h.1
    rcases hh with rfl | rfl | rfl | rfl | rfl
    · exact absurd rfl (hA.ne h1.nd (by decide))
    · exact absurd rfl (hA.ne h1.st.st (by decide))
    · exact absurd rfl (hA.ne h1.st.dk.1 (by decide))
    · exact h1.st.dk.2.ne_at hA rfl
    · exact h1.st.ch.ne_at hA rfl
  lt h hh := h.lt _ hh
theorem msite_any (w : World) (hT : Tab w) : Calls Tryz.prog 6 #[.agg (cfgC 4 20000)] w fun e w' => ∃ (A : FixA) (K : Nat → Ks), e = .returned (.pointer (some ⟨A.b, 0, none⟩)) ∧ SiteIn w' A K (fun _ => []) ∧ Ext w w' ∧ ∀ i k, i < 4 → (K i).has k → w.heap.size ≤ k := by
  refine (mnew_any 4 (by decide) (by decide) 20000 nd_ok nnewT_any w).mono ?_
  rintro e w' ⟨A, K, rfl, hF, hN, hE, hK, hKK, hKA⟩
  refine ⟨A, K, rfl, ⟨FixAt.of hF, hN, ⟨hKK, hKA, fun i hi hs => ?_⟩, hT.ext hE⟩, hE, fun i k hi => hK i hi k⟩
  have := hK i hi _ hs
  have := hT.lt
  omega
set_option maxRecDepth 100000 in
theorem nodeI_any (w : World) (A : FixA) (n : Nat → Nat) (h : FixAt w A n) (i : Nat) (hi : i < 4) :
    Calls Tryz.prog 9 #[.pointer (some ⟨A.b, 0, none⟩), .int .i64 (i : Int)] w fun e w' => e = .returned (.pointer (some ⟨n i, 0, none⟩)) ∧ Ext w w' := by
  have b9 := h.b9
  have bnd := h.nd i hi
  have hg : ((4 : Int) ≤ (i : Int)) = False := by simp; omega
  have hg0 : ((i : Int) < 0) = False := by simp
  go_enter Tryz.func9, Tryz.ntmps9
  go_wp2_with fail
  go_ret
  exact ⟨rfl, Ext.refl w⟩
set_option maxRecDepth 100000 in
theorem mid2_any (w : World) (k : Nat) (hk : k ≤ 100) :
    Calls Tryz.prog 7 #[.int .i64 2, .int .i64 (k : Int)] w fun e w' => e = .returned (.int .u64 ((8589934592 + k : Nat) : Int)) ∧ Ext w w' := by
  go_enter Tryz.func7, Tryz.ntmps7
  go_wp2_with fail
  go_ret
  exact ⟨by simp, Ext.refl w⟩
structure SiteR (w : World) (A : FixA) (K : Nat → Ks) (M : Nat → List (List Rec)) (lost : Nat → Bool) : Prop where
  fix : FixAt w A (fun i => (K i).n)
  nd : ∀ i, i < 4 → NdR w (K i) (M i) (lost i)
  tab : Tab w
theorem SiteR.ext {w w' : World} {A : FixA} {K : Nat → Ks} {M : Nat → List (List Rec)} {lost : Nat → Bool} (h : SiteR w A K M lost) (hE : Ext w w') : SiteR w' A K M lost := ⟨h.fix.ext hE, fun i hi => (h.nd i hi).ext hE, h.tab.ext hE⟩
abbrev blC (x : Rec) (v : Value) : Array Value := #[.int .u64 (x.1 : Int), .string ⟨#[]⟩, .int .i64 (x.2.size : Int), .int .u32 (crc x.2.data.toList : Nat), v, .bool false, .int .i64 0, .int .i64 0, .bool false, .int .i64 0, .int .i64 0, .int .i64 0, .bool false]
theorem blob_info : (Tryz.prog.info? 58).map (·.size) = some 13 := by kernel_rfl
structure BlobOn (w : World) (M : Nat → List (List Rec)) (lost : Nat → Bool) (x : Rec) (v : Value) (rn : List Nat) : Prop where
  sl : Sl w v ((rn.map Int.ofNat).map (Value.int .i64))
  two : rn.length = 2
  nod : rn.Nodup
  lt : ∀ i ∈ rn, i < 4
  has : ∀ i ∈ rn, x ∈ (M i).flatten
  one : ∃ li, ∀ i, i < 4 → lost i = decide (i = li)
theorem BlobOn.ext {w w' : World} {M : Nat → List (List Rec)} {lost : Nat → Bool} {x : Rec} {v : Value} {rn : List Nat} (h : BlobOn w M lost x v rn) (hE : Ext w w') : BlobOn w' M lost x v rn := ⟨h.sl.ext hE, h.two, h.nod, h.lt, h.has, h.one⟩
set_option maxRecDepth 100000 in
set_option maxHeartbeats 2000000 in
theorem fromdisks_any (w : World) (A : FixA) (K : Nat → Ks) (M : Nat → List (List Rec)) (lost : Nat → Bool) (h : SiteR w A K M lost) (x : Rec) (v : Value) (rn : List Nat) (hb : BlobOn w M lost x v rn) :
    Calls Tryz.prog 42 #[.pointer (some ⟨A.b, 0, none⟩), .agg (blC x v)] w fun e w' => e = .returned (.tuple #[.string x.2, .int .i64 0]) ∧ Ext w w' := by
  obtain ⟨vA, vc, rfl⟩ : ∃ A c, v = .slice A 2 c := by
    obtain ⟨A, c, h, _⟩ := hb.sl
    exact ⟨A, c, by rw [h]; simp [hb.two]⟩
  obtain ⟨li, hli⟩ := hb.one
  go_enter Tryz.func42, Tryz.ntmps42
  go_wp2_with fail
  have hB := At.new w 58 (blC x (.slice vA 2 vc))
  have hE0 := (Ext.refl w).alloc (.cells (blC x (.slice vA 2 vc)) 58)
  generalize w.alloc (.cells (blC x (.slice vA 2 vc)) 58) = W at hB hE0 ⊢
  generalize w.heap.size = bb at hB ⊢
  go_loopw [14] (fun iv wr => ∃ k : Nat, k ≤ 2 ∧ iv = .int .i64 (k : Int) ∧ (∀ j i, j < k → rn[j]? = some i → i = li) ∧ Ext W wr) (fun iv _ => 2 - (intOf iv).toNat)
  case atStart => exact ⟨0, by omega, rfl, fun j i hj => absurd hj (by omega), Ext.refl _⟩
  case round =>
    obtain ⟨k, hk, rfl, hall, hE⟩ := hrel
    rename World => wr
    have h2 := hb.two
    by_cases hlt : k < 2
    · have hb2 := hb.ext (hE0.trans hE)
      have hS := h.ext (hE0.trans hE)
      have hBr := hB.ext hE
      obtain ⟨i, hi⟩ : ∃ i, rn[k]? = some i := ⟨_, List.getElem?_eq_getElem (by omega)⟩
      have him := List.mem_of_getElem? hi
      have hi4 := hb.lt i him
      obtain ⟨b', o', rfl, hcell⟩ := hb2.sl.pick (k := k) (x := .int .i64 (i : Int)) (by simp [hi])
      have cn := nodeI_any wr A _ hS.fix i hi4
      have hN := hS.nd i hi4
      have hx := hb.has i him
      have hB0 := fun w' (hE : Ext wr w') => (hBr.ext hE).cell 0
      have hB2 := fun w' (hE : Ext wr w') => (hBr.ext hE).cell 2
      have hB3 := fun w' (hE : Ext wr w') => (hBr.ext hE).cell 3
      simp at hB0 hB2 hB3
      have hTr := hS.tab
      have HI := Lib.hid (And.intro hi him)
      clear hi him hb2 hS hBr h2
      by_cases hl : i = li
      · have hlo : lost i = true := by rw [hli i hi4]; simpa using hl
        rw [hlo] at hN
        have HL := Lib.hid hl
        clear hlo hl
        go_wp2_with fail
        refine cn.mono ?_
        rintro e w3 ⟨rfl, hE3⟩
        have cv := nverT_lost w3 (K i) (M i) (hN.ext hE3) (x.1 : Int) (x.2.size : Int) (crc x.2.data.toList : Nat)
        have k0 := hB0 w3 hE3
        have k2 := hB2 w3 hE3
        have k3 := hB3 w3 hE3
        clear cn hB0 hB2 hB3 hcell
        generalize crc x.2.data.toList = cx at *
        go_wp2_with fail
        refine cv.mono ?_
        rintro e w4 ⟨rfl, hE4⟩
        clear cv
        go_wp2_with fail
        go_roundw
        case rel =>
          refine ⟨k + 1, by omega, by go_num, fun j i' hj hj' => ?_, hE.trans (hE3.trans hE4)⟩
          rcases (show j < k ∨ j = k by omega) with q | rfl
          · exact hall j i' q hj'
          · rw [HI.out.1] at hj'; rw [← Option.some.inj hj']; exact HL.out
        case measure => simp [intOf]; omega
      · have hlo : lost i = false := by rw [hli i hi4]; simpa using hl
        rw [hlo] at hN
        have HL := Lib.hid hl
        clear hlo hl
        go_wp2_with fail
        refine cn.mono ?_
        rintro e w3 ⟨rfl, hE3⟩
        have cv := nverT_any w3 (K i) (M i) (hN.ext hE3) x hx (hTr.ext hE3)
        have k0 := hB0 w3 hE3
        have k2 := hB2 w3 hE3
        have k3 := hB3 w3 hE3
        clear cn hB0 hB2 hB3 hcell
        generalize crc x.2.data.toList = cx at *
        go_wp2_with fail
        refine cv.mono ?_
        rintro e w4 ⟨rfl, hE4⟩
        clear cv
        go_wp2_with fail
        go_ret2
        exact ⟨rfl, hE0.trans (hE.trans (hE3.trans hE4))⟩
    · obtain rfl : k = 2 := by omega
      exfalso
      match rn, h2, hall, hb.nod with
      | [a, b], _, hall, hn =>
        have h1 := hall 0 a (by omega) rfl
        have h3 := hall 1 b (by omega) rfl
        subst h1; subst h3
        simp at hn
set_option maxRecDepth 100000 in
set_option maxHeartbeats 2000000 in
theorem fetch_any (w : World) (A : FixA) (K : Nat → Ks) (M : Nat → List (List Rec)) (lost : Nat → Bool) (h : SiteR w A K M lost) (x : Rec) (v : Value) (rn : List Nat) (hb : BlobOn w M lost x v rn) :
    Calls Tryz.prog 17 #[.pointer (some ⟨A.b, 0, none⟩), .agg (blC x v)] w fun e w' => e = .returned (.tuple #[.string x.2, .int .i64 0]) ∧ Ext w w' := by
  have hB := At.new w 58 (blC x v)
  have hE0 := (Ext.refl w).alloc (.cells (blC x v) 58)
  have hR := hB.range
  have cf := fromdisks_any _ A K M lost (h.ext hE0) x v rn (hb.ext hE0)
  go_enter Tryz.func17, Tryz.ntmps17
  go_wp2_with (refine wpList_load_mid rfl 58 _ rfl w.heap.size 0 rfl _ _ hR Tryz.underlying58 rfl blob_info ?_)
  refine cf.mono ?_
  rintro e w2 ⟨rfl, hE2⟩
  go_wp2_with fail
  go_ret2
  exact ⟨rfl, hE0.trans hE2⟩
end Go.Proofs.YtapodcmjggmgmaaGreatDoor.Four
namespace Go.Proofs.YtapodcmjggmgmaaGreatDoor.Four
open Go.Proofs.YtapodcmjggmgmaaGreatDoor Go.RowKit Go.Sort
set_option maxRecDepth 100000 in
set_option maxHeartbeats 2000000 in
theorem msure_any (w : World) (A : FixA) (K : Nat → Ks) (M : Nat → List (List Rec)) (lost : Nat → Bool) (h : SiteR w A K M lost) (x : Rec) (v : Value) (rn : List Nat) (hb : BlobOn w M lost x v rn) :
    Calls Tryz.prog 18 #[.pointer (some ⟨A.b, 0, none⟩), .agg (blC x v)] w fun e w' => e = .returned (.bool true) ∧ Ext w w' := by
  obtain ⟨vA, vc, rfl⟩ : ∃ A c, v = .slice A 2 c := by
    obtain ⟨A, c, h, _⟩ := hb.sl
    exact ⟨A, c, by rw [h]; simp [hb.two]⟩
  obtain ⟨li, hli⟩ := hb.one
  go_enter Tryz.func18, Tryz.ntmps18
  go_wp2_with fail
  have hB := At.new w 58 (blC x (.slice vA 2 vc))
  have hE0 := (Ext.refl w).alloc (.cells (blC x (.slice vA 2 vc)) 58)
  generalize w.alloc (.cells (blC x (.slice vA 2 vc)) 58) = W at hB hE0 ⊢
  generalize w.heap.size = bb at hB ⊢
  go_loopw [13] (fun iv wr => ∃ k : Nat, k ≤ 2 ∧ iv = .int .i64 (k : Int) ∧ (∀ j i, j < k → rn[j]? = some i → i = li) ∧ Ext W wr) (fun iv _ => 2 - (intOf iv).toNat)
  case atStart => exact ⟨0, by omega, rfl, fun j i hj => absurd hj (by omega), Ext.refl _⟩
  case round =>
    obtain ⟨k, hk, rfl, hall, hE⟩ := hrel
    rename World => wr
    have h2 := hb.two
    by_cases hlt : k < 2
    · have hb2 := hb.ext (hE0.trans hE)
      have hS := h.ext (hE0.trans hE)
      have hBr := hB.ext hE
      obtain ⟨i, hi⟩ : ∃ i, rn[k]? = some i := ⟨_, List.getElem?_eq_getElem (by omega)⟩
      have him := List.mem_of_getElem? hi
      have hi4 := hb.lt i him
      obtain ⟨b', o', rfl, hcell⟩ := hb2.sl.pick (k := k) (x := .int .i64 (i : Int)) (by simp [hi])
      have cn := nodeI_any wr A _ hS.fix i hi4
      have hN := hS.nd i hi4
      have hx := hb.has i him
      have hB0 := fun w' (hE : Ext wr w') => (hBr.ext hE).cell 0
      have hB2 := fun w' (hE : Ext wr w') => (hBr.ext hE).cell 2
      have hB3 := fun w' (hE : Ext wr w') => (hBr.ext hE).cell 3
      simp at hB0 hB2 hB3
      have hTr := hS.tab
      have HI := Lib.hid (And.intro hi him)
      clear hi him hb2 hS hBr h2
      by_cases hl : i = li
      · have hlo : lost i = true := by rw [hli i hi4]; simpa using hl
        rw [hlo] at hN
        have HL := Lib.hid hl
        clear hlo hl
        go_wp2_with fail
        refine cn.mono ?_
        rintro e w3 ⟨rfl, hE3⟩
        have cv := nsureT_lost w3 (K i) (M i) (hN.ext hE3) (x.1 : Int) (x.2.size : Int) (crc x.2.data.toList : Nat)
        have k0 := hB0 w3 hE3
        have k2 := hB2 w3 hE3
        have k3 := hB3 w3 hE3
        clear cn hB0 hB2 hB3 hcell
        generalize crc x.2.data.toList = cx at *
        go_wp2_with fail
        refine cv.mono ?_
        rintro e w4 ⟨rfl, hE4⟩
        clear cv
        go_wp2_with fail
        go_roundw
        case rel =>
          refine ⟨k + 1, by omega, by go_num, fun j i' hj hj' => ?_, hE.trans (hE3.trans hE4)⟩
          rcases (show j < k ∨ j = k by omega) with q | rfl
          · exact hall j i' q hj'
          · rw [HI.out.1] at hj'; rw [← Option.some.inj hj']; exact HL.out
        case measure => simp [intOf]; omega
      · have hlo : lost i = false := by rw [hli i hi4]; simpa using hl
        rw [hlo] at hN
        have HL := Lib.hid hl
        clear hlo hl
        go_wp2_with fail
        refine cn.mono ?_
        rintro e w3 ⟨rfl, hE3⟩
        have cv := nsureT_any w3 (K i) (M i) (hN.ext hE3) x hx (hTr.ext hE3)
        have k0 := hB0 w3 hE3
        have k2 := hB2 w3 hE3
        have k3 := hB3 w3 hE3
        clear cn hB0 hB2 hB3 hcell
        generalize crc x.2.data.toList = cx at *
        go_wp2_with fail
        refine cv.mono ?_
        rintro e w4 ⟨rfl, hE4⟩
        clear cv
        go_wp2_with fail
        go_ret
        exact ⟨rfl, hE0.trans (hE.trans (hE3.trans hE4))⟩
    · obtain rfl : k = 2 := by omega
      exfalso
      match rn, h2, hall, hb.nod with
      | [a, b], _, hall, hn =>
        have h1 := hall 0 a (by omega) rfl
        have h3 := hall 1 b (by omega) rfl
        subst h1; subst h3
        simp at hn
end Go.Proofs.YtapodcmjggmgmaaGreatDoor.Four
