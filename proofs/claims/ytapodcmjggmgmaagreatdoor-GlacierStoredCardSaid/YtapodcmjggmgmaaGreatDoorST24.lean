/-
  Part 24 of what the law leans on.
-/
import Derived.Test.YtapodcmjggmgmaaGreatDoorST12
import Derived.Test.YtapodcmjggmgmaaGreatDoorST13
import Derived.Test.YtapodcmjggmgmaaGreatDoorST20
import Derived.Test.YtapodcmjggmgmaaGreatDoorST23
set_option linter.unusedVariables false
set_option linter.unusedSimpArgs false
set_option linter.unusedSectionVars false
namespace Go.Proofs.YtapodcmjggmgmaaGreatDoor.Four
open Go.Proofs.YtapodcmjggmgmaaGreatDoor Go.RowKit Go.Sort
def NdIn (w : World) (K : Ks) (L : List (List Rec)) (_B : Nat) (u : Int) : Prop := NdO w K L ∧ u = (tot L : Int)
theorem NdIn.ext {w w' : World} {K : Ks} {L : List (List Rec)} {B : Nat} {u : Int} (h : NdIn w K L B u) (hE : Ext w w') : NdIn w' K L B u := ⟨h.1.ext hE, h.2⟩
theorem NdIn.lst {w : World} {K : Ks} {L : List (List Rec)} {B : Nat} {u : Int} (h : NdIn w K L B u) :
    Calls Tryz.prog 34 #[.pointer (some ⟨K.n, 0, none⟩)] w fun r w' => r = .returned (.bool true) ∧ w' = w := up_any w _ _ _ _ _ _ 0 h.1.1 rfl
theorem NdIn.disk {w : World} {K : Ks} {L : List (List Rec)} {B : Nat} {u : Int} (h : NdIn w K L B u) : w.cell? ⟨K.n, 0, none⟩ = some (.pointer (some ⟨K.d, 0, none⟩)) ∧ w.cell? ⟨K.d, 0, none⟩ = some (.int .i64 20000) ∧ w.cell? ⟨K.d, 1, none⟩ = some (.int .i64 u) ∧ w.cell? ⟨K.d, 2, none⟩ = some (.bool false) ∧ 0 ≤ u ∧ u ≤ 20000 := by
  obtain ⟨⟨hN, hG⟩, rfl⟩ := h
  have ht := hG.tot
  exact ⟨hN.nd.cell 0, hN.st.dk.1.cell 0, hN.st.dk.1.cell 1, hN.st.dk.1.cell 2, by omega, by omega⟩
structure FixAt (w : World) (A : FixA) (n : Nat → Nat) : Prop where
  b5 : w.cell? ⟨A.b, 5, none⟩ = some (.int .i64 2)
  b6 : w.cell? ⟨A.b, 6, none⟩ = some (.int .i64 0)
  b7 : w.cell? ⟨A.b, 7, none⟩ = some (.int .i64 0)
  b8 : w.cell? ⟨A.b, 8, none⟩ = some (.int .i64 0)
  b9 : w.cell? ⟨A.b, 9, none⟩ = some (.slice (some ⟨A.nb, A.no, none⟩) 4 A.nc)
  b10 : w.cell? ⟨A.b, 10, none⟩ = some (.pointer (some ⟨A.l, 0, none⟩))
  b11 : w.cell? ⟨A.b, 11, none⟩ = some (.slice (some ⟨A.ib, A.io, none⟩) 2 A.ic)
  nd : ∀ i, i < 4 → w.cell? ⟨A.nb, A.no + i, none⟩ = some (.pointer (some ⟨n i, 0, none⟩))
  l0 : w.cell? ⟨A.l, 0, none⟩ = some (.slice (some ⟨A.vb, A.vo, none⟩) 2 A.vc)
  l1 : w.cell? ⟨A.l, 1, none⟩ = some (.slice (some ⟨A.db, A.do_, none⟩) 1 A.dc)
  d0 : w.cell? ⟨A.db, A.do_, none⟩ = some (.int .i64 (-1))
  d1 : w.cell? ⟨A.db, A.do_ + 1, none⟩ = some (.int .i64 0)
  d2 : w.cell? ⟨A.db, A.do_ + 2, none⟩ = some (.int .i64 0)
  d3 : w.cell? ⟨A.db, A.do_ + 3, none⟩ = some (.bool false)
  va : w.cell? ⟨A.vb, A.vo, none⟩ = some (.pointer (some ⟨A.v0, 0, none⟩))
  vb : w.cell? ⟨A.vb, A.vo + 1, none⟩ = some (.pointer (some ⟨A.v1, 0, none⟩))
  a0 : w.cell? ⟨A.v0, 0, none⟩ = some (.int .i64 1000)
  a1 : w.cell? ⟨A.v0, 1, none⟩ = some (.int .i64 0)
  a2 : w.cell? ⟨A.v0, 2, none⟩ = some (.bool false)
  e0 : w.cell? ⟨A.v1, 0, none⟩ = some (.int .i64 1000)
  e1 : w.cell? ⟨A.v1, 1, none⟩ = some (.int .i64 0)
  e2 : w.cell? ⟨A.v1, 2, none⟩ = some (.bool false)
  i0 : w.cell? ⟨A.ib, A.io, none⟩ = some (.int .i64 0)
  i1 : w.cell? ⟨A.ib, A.io + 1, none⟩ = some (.int .i64 0)
theorem FixAt.chg {w w' : World} {A : FixA} {n : Nat → Nat} {P : Nat → Prop} (h : FixAt w A n) (hC : Chg P w w') (hP : ∀ k, A.blk k → ¬ P k) : FixAt w' A n := by
  have q : ∀ {k o : Nat} {v : Value}, A.blk k → w.cell? ⟨k, o, none⟩ = some v → w'.cell? ⟨k, o, none⟩ = some v := fun {k o v} hb hv => (hC.cell (p := ⟨k, o, none⟩) (cell_lt hv) (fun hp => hP _ hb hp)).trans hv
  have kb : A.blk A.b := .inl rfl
  have knb : A.blk A.nb := .inr (.inl rfl)
  have kl : A.blk A.l := .inr (.inr (.inl rfl))
  have kvb : A.blk A.vb := .inr (.inr (.inr (.inl rfl)))
  have kdb : A.blk A.db := .inr (.inr (.inr (.inr (.inl rfl))))
  have kv0 : A.blk A.v0 := .inr (.inr (.inr (.inr (.inr (.inl rfl)))))
  have kv1 : A.blk A.v1 := .inr (.inr (.inr (.inr (.inr (.inr (.inl rfl))))))
  have kib : A.blk A.ib := .inr (.inr (.inr (.inr (.inr (.inr (.inr rfl))))))
  exact ⟨q kb h.b5, q kb h.b6, q kb h.b7, q kb h.b8, q kb h.b9, q kb h.b10, q kb h.b11, fun i hi => q knb (h.nd i hi), q kl h.l0, q kl h.l1, q kdb h.d0, q kdb h.d1, q kdb h.d2, q kdb h.d3, q kvb h.va, q kvb h.vb, q kv0 h.a0, q kv0 h.a1, q kv0 h.a2, q kv1 h.e0, q kv1 h.e1, q kv1 h.e2, q kib h.i0, q kib h.i1⟩
theorem FixAt.ext {w w' : World} {A : FixA} {n : Nat → Nat} (h : FixAt w A n) (hE : Ext w w') : FixAt w' A n := h.chg hE (fun _ _ h => h)
set_option maxRecDepth 100000 in
theorem working_any (w : World) (A : FixA) (n : Nat → Nat) (h : FixAt w A n) : Calls Tryz.prog 53 #[.pointer (some ⟨A.l, 0, none⟩)] w fun e w' => e = .returned (.int .i64 1) ∧ Ext w w' := by
  obtain ⟨b5, b6, b7, b8, b9, b10, b11, nd, l0, l1, d0, d1, d2, d3, va, vb, a0, a1, a2, e0, e1, e2, i0, i1⟩ := h
  clear nd
  go_enter Tryz.func53, Tryz.ntmps53
  go_wp2_with fail
  go_loopw [3, 11] (fun rv iv wr => ∃ k : Nat, k ≤ 1 ∧ iv = .int .i64 (k : Int) ∧ rv = .int .i64 (k : Int) ∧ Ext w wr) (fun _ iv _ => 1 - (intOf iv).toNat)
  case atStart => exact ⟨0, by omega, rfl, rfl, Ext.refl w⟩
  case round =>
    obtain ⟨k, hk, rfl, rfl, hE⟩ := hrel
    rcases (show k = 0 ∨ k = 1 by omega) with rfl | rfl
    · have x0 := (Ext.cell (p := ⟨A.db, A.do_, none⟩) hE (cell_lt d0)).trans d0
      have x1 := (Ext.cell (p := ⟨A.db, A.do_ + 1, none⟩) hE (cell_lt d1)).trans d1
      have x2 := (Ext.cell (p := ⟨A.db, A.do_ + 2, none⟩) hE (cell_lt d2)).trans d2
      have x3 := (Ext.cell (p := ⟨A.db, A.do_ + 3, none⟩) hE (cell_lt d3)).trans d3
      go_wp2_with fail
      go_roundw
      case rel => exact ⟨1, by omega, rfl, rfl, hE.alloc _⟩
      case measure => simp [intOf]
    · go_wp2_with fail
      go_ret
      exact ⟨rfl, hE⟩
set_option maxRecDepth 100000 in
theorem volume_any (w : World) (A : FixA) (n : Nat → Nat) (h : FixAt w A n) (i : Nat) (hi : i < 2) : Calls Tryz.prog 26 #[.pointer (some ⟨A.l, 0, none⟩), .int .i64 (i : Int)] w fun e w' => e = .returned (.pointer (some ⟨if i = 0 then A.v0 else A.v1, 0, none⟩)) ∧ w' = w := by
  have l0 := h.l0
  have va := h.va
  have vb := h.vb
  rcases (show i = 0 ∨ i = 1 by omega) with rfl | rfl
  · go_enter Tryz.func26, Tryz.ntmps26
    go_wp2_with fail
    go_ret
    exact ⟨rfl, rfl⟩
  · go_enter Tryz.func26, Tryz.ntmps26
    go_wp2_with fail
    go_ret
    exact ⟨rfl, rfl⟩
theorem lostL_any (w : World) (b o : Nat) (h : w.cell? ⟨b, o, none⟩ = some (.bool false)) : Calls Tryz.prog 36 #[.pointer (some ⟨b, o, none⟩)] w fun e w' => e = .returned (.bool false) ∧ Ext w w' := by
  go_enter Tryz.func36, Tryz.ntmps36
  go_wp2_with fail
  go_ret
  exact ⟨rfl, Ext.refl _⟩
theorem freeL_any (w : World) (b : Nat) (room used : Int) (h0 : w.cell? ⟨b, 0, none⟩ = some (.int .i64 room)) (h1 : w.cell? ⟨b, 1, none⟩ = some (.int .i64 used)) (hu0 : 0 ≤ used) (hu1 : used ≤ room) (hr : room ≤ 100000) : Calls Tryz.prog 52 #[.pointer (some ⟨b, 0, none⟩)] w fun e w' => e = .returned (.int .i64 (room - used)) ∧ Ext w w' :=
  (free_any b 0 room used w h0 h1 hu0 hu1 (by omega)).mono fun e w' ⟨he, n, hw⟩ => ⟨he, hw ▸ (Ext.refl w).drewN n⟩
def wCells (v0 v1 v2 v3 v4 : Value) : Array Value := #[v0, v1, v2, v3, v4, .int .i64 2, .int .i64 0, .int .i64 0, .int .i64 0]
abbrev Z9 : Array Value := #[.slice none 0 0, .slice none 0 0, .slice none 0 0, .slice none 0 0, .slice none 0 0, .int .i64 0, .int .i64 0, .int .i64 0, .int .i64 0]
theorem w9_info : (Tryz.prog.info? 87).map (·.size) = some 9 := by kernel_rfl
theorem spot2_info : (Tryz.prog.info? 90).map (fun i => (i.zero, i.size, i.bytes)) = some (some (.agg #[.bool false, .int .i64 0]), 2, 16) := by kernel_rfl
theorem bool_info : (Tryz.prog.info? 4).map (fun i => (i.zero, i.size, i.bytes)) = some (some (.bool false), 1, 1) := by kernel_rfl
theorem intW_info : (Tryz.prog.info? 3).map (fun i => (i.zero, i.size, i.bytes)) = some (some (.int .i64 0), 1, 8) := by kernel_rfl
structure SiteAt (w : World) (A : FixA) (K : Nat → Ks) (M : Nat → List (List Rec)) (B : Nat) (U : Nat → Int) : Prop where
  fix : FixAt w A (fun i => (K i).n)
  nd : ∀ i, i < 4 → NdIn w (K i) (M i) B (U i)
theorem SiteAt.ext {w w' : World} {A : FixA} {K : Nat → Ks} {M : Nat → List (List Rec)} {B : Nat} {U : Nat → Int} (h : SiteAt w A K M B U) (hE : Ext w w') : SiteAt w' A K M B U := ⟨h.fix.ext hE, fun i hi => (h.nd i hi).ext hE⟩
def spotsOf (U : Nat → Int) (k : Nat) : List Spot := (List.range k).map fun i => ⟨true, 20000 - U i⟩
theorem spotsOf_succ (U : Nat → Int) (k : Nat) : ((spotsOf U (k + 1)).map Spot.cells).flatten = ((spotsOf U k).map Spot.cells).flatten ++ [.bool true, .int .i64 (20000 - U k)] := by
  unfold spotsOf
  rw [List.range_succ]
  simp [Spot.cells]
set_option maxRecDepth 100000 in
set_option maxHeartbeats 4000000 in
theorem world_any (w00 : World) (A : FixA) (K : Nat → Ks) (M : Nat → List (List Rec)) (B : Nat) (U : Nat → Int) (h : SiteAt w00 A K M B U) :
    Calls Tryz.prog 29 #[.pointer (some ⟨A.b, 0, none⟩)] w00 fun e w' => ∃ v0 v1 v2 v3 v4, e = .returned (.agg (wCells v0 v1 v2 v3 v4)) ∧ w'.ownsRow w00.heap.size 90 2 v0 4 ((spotsOf U 4).map Spot.cells).flatten ∧ Ext w00 w' := by
  have b5 := h.fix.b5
  have b6 := h.fix.b6
  have b7 := h.fix.b7
  have b8 := h.fix.b8
  go_enter Tryz.func29, Tryz.ntmps29
  go_wp2_with fail
  have hR0 := At.new w00 87 Z9
  have hE0 := (Ext.refl w00).alloc (.cells Z9 87)
  have hrb : w00.heap.size < (w00.alloc (.cells Z9 87)).heap.size := by simp
  generalize w00.alloc (.cells Z9 87) = W at hR0 hE0 hrb ⊢
  obtain ⟨rb, hrbe⟩ : ∃ rb, w00.heap.size = rb := ⟨_, rfl⟩
  rw [hrbe] at hR0 hrb ⊢
  obtain ⟨WC, hWC⟩ : ∃ WC, WC = wCells (.slice none 0 0) (.slice none 0 0) (.slice none 0 0) (.slice none 0 0) (.slice none 0 0) := ⟨_, rfl⟩
  have hWs : WC.size = 9 := by rw [hWC]; rfl
  have hW1 : WC.all (·.oneCell') = true := by rw [hWC]; simp [wCells, Value.oneCell']
  have HWC := Lib.hid hWC
  clear hWC b5 b6 b7 b8
  have hST : GQ.St (fun k => W.heap.size ≤ k) (fun _ _ => True) [⟨21, 0, fun b v w => ∃ g, W.heap.size ≤ g ∧ v = ptB g ∧ At w g 87 (if b = true then WC else Z9)⟩] := ⟨fun _ _ _ h _ => h, by
    intro gx hx
    rcases List.mem_cons.1 hx with rfl | hx
    · exact fun b v w w' h hE => by obtain ⟨g, a, b, c⟩ := h; exact ⟨g, a, b, c.ext hE⟩
    cases hx⟩
  refine wp_region_phi (Γ := Nat → Value) (sgφ [.val (.pointer (some ⟨A.b, 0, none⟩)), .val (.pointer (some ⟨A.b, 0, none⟩)), .val (.pointer (some ⟨A.b, 0, none⟩)), .val (.pointer (some ⟨A.b, 5, none⟩)), .val (.int .i64 2), .val (.pointer (some ⟨A.b, 0, none⟩)), .val (.pointer (some ⟨A.b, 0, none⟩)), .val (.pointer (some ⟨A.b, 0, none⟩)), .val (.pointer (some ⟨A.b, 6, none⟩)), .val (.int .i64 0), .val (.pointer (some ⟨A.b, 0, none⟩)), .val (.pointer (some ⟨A.b, 0, none⟩)), .val (.pointer (some ⟨A.b, 0, none⟩)), .val (.pointer (some ⟨A.b, 7, none⟩)), .val (.int .i64 0), .val (.pointer (some ⟨A.b, 0, none⟩)), .val (.pointer (some ⟨A.b, 0, none⟩)), .val (.pointer (some ⟨A.b, 0, none⟩)), .val (.pointer (some ⟨A.b, 8, none⟩)), .val (.int .i64 0), .val (.agg WC), .g 0, .any])
    (GQ W (fun k => W.heap.size ≤ k) 22 (fun _ _ => True) [⟨21, 0, fun b v w => ∃ g, W.heap.size ≤ g ∧ v = ptB g ∧ At w g 87 (if b = true then WC else Z9)⟩])
    (by kernel_rfl) (by kernel_rfl) (by kernel_rfl) (fun _ => undef) (GQ.start _ _ _ _ _ _ (trivial)) ?steps ?fin
  case steps =>
    show StepsTo _ _ _ _ _ _ 23
    refine ⟨⟨⟨⟨⟨⟨⟨⟨⟨⟨⟨⟨⟨⟨⟨⟨⟨⟨⟨⟨⟨⟨⟨trivial, ?s0⟩, ?s1⟩, ?s2⟩, ?s3⟩, ?s4⟩, ?s5⟩, ?s6⟩, ?s7⟩, ?s8⟩, ?s9⟩, ?s10⟩, ?s11⟩, ?s12⟩, ?s13⟩, ?s14⟩, ?s15⟩, ?s16⟩, ?s17⟩, ?s18⟩, ?s19⟩, ?s20⟩, ?s21⟩, ?s22⟩
    case s0 =>
      refine sg_val (x := .pointer (some ⟨A.b, 0, none⟩)) rfl rfl rfl (GQ.keep (j := 0) (by decide) rfl) fun γ L v a w st => ?_
      have f0 := st.far 0 (by kernel_rfl)
      simp at f0
      go_simp
    case s1 =>
      refine sg_val (x := .pointer (some ⟨A.b, 0, none⟩)) rfl rfl rfl (GQ.keep (j := 1) (by decide) rfl) fun γ L v a w st => ?_
      have e0 := st.val 0 9 rfl (by kernel_rfl)
      rw [show v 0 = _ from st.φ 0 (by kernel_rfl)] at e0
      simp at e0
      go_simp
    case s2 =>
      refine sg_val (x := .pointer (some ⟨A.b, 0, none⟩)) rfl rfl rfl (GQ.keep (j := 2) (by decide) rfl) fun γ L v a w st => ?_
      have e1 := st.val 1 10 rfl (by kernel_rfl)
      rw [show v 1 = _ from st.φ 1 (by kernel_rfl)] at e1
      simp at e1
      go_simp
    case s3 =>
      refine sg_val (x := .pointer (some ⟨A.b, 5, none⟩)) rfl rfl rfl (GQ.keep (j := 3) (by decide) rfl) fun γ L v a w st => ?_
      have e2 := st.val 2 11 rfl (by kernel_rfl)
      rw [show v 2 = _ from st.φ 2 (by kernel_rfl)] at e2
      simp at e2
      go_simp
    case s4 =>
      refine sg_val (x := .int .i64 2) rfl rfl rfl (GQ.keep (j := 4) (by decide) rfl) fun γ L v a w st => ?_
      have e3 := st.val 3 12 rfl (by kernel_rfl)
      rw [show v 3 = _ from st.φ 3 (by kernel_rfl)] at e3
      simp at e3
      have hcl := (h.fix.ext (hE0.trans (st.inv.chg.mono (fun k hk e => by omega)))).b5
      go_simp
    case s5 =>
      refine sg_val (x := .pointer (some ⟨A.b, 0, none⟩)) rfl rfl rfl (GQ.keep (j := 5) (by decide) rfl) fun γ L v a w st => ?_
      have f0 := st.far 0 (by kernel_rfl)
      simp at f0
      go_simp
    case s6 =>
      refine sg_val (x := .pointer (some ⟨A.b, 0, none⟩)) rfl rfl rfl (GQ.keep (j := 6) (by decide) rfl) fun γ L v a w st => ?_
      have e5 := st.val 5 14 rfl (by kernel_rfl)
      rw [show v 5 = _ from st.φ 5 (by kernel_rfl)] at e5
      simp at e5
      go_simp
    case s7 =>
      refine sg_val (x := .pointer (some ⟨A.b, 0, none⟩)) rfl rfl rfl (GQ.keep (j := 7) (by decide) rfl) fun γ L v a w st => ?_
      have e6 := st.val 6 15 rfl (by kernel_rfl)
      rw [show v 6 = _ from st.φ 6 (by kernel_rfl)] at e6
      simp at e6
      go_simp
    case s8 =>
      refine sg_val (x := .pointer (some ⟨A.b, 6, none⟩)) rfl rfl rfl (GQ.keep (j := 8) (by decide) rfl) fun γ L v a w st => ?_
      have e7 := st.val 7 16 rfl (by kernel_rfl)
      rw [show v 7 = _ from st.φ 7 (by kernel_rfl)] at e7
      simp at e7
      go_simp
    case s9 =>
      refine sg_val (x := .int .i64 0) rfl rfl rfl (GQ.keep (j := 9) (by decide) rfl) fun γ L v a w st => ?_
      have e8 := st.val 8 17 rfl (by kernel_rfl)
      rw [show v 8 = _ from st.φ 8 (by kernel_rfl)] at e8
      simp at e8
      have hcl := (h.fix.ext (hE0.trans (st.inv.chg.mono (fun k hk e => by omega)))).b6
      go_simp
    case s10 =>
      refine sg_val (x := .pointer (some ⟨A.b, 0, none⟩)) rfl rfl rfl (GQ.keep (j := 10) (by decide) rfl) fun γ L v a w st => ?_
      have f0 := st.far 0 (by kernel_rfl)
      simp at f0
      go_simp
    case s11 =>
      refine sg_val (x := .pointer (some ⟨A.b, 0, none⟩)) rfl rfl rfl (GQ.keep (j := 11) (by decide) rfl) fun γ L v a w st => ?_
      have e10 := st.val 10 19 rfl (by kernel_rfl)
      rw [show v 10 = _ from st.φ 10 (by kernel_rfl)] at e10
      simp at e10
      go_simp
    case s12 =>
      refine sg_val (x := .pointer (some ⟨A.b, 0, none⟩)) rfl rfl rfl (GQ.keep (j := 12) (by decide) rfl) fun γ L v a w st => ?_
      have e11 := st.val 11 20 rfl (by kernel_rfl)
      rw [show v 11 = _ from st.φ 11 (by kernel_rfl)] at e11
      simp at e11
      go_simp
    case s13 =>
      refine sg_val (x := .pointer (some ⟨A.b, 7, none⟩)) rfl rfl rfl (GQ.keep (j := 13) (by decide) rfl) fun γ L v a w st => ?_
      have e12 := st.val 12 21 rfl (by kernel_rfl)
      rw [show v 12 = _ from st.φ 12 (by kernel_rfl)] at e12
      simp at e12
      go_simp
    case s14 =>
      refine sg_val (x := .int .i64 0) rfl rfl rfl (GQ.keep (j := 14) (by decide) rfl) fun γ L v a w st => ?_
      have e13 := st.val 13 22 rfl (by kernel_rfl)
      rw [show v 13 = _ from st.φ 13 (by kernel_rfl)] at e13
      simp at e13
      have hcl := (h.fix.ext (hE0.trans (st.inv.chg.mono (fun k hk e => by omega)))).b7
      go_simp
    case s15 =>
      refine sg_val (x := .pointer (some ⟨A.b, 0, none⟩)) rfl rfl rfl (GQ.keep (j := 15) (by decide) rfl) fun γ L v a w st => ?_
      have f0 := st.far 0 (by kernel_rfl)
      simp at f0
      go_simp
    case s16 =>
      refine sg_val (x := .pointer (some ⟨A.b, 0, none⟩)) rfl rfl rfl (GQ.keep (j := 16) (by decide) rfl) fun γ L v a w st => ?_
      have e15 := st.val 15 24 rfl (by kernel_rfl)
      rw [show v 15 = _ from st.φ 15 (by kernel_rfl)] at e15
      simp at e15
      go_simp
    case s17 =>
      refine sg_val (x := .pointer (some ⟨A.b, 0, none⟩)) rfl rfl rfl (GQ.keep (j := 17) (by decide) rfl) fun γ L v a w st => ?_
      have e16 := st.val 16 25 rfl (by kernel_rfl)
      rw [show v 16 = _ from st.φ 16 (by kernel_rfl)] at e16
      simp at e16
      go_simp
    case s18 =>
      refine sg_val (x := .pointer (some ⟨A.b, 8, none⟩)) rfl rfl rfl (GQ.keep (j := 18) (by decide) rfl) fun γ L v a w st => ?_
      have e17 := st.val 17 26 rfl (by kernel_rfl)
      rw [show v 17 = _ from st.φ 17 (by kernel_rfl)] at e17
      simp at e17
      go_simp
    case s19 =>
      refine sg_val (x := .int .i64 0) rfl rfl rfl (GQ.keep (j := 19) (by decide) rfl) fun γ L v a w st => ?_
      have e18 := st.val 18 27 rfl (by kernel_rfl)
      rw [show v 18 = _ from st.φ 18 (by kernel_rfl)] at e18
      simp at e18
      have hcl := (h.fix.ext (hE0.trans (st.inv.chg.mono (fun k hk e => by omega)))).b8
      go_simp
    case s20 =>
      refine sg_val (x := .agg WC) rfl rfl rfl (GQ.keep (j := 20) (by decide) rfl) fun γ L v a w st => ?_
      have e4 := st.val 4 13 rfl (by kernel_rfl)
      rw [show v 4 = _ from st.φ 4 (by kernel_rfl)] at e4
      simp at e4
      have e9 := st.val 9 18 rfl (by kernel_rfl)
      rw [show v 9 = _ from st.φ 9 (by kernel_rfl)] at e9
      simp at e9
      have e14 := st.val 14 23 rfl (by kernel_rfl)
      rw [show v 14 = _ from st.φ 14 (by kernel_rfl)] at e14
      simp at e14
      have e19 := st.val 19 28 rfl (by kernel_rfl)
      rw [show v 19 = _ from st.φ 19 (by kernel_rfl)] at e19
      simp at e19
      rw [HWC.out]
      go_simp
      rfl
    case s21 =>
      refine sg_new (k := 0) rfl rfl rfl (by kernel_rfl) fun γ L v a w st => ?_
      have h14 : L 22 = false := by
        cases hq : L 22 with
        | false => rfl
        | true => have q := st.down 22 21 hq (by kernel_rfl); rw [st.off] at q; cases q
      refine ⟨.pointer (some ⟨w.heap.size, 0, none⟩), w.alloc (.cells #[.slice none 0 0, .slice none 0 0, .slice none 0 0, .slice none 0 0, .slice none 0 0, .int .i64 0, .int .i64 0, .int .i64 0, .int .i64 0] 87), by go_simp, st.inv.new hST ((Ext.refl w).alloc _) (by decide) rfl ?_⟩
      intro gx hx hxj
      rcases List.mem_cons.1 hx with rfl | hx
      · rw [h14]; exact ⟨rfl, w.heap.size, st.inv.chg.size, rfl, At.new w _ _⟩
      cases hx
    case s22 =>
      refine sg_skip rfl rfl rfl fun γ L v a w st => ?_
      have e21 := st.val 21 3 rfl (by kernel_rfl)
      rw [show v 21 = _ from st.φ 21 (by kernel_rfl)] at e21
      have hg21 := st.inv.gh ⟨21, 0, fun b v w => ∃ g, W.heap.size ≤ g ∧ v = ptB g ∧ At w g 87 (if b = true then WC else Z9)⟩ (by simp) (st.dep 21 (by kernel_rfl))
      have e20 := st.val 20 29 rfl (by kernel_rfl)
      rw [show v 20 = _ from st.φ 20 (by kernel_rfl)] at e20
      simp at e20
      obtain ⟨g, hgb, hgv, hgA⟩ := hg21
      rw [st.off] at hgA
      simp only [Bool.false_eq_true, if_false] at hgA
      rw [hgv] at e21
      refine ⟨w.setCells g 0 WC.toList, exec_store_mid (x := .tmp 3) (y := .tmp 29) (cells := WC) rfl (show a.eval (.tmp 3) = _ by simpa [Act.eval, ptB] using e21) (show a.eval (.tmp 29) = _ by simpa [Act.eval] using e20) (by rw [hWs]; exact hgA.there) (by rw [hWs]; exact w9_info) hW1, st.inv.write (Chg.setCells ((Chg.refl (fun k => W.heap.size ≤ k) w)) hgb _ _) trivial (by intro x hx hn hl; rcases List.mem_cons.1 hx with rfl | hx; exact ⟨g, hgb, hgv, by simp only [if_true]; exact At.cells_all (cs := WC) hgA (by rw [hWs]; rfl)⟩; cases hx) rfl⟩
  case fin =>
    intro γ L v wr hall hG hφ
    have h21 : v 21 = γ 0 := hφ 21 (by decide)
    obtain ⟨x, hgb, hgv, hgA⟩ := hG.gh ⟨21, 0, fun b v w => ∃ g, W.heap.size ≤ g ∧ v = ptB g ∧ At w g 87 (if b = true then WC else Z9)⟩ (by simp) (hall 21 (by decide))
    rw [hall 22 (by decide)] at hgA
    simp only [if_true] at hgA
    have hE1 : Ext W wr := hG.chg.mono (fun k hk e => by omega)
    clear hall hφ hG
    change Exit.then _ _ _ (putAll _ v _ 23) wr
    simp only [putAll, dstOf, Act.put]
    simp only [List.getElem?_toArray, List.getElem?_cons_zero, List.getElem?_cons_succ, Option.bind_some, List.setIfInBounds_toArray, List.set_cons_zero, List.set_cons_succ]
    rw [h21]
    clear h21
    rw [hgv]
    rw [HWC.out] at hgA
    have hE01 := hE0.trans hE1
    have hx00 : w00.heap.size < x := by omega
    have hrlt : rb < x := by have := hR0.lt; omega
    have hR1 := hR0.ext hE1
    have b9 := (h.fix.ext hE01).b9
    unfold ptB
    clear hgv hE0 hE1 hR0
    go_wp2_with fail
    go_loopw [35] (fun iv wr => ∃ (k : Nat) (v0 v3 : Value), k ≤ 4 ∧ iv = .int .i64 (k : Int) ∧ At wr x 87 (wCells v0 (.slice none 0 0) (.slice none 0 0) v3 (.slice none 0 0)) ∧ wr.ownsRow (x + 1) 90 2 v0 k (((spotsOf U k).map Spot.cells).flatten) ∧ wr.ownsRow (x + 1) 4 1 v3 k (List.replicate k (Value.bool false)) ∧ At wr rb 87 Z9 ∧ Ext w00 wr) (fun iv _ => 4 - (intOf iv).toNat)
    case atStart => exact ⟨0, _, _, by omega, rfl, hgA, World.ownsRow_nil _ _ _ _, World.ownsRow_nil _ _ _ _, hR1, hE01⟩
    case round =>
      obtain ⟨k, v0, v3, hk, rfl, hx0, hv0, hv3, hrW, hE⟩ := hrel
      by_cases hlt : k < 4
      · have hnd := (h.fix.ext hE).nd k hlt
        go_wp2_with fail
        rename World => W5
        have hrx : rb ≠ x := fun e => by have := hrlt; omega
        have hKe : ∀ w w', (w.ownsRow (x + 1) 4 1 v3 k ((List.replicate k (Value.bool false))) ∧ At w rb 87 Z9) → Ext w w' → (w'.ownsRow (x + 1) 4 1 v3 k ((List.replicate k (Value.bool false))) ∧ At w' rb 87 Z9) := fun _ _ h hE => ⟨own_off h.1 hE (fun _ _ h => h), h.2.ext hE⟩
        have hKa : ∀ w w', (w.ownsRow (x + 1) 4 1 v3 k ((List.replicate k (Value.bool false))) ∧ At w rb 87 Z9) → w.ownsRow (x + 1) 90 2 v0 k (((spotsOf U k).map Spot.cells).flatten) → Chg (fun j => some j = v0.ownBlock) w w' → (w'.ownsRow (x + 1) 4 1 v3 k ((List.replicate k (Value.bool false))) ∧ At w' rb 87 Z9) := fun _ _ h h2 hC => ⟨own_off h.1 hC (own_types h.1 h2 (by decide)), h.2.chg hC (fun e => own_noat h2 ⟨_, h.2⟩ (by decide) _ e rfl)⟩
        have hKs : ∀ w w', (w.ownsRow (x + 1) 4 1 v3 k ((List.replicate k (Value.bool false))) ∧ At w rb 87 Z9) → Chg (fun j => j = x) w w' → (∃ cs, At w x 87 cs) → (w'.ownsRow (x + 1) 4 1 v3 k ((List.replicate k (Value.bool false))) ∧ At w' rb 87 Z9) := fun _ _ h hC hA => ⟨own_off h.1 hC (own_noat h.1 hA (by decide)), h.2.chg hC (fun e => hrx e)⟩
        refine wp_region_phi (Γ := Nat → Value) (sgφ [.val (.pointer (some ⟨x, 0, none⟩)), .val (v0), .val (.pointer (some ⟨(K k).n, 0, none⟩)), .val (.bool true), .val (.pointer (some ⟨(K k).n, 0, none⟩)), .val (.pointer (some ⟨(K k).n, 0, none⟩)), .val (.pointer (some ⟨(K k).n, 0, none⟩)), .val (.pointer (some ⟨(K k).d, 0, none⟩)), .val (.pointer (some ⟨(K k).d, 0, none⟩)), .val (.pointer (some ⟨(K k).d, 0, none⟩)), .val (.int .i64 (20000 - U k)), .val (.agg #[.bool true, .int .i64 (20000 - U k)]), .g 0, .g 1, .val (.pointer (some ⟨x, 0, none⟩)), .any])
          (GAS w00 x 87 90 (fun y => wCells y (.slice none 0 0) (.slice none 0 0) v3 (.slice none 0 0)) v0 (x + 1) 2 k 1 (((spotsOf U k).map Spot.cells).flatten) [.bool true, .int .i64 (20000 - U k)] (fun w => (w.ownsRow (x + 1) 4 1 v3 k ((List.replicate k (Value.bool false))) ∧ At w rb 87 Z9)) 12 13 15)
          (by kernel_rfl) (by kernel_rfl) (by kernel_rfl) (fun _ => undef) (GAS.start (C := fun y => wCells y (.slice none 0 0) (.slice none 0 0) v3 (.slice none 0 0)) (v := v0) hE (hx0) (hv0) (hKe _ _ ⟨hv3, hrW⟩ ((Ext.refl W5).drew)) _) ?stepsc ?finc
        case stepsc =>
          show StepsTo _ _ _ _ _ _ 16
          refine ⟨⟨⟨⟨⟨⟨⟨⟨⟨⟨⟨⟨⟨⟨⟨⟨trivial, ?s0⟩, ?s1⟩, ?s2⟩, ?s3⟩, ?s4⟩, ?s5⟩, ?s6⟩, ?s7⟩, ?s8⟩, ?s9⟩, ?s10⟩, ?s11⟩, ?s12⟩, ?s13⟩, ?s14⟩, ?s15⟩
          case s0 =>
            refine sg_val (x := .pointer (some ⟨x, 0, none⟩)) rfl rfl rfl (GAS.keep (by decide) (by decide) (by decide)) fun γ L v a w st => ?_
            have f3 := st.far 3 (by kernel_rfl)
            simp at f3
            go_simp
          case s1 =>
            refine sg_val (x := v0) rfl rfl rfl (GAS.keep (by decide) (by decide) (by decide)) fun γ L v a w st => ?_
            have e0 := st.val 0 39 rfl (by kernel_rfl)
            rw [show v 0 = _ from st.φ 0 (by kernel_rfl)] at e0
            simp at e0
            have hxa := st.inv.at_
            have hjs : L 15 = false := by
              cases hq : L 15 with
              | false => rfl
              | true =>
                have q1 := st.down 15 13 hq (by kernel_rfl)
                have q2 := st.down 13 1 q1 (by kernel_rfl)
                rw [st.off] at q2; cases q2
            rw [hjs] at hxa
            have hcl := hxa.cell 0
            simp [wCells] at hcl
            obtain ⟨oA, oc, rfl⟩ := own_slc hv0
            go_simp
          case s2 =>
            refine sg_val (x := .pointer (some ⟨(K k).n, 0, none⟩)) rfl rfl rfl (GAS.keep (by decide) (by decide) (by decide)) fun γ L v a w st => ?_
            have f5 := st.far 5 (by kernel_rfl)
            simp at f5
            go_simp
          case s3 =>
            refine sg_callv' (x := .bool true) (f := 34) rfl rfl rfl fun γ L v a w st => ?_
            have e2 := st.val 2 41 rfl (by kernel_rfl)
            rw [show v 2 = _ from st.φ 2 (by kernel_rfl)] at e2
            simp at e2
            refine ⟨#[.pointer (some ⟨(K k).n, 0, none⟩)], by go_simp, ?_⟩
            refine Calls.mono (((h.ext (st.inv.ext)).nd k hlt).lst) ?_
            rintro e w' ⟨rfl, rfl⟩
            have hE := Ext.refl w'
            exact ⟨rfl, st.inv.call (hKe) hE (by decide) (by decide) (by decide) st.off⟩
          case s4 =>
            refine sg_val (x := .pointer (some ⟨(K k).n, 0, none⟩)) rfl rfl rfl (GAS.keep (by decide) (by decide) (by decide)) fun γ L v a w st => ?_
            have f5 := st.far 5 (by kernel_rfl)
            simp at f5
            go_simp
          case s5 =>
            refine sg_val (x := .pointer (some ⟨(K k).n, 0, none⟩)) rfl rfl rfl (GAS.keep (by decide) (by decide) (by decide)) fun γ L v a w st => ?_
            have e4 := st.val 4 43 rfl (by kernel_rfl)
            rw [show v 4 = _ from st.φ 4 (by kernel_rfl)] at e4
            simp at e4
            go_simp
          case s6 =>
            refine sg_val (x := .pointer (some ⟨(K k).n, 0, none⟩)) rfl rfl rfl (GAS.keep (by decide) (by decide) (by decide)) fun γ L v a w st => ?_
            have e5 := st.val 5 44 rfl (by kernel_rfl)
            rw [show v 5 = _ from st.φ 5 (by kernel_rfl)] at e5
            simp at e5
            go_simp
          case s7 =>
            refine sg_val (x := .pointer (some ⟨(K k).d, 0, none⟩)) rfl rfl rfl (GAS.keep (by decide) (by decide) (by decide)) fun γ L v a w st => ?_
            have e6 := st.val 6 45 rfl (by kernel_rfl)
            rw [show v 6 = _ from st.φ 6 (by kernel_rfl)] at e6
            simp at e6
            obtain ⟨q0, q1, q2, q3, q4, q5⟩ := ((h.ext (st.inv.ext)).nd k hlt).disk
            go_simp
          case s8 =>
            refine sg_val (x := .pointer (some ⟨(K k).d, 0, none⟩)) rfl rfl rfl (GAS.keep (by decide) (by decide) (by decide)) fun γ L v a w st => ?_
            have e7 := st.val 7 46 rfl (by kernel_rfl)
            rw [show v 7 = _ from st.φ 7 (by kernel_rfl)] at e7
            simp at e7
            go_simp
          case s9 =>
            refine sg_val (x := .pointer (some ⟨(K k).d, 0, none⟩)) rfl rfl rfl (GAS.keep (by decide) (by decide) (by decide)) fun γ L v a w st => ?_
            have e8 := st.val 8 47 rfl (by kernel_rfl)
            rw [show v 8 = _ from st.φ 8 (by kernel_rfl)] at e8
            simp at e8
            go_simp
          case s10 =>
            refine sg_callv' (x := .int .i64 (20000 - U k)) (f := 52) rfl rfl rfl fun γ L v a w st => ?_
            have e9 := st.val 9 48 rfl (by kernel_rfl)
            rw [show v 9 = _ from st.φ 9 (by kernel_rfl)] at e9
            simp at e9
            obtain ⟨q0, q1, q2, q3, q4, q5⟩ := ((h.ext (st.inv.ext)).nd k hlt).disk
            refine ⟨#[.pointer (some ⟨(K k).d, 0, none⟩)], by go_simp, ?_⟩
            refine Calls.mono (freeL_any w (K k).d 20000 (U k) q1 q2 q4 q5 (by decide)) ?_
            rintro e w' ⟨rfl, hE⟩
            exact ⟨rfl, st.inv.call (hKe) hE (by decide) (by decide) (by decide) st.off⟩
          case s11 =>
            refine sg_val (x := .agg #[.bool true, .int .i64 (20000 - U k)]) rfl rfl rfl (GAS.keep (by decide) (by decide) (by decide)) fun γ L v a w st => ?_
            have e3 := st.val 3 42 rfl (by kernel_rfl)
            rw [show v 3 = _ from st.φ 3 (by kernel_rfl)] at e3
            simp at e3
            have e10 := st.val 10 49 rfl (by kernel_rfl)
            rw [show v 10 = _ from st.φ 10 (by kernel_rfl)] at e10
            simp at e10
            go_simp
          case s12 =>
            refine sg_new (k := 0) rfl rfl rfl (by kernel_rfl) fun γ Lx v a w st => ?_
            have e11 := st.val 11 50 rfl (by kernel_rfl)
            rw [show v 11 = _ from st.φ 11 (by kernel_rfl)] at e11
            simp at e11
            have hja : Lx 13 = false := by
              cases hq : Lx 13 with
              | false => rfl
              | true => have q := st.down 13 12 hq (by kernel_rfl); rw [st.off] at q; cases q
            have hjs : Lx 15 = false := by
              cases hq : Lx 15 with
              | false => rfl
              | true => have q := st.down 15 13 hq (by kernel_rfl); rw [hja] at q; cases q
            exact ⟨.slice (some ⟨w.heap.size, 0, none⟩) 1 1, w.alloc (.cells #[.bool true, .int .i64 (20000 - U k)] 90), by go_simp, st.inv.made (hKe) rfl hja hjs (by decide) (by decide)⟩
          case s13 =>
            refine sg_new (k := 1) rfl rfl rfl (by kernel_rfl) fun γ Lx v a w st => ?_
            have e1 := st.val 1 40 rfl (by kernel_rfl)
            rw [show v 1 = _ from st.φ 1 (by kernel_rfl)] at e1
            simp at e1
            have e12 := st.val 12 51 rfl (by kernel_rfl)
            rw [show v 12 = _ from st.φ 12 (by kernel_rfl)] at e12
            simp at e12
            have hjs : Lx 15 = false := by
              cases hq : Lx 15 with
              | false => rfl
              | true => have q := st.down 15 13 hq (by kernel_rfl); rw [st.off] at q; cases q
            have hown := st.inv.own
            rw [st.off] at hown
            simp only [Bool.false_eq_true, if_false] at hown
            have hsl := st.inv.sl (st.dep 12 (by kernel_rfl)) st.off
            have hxl := st.inv.at_.lt
            refine ex_append (P := Tryz.prog) hown hsl (by simp) (by simp [Value.oneCell']) 85 Tryz.underlying85 spot2_info rfl (by decide) (by decide) (by simp <;> omega) hxl (.tmp 40) (.tmp 51) rfl (by simp [Act.eval, e1]) (by simp [Act.eval, e12]) fun v' w' hO hC => ?_
            exact st.inv.appended (by decide) (by omega) (hKa) st.off hjs (by decide) (by simpa using hO) hC
          case s14 =>
            refine sg_val (x := .pointer (some ⟨x, 0, none⟩)) rfl rfl rfl (GAS.keep (by decide) (by decide) (by decide)) fun γ L v a w st => ?_
            have f3 := st.far 3 (by kernel_rfl)
            simp at f3
            go_simp
          case s15 =>
            refine sg_skip rfl rfl rfl fun γ Lx v a w st => ?_
            have e14 := st.val 14 53 rfl (by kernel_rfl)
            rw [show v 14 = _ from st.φ 14 (by kernel_rfl)] at e14
            simp at e14
            have e13 := st.val 13 52 rfl (by kernel_rfl)
            rw [show v 13 = _ from st.φ 13 (by kernel_rfl)] at e13
            simp at e13
            have hja := st.dep 13 (by kernel_rfl)
            have hxa := st.inv.at_
            rw [st.off] at hxa
            obtain ⟨oA, oc, hov⟩ := own_slc (by have := st.inv.own; rw [hja] at this; exact this)
            have f0 := hxa.frozen 0
            have c0 := hxa.cell 0
            simp [wCells] at c0
            rw [hov] at e13
            refine ⟨w.setCell ⟨x, 0, none⟩ (γ 1), by rw [hov]; go_simp, st.inv.stored (hKs) hja st.off (by decide) (by omega) (by omega) rfl⟩
        case finc =>
          intro γ Lx v wr hall hG hφ
          have hx5 := hG.at_
          have hO5 := hG.own
          rw [hall 15 (by decide)] at hx5
          rw [hall 13 (by decide)] at hO5
          simp only [if_true] at hx5 hO5
          have hE5 := hG.ext
          have hK5 := hG.kp
          clear hall hφ hG
          change Exit.then _ _ _ (putAll _ v _ 16) wr
          simp only [putAll, dstOf, Act.put]
          simp only [List.getElem?_toArray, List.getElem?_cons_zero, List.getElem?_cons_succ, Option.bind_some, List.setIfInBounds_toArray, List.set_cons_zero, List.set_cons_succ]
          clear hKe hKa hKs hx0 hv0 hE hnd hrW hv3
          obtain ⟨hv3, hrW⟩ := hK5
          rw [← spotsOf_succ] at hO5
          obtain ⟨v0', hv0e⟩ : ∃ v0', γ 1 = v0' := ⟨_, rfl⟩
          rw [hv0e] at hx5 hO5
          have hx0 := hx5
          have hv0 := hO5
          have hE := hE5
          clear hx5 hO5 hE5 hv0e
          go_wp2_with fail
          rename World => W6
          have hKe : ∀ w w', (w.ownsRow (x + 1) 90 2 v0' (k + 1) (((spotsOf U (k + 1)).map Spot.cells).flatten) ∧ At w rb 87 Z9) → Ext w w' → (w'.ownsRow (x + 1) 90 2 v0' (k + 1) (((spotsOf U (k + 1)).map Spot.cells).flatten) ∧ At w' rb 87 Z9) := fun _ _ h hE => ⟨own_off h.1 hE (fun _ _ h => h), h.2.ext hE⟩
          have hKa : ∀ w w', (w.ownsRow (x + 1) 90 2 v0' (k + 1) (((spotsOf U (k + 1)).map Spot.cells).flatten) ∧ At w rb 87 Z9) → w.ownsRow (x + 1) 4 1 v3 k ((List.replicate k (Value.bool false))) → Chg (fun j => some j = v3.ownBlock) w w' → (w'.ownsRow (x + 1) 90 2 v0' (k + 1) (((spotsOf U (k + 1)).map Spot.cells).flatten) ∧ At w' rb 87 Z9) := fun _ _ h h2 hC => ⟨own_off h.1 hC (own_types h.1 h2 (by decide)), h.2.chg hC (fun e => own_noat h2 ⟨_, h.2⟩ (by decide) _ e rfl)⟩
          have hKs : ∀ w w', (w.ownsRow (x + 1) 90 2 v0' (k + 1) (((spotsOf U (k + 1)).map Spot.cells).flatten) ∧ At w rb 87 Z9) → Chg (fun j => j = x) w w' → (∃ cs, At w x 87 cs) → (w'.ownsRow (x + 1) 90 2 v0' (k + 1) (((spotsOf U (k + 1)).map Spot.cells).flatten) ∧ At w' rb 87 Z9) := fun _ _ h hC hA => ⟨own_off h.1 hC (own_noat h.1 hA (by decide)), h.2.chg hC (fun e => hrx e)⟩
          refine wp_region_phi (Γ := Nat → Value) (sgφ [.val (.pointer (some ⟨x, 3, none⟩)), .val (v3), .val (.pointer (some ⟨(K k).n, 0, none⟩)), .val (.pointer (some ⟨(K k).n, 0, none⟩)), .val (.pointer (some ⟨(K k).n, 0, none⟩)), .val (.pointer (some ⟨(K k).d, 0, none⟩)), .val (.pointer (some ⟨(K k).d, 0, none⟩)), .val (.pointer (some ⟨(K k).d, 2, none⟩)), .val (.bool false), .g 0, .g 1, .val (.pointer (some ⟨x, 3, none⟩)), .any])
            (GAS w00 x 87 4 (fun y => wCells v0' (.slice none 0 0) (.slice none 0 0) y (.slice none 0 0)) v3 (x + 1) 1 k 1 ((List.replicate k (Value.bool false))) [.bool false] (fun w => (w.ownsRow (x + 1) 90 2 v0' (k + 1) (((spotsOf U (k + 1)).map Spot.cells).flatten) ∧ At w rb 87 Z9)) 9 10 12)
            (by kernel_rfl) (by kernel_rfl) (by kernel_rfl) (fun _ => undef) (GAS.start (C := fun y => wCells v0' (.slice none 0 0) (.slice none 0 0) y (.slice none 0 0)) (v := v3) hE (hx0) (hv3) (hKe _ _ ⟨hv0, hrW⟩ ((Ext.refl W6).drew)) _) ?stepsd ?find
          case stepsd =>
            show StepsTo _ _ _ _ _ _ 13
            refine ⟨⟨⟨⟨⟨⟨⟨⟨⟨⟨⟨⟨⟨trivial, ?s0⟩, ?s1⟩, ?s2⟩, ?s3⟩, ?s4⟩, ?s5⟩, ?s6⟩, ?s7⟩, ?s8⟩, ?s9⟩, ?s10⟩, ?s11⟩, ?s12⟩
            case s0 =>
              refine sg_val (x := .pointer (some ⟨x, 3, none⟩)) rfl rfl rfl (GAS.keep (by decide) (by decide) (by decide)) fun γ L v a w st => ?_
              have f3 := st.far 3 (by kernel_rfl)
              simp at f3
              go_simp
            case s1 =>
              refine sg_val (x := v3) rfl rfl rfl (GAS.keep (by decide) (by decide) (by decide)) fun γ L v a w st => ?_
              have e0 := st.val 0 54 rfl (by kernel_rfl)
              rw [show v 0 = _ from st.φ 0 (by kernel_rfl)] at e0
              simp at e0
              have hxa := st.inv.at_
              have hjs : L 12 = false := by
                cases hq : L 12 with
                | false => rfl
                | true =>
                  have q1 := st.down 12 10 hq (by kernel_rfl)
                  have q2 := st.down 10 1 q1 (by kernel_rfl)
                  rw [st.off] at q2; cases q2
              rw [hjs] at hxa
              have hcl := hxa.cell 3
              simp [wCells] at hcl
              obtain ⟨oA, oc, rfl⟩ := own_slc hv3
              go_simp
            case s2 =>
              refine sg_val (x := .pointer (some ⟨(K k).n, 0, none⟩)) rfl rfl rfl (GAS.keep (by decide) (by decide) (by decide)) fun γ L v a w st => ?_
              have f5 := st.far 5 (by kernel_rfl)
              simp at f5
              go_simp
            case s3 =>
              refine sg_val (x := .pointer (some ⟨(K k).n, 0, none⟩)) rfl rfl rfl (GAS.keep (by decide) (by decide) (by decide)) fun γ L v a w st => ?_
              have e2 := st.val 2 56 rfl (by kernel_rfl)
              rw [show v 2 = _ from st.φ 2 (by kernel_rfl)] at e2
              simp at e2
              go_simp
            case s4 =>
              refine sg_val (x := .pointer (some ⟨(K k).n, 0, none⟩)) rfl rfl rfl (GAS.keep (by decide) (by decide) (by decide)) fun γ L v a w st => ?_
              have e3 := st.val 3 57 rfl (by kernel_rfl)
              rw [show v 3 = _ from st.φ 3 (by kernel_rfl)] at e3
              simp at e3
              go_simp
            case s5 =>
              refine sg_val (x := .pointer (some ⟨(K k).d, 0, none⟩)) rfl rfl rfl (GAS.keep (by decide) (by decide) (by decide)) fun γ L v a w st => ?_
              have e4 := st.val 4 58 rfl (by kernel_rfl)
              rw [show v 4 = _ from st.φ 4 (by kernel_rfl)] at e4
              simp at e4
              obtain ⟨q0, q1, q2, q3, q4, q5⟩ := ((h.ext (st.inv.ext)).nd k hlt).disk
              go_simp
            case s6 =>
              refine sg_val (x := .pointer (some ⟨(K k).d, 0, none⟩)) rfl rfl rfl (GAS.keep (by decide) (by decide) (by decide)) fun γ L v a w st => ?_
              have e5 := st.val 5 59 rfl (by kernel_rfl)
              rw [show v 5 = _ from st.φ 5 (by kernel_rfl)] at e5
              simp at e5
              go_simp
            case s7 =>
              refine sg_val (x := .pointer (some ⟨(K k).d, 2, none⟩)) rfl rfl rfl (GAS.keep (by decide) (by decide) (by decide)) fun γ L v a w st => ?_
              have e6 := st.val 6 60 rfl (by kernel_rfl)
              rw [show v 6 = _ from st.φ 6 (by kernel_rfl)] at e6
              simp at e6
              go_simp
            case s8 =>
              refine sg_callv' (x := .bool false) (f := 36) rfl rfl rfl fun γ L v a w st => ?_
              have e7 := st.val 7 61 rfl (by kernel_rfl)
              rw [show v 7 = _ from st.φ 7 (by kernel_rfl)] at e7
              simp at e7
              obtain ⟨q0, q1, q2, q3, q4, q5⟩ := ((h.ext (st.inv.ext)).nd k hlt).disk
              refine ⟨#[.pointer (some ⟨(K k).d, 2, none⟩)], by go_simp, ?_⟩
              refine Calls.mono (lostL_any w (K k).d 2 q3) ?_
              rintro e w' ⟨rfl, hE⟩
              exact ⟨rfl, st.inv.call (hKe) hE (by decide) (by decide) (by decide) st.off⟩
            case s9 =>
              refine sg_new (k := 0) rfl rfl rfl (by kernel_rfl) fun γ Lx v a w st => ?_
              have e8 := st.val 8 62 rfl (by kernel_rfl)
              rw [show v 8 = _ from st.φ 8 (by kernel_rfl)] at e8
              simp at e8
              have hja : Lx 10 = false := by
                cases hq : Lx 10 with
                | false => rfl
                | true => have q := st.down 10 9 hq (by kernel_rfl); rw [st.off] at q; cases q
              have hjs : Lx 12 = false := by
                cases hq : Lx 12 with
                | false => rfl
                | true => have q := st.down 12 10 hq (by kernel_rfl); rw [hja] at q; cases q
              exact ⟨.slice (some ⟨w.heap.size, 0, none⟩) 1 1, w.alloc (.cells #[.bool false] 4), by go_simp, st.inv.made (hKe) rfl hja hjs (by decide) (by decide)⟩
            case s10 =>
              refine sg_new (k := 1) rfl rfl rfl (by kernel_rfl) fun γ Lx v a w st => ?_
              have e1 := st.val 1 55 rfl (by kernel_rfl)
              rw [show v 1 = _ from st.φ 1 (by kernel_rfl)] at e1
              simp at e1
              have e9 := st.val 9 63 rfl (by kernel_rfl)
              rw [show v 9 = _ from st.φ 9 (by kernel_rfl)] at e9
              simp at e9
              have hjs : Lx 12 = false := by
                cases hq : Lx 12 with
                | false => rfl
                | true => have q := st.down 12 10 hq (by kernel_rfl); rw [st.off] at q; cases q
              have hown := st.inv.own
              rw [st.off] at hown
              simp only [Bool.false_eq_true, if_false] at hown
              have hsl := st.inv.sl (st.dep 9 (by kernel_rfl)) st.off
              have hxl := st.inv.at_.lt
              refine ex_append (P := Tryz.prog) hown hsl (by simp) (by simp [Value.oneCell']) 84 Tryz.underlying84 bool_info rfl (by decide) (by decide) (by simp <;> omega) hxl (.tmp 55) (.tmp 63) rfl (by simp [Act.eval, e1]) (by simp [Act.eval, e9]) fun v' w' hO hC => ?_
              exact st.inv.appended (by decide) (by omega) (hKa) st.off hjs (by decide) (by simpa using hO) hC
            case s11 =>
              refine sg_val (x := .pointer (some ⟨x, 3, none⟩)) rfl rfl rfl (GAS.keep (by decide) (by decide) (by decide)) fun γ L v a w st => ?_
              have f3 := st.far 3 (by kernel_rfl)
              simp at f3
              go_simp
            case s12 =>
              refine sg_skip rfl rfl rfl fun γ Lx v a w st => ?_
              have e11 := st.val 11 65 rfl (by kernel_rfl)
              rw [show v 11 = _ from st.φ 11 (by kernel_rfl)] at e11
              simp at e11
              have e10 := st.val 10 64 rfl (by kernel_rfl)
              rw [show v 10 = _ from st.φ 10 (by kernel_rfl)] at e10
              simp at e10
              have hja := st.dep 10 (by kernel_rfl)
              have hxa := st.inv.at_
              rw [st.off] at hxa
              obtain ⟨oA, oc, hov⟩ := own_slc (by have := st.inv.own; rw [hja] at this; exact this)
              have f0 := hxa.frozen 3
              have c0 := hxa.cell 3
              simp [wCells] at c0
              rw [hov] at e10
              refine ⟨w.setCell ⟨x, 3, none⟩ (γ 1), by rw [hov]; go_simp, st.inv.stored (hKs) hja st.off (by decide) (by omega) (by omega) rfl⟩
          case find =>
            intro γ Lx v wr hall hG hφ
            have hx5 := hG.at_
            have hO5 := hG.own
            rw [hall 12 (by decide)] at hx5
            rw [hall 10 (by decide)] at hO5
            simp only [if_true] at hx5 hO5
            have hE5 := hG.ext
            have hK5 := hG.kp
            clear hall hφ hG
            change Exit.inBlock _ (Exit.then _ _) _ (putAll _ v _ 13) wr
            simp only [putAll, dstOf, Act.put]
            simp only [List.getElem?_toArray, List.getElem?_cons_zero, List.getElem?_cons_succ, Option.bind_some, List.setIfInBounds_toArray, List.set_cons_zero, List.set_cons_succ]
            go_wp2_with fail
            go_roundw
            case rel =>
              rw [← List.replicate_succ'] at hO5
              exact ⟨k + 1, _, _, by omega, by go_num, hx5, hK5.1, hO5, hK5.2, hE5⟩
            case measure => simp [intOf]; omega
      · obtain rfl : k = 4 := by omega
        have hlw := working_any wr A _ (h.fix.ext hE)
        have b10 := (h.fix.ext hE).b10
        go_wp2_with fail
        refine hlw.mono ?_
        rintro e w3 ⟨rfl, hE3⟩
        clear hlw
        have hx0' := hx0.ext hE3
        have hv0' := own_off hv0 hE3 (fun _ _ h => h)
        have hrW' := hrW.ext hE3
        have hEW := hE.trans hE3
        have b11 := (h.fix.ext hEW).b11
        obtain ⟨a3, c3, hs3⟩ := own_slc hv3
        have HV3 := Lib.hid hs3
        clear hs3
        clear hx0 hv0 hv3 hrW hE hE3 b10 b9 hgA hR1 hE01
        go_wp2_with fail
        have hb0 : ∀ j, some j = v0.ownBlock → j < w3.heap.size := fun j hj => by
          rcases hv0'.2 with ⟨h1, _⟩ | ⟨g, cap, cur, h1, _, hg, _⟩
          · rw [h1] at hj; cases hj
          · rw [h1] at hj
            have e : j = g := by simpa [Value.ownBlock] using hj
            rw [e]; exact lt_of_block hg
        obtain ⟨b1, hb1⟩ : ∃ b1, w3.heap.size = b1 := ⟨_, rfl⟩
        have hxb1 : x < b1 := by have := hx0'.lt; omega
        rw [hb1] at hb0
        go_loopw [78] (fun iv wr => ∃ (k : Nat) (v1 v4 : Value) (ys zs : List Value), k ≤ 2 ∧ iv = .int .i64 (k : Int) ∧ At wr x 87 (wCells v0 v1 (.slice none 0 0) v3 v4) ∧ wr.ownsRow (x + 1) 90 2 v0 4 (((spotsOf U 4).map Spot.cells).flatten) ∧ wr.ownsRow b1 90 2 v1 k ys ∧ wr.ownsRow (x + 1) 4 1 v4 k zs ∧ b1 ≤ wr.heap.size ∧ At wr rb 87 Z9 ∧ Ext w00 wr) (fun iv _ => 2 - (intOf iv).toNat)
        case atStart => exact ⟨0, _, _, [], [], by omega, rfl, hx0', hv0', World.ownsRow_nil _ _ _ _, World.ownsRow_nil _ _ _ _, by omega, hrW', hEW⟩
        case round =>
          clear hx0' hv0' hrW' hEW b11
          obtain ⟨k, v1, v4, ys, zs, hk, rfl, hx0, hv0, hv1, hv4, hbs, hrW, hE⟩ := hrel
          by_cases hlt : k < 2
          · have b10 := (h.fix.ext hE).b10
            have hvl := volume_any wr A _ (h.fix.ext hE) k hlt
            obtain ⟨vk, hvk⟩ : ∃ vk, (if k = 0 then A.v0 else A.v1) = vk := ⟨_, rfl⟩
            rw [hvk] at hvl
            have hvc : ∀ w', Ext w00 w' → w'.cell? ⟨vk, 0, none⟩ = some (.int .i64 1000) ∧ w'.cell? ⟨vk, 1, none⟩ = some (.int .i64 0) ∧ w'.cell? ⟨vk, 2, none⟩ = some (.bool false) := fun w' hE' => by
              have hf := h.fix.ext hE'
              rw [← hvk]
              split
              · exact ⟨hf.a0, hf.a1, hf.a2⟩
              · exact ⟨hf.e0, hf.e1, hf.e2⟩
            clear hvk
            go_wp2_with fail
            refine hvl.mono ?_
            rintro e w4 ⟨rfl, rfl⟩
            clear hvl
            go_wp2_with fail
            rename World => W13
            have hrx : rb ≠ x := fun e => by have := hrlt; omega
            have hKe : ∀ w w', (w.ownsRow (x + 1) 90 2 v0 4 (((spotsOf U 4).map Spot.cells).flatten) ∧ w.ownsRow (x + 1) 4 1 v4 k zs ∧ At w rb 87 Z9 ∧ b1 ≤ w.heap.size) → Ext w w' → (w'.ownsRow (x + 1) 90 2 v0 4 (((spotsOf U 4).map Spot.cells).flatten) ∧ w'.ownsRow (x + 1) 4 1 v4 k zs ∧ At w' rb 87 Z9 ∧ b1 ≤ w'.heap.size) := fun _ _ h hE => ⟨own_off h.1 hE (fun _ _ h => h), own_off h.2.1 hE (fun _ _ h => h), h.2.2.1.ext hE, Nat.le_trans h.2.2.2 hE.size⟩
            have hKa : ∀ w w', (w.ownsRow (x + 1) 90 2 v0 4 (((spotsOf U 4).map Spot.cells).flatten) ∧ w.ownsRow (x + 1) 4 1 v4 k zs ∧ At w rb 87 Z9 ∧ b1 ≤ w.heap.size) → w.ownsRow b1 90 2 v1 k ys → Chg (fun j => some j = v1.ownBlock) w w' → (w'.ownsRow (x + 1) 90 2 v0 4 (((spotsOf U 4).map Spot.cells).flatten) ∧ w'.ownsRow (x + 1) 4 1 v4 k zs ∧ At w' rb 87 Z9 ∧ b1 ≤ w'.heap.size) := fun _ _ h h2 hC => ⟨own_off h.1 hC (fun j hj hj2 => by have := hb0 j hj; have := own_ge h2 j hj2; omega), own_off h.2.1 hC (own_types h.2.1 h2 (by decide)), h.2.2.1.chg hC (fun e => own_noat h2 ⟨_, h.2.2.1⟩ (by decide) _ e rfl), Nat.le_trans h.2.2.2 hC.size⟩
            have hKs : ∀ w w', (w.ownsRow (x + 1) 90 2 v0 4 (((spotsOf U 4).map Spot.cells).flatten) ∧ w.ownsRow (x + 1) 4 1 v4 k zs ∧ At w rb 87 Z9 ∧ b1 ≤ w.heap.size) → Chg (fun j => j = x) w w' → (∃ cs, At w x 87 cs) → (w'.ownsRow (x + 1) 90 2 v0 4 (((spotsOf U 4).map Spot.cells).flatten) ∧ w'.ownsRow (x + 1) 4 1 v4 k zs ∧ At w' rb 87 Z9 ∧ b1 ≤ w'.heap.size) := fun _ _ h hC hA => ⟨own_off h.1 hC (own_noat h.1 hA (by decide)), own_off h.2.1 hC (own_noat h.2.1 hA (by decide)), h.2.2.1.chg hC (fun e => hrx e), Nat.le_trans h.2.2.2 hC.size⟩
            refine wp_region_phi (Γ := Nat → Value) (sgφ [.val (.pointer (some ⟨x, 1, none⟩)), .val (v1), .val (.bool true), .val (.bool true), .val (.pointer (some ⟨vk, 0, none⟩)), .val (.pointer (some ⟨vk, 0, none⟩)), .val (.pointer (some ⟨vk, 2, none⟩)), .val (.bool false), .val (.bool true), .val (.bool true), .val (.pointer (some ⟨vk, 0, none⟩)), .val (.pointer (some ⟨vk, 0, none⟩)), .val (.pointer (some ⟨vk, 0, none⟩)), .val (.int .i64 1000), .val (.agg #[.bool true, .int .i64 1000]), .g 0, .g 1, .val (.pointer (some ⟨x, 1, none⟩)), .any])
              (GAS w00 x 87 90 (fun y => wCells v0 y (.slice none 0 0) v3 v4) v1 b1 2 k 1 ys [.bool true, .int .i64 1000] (fun w => (w.ownsRow (x + 1) 90 2 v0 4 (((spotsOf U 4).map Spot.cells).flatten) ∧ w.ownsRow (x + 1) 4 1 v4 k zs ∧ At w rb 87 Z9 ∧ b1 ≤ w.heap.size)) 15 16 18)
              (by kernel_rfl) (by kernel_rfl) (by kernel_rfl) (fun _ => undef) (GAS.start (C := fun y => wCells v0 y (.slice none 0 0) v3 v4) (v := v1) hE (hx0) (hv1) (hKe _ _ ⟨hv0, hv4, hrW, hbs⟩ ((Ext.refl W13).drew)) _) ?stepse ?fine
            case stepse =>
              show StepsTo _ _ _ _ _ _ 19
              refine ⟨⟨⟨⟨⟨⟨⟨⟨⟨⟨⟨⟨⟨⟨⟨⟨⟨⟨⟨trivial, ?s0⟩, ?s1⟩, ?s2⟩, ?s3⟩, ?s4⟩, ?s5⟩, ?s6⟩, ?s7⟩, ?s8⟩, ?s9⟩, ?s10⟩, ?s11⟩, ?s12⟩, ?s13⟩, ?s14⟩, ?s15⟩, ?s16⟩, ?s17⟩, ?s18⟩
              case s0 =>
                refine sg_val (x := .pointer (some ⟨x, 1, none⟩)) rfl rfl rfl (GAS.keep (by decide) (by decide) (by decide)) fun γ L v a w st => ?_
                have f3 := st.far 3 (by kernel_rfl)
                simp at f3
                go_simp
              case s1 =>
                refine sg_val (x := v1) rfl rfl rfl (GAS.keep (by decide) (by decide) (by decide)) fun γ L v a w st => ?_
                have e0 := st.val 0 87 rfl (by kernel_rfl)
                rw [show v 0 = _ from st.φ 0 (by kernel_rfl)] at e0
                simp at e0
                have hxa := st.inv.at_
                have hjs : L 18 = false := by
                  cases hq : L 18 with
                  | false => rfl
                  | true =>
                    have q1 := st.down 18 16 hq (by kernel_rfl)
                    have q2 := st.down 16 1 q1 (by kernel_rfl)
                    rw [st.off] at q2; cases q2
                rw [hjs] at hxa
                have hcl := hxa.cell 1
                simp [wCells] at hcl
                obtain ⟨oA, oc, rfl⟩ := own_slc hv1
                go_simp
              case s2 =>
                refine sg_val (x := .bool true) rfl rfl rfl (GAS.keep (by decide) (by decide) (by decide)) fun γ L v a w st => ?_
                have f6 := st.far 6 (by kernel_rfl)
                simp at f6
                go_simp
              case s3 =>
                refine sg_val (x := .bool true) rfl rfl rfl (GAS.keep (by decide) (by decide) (by decide)) fun γ L v a w st => ?_
                have e2 := st.val 2 89 rfl (by kernel_rfl)
                rw [show v 2 = _ from st.φ 2 (by kernel_rfl)] at e2
                simp at e2
                go_simp
              case s4 =>
                refine sg_val_on (x := .pointer (some ⟨vk, 0, none⟩)) (on := 3) (t := 90) (b := true) rfl rfl (by kernel_rfl) rfl rfl rfl (GAS.keep (by decide) (by decide) (by decide)) fun γ L v a w st => ?_
                have f8 := st.far 8 (by kernel_rfl)
                simp at f8
                have e3 := st.val 3 90 rfl (by kernel_rfl)
                rw [show v 3 = _ from st.φ 3 (by kernel_rfl)] at e3
                simp at e3
                go_simp
              case s5 =>
                refine sg_val_on (x := .pointer (some ⟨vk, 0, none⟩)) (on := 3) (t := 90) (b := true) rfl rfl (by kernel_rfl) rfl rfl rfl (GAS.keep (by decide) (by decide) (by decide)) fun γ L v a w st => ?_
                have e4 := st.val 4 91 rfl (by kernel_rfl)
                rw [show v 4 = _ from st.φ 4 (by kernel_rfl)] at e4
                simp at e4
                have e3 := st.val 3 90 rfl (by kernel_rfl)
                rw [show v 3 = _ from st.φ 3 (by kernel_rfl)] at e3
                simp at e3
                go_simp
              case s6 =>
                refine sg_val_on (x := .pointer (some ⟨vk, 2, none⟩)) (on := 3) (t := 90) (b := true) rfl rfl (by kernel_rfl) rfl rfl rfl (GAS.keep (by decide) (by decide) (by decide)) fun γ L v a w st => ?_
                have e5 := st.val 5 92 rfl (by kernel_rfl)
                rw [show v 5 = _ from st.φ 5 (by kernel_rfl)] at e5
                simp at e5
                have e3 := st.val 3 90 rfl (by kernel_rfl)
                rw [show v 3 = _ from st.φ 3 (by kernel_rfl)] at e3
                simp at e3
                go_simp
              case s7 =>
                refine sg_callv_on (x := .bool false) (f := 36) (on := 3) (t := 90) (b := true) rfl rfl (by kernel_rfl) rfl rfl rfl fun γ L v a w st => ?_
                have e6 := st.val 6 93 rfl (by kernel_rfl)
                rw [show v 6 = _ from st.φ 6 (by kernel_rfl)] at e6
                simp at e6
                have e3 := st.val 3 90 rfl (by kernel_rfl)
                rw [show v 3 = _ from st.φ 3 (by kernel_rfl)] at e3
                simp at e3
                obtain ⟨q0, q1, q2⟩ := hvc w st.inv.ext
                refine ⟨#[.pointer (some ⟨vk, 2, none⟩)], by go_simp, ?_⟩
                refine Calls.mono (lostL_any w vk 2 q2) ?_
                rintro e w' ⟨rfl, hE⟩
                exact ⟨rfl, st.inv.call (hKe) hE (by decide) (by decide) (by decide) st.off⟩
              case s8 =>
                refine sg_val_on (x := .bool true) (on := 3) (t := 90) (b := true) rfl rfl (by kernel_rfl) rfl rfl rfl (GAS.keep (by decide) (by decide) (by decide)) fun γ L v a w st => ?_
                have e7 := st.val 7 94 rfl (by kernel_rfl)
                rw [show v 7 = _ from st.φ 7 (by kernel_rfl)] at e7
                simp at e7
                have e3 := st.val 3 90 rfl (by kernel_rfl)
                rw [show v 3 = _ from st.φ 3 (by kernel_rfl)] at e3
                simp at e3
                go_simp
              case s9 =>
                refine sg_val (x := .bool true) rfl rfl rfl (GAS.keep (by decide) (by decide) (by decide)) fun γ L v a w st => ?_
                have e3 := st.val 3 90 rfl (by kernel_rfl)
                rw [show v 3 = _ from st.φ 3 (by kernel_rfl)] at e3
                simp at e3
                have e8 := st.val 8 95 rfl (by kernel_rfl)
                rw [show v 8 = _ from st.φ 8 (by kernel_rfl)] at e8
                simp at e8
                go_simp
              case s10 =>
                refine sg_val (x := .pointer (some ⟨vk, 0, none⟩)) rfl rfl rfl (GAS.keep (by decide) (by decide) (by decide)) fun γ L v a w st => ?_
                have f8 := st.far 8 (by kernel_rfl)
                simp at f8
                go_simp
              case s11 =>
                refine sg_val (x := .pointer (some ⟨vk, 0, none⟩)) rfl rfl rfl (GAS.keep (by decide) (by decide) (by decide)) fun γ L v a w st => ?_
                have e10 := st.val 10 97 rfl (by kernel_rfl)
                rw [show v 10 = _ from st.φ 10 (by kernel_rfl)] at e10
                simp at e10
                go_simp
              case s12 =>
                refine sg_val (x := .pointer (some ⟨vk, 0, none⟩)) rfl rfl rfl (GAS.keep (by decide) (by decide) (by decide)) fun γ L v a w st => ?_
                have e11 := st.val 11 98 rfl (by kernel_rfl)
                rw [show v 11 = _ from st.φ 11 (by kernel_rfl)] at e11
                simp at e11
                go_simp
              case s13 =>
                refine sg_callv' (x := .int .i64 1000) (f := 52) rfl rfl rfl fun γ L v a w st => ?_
                have e12 := st.val 12 99 rfl (by kernel_rfl)
                rw [show v 12 = _ from st.φ 12 (by kernel_rfl)] at e12
                simp at e12
                obtain ⟨q0, q1, q2⟩ := hvc w st.inv.ext
                refine ⟨#[.pointer (some ⟨vk, 0, none⟩)], by go_simp, ?_⟩
                refine Calls.mono (freeL_any w vk 1000 0 q0 q1 (by decide) (by decide) (by decide)) ?_
                rintro e w' ⟨rfl, hE⟩
                exact ⟨rfl, st.inv.call (hKe) hE (by decide) (by decide) (by decide) st.off⟩
              case s14 =>
                refine sg_val (x := .agg #[.bool true, .int .i64 1000]) rfl rfl rfl (GAS.keep (by decide) (by decide) (by decide)) fun γ L v a w st => ?_
                have e9 := st.val 9 96 rfl (by kernel_rfl)
                rw [show v 9 = _ from st.φ 9 (by kernel_rfl)] at e9
                simp at e9
                have e13 := st.val 13 100 rfl (by kernel_rfl)
                rw [show v 13 = _ from st.φ 13 (by kernel_rfl)] at e13
                simp at e13
                go_simp
              case s15 =>
                refine sg_new (k := 0) rfl rfl rfl (by kernel_rfl) fun γ Lx v a w st => ?_
                have e14 := st.val 14 101 rfl (by kernel_rfl)
                rw [show v 14 = _ from st.φ 14 (by kernel_rfl)] at e14
                simp at e14
                have hja : Lx 16 = false := by
                  cases hq : Lx 16 with
                  | false => rfl
                  | true => have q := st.down 16 15 hq (by kernel_rfl); rw [st.off] at q; cases q
                have hjs : Lx 18 = false := by
                  cases hq : Lx 18 with
                  | false => rfl
                  | true => have q := st.down 18 16 hq (by kernel_rfl); rw [hja] at q; cases q
                exact ⟨.slice (some ⟨w.heap.size, 0, none⟩) 1 1, w.alloc (.cells #[.bool true, .int .i64 1000] 90), by go_simp, st.inv.made (hKe) rfl hja hjs (by decide) (by decide)⟩
              case s16 =>
                refine sg_new (k := 1) rfl rfl rfl (by kernel_rfl) fun γ Lx v a w st => ?_
                have e1 := st.val 1 88 rfl (by kernel_rfl)
                rw [show v 1 = _ from st.φ 1 (by kernel_rfl)] at e1
                simp at e1
                have e15 := st.val 15 102 rfl (by kernel_rfl)
                rw [show v 15 = _ from st.φ 15 (by kernel_rfl)] at e15
                simp at e15
                have hjs : Lx 18 = false := by
                  cases hq : Lx 18 with
                  | false => rfl
                  | true => have q := st.down 18 16 hq (by kernel_rfl); rw [st.off] at q; cases q
                have hown := st.inv.own
                rw [st.off] at hown
                simp only [Bool.false_eq_true, if_false] at hown
                have hsl := st.inv.sl (st.dep 15 (by kernel_rfl)) st.off
                have hxl := st.inv.kp.2.2.2
                refine ex_append (P := Tryz.prog) hown hsl (by simp) (by simp [Value.oneCell']) 85 Tryz.underlying85 spot2_info rfl (by decide) (by decide) (by simp <;> omega) hxl (.tmp 88) (.tmp 102) rfl (by simp [Act.eval, e1]) (by simp [Act.eval, e15]) fun v' w' hO hC => ?_
                exact st.inv.appended (by decide) (by omega) (hKa) st.off hjs (by decide) (by simpa using hO) hC
              case s17 =>
                refine sg_val (x := .pointer (some ⟨x, 1, none⟩)) rfl rfl rfl (GAS.keep (by decide) (by decide) (by decide)) fun γ L v a w st => ?_
                have f3 := st.far 3 (by kernel_rfl)
                simp at f3
                go_simp
              case s18 =>
                refine sg_skip rfl rfl rfl fun γ Lx v a w st => ?_
                have e17 := st.val 17 104 rfl (by kernel_rfl)
                rw [show v 17 = _ from st.φ 17 (by kernel_rfl)] at e17
                simp at e17
                have e16 := st.val 16 103 rfl (by kernel_rfl)
                rw [show v 16 = _ from st.φ 16 (by kernel_rfl)] at e16
                simp at e16
                have hja := st.dep 16 (by kernel_rfl)
                have hxa := st.inv.at_
                rw [st.off] at hxa
                obtain ⟨oA, oc, hov⟩ := own_slc (by have := st.inv.own; rw [hja] at this; exact this)
                have f0 := hxa.frozen 1
                have c0 := hxa.cell 1
                simp [wCells] at c0
                rw [hov] at e16
                refine ⟨w.setCell ⟨x, 1, none⟩ (γ 1), by rw [hov]; go_simp, st.inv.stored (hKs) hja st.off (by decide) (by omega) (by omega) rfl⟩
            case fine =>
              intro γ Lx v wr hall hG hφ
              have hx5 := hG.at_
              have hO5 := hG.own
              rw [hall 18 (by decide)] at hx5
              rw [hall 16 (by decide)] at hO5
              simp only [if_true] at hx5 hO5
              have hE5 := hG.ext
              have hK5 := hG.kp
              clear hall hφ hG
              change Exit.then _ _ _ (putAll _ v _ 19) wr
              simp only [putAll, dstOf, Act.put]
              simp only [List.getElem?_toArray, List.getElem?_cons_zero, List.getElem?_cons_succ, Option.bind_some, List.setIfInBounds_toArray, List.set_cons_zero, List.set_cons_succ]
              clear hKe hKa hKs hx0 hv0 hE hv1 hrW hv4 hbs
              obtain ⟨hv0, hv4, hrW, hbs⟩ := hK5
              obtain ⟨v1', hv1e⟩ : ∃ v1', γ 1 = v1' := ⟨_, rfl⟩
              rw [hv1e] at hx5 hO5
              obtain ⟨ys', hys⟩ : ∃ ys', ys ++ [Value.bool true, Value.int .i64 1000] = ys' := ⟨_, rfl⟩
              rw [hys] at hO5
              have hx0 := hx5
              have hv1 := hO5
              have hE := hE5
              clear hx5 hO5 hE5 hv1e hys
              go_wp2_with fail
              rename World => W14
              have hKe : ∀ w w', (w.ownsRow (x + 1) 90 2 v0 4 (((spotsOf U 4).map Spot.cells).flatten) ∧ w.ownsRow b1 90 2 v1' (k + 1) ys' ∧ At w rb 87 Z9 ∧ b1 ≤ w.heap.size) → Ext w w' → (w'.ownsRow (x + 1) 90 2 v0 4 (((spotsOf U 4).map Spot.cells).flatten) ∧ w'.ownsRow b1 90 2 v1' (k + 1) ys' ∧ At w' rb 87 Z9 ∧ b1 ≤ w'.heap.size) := fun _ _ h hE => ⟨own_off h.1 hE (fun _ _ h => h), own_off h.2.1 hE (fun _ _ h => h), h.2.2.1.ext hE, Nat.le_trans h.2.2.2 hE.size⟩
              have hKa : ∀ w w', (w.ownsRow (x + 1) 90 2 v0 4 (((spotsOf U 4).map Spot.cells).flatten) ∧ w.ownsRow b1 90 2 v1' (k + 1) ys' ∧ At w rb 87 Z9 ∧ b1 ≤ w.heap.size) → w.ownsRow (x + 1) 4 1 v4 k zs → Chg (fun j => some j = v4.ownBlock) w w' → (w'.ownsRow (x + 1) 90 2 v0 4 (((spotsOf U 4).map Spot.cells).flatten) ∧ w'.ownsRow b1 90 2 v1' (k + 1) ys' ∧ At w' rb 87 Z9 ∧ b1 ≤ w'.heap.size) := fun _ _ h h2 hC => ⟨own_off h.1 hC (own_types h.1 h2 (by decide)), own_off h.2.1 hC (own_types h.2.1 h2 (by decide)), h.2.2.1.chg hC (fun e => own_noat h2 ⟨_, h.2.2.1⟩ (by decide) _ e rfl), Nat.le_trans h.2.2.2 hC.size⟩
              have hKs : ∀ w w', (w.ownsRow (x + 1) 90 2 v0 4 (((spotsOf U 4).map Spot.cells).flatten) ∧ w.ownsRow b1 90 2 v1' (k + 1) ys' ∧ At w rb 87 Z9 ∧ b1 ≤ w.heap.size) → Chg (fun j => j = x) w w' → (∃ cs, At w x 87 cs) → (w'.ownsRow (x + 1) 90 2 v0 4 (((spotsOf U 4).map Spot.cells).flatten) ∧ w'.ownsRow b1 90 2 v1' (k + 1) ys' ∧ At w' rb 87 Z9 ∧ b1 ≤ w'.heap.size) := fun _ _ h hC hA => ⟨own_off h.1 hC (own_noat h.1 hA (by decide)), own_off h.2.1 hC (own_noat h.2.1 hA (by decide)), h.2.2.1.chg hC (fun e => hrx e), Nat.le_trans h.2.2.2 hC.size⟩
              refine wp_region_phi (Γ := Nat → Value) (sgφ [.val (.pointer (some ⟨x, 4, none⟩)), .val (v4), .val (.pointer (some ⟨vk, 0, none⟩)), .val (.pointer (some ⟨vk, 0, none⟩)), .val (.pointer (some ⟨vk, 2, none⟩)), .val (.bool false), .g 0, .g 1, .val (.pointer (some ⟨x, 4, none⟩)), .any])
                (GAS w00 x 87 4 (fun y => wCells v0 v1' (.slice none 0 0) v3 y) v4 (x + 1) 1 k 1 zs [.bool false] (fun w => (w.ownsRow (x + 1) 90 2 v0 4 (((spotsOf U 4).map Spot.cells).flatten) ∧ w.ownsRow b1 90 2 v1' (k + 1) ys' ∧ At w rb 87 Z9 ∧ b1 ≤ w.heap.size)) 6 7 9)
                (by kernel_rfl) (by kernel_rfl) (by kernel_rfl) (fun _ => undef) (GAS.start (C := fun y => wCells v0 v1' (.slice none 0 0) v3 y) (v := v4) hE (hx0) (hv4) (hKe _ _ ⟨hv0, hv1, hrW, hbs⟩ ((Ext.refl W14).drew)) _) ?stepsf ?finf
              case stepsf =>
                show StepsTo _ _ _ _ _ _ 10
                refine ⟨⟨⟨⟨⟨⟨⟨⟨⟨⟨trivial, ?s0⟩, ?s1⟩, ?s2⟩, ?s3⟩, ?s4⟩, ?s5⟩, ?s6⟩, ?s7⟩, ?s8⟩, ?s9⟩
                case s0 =>
                  refine sg_val (x := .pointer (some ⟨x, 4, none⟩)) rfl rfl rfl (GAS.keep (by decide) (by decide) (by decide)) fun γ L v a w st => ?_
                  have f3 := st.far 3 (by kernel_rfl)
                  simp at f3
                  go_simp
                case s1 =>
                  refine sg_val (x := v4) rfl rfl rfl (GAS.keep (by decide) (by decide) (by decide)) fun γ L v a w st => ?_
                  have e0 := st.val 0 105 rfl (by kernel_rfl)
                  rw [show v 0 = _ from st.φ 0 (by kernel_rfl)] at e0
                  simp at e0
                  have hxa := st.inv.at_
                  have hjs : L 9 = false := by
                    cases hq : L 9 with
                    | false => rfl
                    | true =>
                      have q1 := st.down 9 7 hq (by kernel_rfl)
                      have q2 := st.down 7 1 q1 (by kernel_rfl)
                      rw [st.off] at q2; cases q2
                  rw [hjs] at hxa
                  have hcl := hxa.cell 4
                  simp [wCells] at hcl
                  obtain ⟨oA, oc, rfl⟩ := own_slc hv4
                  go_simp
                case s2 =>
                  refine sg_val (x := .pointer (some ⟨vk, 0, none⟩)) rfl rfl rfl (GAS.keep (by decide) (by decide) (by decide)) fun γ L v a w st => ?_
                  have f8 := st.far 8 (by kernel_rfl)
                  simp at f8
                  go_simp
                case s3 =>
                  refine sg_val (x := .pointer (some ⟨vk, 0, none⟩)) rfl rfl rfl (GAS.keep (by decide) (by decide) (by decide)) fun γ L v a w st => ?_
                  have e2 := st.val 2 107 rfl (by kernel_rfl)
                  rw [show v 2 = _ from st.φ 2 (by kernel_rfl)] at e2
                  simp at e2
                  go_simp
                case s4 =>
                  refine sg_val (x := .pointer (some ⟨vk, 2, none⟩)) rfl rfl rfl (GAS.keep (by decide) (by decide) (by decide)) fun γ L v a w st => ?_
                  have e3 := st.val 3 108 rfl (by kernel_rfl)
                  rw [show v 3 = _ from st.φ 3 (by kernel_rfl)] at e3
                  simp at e3
                  go_simp
                case s5 =>
                  refine sg_callv' (x := .bool false) (f := 36) rfl rfl rfl fun γ L v a w st => ?_
                  have e4 := st.val 4 109 rfl (by kernel_rfl)
                  rw [show v 4 = _ from st.φ 4 (by kernel_rfl)] at e4
                  simp at e4
                  obtain ⟨q0, q1, q2⟩ := hvc w st.inv.ext
                  refine ⟨#[.pointer (some ⟨vk, 2, none⟩)], by go_simp, ?_⟩
                  refine Calls.mono (lostL_any w vk 2 q2) ?_
                  rintro e w' ⟨rfl, hE⟩
                  exact ⟨rfl, st.inv.call (hKe) hE (by decide) (by decide) (by decide) st.off⟩
                case s6 =>
                  refine sg_new (k := 0) rfl rfl rfl (by kernel_rfl) fun γ Lx v a w st => ?_
                  have e5 := st.val 5 110 rfl (by kernel_rfl)
                  rw [show v 5 = _ from st.φ 5 (by kernel_rfl)] at e5
                  simp at e5
                  have hja : Lx 7 = false := by
                    cases hq : Lx 7 with
                    | false => rfl
                    | true => have q := st.down 7 6 hq (by kernel_rfl); rw [st.off] at q; cases q
                  have hjs : Lx 9 = false := by
                    cases hq : Lx 9 with
                    | false => rfl
                    | true => have q := st.down 9 7 hq (by kernel_rfl); rw [hja] at q; cases q
                  exact ⟨.slice (some ⟨w.heap.size, 0, none⟩) 1 1, w.alloc (.cells #[.bool false] 4), by go_simp, st.inv.made (hKe) rfl hja hjs (by decide) (by decide)⟩
                case s7 =>
                  refine sg_new (k := 1) rfl rfl rfl (by kernel_rfl) fun γ Lx v a w st => ?_
                  have e1 := st.val 1 106 rfl (by kernel_rfl)
                  rw [show v 1 = _ from st.φ 1 (by kernel_rfl)] at e1
                  simp at e1
                  have e6 := st.val 6 111 rfl (by kernel_rfl)
                  rw [show v 6 = _ from st.φ 6 (by kernel_rfl)] at e6
                  simp at e6
                  have hjs : Lx 9 = false := by
                    cases hq : Lx 9 with
                    | false => rfl
                    | true => have q := st.down 9 7 hq (by kernel_rfl); rw [st.off] at q; cases q
                  have hown := st.inv.own
                  rw [st.off] at hown
                  simp only [Bool.false_eq_true, if_false] at hown
                  have hsl := st.inv.sl (st.dep 6 (by kernel_rfl)) st.off
                  have hxl := st.inv.at_.lt
                  refine ex_append (P := Tryz.prog) hown hsl (by simp) (by simp [Value.oneCell']) 84 Tryz.underlying84 bool_info rfl (by decide) (by decide) (by simp <;> omega) hxl (.tmp 106) (.tmp 111) rfl (by simp [Act.eval, e1]) (by simp [Act.eval, e6]) fun v' w' hO hC => ?_
                  exact st.inv.appended (by decide) (by omega) (hKa) st.off hjs (by decide) (by simpa using hO) hC
                case s8 =>
                  refine sg_val (x := .pointer (some ⟨x, 4, none⟩)) rfl rfl rfl (GAS.keep (by decide) (by decide) (by decide)) fun γ L v a w st => ?_
                  have f3 := st.far 3 (by kernel_rfl)
                  simp at f3
                  go_simp
                case s9 =>
                  refine sg_skip rfl rfl rfl fun γ Lx v a w st => ?_
                  have e8 := st.val 8 113 rfl (by kernel_rfl)
                  rw [show v 8 = _ from st.φ 8 (by kernel_rfl)] at e8
                  simp at e8
                  have e7 := st.val 7 112 rfl (by kernel_rfl)
                  rw [show v 7 = _ from st.φ 7 (by kernel_rfl)] at e7
                  simp at e7
                  have hja := st.dep 7 (by kernel_rfl)
                  have hxa := st.inv.at_
                  rw [st.off] at hxa
                  obtain ⟨oA, oc, hov⟩ := own_slc (by have := st.inv.own; rw [hja] at this; exact this)
                  have f0 := hxa.frozen 4
                  have c0 := hxa.cell 4
                  simp [wCells] at c0
                  rw [hov] at e7
                  refine ⟨w.setCell ⟨x, 4, none⟩ (γ 1), by rw [hov]; go_simp, st.inv.stored (hKs) hja st.off (by decide) (by omega) (by omega) rfl⟩
              case finf =>
                intro γ Lx v wr hall hG hφ
                have hx5 := hG.at_
                have hO5 := hG.own
                rw [hall 9 (by decide)] at hx5
                rw [hall 7 (by decide)] at hO5
                simp only [if_true] at hx5 hO5
                have hE5 := hG.ext
                have hK5 := hG.kp
                clear hall hφ hG
                change Exit.inBlock _ (Exit.then _ _) _ (putAll _ v _ 10) wr
                simp only [putAll, dstOf, Act.put]
                simp only [List.getElem?_toArray, List.getElem?_cons_zero, List.getElem?_cons_succ, Option.bind_some, List.setIfInBounds_toArray, List.set_cons_zero, List.set_cons_succ]
                go_wp2_with fail
                go_roundw
                case rel => exact ⟨k + 1, _, _, _, _, by omega, by go_num, hx5, hK5.1, hK5.2.1, hO5, hK5.2.2.2, hK5.2.2.1, hE5⟩
                case measure => simp [intOf]; omega
          · obtain rfl : k = 2 := by omega
            obtain ⟨a1, c1, hs1⟩ := own_slc hv1
            have HV1 := Lib.hid hs1
            clear hs1
            obtain ⟨a4, c4, hs4⟩ := own_slc hv4
            have HV4 := Lib.hid hs4
            clear hs4
            clear hv1 hv4 hbs hb0
            go_wp2_with fail
            rename World => W16
            have hrx : rb ≠ x := fun e => by have := hrlt; omega
            have hKe : ∀ w w', (w.ownsRow (x + 1) 90 2 v0 4 (((spotsOf U 4).map Spot.cells).flatten) ∧ At w rb 87 Z9) → Ext w w' → (w'.ownsRow (x + 1) 90 2 v0 4 (((spotsOf U 4).map Spot.cells).flatten) ∧ At w' rb 87 Z9) := fun _ _ h hE => ⟨own_off h.1 hE (fun _ _ h => h), h.2.ext hE⟩
            have hKa : ∀ w w', (w.ownsRow (x + 1) 90 2 v0 4 (((spotsOf U 4).map Spot.cells).flatten) ∧ At w rb 87 Z9) → w.ownsRow (x + 1) 3 1 (.slice none 0 0) 0 [] → Chg (fun j => some j = (Value.slice none 0 0).ownBlock) w w' → (w'.ownsRow (x + 1) 90 2 v0 4 (((spotsOf U 4).map Spot.cells).flatten) ∧ At w' rb 87 Z9) := fun _ _ h h2 hC => ⟨own_off h.1 hC (own_types h.1 h2 (by decide)), h.2.chg hC (fun e => own_noat h2 ⟨_, h.2⟩ (by decide) _ e rfl)⟩
            have hKs : ∀ w w', (w.ownsRow (x + 1) 90 2 v0 4 (((spotsOf U 4).map Spot.cells).flatten) ∧ At w rb 87 Z9) → Chg (fun j => j = x) w w' → (∃ cs, At w x 87 cs) → (w'.ownsRow (x + 1) 90 2 v0 4 (((spotsOf U 4).map Spot.cells).flatten) ∧ At w' rb 87 Z9) := fun _ _ h hC hA => ⟨own_off h.1 hC (own_noat h.1 hA (by decide)), h.2.chg hC (fun e => hrx e)⟩
            refine wp_region_phi (Γ := Nat → Value) (sgφ [.val (.pointer (some ⟨x, 2, none⟩)), .val (.slice none 0 0), .val (.pointer (some ⟨A.b, 0, none⟩)), .val (.pointer (some ⟨A.b, 0, none⟩)), .val (.pointer (some ⟨A.b, 11, none⟩)), .val (.slice (some ⟨A.ib, A.io, none⟩) 2 A.ic), .g 1, .val (.pointer (some ⟨x, 2, none⟩)), .any])
              (GAS w00 x 87 3 (fun y => wCells v0 v1 y v3 v4) (.slice none 0 0) (x + 1) 1 0 2 [] [.int .i64 0, .int .i64 0] (fun w => (w.ownsRow (x + 1) 90 2 v0 4 (((spotsOf U 4).map Spot.cells).flatten) ∧ At w rb 87 Z9)) 1000 6 8)
              (by kernel_rfl) (by kernel_rfl) (by kernel_rfl) (fun _ => undef) (GAS.start (C := fun y => wCells v0 v1 y v3 v4) (v := (.slice none 0 0)) hE (hx0) (World.ownsRow_nil _ _ _ _) (hKe _ _ ⟨hv0, hrW⟩ ((Ext.refl W16).drew)) _) ?stepsg ?fing
            case stepsg =>
              show StepsTo _ _ _ _ _ _ 9
              refine ⟨⟨⟨⟨⟨⟨⟨⟨⟨trivial, ?s0⟩, ?s1⟩, ?s2⟩, ?s3⟩, ?s4⟩, ?s5⟩, ?s6⟩, ?s7⟩, ?s8⟩
              case s0 =>
                refine sg_val (x := .pointer (some ⟨x, 2, none⟩)) rfl rfl rfl (GAS.keep (by decide) (by decide) (by decide)) fun γ L v a w st => ?_
                have f3 := st.far 3 (by kernel_rfl)
                simp at f3
                go_simp
              case s1 =>
                refine sg_val (x := .slice none 0 0) rfl rfl rfl (GAS.keep (by decide) (by decide) (by decide)) fun γ L v a w st => ?_
                have e0 := st.val 0 115 rfl (by kernel_rfl)
                rw [show v 0 = _ from st.φ 0 (by kernel_rfl)] at e0
                simp at e0
                have hxa := st.inv.at_
                have hjs : L 8 = false := by
                  cases hq : L 8 with
                  | false => rfl
                  | true =>
                    have q1 := st.down 8 6 hq (by kernel_rfl)
                    have q2 := st.down 6 1 q1 (by kernel_rfl)
                    rw [st.off] at q2; cases q2
                rw [hjs] at hxa
                have hcl := hxa.cell 2
                simp [wCells] at hcl
                go_simp
              case s2 =>
                refine sg_val (x := .pointer (some ⟨A.b, 0, none⟩)) rfl rfl rfl (GAS.keep (by decide) (by decide) (by decide)) fun γ L v a w st => ?_
                have f0 := st.far 0 (by kernel_rfl)
                simp at f0
                go_simp
              case s3 =>
                refine sg_val (x := .pointer (some ⟨A.b, 0, none⟩)) rfl rfl rfl (GAS.keep (by decide) (by decide) (by decide)) fun γ L v a w st => ?_
                have e2 := st.val 2 117 rfl (by kernel_rfl)
                rw [show v 2 = _ from st.φ 2 (by kernel_rfl)] at e2
                simp at e2
                go_simp
              case s4 =>
                refine sg_val (x := .pointer (some ⟨A.b, 11, none⟩)) rfl rfl rfl (GAS.keep (by decide) (by decide) (by decide)) fun γ L v a w st => ?_
                have e3 := st.val 3 118 rfl (by kernel_rfl)
                rw [show v 3 = _ from st.φ 3 (by kernel_rfl)] at e3
                simp at e3
                go_simp
              case s5 =>
                refine sg_val (x := .slice (some ⟨A.ib, A.io, none⟩) 2 A.ic) rfl rfl rfl (GAS.keep (by decide) (by decide) (by decide)) fun γ L v a w st => ?_
                have e4 := st.val 4 119 rfl (by kernel_rfl)
                rw [show v 4 = _ from st.φ 4 (by kernel_rfl)] at e4
                simp at e4
                have hcl := (h.fix.ext st.inv.ext).b11
                go_simp
              case s6 =>
                refine sg_new (k := 1) rfl rfl rfl (by kernel_rfl) fun γ Lx v a w st => ?_
                have e1 := st.val 1 116 rfl (by kernel_rfl)
                rw [show v 1 = _ from st.φ 1 (by kernel_rfl)] at e1
                simp at e1
                have e5 := st.val 5 120 rfl (by kernel_rfl)
                rw [show v 5 = _ from st.φ 5 (by kernel_rfl)] at e5
                simp at e5
                have hjs : Lx 8 = false := by
                  cases hq : Lx 8 with
                  | false => rfl
                  | true => have q := st.down 8 6 hq (by kernel_rfl); rw [st.off] at q; cases q
                have hown := st.inv.own
                rw [st.off] at hown
                simp only [Bool.false_eq_true, if_false] at hown
                have hsl := (show Sln w (.slice (some ⟨A.ib, A.io, none⟩) 2 A.ic) 1 [[Value.int .i64 0], [Value.int .i64 0]] from by
                  have hf := h.fix.ext st.inv.ext
                  refine ⟨_, A.ic, rfl, fun _ => ⟨_, _, rfl, fun i row hi j y hy => ?_⟩⟩
                  rcases (show i = 0 ∨ i = 1 ∨ 2 ≤ i by omega) with rfl | rfl | h2
                  · simp at hi; subst hi
                    have hj0 : j = 0 := by have := (List.getElem?_eq_some_iff.1 hy).1; simp at this; omega
                    subst hj0; simp at hy; subst hy; exact hf.i0
                  · simp at hi; subst hi
                    have hj0 : j = 0 := by have := (List.getElem?_eq_some_iff.1 hy).1; simp at this; omega
                    subst hj0; simp at hy; subst hy; exact hf.i1
                  · rw [List.getElem?_eq_none (by simpa using h2)] at hi; cases hi)
                have hxl := st.inv.at_.lt
                refine ex_append (P := Tryz.prog) hown hsl (by simp) (by simp [Value.oneCell']) 30 Tryz.underlying30 intW_info rfl (by decide) (by decide) (by simp <;> omega) hxl (.tmp 116) (.tmp 120) rfl (by simp [Act.eval, e1]) (by simp [Act.eval, e5]) fun v' w' hO hC => ?_
                exact st.inv.appended (by decide) (by omega) (hKa) st.off hjs (by decide) (by simpa using hO) hC
              case s7 =>
                refine sg_val (x := .pointer (some ⟨x, 2, none⟩)) rfl rfl rfl (GAS.keep (by decide) (by decide) (by decide)) fun γ L v a w st => ?_
                have f3 := st.far 3 (by kernel_rfl)
                simp at f3
                go_simp
              case s8 =>
                refine sg_skip rfl rfl rfl fun γ Lx v a w st => ?_
                have e7 := st.val 7 122 rfl (by kernel_rfl)
                rw [show v 7 = _ from st.φ 7 (by kernel_rfl)] at e7
                simp at e7
                have e6 := st.val 6 121 rfl (by kernel_rfl)
                rw [show v 6 = _ from st.φ 6 (by kernel_rfl)] at e6
                simp at e6
                have hja := st.dep 6 (by kernel_rfl)
                have hxa := st.inv.at_
                rw [st.off] at hxa
                obtain ⟨oA, oc, hov⟩ := own_slc (by have := st.inv.own; rw [hja] at this; exact this)
                have f0 := hxa.frozen 2
                have c0 := hxa.cell 2
                simp [wCells] at c0
                rw [hov] at e6
                refine ⟨w.setCell ⟨x, 2, none⟩ (γ 1), by rw [hov]; go_simp, st.inv.stored (hKs) hja st.off (by decide) (by omega) (by omega) rfl⟩
            case fing =>
              intro γ Lx v wr hall hG hφ
              have hx5 := hG.at_
              have hO5 := hG.own
              rw [hall 8 (by decide)] at hx5
              rw [hall 6 (by decide)] at hO5
              simp only [if_true] at hx5 hO5
              have hE5 := hG.ext
              have hK5 := hG.kp
              clear hall hφ hG
              change Exit.then _ _ _ (putAll _ v _ 9) wr
              simp only [putAll, dstOf, Act.put]
              simp only [List.getElem?_toArray, List.getElem?_cons_zero, List.getElem?_cons_succ, Option.bind_some, List.setIfInBounds_toArray, List.set_cons_zero, List.set_cons_succ]
              clear hKa hKs hKe hx0 hv0 hrW hE
              obtain ⟨hv0, hrW⟩ := hK5
              obtain ⟨v2, hv2e⟩ : ∃ v2, γ 1 = v2 := ⟨_, rfl⟩
              rw [hv2e] at hx5 hO5
              obtain ⟨a0, c0, hs0⟩ := own_slc hv0
              obtain ⟨XC, hXC⟩ : ∃ XC, wCells v0 v1 v2 v3 v4 = XC := ⟨_, rfl⟩
              rw [hXC] at hx5
              have hXs : XC.size = 9 := by rw [← hXC]; rfl
              have hX1 : XC.all (·.oneCell') = true := by
                rw [← hXC, hs0]
                obtain ⟨a2, c2, hs2⟩ := own_slc hO5
                rw [hs2]
                rw [HV1.out, HV3.out, HV4.out]
                simp [wCells, Value.oneCell']
              have HXC := Lib.hid hXC
              clear hXC
              have HR := Lib.hid hx5.range
              have HT := Lib.hid hrW.there
              go_wp2_with (first | (refine wpList_load_mid rfl 87 _ rfl x 0 rfl _ _ HR.out Tryz.underlying87 rfl (by rw [Array.length_toList, hXs]; exact w9_info) ?_) | (refine wpList_store_mid rfl 87 _ _ rfl rb 0 XC rfl rfl (by rw [hXs]; exact HT.out) (by rw [hXs]; exact w9_info) hX1 ?_))
              have hA9 := hrW.cells_all (cs := XC) (by rw [hXs]; rfl)
              have hl := run_loadVar_mid (P := Tryz.prog) _ rb 0 87 XC.toList _ hA9.range Tryz.underlying87 rfl (by rw [Array.length_toList, hXs]; exact w9_info)
              rw [Array.toArray_toList] at hl
              refine bodyPost_ret (v := .agg XC) (results_one (Tryz.results29) _ rfl hl) rfl ?_
              have hCr := chg_setCells (w := wr) (b := rb) XC.toList 0
              exact ⟨v0, v1, v2, v3, v4, by rw [HXC.out], own_baseU (own_off hv0 hCr (own_noat hv0 ⟨_, hrW⟩ (by decide))) (by omega), (hE5.chg_trans hCr).mono (fun k hk e => by have : k = rb := e; omega)⟩
end Go.Proofs.YtapodcmjggmgmaaGreatDoor.Four
