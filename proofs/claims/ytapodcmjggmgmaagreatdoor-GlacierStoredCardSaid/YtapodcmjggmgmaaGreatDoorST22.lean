/-
  Part 22 of what the law leans on.
-/
import Derived.Test.YtapodcmjggmgmaaGreatDoorST21
set_option linter.unusedVariables false
set_option linter.unusedSimpArgs false
set_option linter.unusedSectionVars false
namespace Go.Proofs.YtapodcmjggmgmaaGreatDoor
open Go.RowKit Go.Sort
structure FixN (w : World) (A : FixA) (n : Nat → Nat) (N : Nat) : Prop where
  b5 : w.cell? ⟨A.b, 5, none⟩ = some (.int .i64 2)
  b6 : w.cell? ⟨A.b, 6, none⟩ = some (.int .i64 0)
  b7 : w.cell? ⟨A.b, 7, none⟩ = some (.int .i64 0)
  b8 : w.cell? ⟨A.b, 8, none⟩ = some (.int .i64 0)
  b9 : w.cell? ⟨A.b, 9, none⟩ = some (.slice (some ⟨A.nb, A.no, none⟩) N A.nc)
  b10 : w.cell? ⟨A.b, 10, none⟩ = some (.pointer (some ⟨A.l, 0, none⟩))
  b11 : w.cell? ⟨A.b, 11, none⟩ = some (.slice (some ⟨A.ib, A.io, none⟩) 2 A.ic)
  nd : ∀ i, i < N → w.cell? ⟨A.nb, A.no + i, none⟩ = some (.pointer (some ⟨n i, 0, none⟩))
  l0 : w.cell? ⟨A.l, 0, none⟩ = some (.slice (some ⟨A.vb, A.vo, none⟩) 2 A.vc)
  l1 : w.cell? ⟨A.l, 1, none⟩ = some (.slice (some ⟨A.db, A.do_, none⟩) 1 A.dc)
  d0 : w.cell? ⟨A.db, A.do_, none⟩ = some (.int .i64 (-1))
  d1 : w.cell? ⟨A.db, A.do_ + 1, none⟩ = some (.int .i64 0)
  d2 : w.cell? ⟨A.db, A.do_ + 2, none⟩ = some (.int .i64 0)
  d3 : w.cell? ⟨A.db, A.do_ + 3, none⟩ = some (.bool false)
  va : w.cell? ⟨A.vb, A.vo, none⟩ = some (.pointer (some ⟨A.v0, 0, none⟩))
  vb : w.cell? ⟨A.vb, A.vo + 1, none⟩ = some (.pointer (some ⟨A.v1, 0, none⟩))
  a0 : w.cell? ⟨A.v0, 0, none⟩ = some (.int .i64 1000)
  a1 : w.cell? ⟨A.v0, 1, none⟩ = some (.int .i64 0)
  a2 : w.cell? ⟨A.v0, 2, none⟩ = some (.bool false)
  e0 : w.cell? ⟨A.v1, 0, none⟩ = some (.int .i64 1000)
  e1 : w.cell? ⟨A.v1, 1, none⟩ = some (.int .i64 0)
  e2 : w.cell? ⟨A.v1, 2, none⟩ = some (.bool false)
  i0 : w.cell? ⟨A.ib, A.io, none⟩ = some (.int .i64 0)
  i1 : w.cell? ⟨A.ib, A.io + 1, none⟩ = some (.int .i64 0)
abbrev cfgC (N : Nat) (room : Int) : Array Value := #[.int .i64 (N : Int), .int .i64 room, .int .i64 2, .int .i64 1000, .int .i64 1, .int .i64 2, .int .i64 0, .int .i64 0, .int .i64 0]
abbrev siteC (N : Nat) (room : Int) (x y z : Value) : Array Value := #[.int .i64 (N : Int), .int .i64 room, .int .i64 2, .int .i64 1000, .int .i64 1, .int .i64 2, .int .i64 0, .int .i64 0, .int .i64 0, x, y, z]
theorem cfg_info : (Tryz.prog.info? 27).map (·.size) = some 9 := by kernel_rfl
theorem nodep_info : (Tryz.prog.info? 34).map (fun i => (i.zero, i.size, i.bytes)) = some (some (.pointer none), 1, 8) := by kernel_rfl
theorem withinN_any (w : World) (n m : Nat) (h : n ≤ m) (hm : m ≤ 1000) : Calls Tryz.prog 23 #[.int .i64 (n : Int), .int .i64 (m : Int)] w fun e w' => e = .returned (.int .i64 (n : Int)) ∧ Ext w w' := by
  have h1 : max (n : Int) 0 = n := by omega
  have h2 : min (n : Int) (m : Int) = n := by omega
  go_enter Tryz.func23, Tryz.ntmps23
  go_wp2_with fail
  go_ret
  exact ⟨by simp, Ext.refl w⟩
set_option maxRecDepth 100000 in
theorem volR_any (w : World) (l gv cv V0 V1 : Nat) (l0 : w.cell? ⟨l, 0, none⟩ = some (.slice (some ⟨gv, 0, none⟩) 2 cv)) (va : w.cell? ⟨gv, 0, none⟩ = some (ptr V0)) (vb : w.cell? ⟨gv, 1, none⟩ = some (ptr V1)) (i : Nat) (hi : i < 2) : Calls Tryz.prog 26 #[.pointer (some ⟨l, 0, none⟩), .int .i64 (i : Int)] w fun e w' => e = .returned (.pointer (some ⟨if i = 0 then V0 else V1, 0, none⟩)) ∧ w' = w := by
  rcases (show i = 0 ∨ i = 1 by omega) with rfl | rfl
  · go_enter Tryz.func26, Tryz.ntmps26
    go_wp2_with fail
    go_ret
    exact ⟨rfl, rfl⟩
  · go_enter Tryz.func26, Tryz.ntmps26
    go_wp2_with fail
    go_ret
    exact ⟨rfl, rfl⟩
set_option maxRecDepth 100000 in
set_option maxHeartbeats 4000000 in
theorem mnew_any (N : Nat) (hN1 : 1 ≤ N) (hN : N ≤ 6) (room : Int) {NP : World → Ks → Prop} (ok : NPok Ks.has NP 34) (hnew : ∀ w, Calls Tryz.prog 24 #[.int .i64 room] w fun e w' => ∃ K : Ks, e = .returned (.pointer (some ⟨K.n, 0, none⟩)) ∧ NP w' K ∧ Ext w w' ∧ ∀ k, K.has k → w.heap.size ≤ k) (w00 : World) :
    Calls Tryz.prog 6 #[.agg (cfgC N room)] w00 fun e w' => ∃ (A : FixA) (K : Nat → Ks), e = .returned (ptr A.b) ∧ FixN w' A (fun i => (K i).n) N ∧ (∀ i, i < N → NP w' (K i)) ∧ Ext w00 w' ∧ (∀ i, i < N → ∀ k, (K i).has k → w00.heap.size ≤ k) ∧
      (∀ i j k, i < N → j < N → i ≠ j → (K i).has k → ¬ (K j).has k) ∧ (∀ i k, i < N → (K i).has k → ¬ A.blk k) := by
  have cw := fun w => withinN_any w N 6 hN (by decide)
  have cw2 := fun w => withinN_any w 2 12 (by decide) (by decide)
  go_enter Tryz.func6, Tryz.ntmps6
  go_wp2_with fail
  have hC := At.new w00 27 (cfgC N room)
  have hE0 := (Ext.refl w00).alloc (.cells (cfgC N room) 27)
  generalize w00.alloc (.cells (cfgC N room) 27) = w1 at hC hE0 ⊢
  obtain ⟨cb, hcb⟩ : ∃ cb, w00.heap.size = cb := ⟨_, rfl⟩
  have hcw : w00.heap.size ≤ cb := by omega
  rw [hcb] at hC ⊢
  clear hcb
  refine (cw _).mono ?_
  rintro e w2 ⟨rfl, hE⟩
  clear cw
  replace hC := hC.ext hE
  replace hE := hE0.trans hE
  clear hE0
  have c0 := hC.cell 0
  have f0 := hC.frozen 0
  simp at c0
  have hC2 := hC.set 0 (.int .i64 (N : Int))
  have hE2 : Ext w00 (w2.setCell ⟨cb, 0, none⟩ (.int .i64 (N : Int))) := hE.setCell (p := ⟨cb, 0, none⟩) hcw _
  simp at hC2
  have c2 := hC2.cell 2
  simp at c2
  clear hC hE
  go_wp2_with fail
  refine (cw2 _).mono ?_
  rintro e w3 ⟨rfl, hE⟩
  clear cw2 c0 f0
  replace hC2 := hC2.ext hE
  replace hE := hE2.trans hE
  clear hE2 c2
  have c0 := hC2.cell 2
  have f0 := hC2.frozen 2
  simp at c0
  have hC3 := hC2.set 2 (.int .i64 2)
  have hE3 : Ext w00 (w3.setCell ⟨cb, 2, none⟩ (.int .i64 2)) := hE.setCell (p := ⟨cb, 2, none⟩) hcw _
  simp at hC3
  have k0 := hC2.cell 0
  simp at k0
  have hxc := hC2.lt
  clear hC2 hE
  have hR3 := hC3.range
  have hX := At.new (w3.setCell ⟨cb, 2, none⟩ (.int .i64 2)) 77 (siteC N room (.slice none 0 0) (.pointer none) (.slice none 0 0))
  have hEX := (Ext.refl (w3.setCell ⟨cb, 2, none⟩ (.int .i64 2))).alloc (.cells (siteC N room (.slice none 0 0) (.pointer none) (.slice none 0 0)) 77)
  go_wp2_with (refine wpList_load_mid rfl 27 _ rfl cb 0 rfl _ _ hR3 Tryz.underlying27 rfl cfg_info ?_)
  clear hR3 c0 f0 k0
  generalize (w3.setCell ⟨cb, 2, none⟩ (.int .i64 2)).alloc (.cells (siteC N room (.slice none 0 0) (.pointer none) (.slice none 0 0)) 77) = w4 at hX hEX ⊢
  replace hC3 := hC3.ext hEX
  have hxs : (w3.setCell ⟨cb, 2, none⟩ (.int .i64 2)).heap.size = w3.heap.size := by simp
  rw [hxs] at hX
  obtain ⟨x, hx⟩ : ∃ x, w3.heap.size = x := ⟨_, rfl⟩
  rw [hx] at hX hxc ⊢
  have hE4 : Ext w00 w4 := hE3.trans hEX
  have hxw : w00.heap.size ≤ x := by omega
  clear hx hxs hE3 hEX
  go_loopw [20] (fun iv wr => ∃ (k : Nat) (nv : Value) (K : Nat → Ks), k ≤ N ∧ iv = .int .i64 (k : Int) ∧ At wr x 77 (siteC N room nv (.pointer none) (.slice none 0 0)) ∧ At wr cb 27 (cfgC N room) ∧
    wr.ownsRow (x + 1) 34 1 nv k ((List.range k).map fun i => ptr (K i).n) ∧ (∀ i, i < k → NP wr (K i)) ∧ (∀ i, i < k → ∀ b, (K i).has b → x < b) ∧ (∀ i j b, i < k → j < k → i ≠ j → (K i).has b → ¬ (K j).has b) ∧ Ext w00 wr) (fun iv _ => N - (intOf iv).toNat)
  case atStart => exact ⟨0, _, fun _ => ⟨0, 0, 0, 0, 0⟩, by omega, rfl, hX, hC3, World.ownsRow_nil _ _ _ _, fun i hi => absurd hi (by omega), fun i hi => absurd hi (by omega), fun i _ _ hi => absurd hi (by omega), hE4⟩
  case round =>
    clear hX hC3 hE4
    obtain ⟨k, nv, K, hk, rfl, hx, hC, hnv, hKn, hKx, hKa', hE⟩ := hrel
    by_cases hlt : k < N
    · go_wp2_with fail
      rename World => W5
      have hvl : ∀ j, some j = nv.ownBlock → j < W5.heap.size := own_lt hnv
      have hll : x < W5.heap.size := hx.lt
      have hKe : ∀ w w' : World, (At w cb 27 (cfgC N room) ∧ ∀ j, j < k → NP w (K j)) → Ext w w' → At w' cb 27 (cfgC N room) ∧ ∀ j, j < k → NP w' (K j) := fun _ _ h hE => ⟨h.1.ext hE, fun j hj => ok.chg (h.2 j hj) hE (fun _ h => h.elim)⟩
      have hKa : ∀ w w' : World, (At w cb 27 (cfgC N room) ∧ ∀ j, j < k → NP w (K j)) → w.ownsRow (x + 1) 34 1 nv k ((List.range k).map fun i => ptr (K i).n) → Chg (fun j => some j = nv.ownBlock) w w' → At w' cb 27 (cfgC N room) ∧ ∀ j, j < k → NP w' (K j) := fun _ _ h h2 hC => ⟨h.1.chg hC (fun e => own_noat h2 ⟨_, h.1⟩ (by decide) _ e rfl), fun j hj => ok.chg (h.2 j hj) hC (fun b hb => ok.own (h.2 j hj) h2 b hb)⟩
      have hKs : ∀ w w' : World, (At w cb 27 (cfgC N room) ∧ ∀ j, j < k → NP w (K j)) → Chg (fun j => j = x) w w' → (∃ cs, At w x 77 cs) → At w' cb 27 (cfgC N room) ∧ ∀ j, j < k → NP w' (K j) := fun _ _ h hC hA => ⟨h.1.chg hC (fun e => by omega), fun j hj => ok.chg (h.2 j hj) hC (fun b e hh => by have := hKx j hj b hh; omega)⟩
      refine wp_region_phi (Γ := Nat → Value) (sgφ [.val (.pointer (some ⟨x, 0, none⟩)), .val (.pointer (some ⟨x, 0, none⟩)), .val (.pointer (some ⟨x, 0, none⟩)), .val (.pointer (some ⟨x, 9, none⟩)), .val (nv), .val (.pointer (some ⟨cb, 1, none⟩)), .val (.int .i64 room), .g 2, .g 0, .g 1, .val (.pointer (some ⟨x, 0, none⟩)), .val (.pointer (some ⟨x, 9, none⟩)), .any])
        (GAN w00 x 77 34 (fun y => siteC N room y (.pointer none) (.slice none 0 0)) nv (x + 1) k ((List.range k).map fun i => ptr (K i).n) Ks.n Ks.has NP (fun w => At w cb 27 (cfgC N room) ∧ ∀ j, j < k → NP w (K j)) W5.heap.size 7 8 9 12)
        (by kernel_rfl) (by kernel_rfl) (by kernel_rfl) (fun _ => undef) (GAN.start (C := fun y => siteC N room y (.pointer none) (.slice none 0 0)) (v := nv) hE hx hnv (hKe _ _ ⟨hC, hKn⟩ ((Ext.refl W5).drew)) (Nat.le_refl _) _) ?steps ?fin
      case steps =>
        show StepsTo _ _ _ _ _ _ 13
        refine ⟨⟨⟨⟨⟨⟨⟨⟨⟨⟨⟨⟨⟨trivial, ?s0⟩, ?s1⟩, ?s2⟩, ?s3⟩, ?s4⟩, ?s5⟩, ?s6⟩, ?s7⟩, ?s8⟩, ?s9⟩, ?s10⟩, ?s11⟩, ?s12⟩
        case s0 =>
          refine sg_val (x := .pointer (some ⟨x, 0, none⟩)) rfl rfl rfl (GAN.keep (by decide) (by decide) (by decide) (by decide)) fun γ L v a w st => ?_
          have f3 := st.far 3 (by kernel_rfl)
          simp at f3
          go_simp
        case s1 =>
          refine sg_val (x := .pointer (some ⟨x, 0, none⟩)) rfl rfl rfl (GAN.keep (by decide) (by decide) (by decide) (by decide)) fun γ L v a w st => ?_
          have f3 := st.far 3 (by kernel_rfl)
          simp at f3
          go_simp
        case s2 =>
          refine sg_val (x := .pointer (some ⟨x, 0, none⟩)) rfl rfl rfl (GAN.keep (by decide) (by decide) (by decide) (by decide)) fun γ L v a w st => ?_
          have e1 := st.val 1 23 rfl (by kernel_rfl)
          rw [show v 1 = _ from st.φ 1 (by kernel_rfl)] at e1
          simp at e1
          go_simp
        case s3 =>
          refine sg_val (x := .pointer (some ⟨x, 9, none⟩)) rfl rfl rfl (GAN.keep (by decide) (by decide) (by decide) (by decide)) fun γ L v a w st => ?_
          have e2 := st.val 2 24 rfl (by kernel_rfl)
          rw [show v 2 = _ from st.φ 2 (by kernel_rfl)] at e2
          simp at e2
          go_simp
        case s4 =>
          refine sg_val (x := nv) rfl rfl rfl (GAN.keep (by decide) (by decide) (by decide) (by decide)) fun γ L v a w st => ?_
          have e3 := st.val 3 25 rfl (by kernel_rfl)
          rw [show v 3 = _ from st.φ 3 (by kernel_rfl)] at e3
          simp at e3
          have hxa := st.inv.at_
          have hL12 : L 12 = false := by
            cases hq0 : L 12 with
            | false => rfl
            | true =>
              have hq1 := st.down 12 9 hq0 (by kernel_rfl)
              have hq2 := st.down 9 4 hq1 (by kernel_rfl)
              rw [st.off] at hq2; cases hq2
          rw [hL12] at hxa
          have hcl := hxa.cell 9
          simp [siteC] at hcl
          obtain ⟨oA, oc, rfl⟩ := own_slc hnv
          go_simp
        case s5 =>
          refine sg_val (x := .pointer (some ⟨cb, 1, none⟩)) rfl rfl rfl (GAN.keep (by decide) (by decide) (by decide) (by decide)) fun γ L v a w st => ?_
          have f1 := st.far 1 (by kernel_rfl)
          simp at f1
          go_simp
        case s6 =>
          refine sg_val (x := .int .i64 room) rfl rfl rfl (GAN.keep (by decide) (by decide) (by decide) (by decide)) fun γ L v a w st => ?_
          have e5 := st.val 5 27 rfl (by kernel_rfl)
          rw [show v 5 = _ from st.φ 5 (by kernel_rfl)] at e5
          simp at e5
          have hcl := st.inv.kp.1.cell 1
          simp at hcl
          go_simp
        case s7 =>
          refine sg_call (k := 2) (f := 24) rfl rfl rfl (by kernel_rfl) fun γ Lx v a w st => ?_
          have e6 := st.val 6 28 rfl (by kernel_rfl)
          rw [show v 6 = _ from st.φ 6 (by kernel_rfl)] at e6
          simp at e6
          have hL8 : Lx 8 = false := by
            cases hq0 : Lx 8 with
            | false => rfl
            | true =>
              have hq1 := st.down 8 7 hq0 (by kernel_rfl)
              rw [st.off] at hq1; cases hq1
          have hL9 : Lx 9 = false := by
            cases hq0 : Lx 9 with
            | false => rfl
            | true =>
              have hq1 := st.down 9 8 hq0 (by kernel_rfl)
              have hq2 := st.down 8 7 hq1 (by kernel_rfl)
              rw [st.off] at hq2; cases hq2
          have hL12 : Lx 12 = false := by
            cases hq0 : Lx 12 with
            | false => rfl
            | true =>
              have hq1 := st.down 12 9 hq0 (by kernel_rfl)
              have hq2 := st.down 9 8 hq1 (by kernel_rfl)
              have hq3 := st.down 8 7 hq2 (by kernel_rfl)
              rw [st.off] at hq3; cases hq3
          refine ⟨#[.int .i64 room], by go_simp, ?_⟩
          refine Calls.mono (hnew w) ?_
          rintro e w' ⟨Kn, rfl, hN', hE', hK'⟩
          exact ⟨_, rfl, st.inv.node ok hKe hL8 hL9 hL12 (by decide) (by decide) (by decide) hE' hN' hK'⟩
        case s8 =>
          refine sg_new (k := 0) rfl rfl rfl (by kernel_rfl) fun γ Lx v a w st => ?_
          have e7 := st.val 7 29 rfl (by kernel_rfl)
          rw [show v 7 = _ from st.φ 7 (by kernel_rfl)] at e7
          simp at e7
          have hL9 : Lx 9 = false := by
            cases hq0 : Lx 9 with
            | false => rfl
            | true =>
              have hq1 := st.down 9 8 hq0 (by kernel_rfl)
              rw [st.off] at hq1; cases hq1
          have hL12 : Lx 12 = false := by
            cases hq0 : Lx 12 with
            | false => rfl
            | true =>
              have hq1 := st.down 12 9 hq0 (by kernel_rfl)
              have hq2 := st.down 9 8 hq1 (by kernel_rfl)
              rw [st.off] at hq2; cases hq2
          obtain ⟨Kc, hkc, _⟩ := st.inv.nw (st.dep 7 (by kernel_rfl))
          rw [hkc] at e7
          exact ⟨.slice (some ⟨w.heap.size, 0, none⟩) 1 1, w.alloc (.cells #[γ 2] 34), by rw [hkc]; go_simp, st.inv.made ok (hKe) (st.dep 7 (by kernel_rfl)) hL9 hL12 (by decide) (by decide)⟩
        case s9 =>
          refine sg_new (k := 1) rfl rfl rfl (by kernel_rfl) fun γ Lx v a w st => ?_
          have e4 := st.val 4 26 rfl (by kernel_rfl)
          rw [show v 4 = _ from st.φ 4 (by kernel_rfl)] at e4
          simp at e4
          have e8 := st.val 8 30 rfl (by kernel_rfl)
          rw [show v 8 = _ from st.φ 8 (by kernel_rfl)] at e8
          simp at e8
          have hL12 : Lx 12 = false := by
            cases hq0 : Lx 12 with
            | false => rfl
            | true =>
              have hq1 := st.down 12 9 hq0 (by kernel_rfl)
              rw [st.off] at hq1; cases hq1
          have hcc := st.down 8 7 (st.dep 8 (by kernel_rfl)) (by kernel_rfl)
          have hown := st.inv.own
          rw [st.off] at hown
          simp only [Bool.false_eq_true, if_false] at hown
          have hsl := st.inv.sl (st.dep 8 (by kernel_rfl)) st.off
          have hxl := st.inv.at_.lt
          obtain ⟨Kc, hkc, _⟩ := st.inv.nw hcc
          refine ex_append (P := Tryz.prog) hown hsl (by simp) (by simp [hkc, Value.oneCell']) 74 Tryz.underlying74 nodep_info rfl (by decide) (by decide) (by simp <;> omega) hxl (.tmp 26) (.tmp 30) rfl (by simp [Act.eval, e4]) (by simp [Act.eval, e8]) fun v' w' hO hC => ?_
          exact st.inv.appended ok (by decide) (by omega) (hvl) (hKa) hcc st.off hL12 (by decide) (by decide) (by simpa using hO) hC
        case s10 =>
          refine sg_val (x := .pointer (some ⟨x, 0, none⟩)) rfl rfl rfl (GAN.keep (by decide) (by decide) (by decide) (by decide)) fun γ L v a w st => ?_
          have e0 := st.val 0 22 rfl (by kernel_rfl)
          rw [show v 0 = _ from st.φ 0 (by kernel_rfl)] at e0
          simp at e0
          go_simp
        case s11 =>
          refine sg_val (x := .pointer (some ⟨x, 9, none⟩)) rfl rfl rfl (GAN.keep (by decide) (by decide) (by decide) (by decide)) fun γ L v a w st => ?_
          have e10 := st.val 10 32 rfl (by kernel_rfl)
          rw [show v 10 = _ from st.φ 10 (by kernel_rfl)] at e10
          simp at e10
          go_simp
        case s12 =>
          refine sg_skip rfl rfl rfl fun γ Lx v a w st => ?_
          have e11 := st.val 11 33 rfl (by kernel_rfl)
          rw [show v 11 = _ from st.φ 11 (by kernel_rfl)] at e11
          simp at e11
          have e9 := st.val 9 31 rfl (by kernel_rfl)
          rw [show v 9 = _ from st.φ 9 (by kernel_rfl)] at e9
          simp at e9
          have hja := st.dep 9 (by kernel_rfl)
          have hjb := st.down 9 8 hja (by kernel_rfl)
          have hcc := st.down 8 7 hjb (by kernel_rfl)
          have hxa := st.inv.at_
          rw [st.off] at hxa
          obtain ⟨oA, oc, hov⟩ := own_slc (by have := st.inv.own; rw [hja] at this; exact this)
          have f0 := hxa.frozen 9
          have c0 := hxa.cell 9
          simp [siteC] at c0
          rw [hov] at e9
          refine ⟨w.setCell ⟨x, 9, none⟩ (γ 1), by rw [hov]; go_simp, st.inv.stored ok (hKs) hcc hja st.off (by decide) (by decide) (by decide) (by omega) (by omega) (by omega) rfl⟩
      case fin =>
        intro γ Lx v wr hall hG hφ
        have hx5 := hG.at_
        have hO5 := hG.own
        have hN5 := hG.nw (hall 7 (by decide))
        rw [hall 12 (by decide)] at hx5
        rw [hall 9 (by decide)] at hO5
        simp only [if_true] at hx5 hO5
        have hE5 := hG.ext
        have hK5 := hG.kp
        clear hall hφ hG
        change Exit.inBlock _ (Exit.then _ _) _ (putAll _ v _ 13) wr
        simp only [putAll, dstOf, Act.put]
        simp only [List.getElem?_toArray, List.getElem?_cons_zero, List.getElem?_cons_succ, Option.bind_some, List.setIfInBounds_toArray, List.set_cons_zero, List.set_cons_succ]
        go_wp2_with fail
        go_roundw
        case rel =>
          obtain ⟨Kn, hg2, hAk, hvk⟩ := hN5
          refine ⟨k + 1, γ 1, fun i => if i = k then Kn else K i, by omega, by go_num, hx5, hK5.1, ?_, fun i hi => ?_, fun i hi b hb => ?_, fun i j b hi hj hne hb => ?_, hE5⟩
          · rw [hg2] at hO5
            have hz : (List.range (k + 1)).map (fun i => ptr (if i = k then Kn else K i).n) = (List.range k).map (fun i => ptr (K i).n) ++ [ptr Kn.n] := by
              rw [List.range_succ, List.map_append]
              congr 1
              · exact List.map_congr_left fun i hi => by simp [Nat.ne_of_lt (List.mem_range.1 hi)]
              · simp
            rw [hz]; exact hO5
          · by_cases hik : i = k
            · simp only [if_pos hik]; exact hAk
            · simp only [if_neg hik]; exact hK5.2 i (by omega)
          · by_cases hik : i = k
            · simp only [if_pos hik] at hb; have := hvk b hb; omega
            · simp only [if_neg hik] at hb; exact hKx i (by omega) b hb
          · have hbb : ∀ q, q < k → (K q).has b → ¬ Kn.has b := fun q hq h1 h2 => by have := hvk b h2; have := ok.lt (hKn q hq) h1; omega
            by_cases hik : i = k <;> by_cases hjk : j = k
            · exact absurd (hik.trans hjk.symm) hne
            · simp only [if_pos hik] at hb; simp only [if_neg hjk]; exact fun h => hbb j (by omega) h hb
            · simp only [if_neg hik] at hb; simp only [if_pos hjk]; exact hbb i (by omega) hb
            · simp only [if_neg hik] at hb; simp only [if_neg hjk]; exact hKa' i j b (by omega) (by omega) hne hb
        case measure => simp [intOf]; omega
    · have hkN : k = N := by omega
      subst hkN
      clear hk hlt
      rename World => W6
      have hmk : ∀ w : World, (Instr.makeSlice 30 (.int .i64 2) (.int .i64 2)).run Tryz.prog w = .ok (.slice (some ⟨w.heap.size, 0, none⟩) 2 2) (w.alloc (.cells #[.int .i64 0, .int .i64 0] 3)) := fun _ => by kernel_rfl
      have c2 := hC.cell 2
      simp at c2
      go_wp2_with fail
      have hRm := At.new W6 3 #[.int .i64 0, .int .i64 0]
      have hE6 := (Ext.refl W6).alloc (.cells #[.int .i64 0, .int .i64 0] 3)
      generalize W6.alloc (.cells #[.int .i64 0, .int .i64 0] 3) = W7 at hRm hE6 ⊢
      obtain ⟨rb, hrb⟩ : ∃ rb, W6.heap.size = rb := ⟨_, rfl⟩
      have hrw : W6.heap.size ≤ rb := by omega
      rw [hrb] at hRm ⊢
      clear hrb c2
      have HKL := Lib.hid (show ∀ i, i < k → ∀ b, (K i).has b → b < W6.heap.size from fun i hi b hb => ok.lt (hKn i hi) hb)
      go_loopw [40] (fun iv wr => ∃ j : Nat, j ≤ 2 ∧ iv = .int .i64 (j : Int) ∧ At wr rb 3 #[.int .i64 (if 0 < j then 1000 else 0), .int .i64 (if 1 < j then 1000 else 0)] ∧ Ext W6 wr) (fun iv _ => 2 - (intOf iv).toNat)
      case atStart => exact ⟨0, by omega, rfl, hRm, hE6⟩
      case round =>
        clear hRm hE6
        obtain ⟨j, hj, rfl, hRm, hE6⟩ := hrel
        have c3 := (hC.ext hE6).cell 3
        simp at c3
        by_cases hlt : j < 2
        · rcases (show j = 0 ∨ j = 1 by omega) with rfl | rfl
          · have hR1 := hRm.set 0 (.int .i64 1000)
            have r0 := hRm.cell 0
            have f0 := hRm.frozen 0
            simp at hR1 r0
            have hE7 := hE6.setCell (p := ⟨rb, 0, none⟩) hrw (.int .i64 1000)
            clear hRm
            go_wp2_with fail
            go_roundw
            case rel => exact ⟨1, by omega, rfl, hR1, hE7⟩
            case measure => simp [intOf]
          · have hR1 := hRm.set 1 (.int .i64 1000)
            have r0 := hRm.cell 1
            have f0 := hRm.frozen 1
            simp at hR1 r0
            have hE7 := hE6.setCell (p := ⟨rb, 1, none⟩) hrw (.int .i64 1000)
            clear hRm
            go_wp2_with fail
            go_roundw
            case rel => exact ⟨2, by omega, rfl, hR1, hE7⟩
            case measure => simp [intOf]
        · obtain rfl : j = 2 := by omega
          clear c3 hlt hj
          rename World => W7
          simp at hRm
          have hSr : Sl W7 (.slice (some ⟨rb, 0, none⟩) 2 2) [.int .i64 1000, .int .i64 1000] := ⟨_, _, rfl, fun _ => ⟨rb, 0, rfl, fun i y hy => by rw [Nat.zero_add, hRm.cell i]; simpa using hy⟩⟩
          have cl := libnew_any W7 _ hSr
          replace hx := hx.ext hE6
          replace hC := hC.ext hE6
          replace hnv := own_chg hnv hE6 (fun _ h => h.elim)
          replace hKn : ∀ i, i < k → NP W7 (K i) := fun i hi => ok.chg (hKn i hi) hE6 (fun _ h => h.elim)
          replace hE := hE.trans hE6
          have hs67 := hE6.size
          have c4 := hC.cell 4
          simp at c4
          clear hE6 hRm hSr
          go_wp2_with fail
          refine cl.mono ?_
          rintro e W8 ⟨l, vv, dv, V, rfl, hl, hvv, hdv, hV, hVl, hVn, hE8, hlw⟩
          clear cl
          have hxl : x < W7.heap.size := hx.lt
          replace hx := hx.ext hE8
          replace hnv := own_chg hnv hE8 (fun _ h => h.elim)
          replace hKn : ∀ i, i < k → NP W8 (K i) := fun i hi => ok.chg (hKn i hi) hE8 (fun _ h => h.elim)
          replace hE := hE.trans hE8
          clear hE8 hC
          have c10 := hx.cell 10
          have f10 := hx.frozen 10
          simp at c10
          have hC9 : Chg (fun j => j = x) W8 (W8.setCell ⟨x, 10, none⟩ (ptr l)) := (Chg.refl (fun j => j = x) W8).setCell (p := ⟨x, 10, none⟩) (.inl rfl) _
          have hx9 := hx.set 10 (ptr l)
          simp at hx9
          have hl9 := hl.chg hC9 (fun e => by omega)
          have hvv9 := own_off hvv hC9 (fun j hj hp => own_noat hvv ⟨_, hx⟩ (by decide) j hj hp)
          have hdv9 := own_off hdv hC9 (fun j hj hp => own_noat hdv ⟨_, hx⟩ (by decide) j hj hp)
          have hnv9 := own_off hnv hC9 (fun j hj hp => own_noat hnv ⟨_, hx⟩ (by decide) j hj hp)
          have hV9 : ∀ i, i < 2 → At (W8.setCell ⟨x, 10, none⟩ (ptr l)) (V i) 118 (volC ByteArray.empty 0) := fun i hi => (hV i hi).chg hC9 (fun e => by have := hVl i hi; omega)
          have hKn9 : ∀ i, i < k → NP (W8.setCell ⟨x, 10, none⟩ (ptr l)) (K i) := fun i hi => ok.chg (hKn i hi) hC9 (fun b e hh => by have := hKx i hi b hh; omega)
          have hE9 : Ext w00 (W8.setCell ⟨x, 10, none⟩ (ptr l)) := (hE.chg_trans hC9).mono (fun j hj hp => by omega)
          clear hx hl hvv hdv hnv hV hKn hE hC9
          go_wp2_with fail
          clear c10 f10 c4
          generalize W8.setCell ⟨x, 10, none⟩ (ptr l) = W9 at hx9 hl9 hvv9 hdv9 hnv9 hV9 hKn9 hE9 ⊢
          obtain ⟨gv, cv, rfl, hgv, hgvl, _⟩ := own_some hvv9 (by decide)
          have va := own_cell hvv9 (j := 0) (x := ptr (V 0)) rfl
          have vb := own_cell hvv9 (j := 1) (x := ptr (V 1)) rfl
          have l0 := hl9.cell 0
          simp [libC] at l0
          have c10 := hx9.cell 10
          simp at c10
          have hgV : ∀ i, i < 2 → gv ≠ V i := fun i hi => own_noat hvv9 ⟨_, hV9 i hi⟩ (by decide) gv rfl
          have hx8 : ∀ wr, Chg (fun b => b = V 0 ∨ b = V 1) W9 wr → wr.cell? ⟨x, 10, none⟩ = some (ptr l) ∧ wr.cell? ⟨l, 0, none⟩ = some (.slice (some ⟨gv, 0, none⟩) 2 cv) ∧ wr.cell? ⟨gv, 0, none⟩ = some (ptr (V 0)) ∧ wr.cell? ⟨gv, 1, none⟩ = some (ptr (V 1)) := fun wr h => by
            have h0 := hVl 0 (by decide)
            have h1 := hVl 1 (by decide)
            have nx : ¬ (x = V 0 ∨ x = V 1) := by omega
            have nl : ¬ (l = V 0 ∨ l = V 1) := by omega
            have ng : ¬ (gv = V 0 ∨ gv = V 1) := fun e => by
              rcases e with e | e
              · exact hgV 0 (by decide) e
              · exact hgV 1 (by decide) e
            exact ⟨(h.cell (p := ⟨x, 10, none⟩) (cell_lt c10) nx).trans c10, (h.cell (p := ⟨l, 0, none⟩) (cell_lt l0) nl).trans l0, (h.cell (p := ⟨gv, 0, none⟩) (cell_lt va) ng).trans va, (h.cell (p := ⟨gv, 1, none⟩) (cell_lt vb) ng).trans vb⟩
          have HX8 := Lib.hid hx8
          have HVT := Lib.hid (show ∀ i, i < 2 → ∃ cs, At W9 (V i) 118 cs from fun i hi => ⟨_, hV9 i hi⟩)
          clear hx8 va vb l0 c10
          go_loopw [58] (fun iv wr => ∃ j : Nat, j ≤ 2 ∧ iv = .int .i64 (j : Int) ∧ (∀ i, i < 2 → ∃ s n, n ≤ j ∧ At wr (V i) 118 (volC s n)) ∧ Chg (fun b => b = V 0 ∨ b = V 1) W9 wr) (fun iv _ => 2 - (intOf iv).toNat)
          case atStart => exact ⟨0, by omega, rfl, fun i hi => ⟨_, 0, by omega, hV9 i hi⟩, Chg.refl _ _⟩
          case round =>
            clear hV9
            obtain ⟨j, hj, rfl, hV9, hC9⟩ := hrel
            by_cases hlt : j < 2
            · obtain ⟨c10, l0, va, vb⟩ := HX8.out wr hC9
              have cv1 := volR_any wr l gv cv (V 0) (V 1) l0 va vb j hlt
              have clb := fun w => label_any w j (by omega)
              obtain ⟨s, n, hn, hA⟩ := hV9 j hlt
              have hVj : (if j = 0 then V 0 else V 1) = V j := by rcases (show j = 0 ∨ j = 1 by omega) with rfl | rfl <;> rfl
              rw [hVj] at cv1
              clear va vb
              go_wp2_with fail
              refine cv1.mono ?_
              rintro e W10 ⟨rfl, rfl⟩
              clear cv1
              go_wp2_with fail
              refine (clb _).mono ?_
              rintro e W11 ⟨sl, rfl, hE11⟩
              clear clb
              have ce := erase_any W11 (V j) s n (by omega) (hA.ext hE11) sl
              go_wp2_with fail
              refine ce.mono ?_
              rintro e W12 ⟨hA12, hC12, y, rfl⟩
              clear ce c10 l0
              go_wp2_with fail
              go_roundw
              case rel =>
                have hCj : Chg (fun b => b = V 0 ∨ b = V 1) W9 W12 := hC9.trans (Ext.chg_trans hE11 hC12) (fun b _ hb => by
                  subst hb
                  rcases (show j = 0 ∨ j = 1 by omega) with rfl | rfl
                  · exact .inl rfl
                  · exact .inr rfl)
                refine ⟨j + 1, by omega, by go_num, fun i hi => ?_, hCj⟩
                by_cases hij : i = j
                · rw [hij]; exact ⟨sl, n + 1, by omega, hA12⟩
                · obtain ⟨s', n', hn', hA'⟩ := hV9 i hi
                  refine ⟨s', n', by omega, (hA'.ext hE11).chg hC12 (fun e => ?_)⟩
                  rcases (show i = 0 ∧ j = 1 ∨ i = 1 ∧ j = 0 by omega) with ⟨rfl, rfl⟩ | ⟨rfl, rfl⟩
                  · exact hVn e
                  · exact hVn e.symm
              case measure => simp [intOf]; omega
            · obtain rfl : j = 2 := by omega
              rename World => wr
              have hv0 := hVl 0 (by decide)
              have hv1 := hVl 1 (by decide)
              have nx : ¬ (x = V 0 ∨ x = V 1) := by omega
              have nl : ¬ (l = V 0 ∨ l = V 1) := by omega
              have hx := hx9.chg hC9 nx
              have hl := hl9.chg hC9 nl
              have ho : ∀ {v : Value} {n s : Nat} {xs : List Value} {e : TypeId} {base : Nat}, e ≠ 118 → W9.ownsRow base e s v n xs → wr.ownsRow base e s v n xs := fun {v n s xs e base} he h => own_off h hC9 (fun j hj hp => by
                rcases hp with hp | hp
                · exact own_noat h (HVT.out 0 (by decide)) he j hj hp
                · exact own_noat h (HVT.out 1 (by decide)) he j hj hp)
              have hvv := ho (by decide) hvv9
              have hdv := ho (by decide) hdv9
              have hnv := ho (by decide) hnv9
              have hKn : ∀ i, i < k → NP wr (K i) := fun i hi => ok.chg (hKn9 i hi) hC9 (fun b hb hh => by have := HKL.out i hi b hh; omega)
              have hE : Ext w00 wr := (hE9.chg_trans hC9).mono (fun b hb hp => by omega)
              clear ho hx9 hl9 hvv9 hdv9 hnv9 hKn9 hE9 hC9
              have c11 := hx.cell 11
              have f11 := hx.frozen 11
              simp at c11
              have hxlt := hx.lt
              go_wp2_with fail
              clear c11 f11
              obtain ⟨ib, hib⟩ : ∃ ib, wr.heap.size = ib := ⟨_, rfl⟩
              rw [hib]
              have hC0 : Chg (fun j => j = x) wr (wr.setCell ⟨x, 11, none⟩ (.slice (some ⟨ib, 0, none⟩) 2 2)) := (Chg.refl (fun j => j = x) wr).setCell (p := ⟨x, 11, none⟩) (.inl rfl) _
              have hC1 := hC0.ext_trans ((Ext.refl _).alloc (.cells #[.int .i64 0, .int .i64 0] 3))
              have hx1 := (hx.set 11 (.slice (some ⟨ib, 0, none⟩) 2 2)).ext ((Ext.refl _).alloc (.cells #[.int .i64 0, .int .i64 0] 3))
              simp at hx1
              have hI := At.new (wr.setCell ⟨x, 11, none⟩ (.slice (some ⟨ib, 0, none⟩) 2 2)) 3 #[.int .i64 0, .int .i64 0]
              rw [show (wr.setCell ⟨x, 11, none⟩ (.slice (some ⟨ib, 0, none⟩) 2 2)).heap.size = ib by simpa using hib] at hI
              generalize (wr.setCell ⟨x, 11, none⟩ (.slice (some ⟨ib, 0, none⟩) 2 2)).alloc (.cells #[.int .i64 0, .int .i64 0] 3) = wf at hC1 hx1 hI ⊢
              have hl1 := hl.chg hC1 (fun e => by omega)
              have hvv1 := own_off hvv hC1 (fun j hj hp => own_noat hvv ⟨_, hx⟩ (by decide) j hj hp)
              have hdv1 := own_off hdv hC1 (fun j hj hp => own_noat hdv ⟨_, hx⟩ (by decide) j hj hp)
              have hnv1 := own_off hnv hC1 (fun j hj hp => own_noat hnv ⟨_, hx⟩ (by decide) j hj hp)
              have hKn1 : ∀ i, i < k → NP wf (K i) := fun i hi => ok.chg (hKn i hi) hC1 (fun b e hh => by have := hKx i hi b hh; omega)
              have hV1 : ∀ i, i < 2 → ∃ s n, At wf (V i) 118 (volC s n) := fun i hi => by
                obtain ⟨s, n, _, hA⟩ := hV9 i hi
                exact ⟨s, n, hA.chg hC1 (fun e => by have := hVl i hi; omega)⟩
              have hEf : Ext w00 wf := (hE.chg_trans hC1).mono (fun b hb hp => by omega)
              obtain ⟨gd, cd, rfl, hgd, _⟩ := own_some hdv1 (by decide)
              obtain ⟨gn, cn, rfl, hgn, hgnl, _⟩ := own_some hnv (by omega)
              have hgl : gd < wf.heap.size := (own_fz hdv1 0).2
              have hibx : x ≠ ib := by have := hx.lt; omega
              clear hC0 hC1 hvv hdv hl hV9 hE
              go_ret
              obtain ⟨s0, n0, hA0⟩ := hV1 0 (by decide)
              obtain ⟨s1, n1, hA1⟩ := hV1 1 (by decide)
              refine ⟨⟨x, gn, 0, cn, l, gv, 0, cv, gd, 0, cd, V 0, V 1, ib, 0, 2⟩, K, rfl, ?_, hKn1, hEf, fun i hi b hb => by have := hKx i hi b hb; omega, fun i j b hi hj hne hb => hKa' i j b hi hj hne hb, fun i b hi hb => ?_⟩
              · refine ⟨?_, ?_, ?_, ?_, ?_, ?_, ?_, fun i hi => ?_, ?_, ?_, ?_, ?_, ?_, ?_, ?_, ?_, ?_, ?_, ?_, ?_, ?_, ?_, ?_, ?_⟩
                · simpa using hx1.cell 5
                · simpa using hx1.cell 6
                · simpa using hx1.cell 7
                · simpa using hx1.cell 8
                · simpa using hx1.cell 9
                · simpa using hx1.cell 10
                · simpa using hx1.cell 11
                · simpa using own_cell hnv1 (j := i) (x := ptr (K i).n) (by rw [List.getElem?_map, List.getElem?_range hi]; rfl)
                · simpa [libC] using hl1.cell 0
                · simpa [libC] using hl1.cell 1
                · simpa using own_cell hdv1 (j := 0) rfl
                · simpa using own_cell hdv1 (j := 1) rfl
                · simpa using own_cell hdv1 (j := 2) rfl
                · simpa using own_cell hdv1 (j := 3) rfl
                · simpa using own_cell hvv1 (j := 0) rfl
                · simpa using own_cell hvv1 (j := 1) rfl
                · simpa using hA0.cell 0
                · simpa using hA0.cell 1
                · simpa using hA0.cell 2
                · simpa using hA1.cell 0
                · simpa using hA1.cell 1
                · simpa using hA1.cell 2
                · simpa using hI.cell 0
                · simpa using hI.cell 1
              · have h1 := hKx i hi b hb
                have h2 := HKL.out i hi b hb
                have h3 := ok.lt (hKn i hi) hb
                have h4 := ok.own (hKn i hi) hnv
                simp only [FixA.blk]
                rintro (e | e | e | e | e | e | e | e)
                · omega
                · exact h4 b (by rw [e]; rfl) hb
                · omega
                · omega
                · omega
                · omega
                · omega
                · omega
end Go.Proofs.YtapodcmjggmgmaaGreatDoor
