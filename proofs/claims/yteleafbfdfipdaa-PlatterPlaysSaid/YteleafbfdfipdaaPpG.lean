/-
  PlatterPlays, walked.
-/
import Derived.Test.YteleafbfdfipdaaPpF
namespace Go.Proofs.Yteleafbfdfipdaa
open Go.RowKit Go.Sort

set_option maxRecDepth 100000 in
set_option maxHeartbeats 4000000 in
theorem plays_any (w : World) (rm : Int) (hrm : rm ≤ 9223372036854775807) (av : Value) (acts : List Act) (hS : Sln w av 7 (acts.map Act.cells)) (hin : ∀ x ∈ acts, ∃ ms ch b, ActIn w x ms ch b) (hal : acts.length ≤ maxLen) :
    Calls Try.prog 3 #[.int .i64 rm, av] w fun e w' => e = .returned (.bool true) ∧ Ext w w' := by
  obtain ⟨LA, ac, rfl⟩ : ∃ A c, av = .slice A acts.length c := by obtain ⟨A, c, h, _⟩ := hS; exact ⟨A, c, by rw [h, List.length_map]⟩
  unfold maxLen at hal
  have HIN := Lib.hid hin
  clear hin
  go_enter Try.func3, Try.ntmps3
  go_wp2_with fail
  refine (new_any rm w).mono ?_
  rintro e w1 ⟨d, m, rfl, hD, hE1, hwd, hwm⟩
  have hI := new_alike rm hrm
  have hR : RkIn w1 (.slice none 0 0) (Dk.new rm).files := ⟨none, 0, rfl, fun hh => absurd rfl hh⟩
  have HZ0 := Lib.hid (And.intro (rfl : (Dk.new rm).room = max rm 0) (And.intro (rfl : (Dk.new rm).lost = false) (rfl : (Dk.new rm).armed = 0)))
  have hfn : (Dk.new rm).files = [] := rfl
  have HFN := Lib.hid hfn
  clear hfn
  go_wp2_with fail
  refine (rnew_any rm w1).mono ?_
  rintro e w2 ⟨rfl, hE2⟩
  go_upto_region 3 with fail
  have hX := At.new w2 29 #[.slice none 0 0, .int .i64 (max rm 0), .bool false, .int .i64 (-1)]
  have hEx := (Ext.refl w2).alloc (.cells #[.slice none 0 0, .int .i64 (max rm 0), .bool false, .int .i64 (-1)] 29)
  replace hD := (hD.ext hE2).ext hEx
  replace hR := (hR.ext hE2).ext hEx
  have hE := (hE1.trans hE2).trans hEx
  have hwx : w.heap.size ≤ w2.heap.size := (hE1.trans hE2).size
  clear hE1 hE2 hEx
  generalize w2.heap.size = xb at *
  generalize w2.alloc _ = w3 at *
  go_wp2_with fail
  refine (awake_any w3).mono ?_
  rintro e w4 ⟨rfl, hE4⟩
  replace hD := hD.ext hE4
  replace hR := hR.ext hE4
  replace hX := hX.ext hE4
  replace hE := hE.trans hE4
  clear hE4
  go_upto_region 5 with fail
  have hinit : ∃ (D : Dk) (A : Option Addr) (c : Nat), DkAt w4 d m D ∧ Inv 0 (60 * 0) D ∧ RkIn w4 (.slice A D.files.length c) D.files ∧ At w4 xb 29 #[.slice A D.files.length c, .int .i64 D.room, .bool D.lost, .int .i64 (D.armed - 1)] :=
    ⟨Dk.new rm, none, 0, hD, hI, hR, hX⟩
  have HI := Lib.hid hinit
  have hxd : xb ≠ d ∧ xb ≠ m := ⟨fun e => by subst e; exact hX.ne hD.1 (by decide) rfl, fun e => by subst e; exact hD.2.ne_at hX rfl⟩
  clear hinit hD hI hR hX HZ0 HFN hrm
  go_wp2_with fail
  go_loopw [7] (fun kv wr => ∃ (k : Nat) (D : Dk) (A : Option Addr) (c : Nat), kv = .int .i64 (k : Int) ∧ k ≤ 40 ∧ k ≤ acts.length ∧ DkAt wr d m D ∧ Inv k (60 * k) D ∧ RkIn wr (.slice A D.files.length c) D.files ∧ At wr xb 29 #[.slice A D.files.length c, .int .i64 D.room, .bool D.lost, .int .i64 (D.armed - 1)] ∧ Ext w wr) (fun kv _ => 40 - (intOf kv).toNat)
  case atStart =>
    obtain ⟨D, A, c, h1, h2, h3, h4⟩ := HI.out
    exact ⟨0, D, A, c, rfl, by omega, Nat.zero_le _, h1, h2, h3, h4, hE⟩
  case round =>
    clear HI hE
    obtain ⟨k, D, A, c, rfl, hk40, hkl, hD, hI, hR, hX, hE⟩ := hrel
    by_cases hlt : k < acts.length ∧ k < 40
    · obtain ⟨hlt1, hlt2⟩ := hlt
      obtain ⟨x, hxa⟩ : ∃ q, acts[k]? = some q := ⟨_, List.getElem?_eq_getElem hlt1⟩
      obtain ⟨ms, ch, b, hin⟩ := HIN.out x (List.mem_of_getElem? hxa)
      have hSr := hS.ext hE
      obtain ⟨rb, ro, rfl, hrow⟩ : ∃ b o, LA = some ⟨b, o, none⟩ ∧ ∀ (j : Nat) (u : Value), x.cells[j]? = some u → wr.cell? ⟨b, o + k * 7 + j, none⟩ = some u := by
        obtain ⟨A', c', hv, hx⟩ := hSr
        simp only [Value.slice.injEq] at hv
        obtain ⟨b, o, rfl, hc⟩ := hx (fun e => by rw [List.map_eq_nil_iff] at e; rw [e] at hxa; simp at hxa)
        exact ⟨b, o, hv.1, fun j u hu => hc k _ (by rw [List.getElem?_map, hxa]; rfl) j u hu⟩
      have HRW := Lib.hid hrow
      obtain ⟨room, hroom⟩ : ∃ r, r = D.room := ⟨_, rfl⟩
      obtain ⟨lost, hlost⟩ : ∃ r, r = D.lost := ⟨_, rfl⟩
      obtain ⟨fl, hfl⟩ : ∃ r, r = D.armed - 1 := ⟨_, rfl⟩
      have HCD : Hid (∀ w', Ext wr w' → Calls Try.prog 7 #[.pointer (some ⟨d, 0, none⟩), .agg #[.slice A D.files.length c, .int .i64 room, .bool lost, .int .i64 fl], .agg #[.int .i64 x.kind, .int .i64 x.num, .string x.a, .string x.b, .slice x.more.1 x.more.2.1 x.more.2.2, .slice x.choice.1 x.choice.2.1 x.choice.2.2, .int .u8 x.by_]] w' fun e w2 => ∃ lv2 D2, e = .returned (.tuple #[.agg #[lv2, .int .i64 room, .bool D2.lost, .int .i64 (D2.armed - 1)], .bool true]) ∧ DkAt w2 d m D2 ∧ RkIn w2 lv2 D2.files ∧ Inv (k + 1) (60 * k + 60) D2 ∧ D2.room = room ∧ Chg (fun j => j = d ∨ j = m) w' w2) := Lib.hid (fun w' hE' => by
        rw [hroom, hlost, hfl]
        exact (does_any w' w d m D k (60 * k) (hD.ext hE') hI (by omega) (by omega) _ (hR.ext hE') x ms ch b hin (hE.trans hE') hwd hwm).mono fun e w2 h => h.out)
      rw [← hroom, ← hlost, ← hfl] at hX
      have hdl := hD.1.lt
      have hml := hD.2.lt
      have hxl := hX.lt
      clear hrow hxa hin hSr hroom hlost hfl hI hR
      go_upto_region 8 with fail
      refine wp_region_phi (Γ := Nat → Value) (sgφ [.val (.pointer (some ⟨d, 0, none⟩)), .val (.agg #[.slice A D.files.length c, .int .i64 room, .bool lost, .int .i64 fl]), .val (.slice (some ⟨rb, ro, none⟩) acts.length ac), .val (.int .i64 (k : Int)), .val (.pointer (some ⟨rb, ro + k * 7, none⟩)), .val (.agg #[.int .i64 x.kind, .int .i64 x.num, .string x.a, .string x.b, .slice x.more.1 x.more.2.1 x.more.2.2, .slice x.choice.1 x.choice.2.1 x.choice.2.2, .int .u8 x.by_]), .g 0, .g 3, .g 2, .val (.bool true), .g 1, .any, .val (.bool true)])
        (GCl 29 4 #[.slice none 0 0, .int .i64 0, .bool false, .int .i64 0] wr (fun j => j = d ∨ j = m) (.bool true) (fun X w => ∃ A2 c2 D2, X = #[.slice A2 D2.files.length c2, .int .i64 room, .bool D2.lost, .int .i64 (D2.armed - 1)] ∧ DkAt w d m D2 ∧ RkIn w (.slice A2 D2.files.length c2) D2.files ∧ Inv (k + 1) (60 * k + 60) D2 ∧ D2.room = room) (fun _ _ => True)) (by kernel_rfl) (by kernel_rfl) (by kernel_rfl) (fun _ => undef) (GCl.start _ _) ?steps ?fin
      case steps =>
        show StepsTo _ _ _ _ _ _ 13
        refine ⟨⟨⟨⟨⟨⟨⟨⟨⟨⟨⟨⟨⟨trivial, ?s0⟩, ?s1⟩, ?s2⟩, ?s3⟩, ?s4⟩, ?s5⟩, ?s6⟩, ?s7⟩, ?s8⟩, ?s9⟩, ?s10⟩, ?s11⟩, ?s12⟩
        case s0 =>
          refine sg_val (x := .pointer (some ⟨d, 0, none⟩)) rfl rfl rfl (GCl.keep (j := 0) (by omega)) fun γ L v a w' st => ?_
          have e5 := st.far 5 (by kernel_rfl)
          simp at e5
          go_simp
        case s1 =>
          refine sg_val (x := .agg #[.slice A D.files.length c, .int .i64 room, .bool lost, .int .i64 fl]) rfl rfl rfl (GCl.keep (j := 1) (by omega)) fun γ L v a w' st => ?_
          have h6 : L 6 = false := by
            cases hq : L 6 with
            | false => rfl
            | true =>
              have q1 := st.down 6 1 hq (by kernel_rfl)
              have q99 := st.off; rw [q1] at q99; cases q99
          have e6 := st.far 6 (by kernel_rfl)
          simp at e6
          exact exec_load_mid rfl (b := xb) (off := 0) (by simp [Act.eval, e6]) ((hX.ext (st.inv.pre h6)).range) Try.underlying29 rfl (by kernel_rfl)
        case s2 =>
          refine sg_val (x := .slice (some ⟨rb, ro, none⟩) acts.length ac) rfl rfl rfl (GCl.keep (j := 2) (by omega)) fun γ L v a w' st => ?_
          have e1 := st.far 1 (by kernel_rfl)
          simp at e1
          go_simp
        case s3 =>
          refine sg_val (x := .int .i64 (k : Int)) rfl rfl rfl (GCl.keep (j := 3) (by omega)) fun γ L v a w' st => ?_
          have e7 := st.far 7 (by kernel_rfl)
          simp at e7
          go_simp
        case s4 =>
          refine sg_val (x := .pointer (some ⟨rb, ro + k * 7, none⟩)) rfl rfl rfl (GCl.keep (j := 4) (by omega)) fun γ L v a w' st => ?_
          have e2 := st.val 2 42 rfl (by kernel_rfl)
          rw [show v 2 = _ from st.φ 2 (by kernel_rfl)] at e2
          simp at e2
          have e3 := st.val 3 43 rfl (by kernel_rfl)
          rw [show v 3 = _ from st.φ 3 (by kernel_rfl)] at e3
          simp at e3
          go_simp
        case s5 =>
          refine sg_val (x := .agg #[.int .i64 x.kind, .int .i64 x.num, .string x.a, .string x.b, .slice x.more.1 x.more.2.1 x.more.2.2, .slice x.choice.1 x.choice.2.1 x.choice.2.2, .int .u8 x.by_]) rfl rfl rfl (GCl.keep5 (fun _ _ => trivial)) fun γ L v a w' st => ?_
          have h6 : L 6 = false := by
            cases hq : L 6 with
            | false => rfl
            | true =>
              have q5 := st.down 6 5 hq (by kernel_rfl)
              have q99 := st.off; rw [q5] at q99; cases q99
          have e4 := st.val 4 44 rfl (by kernel_rfl)
          rw [show v 4 = _ from st.φ 4 (by kernel_rfl)] at e4
          simp at e4
          have hEx := st.inv.pre h6
          exact exec_load_mid rfl (b := rb) (off := ro + k * 7) (by simp [Act.eval, e4]) (fun j u hu => by have h0 := HRW.out j u hu; exact (Ext.cell (p := ⟨rb, ro + k * 7 + j, none⟩) hEx (cell_lt h0)).trans h0) Try.underlying37 rfl (by kernel_rfl)
        case s6 =>
          refine sg_call (k := 0) (f := 7) rfl rfl rfl (by kernel_rfl) fun γ L v a w' st => ?_
          have e0 := st.val 0 40 rfl (by kernel_rfl)
          rw [show v 0 = _ from st.φ 0 (by kernel_rfl)] at e0
          simp at e0
          have e1 := st.val 1 41 rfl (by kernel_rfl)
          rw [show v 1 = _ from st.φ 1 (by kernel_rfl)] at e1
          simp at e1
          have e5 := st.val 5 45 rfl (by kernel_rfl)
          rw [show v 5 = _ from st.φ 5 (by kernel_rfl)] at e5
          simp at e5
          have h6 : L 6 = false := st.off
          have h7 : L 7 = false := by
            cases hq : L 7 with
            | false => rfl
            | true =>
              have q6 := st.down 7 6 hq (by kernel_rfl)
              have q99 := st.off; rw [q6] at q99; cases q99
          have h8 : L 8 = false := by
            cases hq : L 8 with
            | false => rfl
            | true =>
              have q7 := st.down 8 7 hq (by kernel_rfl)
              have q6 := st.down 7 6 q7 (by kernel_rfl)
              have q99 := st.off; rw [q6] at q99; cases q99
          have h11 : L 11 = false := by
            cases hq : L 11 with
            | false => rfl
            | true =>
              have q8 := st.down 11 8 hq (by kernel_rfl)
              have q7 := st.down 8 7 q8 (by kernel_rfl)
              have q6 := st.down 7 6 q7 (by kernel_rfl)
              have q99 := st.off; rw [q6] at q99; cases q99
          have hEx := st.inv.pre h6
          refine ⟨#[.pointer (some ⟨d, 0, none⟩), .agg #[.slice A D.files.length c, .int .i64 room, .bool lost, .int .i64 fl], .agg #[.int .i64 x.kind, .int .i64 x.num, .string x.a, .string x.b, .slice x.more.1 x.more.2.1 x.more.2.2, .slice x.choice.1 x.choice.2.1 x.choice.2.2, .int .u8 x.by_]], by go_simp, ?_⟩
          refine (HCD.out w' hEx).mono ?_
          rintro e w2 ⟨lv2, D2, rfl, hd2, hr2, hi2, hro2, hc2⟩
          obtain ⟨A2, c2, rfl⟩ := rk_slice hr2
          exact ⟨_, rfl, GCl.called st.inv (fun j hj => hj.elim (fun e => e ▸ hdl) (fun e => e ▸ hml)) hc2 h7 h8 h11 rfl (by simp [Value.oneCell']) ⟨A2, c2, D2, rfl, hd2, hr2, hi2, hro2⟩⟩
        case s7 =>
          refine sg_new (k := 3) rfl rfl rfl (by kernel_rfl) fun γ L v a w' st => ?_
          have e6 := st.val 6 46 rfl (by kernel_rfl)
          rw [show v 6 = _ from st.φ 6 (by kernel_rfl)] at e6
          simp at e6
          exact ⟨γ 0, w', by go_simp, GCl.moved st.inv⟩
        case s8 =>
          refine sg_new (k := 2) rfl rfl rfl (by kernel_rfl) fun γ L v a w' st => ?_
          have e7 := st.val 7 39 rfl (by kernel_rfl)
          have hd7 := st.dep 7 (by kernel_rfl)
          rw [show v 7 = _ from st.φ 7 (by kernel_rfl), st.inv.mv hd7] at e7
          simp at e7
          obtain ⟨X2, hγ, _⟩ := st.inv.call (st.down 7 6 hd7 (by kernel_rfl))
          refine ⟨tupOf (γ 0) 0, w', ?_, GCl.got st.inv⟩
          rw [hγ] at e7 ⊢
          simp [tupOf]
          go_simp
        case s9 =>
          refine sg_val (x := .bool true) rfl rfl rfl (GCl.keep (j := 9) (by omega)) fun γ L v a w' st => ?_
          have e7 := st.val 7 39 rfl (by kernel_rfl)
          have hd7 := st.dep 7 (by kernel_rfl)
          rw [show v 7 = _ from st.φ 7 (by kernel_rfl), st.inv.mv hd7] at e7
          simp at e7
          obtain ⟨X2, hγ, _⟩ := st.inv.call (st.down 7 6 hd7 (by kernel_rfl))
          rw [hγ] at e7
          go_simp
        case s10 =>
          refine sg_new (k := 1) rfl rfl rfl (by kernel_rfl) fun γ L v a w' st => ?_
          have h11 : L 11 = false := by
            cases hq : L 11 with
            | false => rfl
            | true =>
              have q10 := st.down 11 10 hq (by kernel_rfl)
              have q99 := st.off; rw [q10] at q99; cases q99
          exact ⟨.pointer (some ⟨w'.heap.size, 0, none⟩), w'.alloc (.cells #[.slice none 0 0, .int .i64 0, .bool false, .int .i64 0] 29), by go_simp, GCl.new st.inv (fun X w w' ⟨a1, a2, a3, a4, a5, a6, a7, a8⟩ hE => ⟨a1, a2, a3, a4, a5.ext hE, a6.ext hE, a7, a8⟩) (fun v w w' h hE => trivial) h11⟩
        case s11 =>
          refine sg_skip rfl rfl rfl fun γ L v a w' st => ?_
          have d8 := st.dep 8 (by kernel_rfl)
          have d10 := st.dep 10 (by kernel_rfl)
          have d7 := st.down 8 7 d8 (by kernel_rfl)
          have d6 := st.down 7 6 d7 (by kernel_rfl)
          obtain ⟨X2, hγ, a2, a3, _⟩ := st.inv.call d6
          obtain ⟨g, g1, g2, g3, _⟩ := st.inv.n1 d10
          replace g3 := g3 st.off
          have e1 := st.val 8 47 rfl (by kernel_rfl)
          rw [show v 8 = _ from st.φ 8 (by kernel_rfl), st.inv.e1 d8] at e1
          have e2 := st.val 10 8 rfl (by kernel_rfl)
          rw [show v 10 = _ from st.φ 10 (by kernel_rfl), g1] at e2
          simp at e2
          have hta : tupOf (γ 0) 0 = .agg (arrOf (tupOf (γ 0) 0)) := by rw [hγ]; rfl
          have hsz : (arrOf (tupOf (γ 0) 0)).size = 4 := by rw [hγ]; exact a2
          have hon : (arrOf (tupOf (γ 0) 0)).all (·.oneCell') = true := by rw [hγ]; exact a3
          refine ⟨_, exec_store_mid rfl (b := g) (off := 0) (cells := arrOf (tupOf (γ 0) 0)) (by simp [Act.eval, e2]) (by show a.tmps.getD 47 undef = _; rw [e1]; exact hta) (by rw [hsz]; exact g3.there) (by rw [hsz]; kernel_rfl) hon, ?_⟩
          exact GCl.stored st.inv rfl (fun X w w' g ⟨a1, a2, a3, a4, a5, a6, a7, a8⟩ hg hA hC => ⟨a1, a2, a3, a4, ⟨a5.1.chg hC (fun e => by have e' : d = g := e; omega), a5.2.chg hC (fun e => by have e' : m = g := e; omega)⟩, Sln.chg a6 hC (rk_apart a6 hA dz_nostr), a7, a8⟩) d6 d10 st.off g1
        case s12 =>
          refine sg_val (x := .bool true) rfl rfl rfl (GCl.keep (j := 12) (by omega)) fun γ L v a w' st => ?_
          have e9 := st.val 9 48 rfl (by kernel_rfl)
          rw [show v 9 = _ from st.φ 9 (by kernel_rfl)] at e9
          simp at e9
          go_simp
      case fin =>
        intro γ L v wx hall hG hφ
        have h10 : v 10 = γ 1 := hφ 10 (by decide)
        have h12 : v 12 = .bool true := hφ 12 (by decide)
        obtain ⟨X2, hγ, _, _, A2, c2, D2, rfl, hD2, hR2, hI2, hro⟩ := hG.call (hall 6 (by decide))
        obtain ⟨gb, g1, g2, _, g4⟩ := hG.n1 (hall 10 (by decide))
        have hY : At wx gb 29 #[.slice A2 D2.files.length c2, .int .i64 room, .bool D2.lost, .int .i64 (D2.armed - 1)] := by have h := g4 (hall 11 (by decide)); rw [hγ] at h; exact h
        rw [g1] at h10
        have hCx := hG.kp
        have hEx : Ext w wx := Chg.trans hE hCx (fun j hj e => by omega)
        have hX2 := hX.chg hCx (fun e => e.elim hxd.1 hxd.2)
        have hgx : xb ≠ gb := fun e => by omega
        have HHI := Lib.hid hI2
        have HRO := Lib.hid hro
        clear hall hφ hG hγ g4 HCD hCx hD hX hro
        change Exit.then _ _ _ (putAll _ v _ 13) _
        simp only [putAll, dstOf, Act.put]
        simp only [List.getElem?_toArray, List.getElem?_cons_zero, List.getElem?_cons_succ, Option.bind_some, List.setIfInBounds_toArray, List.set_cons_zero, List.set_cons_succ]
        rw [h10, h12]
        clear h10 h12 g1
        obtain ⟨lost2, hlost2⟩ : ∃ r, r = D2.lost := ⟨_, rfl⟩
        obtain ⟨fl2, hfl2⟩ : ∃ r, r = D2.armed - 1 := ⟨_, rfl⟩
        rw [← hlost2, ← hfl2] at hY
        have HLF := Lib.hid (And.intro hlost2 hfl2)
        clear hlost2 hfl2
        have y0 := hY.cell 0
        have y1 := hY.cell 1
        have y2 := hY.cell 2
        have y3 := hY.cell 3
        simp at y0 y1 y2 y3
        have x0 := hX2.cell 0
        have x1 := hX2.cell 1
        have x2 := hX2.cell 2
        have x3 := hX2.cell 3
        have fr0 := hX2.frozen 0
        have fr1 := hX2.frozen 1
        have fr2 := hX2.frozen 2
        have fr3 := hX2.frozen 3
        simp at x0 x1 x2 x3
        go_upto_region 10 with fail
        have hX4 : At ((((wx.setCell ⟨xb, 0, none⟩ (.slice A2 D2.files.length c2)).setCell ⟨xb, 1, none⟩ (.int .i64 room)).setCell ⟨xb, 2, none⟩ (.bool lost2)).setCell ⟨xb, 3, none⟩ (.int .i64 fl2)) xb 29 #[.slice A2 D2.files.length c2, .int .i64 room, .bool lost2, .int .i64 fl2] := at_anew hX2 (vs := #[.slice A2 D2.files.length c2, .int .i64 room, .bool lost2, .int .i64 fl2]) rfl
        have hcx : Chg (· = xb) wx ((((wx.setCell ⟨xb, 0, none⟩ (.slice A2 D2.files.length c2)).setCell ⟨xb, 1, none⟩ (.int .i64 room)).setCell ⟨xb, 2, none⟩ (.bool lost2)).setCell ⟨xb, 3, none⟩ (.int .i64 fl2)) := chg_setAll wx xb [.slice A2 D2.files.length c2, .int .i64 room, .bool lost2, .int .i64 fl2] 0 wx (Chg.refl _ _)
        have hD4 : DkAt ((((wx.setCell ⟨xb, 0, none⟩ (.slice A2 D2.files.length c2)).setCell ⟨xb, 1, none⟩ (.int .i64 room)).setCell ⟨xb, 2, none⟩ (.bool lost2)).setCell ⟨xb, 3, none⟩ (.int .i64 fl2)) d m D2 := ⟨hD2.1.chg hcx (fun e => hxd.1 e.symm), hD2.2.chg hcx (fun e => hxd.2 e.symm)⟩
        have hR4 := Sln.chg hR2 hcx (rk_apart hR2 hX2 dz_nostr)
        have hE4 : Ext w ((((wx.setCell ⟨xb, 0, none⟩ (.slice A2 D2.files.length c2)).setCell ⟨xb, 1, none⟩ (.int .i64 room)).setCell ⟨xb, 2, none⟩ (.bool lost2)).setCell ⟨xb, 3, none⟩ (.int .i64 fl2)) := ext_anew hwx [.slice A2 D2.files.length c2, .int .i64 room, .bool lost2, .int .i64 fl2] 0 _ hEx
        clear y0 y1 y2 y3 x0 x1 x2 x3 fr0 fr1 fr2 fr3 hY hX2 hD2 hR2 hEx hcx
        generalize ((((wx.setCell ⟨xb, 0, none⟩ (.slice A2 D2.files.length c2)).setCell ⟨xb, 1, none⟩ (.int .i64 room)).setCell ⟨xb, 2, none⟩ (.bool lost2)).setCell ⟨xb, 3, none⟩ (.int .i64 fl2)) = W5 at hX4 hD4 hR4 hE4 ⊢
        have hused := hI2.used
        have hur : D2.used ≤ room := by have := hI2.ok.u1; have := HRO.out; omega
        have hsafe : D2.allSafe = safeL D2.files := rfl
        have hrks : RkS W5 (.slice A2 D2.files.length c2) D2.files := hI2.rks (by omega) (by omega) hR4
        have cu1 : ∀ dd os, Calls Try.prog 8 #[.pointer (some ⟨d, 0, none⟩)] (grow (redrawn W5 dd) os) fun e w'' => e = .returned (.int .i64 D2.used) ∧ ∃ p : Regrown, w'' = grow (redrawn W5 p.d) p.os := fun dd os =>
          Calls.ext_of ((used_any d 0 D2.used _ ((hD4.ext (ext_regrown W5 dd os)).1.cell 1)).mono (by rintro e w' ⟨rfl, rfl⟩; exact ⟨rfl, Ext.refl _⟩))
        have cu2 := used_re W5 (.slice A2 D2.files.length c2) room fl2 lost2 D2.files hrks
        rw [← hused] at cu2
        have cs1 : ∀ dd os, Calls Try.prog 10 #[.pointer (some ⟨d, 0, none⟩)] (grow (redrawn W5 dd) os) fun e w'' => e = .returned (.bool D2.allSafe) ∧ ∃ p : Regrown, w'' = grow (redrawn W5 p.d) p.os := fun dd os =>
          Calls.ext_of (safe_any _ d m D2 (hD4.ext (ext_regrown W5 dd os)))
        have cs2 : ∀ dd os, Calls Try.prog 11 #[.agg #[.slice A2 D2.files.length c2, .int .i64 room, .bool lost2, .int .i64 fl2]] (grow (redrawn W5 dd) os) fun e w'' => e = .returned (.bool (safeL D2.files)) ∧ ∃ p : Regrown, w'' = grow (redrawn W5 p.d) p.os := fun dd os =>
          Calls.ext_of (rsafe_any _ (.slice A2 D2.files.length c2) room fl2 lost2 D2.files (hR4.ext (ext_regrown W5 dd os)) hrks.len)
        rw [← hsafe] at cs2
        have cr : ∀ dd os, Calls Try.prog 12 #[.pointer (some ⟨d, 0, none⟩)] (grow (redrawn W5 dd) os) fun e w'' => e = .returned (.int .i64 room) ∧ ∃ p : Regrown, w'' = grow (redrawn W5 p.d) p.os := fun dd os =>
          Calls.ext_of ((room_any _ d m D2 (hD4.ext (ext_regrown W5 dd os))).mono (by rintro e w' ⟨rfl, rfl⟩; exact ⟨by rw [HRO.out], Ext.refl _⟩))
        have cl : ∀ dd os, Calls Try.prog 13 #[.pointer (some ⟨d, 2, none⟩)] (grow (redrawn W5 dd) os) fun e w'' => e = .returned (.bool lost2) ∧ ∃ p : Regrown, w'' = grow (redrawn W5 p.d) p.os := fun dd os =>
          Calls.ext_of ((lost_any _ d m D2 (hD4.ext (ext_regrown W5 dd os))).mono (by rintro e w' ⟨rfl, rfl⟩; exact ⟨by rw [HLF.out.1], Ext.refl _⟩))
        generalize D2.used = us at cu1 cu2 hur
        generalize D2.allSafe = sf at cs1 cs2
        have hur2 : decide (room < us) = false := decide_eq_false (by omega)
        have hur3 : decide (us ≤ room) = true := decide_eq_true hur
        have hur4 : ¬ room < us := by omega
        clear hused hsafe hrks hI2
        have x0 := hX4.cell_regrown 0
        have x1 := hX4.cell_regrown 1
        have x2 := hX4.cell_regrown 2
        have x3 := hX4.cell_regrown 3
        refine wp_region_quiet_ext (by kernel_rfl) (by kernel_rfl) ?_
        repeat (go_big_quiet_step (first | with_reducible exact cu1 _ _ | with_reducible exact cu2 _ _ | with_reducible exact cs1 _ _ | with_reducible exact cs2 _ _ | with_reducible exact cr _ _ | with_reducible exact cl _ _))
        refine wpQuiet_nil ?_
        intro W6 hE6
        clear x0 x1 x2 x3 cu1 cu2 cs1 cs2 cr cl
        replace hX4 := hX4.ext hE6
        replace hD4 := hD4.ext hE6
        replace hR4 := hR4.ext hE6
        replace hE4 := hE4.trans hE6
        go_wp2_with fail
        go_roundw
        case rel => exact ⟨k + 1, D2, A2, c2, by go_num, by omega, by omega, hD4, HHI.out, hR4, by rw [HRO.out, ← HLF.out.1, ← HLF.out.2]; exact hX4, hE4⟩
        case measure => simp [intOf]; omega
    · have hge : acts.length ≤ k ∨ ¬ k < 40 := by omega
      have hex : ¬ k < acts.length ∨ (k < acts.length ∧ ¬ k < 40) := by omega
      obtain ⟨room, hroom⟩ : ∃ r, r = D.room := ⟨_, rfl⟩
      obtain ⟨lost, hlost⟩ : ∃ r, r = D.lost := ⟨_, rfl⟩
      obtain ⟨fl, hfl⟩ : ∃ r, r = D.armed - 1 := ⟨_, rfl⟩
      rw [← hroom, ← hlost, ← hfl] at hX
      have HQ := Lib.hid (And.intro hroom (And.intro hlost hfl))
      have hinv2 : Inv 40 2400 D := hI.mono (by omega) (by omega)
      clear hroom hlost hfl hlt hge hI
      obtain ⟨wo, hwo⟩ : ∃ wo : World, wo = wr := ⟨_, rfl⟩
      go_upto_region 6 with fail
      go_cut [36] from 29 to 36 (fun tv wx => tv = .bool false ∧ wx = wo)
      case first =>
        rcases hex with hex | ⟨hex, hex2⟩
        · go_wp2_with fail
          go_meet
          case rel => exact ⟨rfl, hwo.symm⟩
        · go_wp2_with fail
          go_meet
          case rel => exact ⟨by rw [decide_eq_false (by omega)], hwo.symm⟩
      case rest =>
        obtain ⟨rfl, hwc⟩ := hcut
        subst hwc
        subst hwo
        clear hex
        go_wp2_with fail
        refine (lost_any wc d m D hD).mono ?_
        rintro e w5 ⟨rfl, hw5⟩
        subst hw5
        rw [← HQ.out.2.1]
        cases lost
        · go_wp2_with fail
          refine (fail_any w5 d m D hD (-1) (by omega)).mono ?_
          rintro e w6 ⟨rfl, hC6, hD6⟩
          have hX6 := hX.chg hC6 hxd.1
          have hR6 := rk_plat hR hD (hC6.mono (S := fun k => k = d ∨ k = m) (fun _ _ h => .inl h))
          have hE6 : Ext w w6 := Chg.trans hE hC6 (fun j hj e => by omega)
          have hfa := fail_alike hinv2 (-1)
          have hff : (D.fail (-1)).files = D.files := rfl
          have hfl2 : (D.fail (-1)).lost = false := HQ.out.2.1.symm
          have hfr : (D.fail (-1)).room = room := HQ.out.1.symm
          have hfa2 : (D.fail (-1)).armed = 0 := rfl
          generalize D.fail (-1) = D2 at hD6 hfa hff hfl2 hfr hfa2
          rw [← hff] at hX6 hR6
          have hI2 := hfa.2
          have he0 : D2.e = 0 := by unfold Dk.e tryE; rw [hfl2, hfa2]; rfl
          have htk : D2.tick = D2 := by
            obtain ⟨a1, a2, a3, a4, a5⟩ := D2
            simp only at hfl2 hfa2
            subst hfl2 hfa2
            rfl
          have HD2 := Lib.hid (And.intro hfl2 (And.intro hfr (And.intro hfa2 (And.intro he0 htk))))
          have hlen := hI2.len
          clear hff hfl2 hfr hfa2 hfa hD hX hR hE hC6 hinv2 he0 htk
          have x3 := hX6.cell 3
          have f3 := hX6.frozen 3
          simp at x3
          go_upto_region 16 with fail
          have hX7 : At (w6.setCell ⟨xb, 3, none⟩ (.int .i64 (-1))) xb 29 #[.slice A D2.files.length c, .int .i64 room, .bool false, .int .i64 (-1)] := hX6.set 3 _
          have hcx : Chg (· = xb) w6 (w6.setCell ⟨xb, 3, none⟩ (.int .i64 (-1))) := (Chg.refl (· = xb) w6).setCell (p := ⟨xb, 3, none⟩) (.inl rfl) _
          have hD7 : DkAt (w6.setCell ⟨xb, 3, none⟩ (.int .i64 (-1))) d m D2 := ⟨hD6.1.chg hcx (fun e => hxd.1 e.symm), hD6.2.chg hcx (fun e => hxd.2 e.symm)⟩
          have hR7 := Sln.chg hR6 hcx (rk_apart hR6 hX6 dz_nostr)
          have hE7 : Ext w (w6.setCell ⟨xb, 3, none⟩ (.int .i64 (-1))) := hE6.setCell hwx _
          clear x3 f3 hX6 hD6 hR6 hE6 hcx
          generalize w6.setCell _ _ = w7 at hX7 hD7 hR7 hE7 ⊢
          go_wp2_with fail
          refine (pnames_any w7 d m D2 hD7 hI2.ok (by omega)).mono ?_
          rintro e w8 ⟨nv, rfl, hnv, hC8, hD8⟩
          rw [HD2.out.2.2.2.1]
          rw [HD2.out.2.2.2.2] at hD8
          have hX8 := hX7.chg hC8 hxd.1
          have hR8 := rk_plat hR7 hD7 (hC8.mono (S := fun k => k = d ∨ k = m) (fun _ _ h => .inl h))
          have hE8 : Ext w w8 := Chg.trans hE7 hC8 (fun j hj e => by omega)
          have cp := rnames_any w8 (.slice A D2.files.length c) room false 0 D2.files (hI2.rks (by omega) (by omega) hR8) (by omega) (by omega)
          have hna := names_alike hI2
          rw [HD2.out.1, HD2.out.2.2.1] at hna
          rw [hna, show (0 : Int) - 1 = -1 from rfl, show tryA false 0 - 1 = -1 from rfl, show tryE false 0 = 0 from rfl] at cp
          have hnt : ∀ n ∈ D2.names, (D2.get n).nt = true ∧ n.size ≤ maxLen := fun n hn => by
            unfold Dk.names at hn
            rw [if_neg (fun hh => hh HD2.out.2.2.2.1)] at hn
            unfold Dk.nameL at hn
            obtain ⟨h1, h2⟩ := List.mem_filter.1 hn
            obtain ⟨p, hp, rfl⟩ := List.mem_map.1 h1
            exact ⟨h2, hI2.ok.keys p hp⟩
          have HNT := Lib.hid hnt
          have hnl : D2.names.length ≤ 1000000 := by
            unfold Dk.names Dk.nameL
            split
            · simp
            · have := List.length_filter_le (fun n => (D2.get n).nt) (D2.files.map (·.1))
              rw [List.length_map] at this
              omega
          clear hna hnt hC8 hX7 hD7 hR7 hE7
          generalize D2.names = nn at *
          have x0 := hX8.cell 0
          have x1 := hX8.cell 1
          have x2 := hX8.cell 2
          have x3 := hX8.cell 3
          simp at x0 x1 x2 x3
          go_wp2_with fail
          refine cp.mono ?_
          rintro e w9 ⟨rv, rfl, hrv, hE9⟩
          go_upto_region 18 with fail
          have hE10 := hE9.trans ((Ext.refl w9).alloc (.cells #[.slice A D2.files.length c, .int .i64 room, .bool false, .int .i64 (-1)] 29))
          replace hrv := hrv.ext ((Ext.refl w9).alloc (.cells #[.slice A D2.files.length c, .int .i64 room, .bool false, .int .i64 (-1)] 29))
          replace hnv := hnv.ext hE10
          replace hX8 := hX8.ext hE10
          replace hD8 := hD8.ext hE10
          replace hR8 := hR8.ext hE10
          replace hE8 := hE8.trans hE10
          clear x0 x1 x2 x3 hE9 hE10 cp
          generalize w9.alloc _ = w10 at *
          go_wp2_with fail
          refine (same_any w10 nv rv nn nn hnv hrv hnl hnl).mono ?_
          rintro e w11 ⟨rfl, hE11⟩
          replace hrv := hrv.ext hE11
          replace hX8 := hX8.ext hE11
          replace hD8 := hD8.ext hE11
          replace hR8 := hR8.ext hE11
          replace hE8 := hE8.trans hE11
          clear hE11 hnv
          have hsb : sameB nn nn = 0 := by unfold sameB; rw [if_pos rfl]
          rw [hsb]
          obtain ⟨RA, rc, hrve⟩ : ∃ A c, rv = .slice A nn.length c := by obtain ⟨a, b, h, _⟩ := hrv; exact ⟨a, b, by rw [h, List.length_map]⟩
          subst hrve
          clear hsb
          go_wp2_with fail
          go_loopw [121] (fun kv wx => ∃ k : Nat, kv = .int .i64 (k : Int) ∧ k ≤ nn.length ∧ DkAt wx d m D2 ∧ At wx xb 29 #[.slice A D2.files.length c, .int .i64 room, .bool false, .int .i64 (-1)] ∧ RkIn wx (.slice A D2.files.length c) D2.files ∧ Sl wx (.slice RA nn.length rc) (nn.map Value.string) ∧ Ext w wx) (fun kv _ => nn.length - (intOf kv).toNat)
          case atStart => exact ⟨0, rfl, Nat.zero_le _, hD8, hX8, hR8, hrv, hE8⟩
          case round =>
            clear hD8 hX8 hR8 hrv hE8
            obtain ⟨k, rfl, hk, hD, hX, hR, hrv, hE⟩ := hrel
            by_cases hlt : k < nn.length
            · obtain ⟨n, hb⟩ : ∃ q, nn[k]? = some q := ⟨_, List.getElem?_eq_getElem hlt⟩
              have hnt := HNT.out n (List.mem_of_getElem? hb)
              obtain ⟨rb, ro, rfl, hcc⟩ : ∃ b o, RA = some ⟨b, o, none⟩ ∧ wr.cell? ⟨b, o + k, none⟩ = some (.string n) := by
                obtain ⟨A', c', hv, hx⟩ := id hrv
                simp only [Value.slice.injEq] at hv
                obtain ⟨b, o, rfl, hc⟩ := hx (fun e => by rw [List.map_eq_nil_iff] at e; rw [e] at hb; simp at hb)
                exact ⟨b, o, hv.1, hc k _ (by rw [List.getElem?_map, hb]; rfl)⟩
              have hrd : D2.read n = ((D2.get n).nx, 0) := by
                unfold Dk.read
                rw [if_neg (fun hh => hh HD2.out.2.2.2.1), if_pos hnt.1]
              have HRD := Lib.hid hrd
              clear hb hrd hnt
              go_upto_region 23 with fail
              clear hcc
              go_wp2_with fail
              refine (read_any wr d m D2 hD hI2.ok n).mono ?_
              rintro e w12 ⟨rfl, hC12, hD12⟩
              rw [HRD.out]
              rw [HD2.out.2.2.2.2] at hD12
              have hX12 := hX.chg hC12 hxd.1
              have hR12 := rk_plat hR hD (hC12.mono (S := fun k => k = d ∨ k = m) (fun _ _ h => .inl h))
              have hE12 : Ext w w12 := Chg.trans hE hC12 (fun j hj e => by omega)
              have hrv12 := Sl.chg hrv (hC12.mono (S := fun k => k = d ∨ k = m) (fun _ _ h => .inl h)) (hD.apart hrv)
              clear hD hX hR hrv hE hC12
              have HGF : Hid (getF n D2.files = D2.get n) := Lib.hid rfl
              generalize D2.get n = f at HGF ⊢
              obtain ⟨n1, s1, n2, s2⟩ := f
              have x0 := hX12.cell 0
              have x1 := hX12.cell 1
              have x2 := hX12.cell 2
              have x3 := hX12.cell 3
              simp at x0 x1 x2 x3
              go_wp2_with fail
              refine (rfind_any w12 _ room (-1) false D2.files hR12 n (by omega)).mono ?_
              rintro e w13 ⟨rfl, hE13⟩
              rw [HGF.out]
              have hc0 := fun wx => rfield_now (.string s1) (.bool n2) (.string s2) (.string n) (.bool n1) wx
              have hc1 : ∀ wx, (Instr.field 58 (.agg #[.bool n1, .string s1]) 1).run Try.prog wx = .ok (.string s1) wx := fun wx => by kernel_rfl
              clear x0 x1 x2 x3
              go_wp2_with fail
              go_roundw
              case rel => exact ⟨k + 1, by go_num, by omega, hD12.ext hE13, hX12.ext hE13, hR12.ext hE13, hrv12.ext hE13, hE12.trans hE13⟩
              case measure => simp [intOf]; omega
            · go_wp2_with fail
              go_ret
              exact ⟨rfl, hE⟩
        · go_wp2_with fail
          go_ret
          exact ⟨rfl, hE⟩
end Go.Proofs.Yteleafbfdfipdaa
