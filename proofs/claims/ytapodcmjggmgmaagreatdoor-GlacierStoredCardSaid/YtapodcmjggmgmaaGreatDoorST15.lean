/-
  Part 15 of what the law leans on.
-/
import Derived.Test.YtapodcmjggmgmaaGreatDoorST12
import Derived.Test.YtapodcmjggmgmaaGreatDoorST14
set_option linter.unusedVariables false
set_option linter.unusedSimpArgs false
set_option linter.unusedSectionVars false
namespace Go.Proofs.YtapodcmjggmgmaaGreatDoor
open Go.RowKit Go.Sort
set_option maxRecDepth 100000 in
set_option maxHeartbeats 1000000 in
theorem add_roll (w : World) (s d m c : Nat) (S : St) (h : StAt w s d m c S) (hD : S.D.Calm) (kind num : Nat) (data : ByteArray) (hk : kind < 18446744073709551616) (hn : num < 18446744073709551616) (hd : data.size ≤ 1000000)
    (hdy : S.dirty = false) (hfl0 : S.D.files.length ≤ 1048576) (hyes : 0 < S.size ∧ S.lim < S.size + (frec kind num data).size) (h1 : 1 ≤ S.seg) (h2 : S.seg < 99) (hl : S.lim ≤ 1000000) (hsz : S.size ≤ 1000000) (hfl : (S.D.get (segN (S.seg + 1))).nx.size ≤ 1000000) (hT : Tab w) (hg : ¬ (0 = s ∨ 0 = d ∨ 0 = m)) :
    Calls Tryz.prog 99 #[.pointer (some ⟨s, 0, none⟩), .agg #[.int .u64 (kind : Int), .int .u64 (num : Int), .string data]] w fun e w' =>
      e = .returned (.tuple #[(S.roll.plc (frec kind num data)).val, .int .i64 (S.roll.add1 (frec kind num data)).1]) ∧ Chg (fun k => k = s ∨ k = d ∨ k = m) w w' ∧ StAt w' s d m c (S.roll.add1 (frec kind num data)).2 := by
  have hfs := frec_size kind num data
  have hf8 := frec_ge kind num data
  have hcf := fun (w : World) (hT : Tab w) => frec_any w kind num data hk hn hd hT
  generalize frec kind num data = f at *
  have hR0 := At.new w 139 #[.int .u64 (kind : Int), .int .u64 (num : Int), .string data]
  have hZ0 := At.new (w.alloc (.cells #[.int .u64 (kind : Int), .int .u64 (num : Int), .string data] 139)) 126 Z11
  have hE0 := ((Ext.refl w).alloc (.cells #[.int .u64 (kind : Int), .int .u64 (num : Int), .string data] 139)).alloc (.cells Z11 126)
  have hR1 := hR0.alloc (.cells Z11 126)
  have hrg := Lib.hid hR1.range
  have hsz1 : (w.alloc (.cells #[.int .u64 (kind : Int), .int .u64 (num : Int), .string data] 139)).heap.size = w.heap.size + 1 := by simp
  rw [hsz1] at hZ0
  go_enter Tryz.func99, Tryz.ntmps99
  go_wp2_with (refine wpList_load_mid rfl 139 _ rfl w.heap.size 0 rfl _ _ hrg.out Tryz.underlying139 rfl rec3_info ?_)
  have hS0 := h.ext hE0
  have hT0 := hT.ext hE0
  have hzs : s ≠ w.heap.size + 1 := by have := h.st.lt; omega
  have hzd : w.heap.size + 1 ≠ d := by have := h.dk.1.lt; omega
  have hzm : w.heap.size + 1 ≠ m := by have := h.dk.2.lt; omega
  have hzc : w.heap.size + 1 ≠ c := by have := h.ch.lt; omega
  have hmc := h.ne
  have hdc := h.dc
  have hsc := h.sc
  generalize (w.alloc (.cells #[.int .u64 (kind : Int), .int .u64 (num : Int), .string data] 139)).alloc (.cells Z11 126) = w0 at hZ0 hE0 hS0 hT0 ⊢
  obtain ⟨zb, hzb⟩ : ∃ zb, w.heap.size + 1 = zb := ⟨_, rfl⟩
  obtain ⟨rb, hrb⟩ : ∃ rb, w.heap.size = rb := ⟨_, rfl⟩
  rw [hzb] at hZ0 hzs hzd hzm hzc ⊢
  rw [hrb]
  refine (hcf w0 hT0).mono ?_
  rintro e w1 ⟨rfl, hE1⟩
  replace hE0 := hE0.trans hE1
  replace hS0 := hS0.ext hE1
  replace hZ0 := hZ0.ext hE1
  replace hT0 := hT0.ext hE1
  clear hcf hR0 hR1 hrg hsz1 h hT hE1
  have c0 : w1.cell? ⟨s, 0, none⟩ = some (.pointer (some ⟨d, 0, none⟩)) := hS0.st.cell 0
  have c1 : w1.cell? ⟨s, 1, none⟩ = some (.int .i64 (S.lim : Int)) := hS0.st.cell 1
  have c3 : w1.cell? ⟨s, 3, none⟩ = some (.int .i64 (S.seg : Int)) := hS0.st.cell 3
  have c4 : w1.cell? ⟨s, 4, none⟩ = some (.int .i64 (S.size : Int)) := hS0.st.cell 4
  have hlr : f.size ≤ 1000038 := by omega
  have g1 : decide (0 < S.size) = true := by simp; omega
  have g2 : decide ((S.lim : Int) < (S.size : Int) + (f.size : Int)) = true := by simp; omega
  have hsd := hS0.sd
  have hsm := hS0.sm
  have hsy : S.sync = S := by unfold St.sync; rw [hdy]; rfl
  have cy := fun W (hE : Ext w1 W) => csync_any W s d m c S (hS0.ext hE) hD h1 (by omega) hfl0
  rw [hsy] at cy
  go_wp2_with fail
  go_quiet (fail)
  have cy1 := cy _ ((Ext.refl w1).drewN nq)
  clear cy
  go_wp2_with fail
  refine cy1.mono ?_
  rintro e w2 ⟨rfl, hC2, hS2⟩
  clear cy1
  have hZ2 := (hZ0.drewN nq).chg hC2 (by rintro (e | e | e); exact hzs e.symm; exact hzd e; exact hzm e)
  have hCw := (hE0.drewN nq).chg_trans hC2
  have hT2 := (hT0.ext ((Ext.refl w1).drewN nq)).chg hC2 (fun e => hg (by rcases e with e | e | e; exact .inl e; exact .inr (.inl e); exact .inr (.inr e)))
  have k3 := hS2.st.cell 3
  have f3 := hS2.st.frozen 3
  have k4 := hS2.st.cell 4
  have f4 := hS2.st.frozen 4
  simp [St.cells] at k3 k4
  clear c0 c1 c3 c4 g1 g2 hyes hC2 hE0 hZ0 hT0 hS0
  go_wp2_with fail
  have hA0 : At ((w2.setCell ⟨s, 3, none⟩ (.int .i64 ((S.seg : Int) + 1))).setCell ⟨s, 4, none⟩ (.int .i64 0)) s 130 (St.cells S.roll d c) := by
    have := (hS2.st.set 3 (.int .i64 ((S.seg : Int) + 1))).set 4 (.int .i64 0)
    simpa [St.cells, St.roll] using this
  have hC3 : Chg (fun k => k = s) w2 ((w2.setCell ⟨s, 3, none⟩ (.int .i64 ((S.seg : Int) + 1))).setCell ⟨s, 4, none⟩ (.int .i64 0)) := ((Chg.refl (fun k => k = s) w2).setCell (p := ⟨s, 3, none⟩) (.inl rfl) _).setCell (p := ⟨s, 4, none⟩) (.inl rfl) _
  have hd0 : DkAt ((w2.setCell ⟨s, 3, none⟩ (.int .i64 ((S.seg : Int) + 1))).setCell ⟨s, 4, none⟩ (.int .i64 0)) d m S.roll.D := ⟨hS2.dk.1.chg hC3 (fun e => hsd e.symm), hS2.dk.2.chg hC3 (fun e => hsm e.symm)⟩
  have hch : MapAt u64Way Plc.val ((w2.setCell ⟨s, 3, none⟩ (.int .i64 ((S.seg : Int) + 1))).setCell ⟨s, 4, none⟩ (.int .i64 0)) c S.roll.C := hS2.ch.chg hC3 (fun e => hsc e.symm)
  have hZ := hZ2.chg hC3 (fun e => hzs e.symm)
  have hE0' := hCw.trans hC3 (fun k _ e => .inl e)
  have hT0' := hT2.chg hC3 (fun e => hg (.inl e))
  have hA := hA0
  generalize (w2.setCell ⟨s, 3, none⟩ (.int .i64 ((S.seg : Int) + 1))).setCell ⟨s, 4, none⟩ (.int .i64 0) = W at hA hZ hE0' hT0' hd0 hch ⊢
  clear hA0 hC3 hS2 hZ2 hCw hT2 k3 f3 k4 f4 hsy
  have hdk := hd0.ext ((Ext.refl W).drew)
  clear hd0
  have h1 : 1 ≤ S.roll.seg := by show 1 ≤ S.seg + 1; omega
  have h2 : S.roll.seg < 100 := by show S.seg + 1 < 100; omega
  have hlt : S.roll.lim ≤ 1000000 := hl
  have hsz2 : S.roll.size ≤ 1000000 := by show 0 ≤ 1000000; omega
  have hfl2 : (S.roll.D.get (segN S.roll.seg)).nx.size ≤ 1000000 := hfl
  have hD2 : S.roll.D.Calm := hD
  clear hl hsz hfl hD hdy hfl0
  generalize hR0 : S.roll = R0 at *
  have HR0 := Lib.hid hR0
  clear hR0
  obtain ⟨hfl, hD, hl, hsz⟩ : (R0.D.get (segN R0.seg)).nx.size ≤ 1000000 ∧ R0.D.Calm ∧ R0.lim ≤ 1000000 ∧ R0.size ≤ 1000000 := ⟨hfl2, hD2, hlt, hsz2⟩
  clear hfl2 hD2 hlt hsz2
  have hST : GQ.St (fun k => k = d ∨ k = m) (fun b w => DkAt w d m (if b = true then (R0.D.change (segN R0.seg) fun x => x ++ f).2 else R0.D)) [] := ⟨fun _ _ _ h hE => h.ext hE, by
    intro gx hx
    cases hx⟩
  refine wp_region_phi (Γ := Nat → Value) (sgφ [.val (.pointer (some ⟨s, 0, none⟩)), .val (.pointer (some ⟨s, 0, none⟩)), .val (.pointer (some ⟨s, 0, none⟩)), .val (.pointer (some ⟨d, 0, none⟩)), .val (.pointer (some ⟨s, 0, none⟩)), .val (.pointer (some ⟨s, 0, none⟩)), .val (.pointer (some ⟨s, 3, none⟩)), .val (.int .i64 (R0.seg : Int)), .val (.string (segN R0.seg)), .val (.string f), .val (.int .i64 (R0.D.change (segN R0.seg) fun x => x ++ f).1), .val (.int .i64 (R0.D.change (segN R0.seg) fun x => x ++ f).1)])
    (GQ W (fun k => k = d ∨ k = m) 10 (fun b w => DkAt w d m (if b = true then (R0.D.change (segN R0.seg) fun x => x ++ f).2 else R0.D)) [])
    (by kernel_rfl) (by kernel_rfl) (by kernel_rfl) (fun _ => undef) (GQ.start _ _ _ _ _ _ (hdk)) ?steps ?fin
  case steps =>
    show StepsTo _ _ _ _ _ _ 12
    refine ⟨⟨⟨⟨⟨⟨⟨⟨⟨⟨⟨⟨trivial, ?s0⟩, ?s1⟩, ?s2⟩, ?s3⟩, ?s4⟩, ?s5⟩, ?s6⟩, ?s7⟩, ?s8⟩, ?s9⟩, ?s10⟩, ?s11⟩
    case s0 =>
      refine sg_val (x := .pointer (some ⟨s, 0, none⟩)) rfl rfl rfl (GQ.keep (j := 0) (by decide) rfl) fun γ L v a w st => ?_
      have f0 := st.far 0 (by kernel_rfl)
      simp at f0
      go_simp
    case s1 =>
      refine sg_val (x := .pointer (some ⟨s, 0, none⟩)) rfl rfl rfl (GQ.keep (j := 1) (by decide) rfl) fun γ L v a w st => ?_
      have e0 := st.val 0 47 rfl (by kernel_rfl)
      rw [show v 0 = _ from st.φ 0 (by kernel_rfl)] at e0
      simp at e0
      go_simp
    case s2 =>
      refine sg_val (x := .pointer (some ⟨s, 0, none⟩)) rfl rfl rfl (GQ.keep (j := 2) (by decide) rfl) fun γ L v a w st => ?_
      have e1 := st.val 1 48 rfl (by kernel_rfl)
      rw [show v 1 = _ from st.φ 1 (by kernel_rfl)] at e1
      simp at e1
      go_simp
    case s3 =>
      refine sg_val (x := .pointer (some ⟨d, 0, none⟩)) rfl rfl rfl (GQ.keep (j := 3) (by decide) rfl) fun γ L v a w st => ?_
      have e2 := st.val 2 49 rfl (by kernel_rfl)
      rw [show v 2 = _ from st.φ 2 (by kernel_rfl)] at e2
      simp at e2
      have hcl := (hA.chg st.inv.chg (by rintro (e | e); exact hsd e; exact hsm e)).cell 0
      simp [St.cells] at hcl
      go_simp
    case s4 =>
      refine sg_val (x := .pointer (some ⟨s, 0, none⟩)) rfl rfl rfl (GQ.keep (j := 4) (by decide) rfl) fun γ L v a w st => ?_
      have f0 := st.far 0 (by kernel_rfl)
      simp at f0
      go_simp
    case s5 =>
      refine sg_val (x := .pointer (some ⟨s, 0, none⟩)) rfl rfl rfl (GQ.keep (j := 5) (by decide) rfl) fun γ L v a w st => ?_
      have e4 := st.val 4 51 rfl (by kernel_rfl)
      rw [show v 4 = _ from st.φ 4 (by kernel_rfl)] at e4
      simp at e4
      go_simp
    case s6 =>
      refine sg_val (x := .pointer (some ⟨s, 3, none⟩)) rfl rfl rfl (GQ.keep (j := 6) (by decide) rfl) fun γ L v a w st => ?_
      have e5 := st.val 5 52 rfl (by kernel_rfl)
      rw [show v 5 = _ from st.φ 5 (by kernel_rfl)] at e5
      simp at e5
      go_simp
    case s7 =>
      refine sg_val (x := .int .i64 (R0.seg : Int)) rfl rfl rfl (GQ.keep (j := 7) (by decide) rfl) fun γ L v a w st => ?_
      have e6 := st.val 6 53 rfl (by kernel_rfl)
      rw [show v 6 = _ from st.φ 6 (by kernel_rfl)] at e6
      simp at e6
      have hcl := (hA.chg st.inv.chg (by rintro (e | e); exact hsd e; exact hsm e)).cell 3
      simp [St.cells] at hcl
      go_simp
    case s8 =>
      refine sg_callv' (x := .string (segN R0.seg)) (f := 22) rfl rfl rfl fun γ L v a w st => ?_
      have e7 := st.val 7 54 rfl (by kernel_rfl)
      rw [show v 7 = _ from st.φ 7 (by kernel_rfl)] at e7
      simp at e7
      refine ⟨#[.int .i64 (R0.seg : Int)], by go_simp, ?_⟩
      refine Calls.mono (name_any w R0.seg h1 h2) ?_
      rintro e w' ⟨rfl, hE⟩
      exact ⟨rfl, st.inv.call hST hE (by decide) rfl st.off⟩
    case s9 =>
      refine sg_val (x := .string f) rfl rfl rfl (GQ.keep (j := 9) (by decide) rfl) fun γ L v a w st => ?_
      have f6 := st.far 6 (by kernel_rfl)
      simp at f6
      go_simp
    case s10 =>
      refine sg_callv' (x := .int .i64 (R0.D.change (segN R0.seg) fun x => x ++ f).1) (f := 143) rfl rfl rfl fun γ L v a w st => ?_
      have e3 := st.val 3 50 rfl (by kernel_rfl)
      rw [show v 3 = _ from st.φ 3 (by kernel_rfl)] at e3
      simp at e3
      have e8 := st.val 8 55 rfl (by kernel_rfl)
      rw [show v 8 = _ from st.φ 8 (by kernel_rfl)] at e8
      simp at e8
      have e9 := st.val 9 56 rfl (by kernel_rfl)
      rw [show v 9 = _ from st.φ 9 (by kernel_rfl)] at e9
      simp at e9
      refine ⟨#[.pointer (some ⟨d, 0, none⟩), .string (segN R0.seg), .string f], by go_simp, ?_⟩
      refine Calls.mono (append_any w d m R0.D (by have hpw := st.inv.pw; rw [st.off] at hpw; exact hpw) hD.ok (segN R0.seg) f (by omega)) ?_
      rintro e w' ⟨rfl, hC, hd'⟩
      exact ⟨rfl, st.inv.write hC hd' (by intro x hx; cases hx) rfl⟩
    case s11 =>
      refine sg_val (x := .int .i64 (R0.D.change (segN R0.seg) fun x => x ++ f).1) rfl rfl rfl (GQ.keep (j := 11) (by decide) rfl) fun γ L v a w st => ?_
      have e10 := st.val 10 57 rfl (by kernel_rfl)
      rw [show v 10 = _ from st.φ 10 (by kernel_rfl)] at e10
      simp at e10
      go_simp
  case fin =>
    intro γ L v wr hall hG hφ
    have h11 : v 11 = (.int .i64 (R0.D.change (segN R0.seg) fun x => x ++ f).1) := hφ 11 (by decide)
    have hd8 := hG.pw
    rw [hall 10 (by decide)] at hd8
    simp only [if_true] at hd8
    have hC8 := hG.chg
    clear hall hφ hG
    change Exit.then _ _ _ (putAll _ v _ 12) wr
    simp only [putAll, dstOf, Act.put]
    simp only [List.getElem?_toArray, List.getElem?_cons_zero, List.getElem?_cons_succ, Option.bind_some, List.setIfInBounds_toArray, List.set_cons_zero, List.set_cons_succ]
    rw [h11]
    clear h11
    have hA8 := hA.chg hC8 (by rintro (e | e); exact hsd e; exact hsm e)
    have hZ8 := hZ.chg hC8 (by rintro (e | e); exact hzd e; exact hzm e)
    have hch8 := hch.chg hC8 (by rintro (e | e); exact hdc e.symm; exact hmc e.symm)
    have hE8 := hE0'.trans hC8 (fun k _ e => .inr e)
    generalize hR : (R0.D.change (segN R0.seg) fun x => x ++ f) = R at *
    by_cases hr : R.1 = 0
    · have hr1 : (R.1 != 0) = false := by simpa using hr
      have d5 := hA8.cell 5
      have f5 := hA8.frozen 5
      simp only [St.cells, List.getElem?_toArray, List.getElem?_cons_zero, List.getElem?_cons_succ] at d5
      go_wp2_with fail
      have hA11 : At (wr.setCell ⟨s, 5, none⟩ (.bool true)) s 130 (St.cells { R0 with dirty := true } d c) := hA8.set 5 (.bool true)
      have hZ11 := hZ8.far (p := ⟨s, 5, none⟩) (fun e => hzs e.symm) (.bool true)
      obtain ⟨PC, hPC⟩ : ∃ PC : Array Value, PC = (Plc.cells ⟨R0.seg, R0.size, f.size, f.data.toList⟩) := ⟨_, rfl⟩
      have hPs : PC.size = 11 := by rw [hPC]; rfl
      have hP1 : PC.all (·.oneCell') = true := by rw [hPC]; exact plc_one _
      have HPC := Lib.hid hPC
      clear hPC
      obtain ⟨W11, hW11⟩ : ∃ W, wr.setCell ⟨s, 5, none⟩ (.bool true) = W := ⟨_, rfl⟩
      have hC11 : Chg (fun k => k = s ∨ k = d ∨ k = m) w (wr.setCell ⟨s, 5, none⟩ (.bool true)) := Chg.setCell (p := ⟨s, 5, none⟩) (hE8) (.inl (.inl rfl)) _
      have hd11 : DkAt (wr.setCell ⟨s, 5, none⟩ (.bool true)) d m R.2 := ⟨hd8.1.far (p := ⟨s, 5, none⟩) (fun e => hsd e.symm) _, hd8.2.setCell ⟨s, 5, none⟩ _⟩
      have hch11 := hch8.setCell ⟨s, 5, none⟩ (.bool true)
      rw [hW11] at hA11 hZ11 hC11 hd11 hch11 ⊢
      have hST : GQ.St (fun k => W11.heap.size ≤ k) (fun _ _ => True) [⟨13, 0, fun b v w => ∃ g, W11.heap.size ≤ g ∧ v = ptB g ∧ At w g 126 (if b = true then PC else Z11)⟩] := ⟨fun _ _ _ h _ => h, by
        intro gx hx
        rcases List.mem_cons.1 hx with rfl | hx
        · exact fun b v w w' h hE => by obtain ⟨g, a, b, c⟩ := h; exact ⟨g, a, b, c.ext hE⟩
        cases hx⟩
      refine wp_region_phi (Γ := Nat → Value) (sgφ [.val (.pointer (some ⟨s, 0, none⟩)), .val (.pointer (some ⟨s, 0, none⟩)), .val (.pointer (some ⟨s, 3, none⟩)), .val (.int .i64 (R0.seg : Int)), .val (.pointer (some ⟨s, 0, none⟩)), .val (.pointer (some ⟨s, 0, none⟩)), .val (.pointer (some ⟨s, 4, none⟩)), .val (.int .i64 (R0.size : Int)), .val (.string f), .val (.int .i64 (f.size : Int)), .val (.string f), .val (.agg (headV f.data.toList)), .val (.agg PC), .g 0, .any])
        (GQ W11 (fun k => W11.heap.size ≤ k) 14 (fun _ _ => True) [⟨13, 0, fun b v w => ∃ g, W11.heap.size ≤ g ∧ v = ptB g ∧ At w g 126 (if b = true then PC else Z11)⟩])
        (by kernel_rfl) (by kernel_rfl) (by kernel_rfl) (fun _ => undef) (GQ.start _ _ _ _ _ _ (trivial)) ?stepsb ?finb
      case stepsb =>
        show StepsTo _ _ _ _ _ _ 15
        refine ⟨⟨⟨⟨⟨⟨⟨⟨⟨⟨⟨⟨⟨⟨⟨trivial, ?s0⟩, ?s1⟩, ?s2⟩, ?s3⟩, ?s4⟩, ?s5⟩, ?s6⟩, ?s7⟩, ?s8⟩, ?s9⟩, ?s10⟩, ?s11⟩, ?s12⟩, ?s13⟩, ?s14⟩
        case s0 =>
          refine sg_val (x := .pointer (some ⟨s, 0, none⟩)) rfl rfl rfl (GQ.keep (j := 0) (by decide) rfl) fun γ L v a w st => ?_
          have f0 := st.far 0 (by kernel_rfl)
          simp at f0
          go_simp
        case s1 =>
          refine sg_val (x := .pointer (some ⟨s, 0, none⟩)) rfl rfl rfl (GQ.keep (j := 1) (by decide) rfl) fun γ L v a w st => ?_
          have e0 := st.val 0 65 rfl (by kernel_rfl)
          rw [show v 0 = _ from st.φ 0 (by kernel_rfl)] at e0
          simp at e0
          go_simp
        case s2 =>
          refine sg_val (x := .pointer (some ⟨s, 3, none⟩)) rfl rfl rfl (GQ.keep (j := 2) (by decide) rfl) fun γ L v a w st => ?_
          have e1 := st.val 1 66 rfl (by kernel_rfl)
          rw [show v 1 = _ from st.φ 1 (by kernel_rfl)] at e1
          simp at e1
          go_simp
        case s3 =>
          refine sg_val (x := .int .i64 (R0.seg : Int)) rfl rfl rfl (GQ.keep (j := 3) (by decide) rfl) fun γ L v a w st => ?_
          have e2 := st.val 2 67 rfl (by kernel_rfl)
          rw [show v 2 = _ from st.φ 2 (by kernel_rfl)] at e2
          simp at e2
          have hcl := (hA11.ext (st.inv.chg.mono (fun k hk e => by omega))).cell 3
          simp [St.cells] at hcl
          go_simp
        case s4 =>
          refine sg_val (x := .pointer (some ⟨s, 0, none⟩)) rfl rfl rfl (GQ.keep (j := 4) (by decide) rfl) fun γ L v a w st => ?_
          have f0 := st.far 0 (by kernel_rfl)
          simp at f0
          go_simp
        case s5 =>
          refine sg_val (x := .pointer (some ⟨s, 0, none⟩)) rfl rfl rfl (GQ.keep (j := 5) (by decide) rfl) fun γ L v a w st => ?_
          have e4 := st.val 4 69 rfl (by kernel_rfl)
          rw [show v 4 = _ from st.φ 4 (by kernel_rfl)] at e4
          simp at e4
          go_simp
        case s6 =>
          refine sg_val (x := .pointer (some ⟨s, 4, none⟩)) rfl rfl rfl (GQ.keep (j := 6) (by decide) rfl) fun γ L v a w st => ?_
          have e5 := st.val 5 70 rfl (by kernel_rfl)
          rw [show v 5 = _ from st.φ 5 (by kernel_rfl)] at e5
          simp at e5
          go_simp
        case s7 =>
          refine sg_val (x := .int .i64 (R0.size : Int)) rfl rfl rfl (GQ.keep (j := 7) (by decide) rfl) fun γ L v a w st => ?_
          have e6 := st.val 6 71 rfl (by kernel_rfl)
          rw [show v 6 = _ from st.φ 6 (by kernel_rfl)] at e6
          simp at e6
          have hcl := (hA11.ext (st.inv.chg.mono (fun k hk e => by omega))).cell 4
          simp [St.cells] at hcl
          go_simp
        case s8 =>
          refine sg_val (x := .string f) rfl rfl rfl (GQ.keep (j := 8) (by decide) rfl) fun γ L v a w st => ?_
          have f6 := st.far 6 (by kernel_rfl)
          simp at f6
          go_simp
        case s9 =>
          refine sg_val (x := .int .i64 (f.size : Int)) rfl rfl rfl (GQ.keep (j := 9) (by decide) rfl) fun γ L v a w st => ?_
          have e8 := st.val 8 73 rfl (by kernel_rfl)
          rw [show v 8 = _ from st.φ 8 (by kernel_rfl)] at e8
          simp at e8
          go_simp
        case s10 =>
          refine sg_val (x := .string f) rfl rfl rfl (GQ.keep (j := 10) (by decide) rfl) fun γ L v a w st => ?_
          have f6 := st.far 6 (by kernel_rfl)
          simp at f6
          go_simp
        case s11 =>
          refine sg_callv' (x := .agg (headV f.data.toList)) (f := 72) rfl rfl rfl fun γ L v a w st => ?_
          have e10 := st.val 10 75 rfl (by kernel_rfl)
          rw [show v 10 = _ from st.φ 10 (by kernel_rfl)] at e10
          simp at e10
          refine ⟨#[.string f], by go_simp, ?_⟩
          refine Calls.mono (headof_any w f hf8) ?_
          rintro e w' ⟨rfl, hE⟩
          exact ⟨rfl, st.inv.call hST hE (by decide) rfl st.off⟩
        case s12 =>
          refine sg_val (x := .agg PC) rfl rfl rfl (GQ.keep (j := 12) (by decide) rfl) fun γ L v a w st => ?_
          have e3 := st.val 3 68 rfl (by kernel_rfl)
          rw [show v 3 = _ from st.φ 3 (by kernel_rfl)] at e3
          simp at e3
          have e7 := st.val 7 72 rfl (by kernel_rfl)
          rw [show v 7 = _ from st.φ 7 (by kernel_rfl)] at e7
          simp at e7
          have e9 := st.val 9 74 rfl (by kernel_rfl)
          rw [show v 9 = _ from st.φ 9 (by kernel_rfl)] at e9
          simp at e9
          have e11 := st.val 11 76 rfl (by kernel_rfl)
          rw [show v 11 = _ from st.φ 11 (by kernel_rfl)] at e11
          simp at e11
          rw [HPC.out]
          simp only [headV] at e11
          go_simp
          simp [Plc.cells]
        case s13 =>
          refine sg_new (k := 0) rfl rfl rfl (by kernel_rfl) fun γ L v a w st => ?_
          have h14 : L 14 = false := by
            cases hq : L 14 with
            | false => rfl
            | true => have q := st.down 14 13 hq (by kernel_rfl); rw [st.off] at q; cases q
          refine ⟨.pointer (some ⟨w.heap.size, 0, none⟩), w.alloc (.cells #[.int .i64 0, .int .i64 0, .int .i64 0, .int .u8 0, .int .u8 0, .int .u8 0, .int .u8 0, .int .u8 0, .int .u8 0, .int .u8 0, .int .u8 0] 126), by go_simp, st.inv.new hST ((Ext.refl w).alloc _) (by decide) rfl ?_⟩
          intro gx hx hxj
          rcases List.mem_cons.1 hx with rfl | hx
          · rw [h14]; exact ⟨rfl, w.heap.size, st.inv.chg.size, rfl, At.new w _ _⟩
          cases hx
        case s14 =>
          refine sg_skip rfl rfl rfl fun γ L v a w st => ?_
          have e13 := st.val 13 9 rfl (by kernel_rfl)
          rw [show v 13 = _ from st.φ 13 (by kernel_rfl)] at e13
          have hg13 := st.inv.gh ⟨13, 0, fun b v w => ∃ g, W11.heap.size ≤ g ∧ v = ptB g ∧ At w g 126 (if b = true then PC else Z11)⟩ (by simp) (st.dep 13 (by kernel_rfl))
          have e12 := st.val 12 77 rfl (by kernel_rfl)
          rw [show v 12 = _ from st.φ 12 (by kernel_rfl)] at e12
          simp at e12
          obtain ⟨g, hgb, hgv, hgA⟩ := hg13
          rw [st.off] at hgA
          simp only [Bool.false_eq_true, if_false] at hgA
          rw [hgv] at e13
          refine ⟨w.setCells g 0 PC.toList, exec_store_mid (x := .tmp 9) (y := .tmp 77) (cells := PC) rfl (show a.eval (.tmp 9) = _ by simpa [Act.eval, ptB] using e13) (show a.eval (.tmp 77) = _ by simpa [Act.eval] using e12) (by rw [hPs]; exact hgA.there) (by rw [hPs]; exact plc_info) hP1, st.inv.write (Chg.setCells ((Chg.refl (fun k => W11.heap.size ≤ k) w)) hgb _ _) trivial (by intro x hx hn hl; rcases List.mem_cons.1 hx with rfl | hx; exact ⟨g, hgb, hgv, by simp only [if_true]; exact At.cells_all (cs := PC) hgA (by rw [hPs]; rfl)⟩; cases hx) rfl⟩
      case finb =>
        intro γ L v wr hall hG hφ
        have h13 : v 13 = γ 0 := hφ 13 (by decide)
        obtain ⟨g, hgb, hgv, hgA⟩ := hG.gh ⟨13, 0, fun b v w => ∃ g, W11.heap.size ≤ g ∧ v = ptB g ∧ At w g 126 (if b = true then PC else Z11)⟩ (by simp) (hall 13 (by decide))
        rw [hall 14 (by decide)] at hgA
        simp only [if_true] at hgA
        have hE12 : Ext W11 wr := hG.chg.mono (fun k hk e => by omega)
        clear hall hφ hG
        change Exit.then _ _ _ (putAll _ v _ 15) wr
        simp only [putAll, dstOf, Act.put]
        simp only [List.getElem?_toArray, List.getElem?_cons_zero, List.getElem?_cons_succ, Option.bind_some, List.setIfInBounds_toArray, List.set_cons_zero, List.set_cons_succ]
        rw [h13]
        clear h13
        rw [hgv]
        have hA12 := hA11.ext hE12
        have hZ12 := hZ11.ext hE12
        have d4 := hA12.cell 4
        have f4 := hA12.frozen 4
        simp only [St.cells, List.getElem?_toArray, List.getElem?_cons_zero, List.getElem?_cons_succ] at d4
        have hgs : g ≠ s := by have := hA11.lt; omega
        have hzg : zb ≠ g := by have := hZ11.lt; omega
        have hgA2 := hgA.far (p := ⟨s, 4, none⟩) hgs (.int .i64 ((R0.size : Int) + (f.size : Int)))
        have hZA2 := hZ12.far (p := ⟨s, 4, none⟩) (fun e => hzs e.symm) (.int .i64 ((R0.size : Int) + (f.size : Int)))
        have HGR := Lib.hid hgA2.range
        have HZT := Lib.hid hZA2.there
        go_wp2_with (first | (refine wpList_load_mid rfl 126 _ rfl g 0 rfl _ _ HGR.out Tryz.underlying126 rfl (by rw [Array.length_toList, hPs]; exact plc_info) ?_) | (refine wpList_store_mid rfl 126 _ _ rfl zb 0 PC rfl rfl (by rw [hPs]; exact HZT.out) (by rw [hPs]; exact plc_info) hP1 ?_))
        have e1 : R0.plc f = ⟨R0.seg, R0.size, f.size, f.data.toList⟩ := by unfold St.plc; rw [if_pos (by rw [hR]; exact hr)]
        have e2 : R0.add1 f = (0, { R0 with D := R.2, dirty := true, size := R0.size + f.size }) := by unfold St.add1; rw [if_pos (by rw [hR]; exact hr), hR]
        have hl := run_loadVar_mid (P := Tryz.prog) _ zb 0 126 PC.toList _ (hZA2.cells_all (cs := PC) (by rw [hPs]; rfl)).range Tryz.underlying126 rfl (by rw [Array.length_toList, hPs]; exact plc_info)
        rw [Array.toArray_toList] at hl
        refine bodyPost_ret (v := .tuple #[.agg PC, .int .i64 0]) (results_ct (Tryz.results99) _ rfl hl) rfl ?_
        have hCz := chg_setCells (w := wr.setCell ⟨s, 4, none⟩ (.int .i64 ((R0.size : Int) + (f.size : Int)))) (b := zb) PC.toList 0
        rw [HR0.out, e1, e2]
        refine ⟨by rw [HPC.out]; rfl, ?_, ⟨?_, ?_, ?_, hmc⟩⟩
        · refine Chg.trans (S' := fun k => k = zb) ?_ hCz (fun k hk e => by omega)
          refine Chg.setCell (p := ⟨s, 4, none⟩) ?_ (.inl (.inl rfl)) _
          exact hC11.ext_trans hE12
        · have hx := hA12.set 4 (.int .i64 ((R0.size : Int) + (f.size : Int)))
          rw [St.cells_size] at hx
          exact hx.chg hCz hzs
        · have hx : DkAt wr d m R.2 := hd11.ext hE12
          exact ⟨(hx.1.far (p := ⟨s, 4, none⟩) (fun e => hsd e.symm) _).chg hCz (fun e => hzd e.symm), (hx.2.setCell ⟨s, 4, none⟩ _).chg hCz (fun e => hzm e.symm)⟩
        · exact ((hch11.ext hE12).setCell ⟨s, 4, none⟩ _).chg hCz (fun e => hzc e.symm)
    · have hr1 : (R.1 != 0) = true := by simpa using hr
      have hTz := Lib.hid hZ8.there
      go_wp2_with (refine wpList_store_mid rfl 126 _ _ rfl zb 0 Z11 rfl rfl hTz.out plc_info (by simp [Value.oneCell']) ?_)
      have e1 : R0.plc f = ⟨0, 0, 0, []⟩ := by unfold St.plc; rw [if_neg (by rw [hR]; exact hr)]
      have e2 : R0.add1 f = (R.1, { R0 with D := R.2 }) := by unfold St.add1; rw [if_neg (by rw [hR]; exact hr), hR]
      have hl := run_loadVar_mid (P := Tryz.prog) _ zb 0 126 Z11.toList _ (hZ8.cells_all (cs := Z11) rfl).range Tryz.underlying126 rfl plc_info
      refine bodyPost_ret (v := .tuple #[.agg Z11, .int .i64 R.1]) (results_ct (Tryz.results99) _ rfl hl) rfl ?_
      have hCz := chg_setCells (w := wr) (b := zb) Z11.toList 0
      rw [HR0.out, e1, e2]
      refine ⟨rfl, ?_, ⟨?_, ?_, ?_, hmc⟩⟩
      · exact (hE8).trans hCz (fun k hk e => by omega)
      · exact hA8.chg hCz (fun e => hzs e)
      · exact ⟨hd8.1.chg hCz (fun e => hzd e.symm), hd8.2.chg hCz (fun e => hzm e.symm)⟩
      · exact hch8.chg hCz (fun e => hzc e.symm)
set_option maxRecDepth 100000 in
set_option maxHeartbeats 2000000 in
theorem cput_roll (w : World) (s d m c : Nat) (S : St) (h : StAt w s d m c S) (id : Nat) (hid : id < 18446744073709551616) (data : ByteArray) (hd : data.size ≤ 4000) (hdy : S.dirty = false) (hD : S.D.Calm) (h1 : 1 ≤ S.seg) (h2 : S.seg < 99) (hl : S.lim ≤ 1000000) (hsz : S.size ≤ 1000000) (hfl0 : S.D.files.length ≤ 1048576) (hfl : (S.D.get (segN (S.seg + 1))).nx.size ≤ 1000000) (hyes : 0 < S.size ∧ S.lim < S.size + (frec 1 id data).size) (hno : lget (id : Int) S.C = none) (hT : Tab w) (hg : ¬ (0 = s ∨ 0 = d ∨ 0 = m)) :
    Calls Tryz.prog 66 #[.pointer (some ⟨s, 0, none⟩), .int .u64 (id : Int), .string data] w fun e w' =>
      e = .returned (.int .i64 (S.roll.put id data).1) ∧ Chg (fun k => k = s ∨ k = d ∨ k = m ∨ k = c) w w' ∧ StAt w' s d m c (S.roll.put id data).2 := by
  have chas := chas_any w s d m c S h (id : Int)
  rw [hno] at chas
  have cadd := fun w' (hE : Ext w w') => add_roll w' s d m c S (h.ext hE) hD 1 id data (by decide) hid (by omega) hdy hfl0 hyes h1 h2 hl hsz hfl (hT.ext hE) hg
  have hC1 := add1_C S.roll (frec 1 id data)
  unfold St.put
  generalize frec 1 id data = f at *
  have hCr : S.roll.C = S.C := rfl
  generalize S.roll = S2 at *
  generalize S2.add1 f = R at *
  generalize S2.plc f = p at *
  rw [hCr] at hC1 ⊢
  have hl0 : decide ((4000 : Int) < (data.size : Int)) = false := by simp; omega
  have hPs := plc_size p
  have hP1 := plc_one p
  have hpv : p.val = .agg p.cells := rfl
  have cupd := fun w' (hM : MapAt u64Way Plc.val w' c S.C) => chunks_upd hM (id : Int) p
  rw [hpv] at cadd
  generalize p.cells = PC at *
  obtain ⟨RR, hRR⟩ : ∃ RR : Int × St, RR = if R.1 = 0 then (0, { R.2 with C := ((id : Int), p) :: ldel (id : Int) S.C }) else R := ⟨_, rfl⟩
  rw [← hRR]
  have HRR := Lib.hid hRR
  clear hRR
  go_enter Tryz.func66, Tryz.ntmps66
  go_wp2_with fail
  refine chas.mono ?_
  rintro e w1 ⟨rfl, hE1⟩
  clear chas
  have cadd1 := cadd w1 hE1
  clear cadd
  go_wp2_with fail
  refine cadd1.mono ?_
  rintro e w2 ⟨rfl, hC2, hS2⟩
  clear cadd1
  have hE12 := hE1.chg_trans hC2
  have hZ := At.new w2 126 Z11
  have hTz := Lib.hid hZ.there
  have hA3 := hZ.cells_all (cs := PC) (by rw [hPs]; rfl)
  have hE3 := Ext.setCells (b := w2.heap.size) ((Ext.refl w2).alloc (.cells Z11 126)) (Nat.le_refl _) PC.toList 0
  by_cases hr : R.1 = 0
  · have hr1 : (R.1 != 0) = false := by simpa using hr
    have hRR' : RR = (0, { R.2 with C := ((id : Int), p) :: ldel (id : Int) S.C }) := by rw [HRR.out, if_pos hr]
    have HR' := Lib.hid hRR'
    clear hRR'
    go_wp2_with (refine wpList_store_mid rfl 126 _ _ rfl w2.heap.size 0 PC rfl rfl (by rw [hPs]; exact hTz.out) (by rw [hPs]; exact plc_info) hP1 ?_)
    have hS3 := hS2.ext hE3
    have hC3 := hE12.ext_trans hE3
    obtain ⟨zb, hzb⟩ : ∃ zb, w2.heap.size = zb := ⟨_, rfl⟩
    have hzc : zb ≠ c := by have := hS2.ch.lt; omega
    generalize (w2.alloc (.cells Z11 126)).setCells w2.heap.size 0 PC.toList = W at hA3 hE3 hS3 hC3 ⊢
    rw [hzb] at hA3 ⊢
    have hch : MapAt u64Way Plc.val W.drew c S.C := by have := hS3.ch; rw [hC1] at this; exact this
    have hcs := hS3.sc
    have hST : GQ.St (fun k => k = c) (fun b w => MapAt u64Way Plc.val w c (if b = true then ((id : Int), p) :: ldel (id : Int) S.C else S.C)) [] := ⟨fun _ _ _ h hE => h.ext hE, by
      intro gx hx
      cases hx⟩
    refine wp_region_phi (Γ := Nat → Value) (sgφ [.val (.pointer (some ⟨s, 0, none⟩)), .val (.pointer (some ⟨s, 0, none⟩)), .val (.pointer (some ⟨s, 2, none⟩)), .val (.map (some c)), .val (.int .u64 (id : Int)), .val (.agg PC), .any])
      (GQ W (fun k => k = c) 6 (fun b w => MapAt u64Way Plc.val w c (if b = true then ((id : Int), p) :: ldel (id : Int) S.C else S.C)) [])
      (by kernel_rfl) (by kernel_rfl) (by kernel_rfl) (fun _ => undef) (GQ.start _ _ _ _ _ _ (hch)) ?steps ?fin
    case steps =>
      show StepsTo _ _ _ _ _ _ 7
      refine ⟨⟨⟨⟨⟨⟨⟨trivial, ?s0⟩, ?s1⟩, ?s2⟩, ?s3⟩, ?s4⟩, ?s5⟩, ?s6⟩
      case s0 =>
        refine sg_val (x := .pointer (some ⟨s, 0, none⟩)) rfl rfl rfl (GQ.keep (j := 0) (by decide) rfl) fun γ L v a w st => ?_
        have f0 := st.far 0 (by kernel_rfl)
        simp at f0
        go_simp
      case s1 =>
        refine sg_val (x := .pointer (some ⟨s, 0, none⟩)) rfl rfl rfl (GQ.keep (j := 1) (by decide) rfl) fun γ L v a w st => ?_
        have e0 := st.val 0 26 rfl (by kernel_rfl)
        rw [show v 0 = _ from st.φ 0 (by kernel_rfl)] at e0
        simp at e0
        go_simp
      case s2 =>
        refine sg_val (x := .pointer (some ⟨s, 2, none⟩)) rfl rfl rfl (GQ.keep (j := 2) (by decide) rfl) fun γ L v a w st => ?_
        have e1 := st.val 1 27 rfl (by kernel_rfl)
        rw [show v 1 = _ from st.φ 1 (by kernel_rfl)] at e1
        simp at e1
        go_simp
      case s3 =>
        refine sg_val (x := .map (some c)) rfl rfl rfl (GQ.keep (j := 3) (by decide) rfl) fun γ L v a w st => ?_
        have e2 := st.val 2 28 rfl (by kernel_rfl)
        rw [show v 2 = _ from st.φ 2 (by kernel_rfl)] at e2
        simp at e2
        have hcl := (hS3.st.chg st.inv.chg hcs).cell 2
        simp [St.cells] at hcl
        go_simp
      case s4 =>
        refine sg_val (x := .int .u64 (id : Int)) rfl rfl rfl (GQ.keep (j := 4) (by decide) rfl) fun γ L v a w st => ?_
        have f1 := st.far 1 (by kernel_rfl)
        simp at f1
        go_simp
      case s5 =>
        refine sg_val (x := .agg PC) rfl rfl rfl (GQ.keep (j := 5) (by decide) rfl) fun γ L v a w st => ?_
        have f7 := st.far 7 (by kernel_rfl)
        simp at f7
        have hld := exec_load_mid (P := Tryz.prog) (x := .tmp 7) (o := { dst := some 31, op := .load 126 (.tmp 7), type := 126, pos := "", after := #[], guard := none }) rfl (show a.eval (.tmp 7) = _ by simpa [Act.eval] using f7) (hA3.chg st.inv.chg hzc).range Tryz.underlying126 rfl (by rw [Array.length_toList, hPs]; exact plc_info)
        rw [Array.toArray_toList] at hld
        exact hld
      case s6 =>
        refine sg_skip rfl rfl rfl fun γ L v a w st => ?_
        have e3 := st.val 3 29 rfl (by kernel_rfl)
        rw [show v 3 = _ from st.φ 3 (by kernel_rfl)] at e3
        simp at e3
        have e4 := st.val 4 30 rfl (by kernel_rfl)
        rw [show v 4 = _ from st.φ 4 (by kernel_rfl)] at e4
        simp at e4
        have e5 := st.val 5 31 rfl (by kernel_rfl)
        rw [show v 5 = _ from st.φ 5 (by kernel_rfl)] at e5
        simp at e5
        have hpw := st.inv.pw
        rw [st.off] at hpw
        simp only [Bool.false_eq_true, if_false] at hpw
        obtain ⟨w', hrun, hM, hC⟩ := cupd w hpw
        refine ⟨w', by go_simp, st.inv.write hC (by simp only [if_true]; exact hM) (by intro x hx; cases hx) rfl⟩
    case fin =>
      intro γ L v wr hall hG hφ
      have hM8 := hG.pw
      rw [hall 6 (by decide)] at hM8
      simp only [if_true] at hM8
      have hC8 := hG.chg
      clear hall hφ hG
      change Exit.then _ _ _ (putAll _ v _ 7) wr
      simp only [putAll, dstOf, Act.put]
      simp only [List.getElem?_toArray, List.getElem?_cons_zero, List.getElem?_cons_succ, Option.bind_some, List.setIfInBounds_toArray, List.set_cons_zero, List.set_cons_succ]
      go_wp2_with fail
      go_ret
      rw [HR'.out]
      exact ⟨rfl, hC3.mono (fun k _ hk => by rcases hk with h | h | h; exact .inl h; exact .inr (.inl h); exact .inr (.inr (.inl h))) |>.trans hC8 (fun k _ hk => .inr (.inr (.inr hk))), hS3.setC hC8 hM8⟩
  · have hr1 : (R.1 != 0) = true := by simpa using hr
    have hRR' : RR = R := by rw [HRR.out, if_neg hr]
    have HR' := Lib.hid hRR'
    clear hRR'
    go_wp2_with (refine wpList_store_mid rfl 126 _ _ rfl w2.heap.size 0 PC rfl rfl (by rw [hPs]; exact hTz.out) (by rw [hPs]; exact plc_info) hP1 ?_)
    go_ret
    rw [HR'.out]
    exact ⟨rfl, (hE12.ext_trans hE3).mono (fun k _ hk => by rcases hk with h | h | h; exact .inl h; exact .inr (.inl h); exact .inr (.inr (.inl h))), hS2.ext hE3⟩
end Go.Proofs.YtapodcmjggmgmaaGreatDoor
namespace Go.Proofs.YtapodcmjggmgmaaGreatDoor
open Go.RowKit Go.Sort
theorem put_D (T : St) (id : Nat) (data : ByteArray) : (T.put id data).2.D = (T.D.change (segN T.seg) fun x => x ++ frec 1 id data).2 := by
  have h : (T.add1 (frec 1 id data)).2.D = (T.D.change (segN T.seg) fun x => x ++ frec 1 id data).2 := by unfold St.add1; split <;> rfl
  unfold St.put
  split
  · exact h
  · exact h
theorem put_calm {T : St} (hC : T.D.Calm) (hs : T.seg < 20) (hsm : ∀ n, (T.D.get n).nx.size ≤ 20000 ∧ (T.D.get n).sx.size ≤ 20000) (id : Nat) (data : ByteArray) (hd : data.size ≤ 500) : (T.put id data).2.D.Calm := by
  rw [put_D, change_spec hC (segN_ne T.seg (by omega))]
  have hf := frec_size 1 id data
  obtain ⟨h1, h2⟩ := hsm (segN T.seg)
  rcases put_spec hC (n := segN T.seg) (by rw [segN_size (by omega)]; decide) (f := { T.D.get (segN T.seg) with nt := true, nx := (T.D.get (segN T.seg)).nx ++ frec 1 id data }) (by simp only [ByteArray.size_append]; unfold maxLen; omega) (by simp only; unfold maxLen; omega) (by simp) with h | ⟨_, h, _⟩
  · rw [h]; exact hC
  · exact h
theorem filesFrom_length (k : Nat) (Ls : List (List Rec)) : (filesFrom k Ls).length = Ls.length := by
  have := congrArg List.length (nameFrom_files k Ls)
  rw [List.length_map, List.length_map, nameFrom_length] at this
  exact this
theorem cputT_any (w : World) (s d m c : Nat) (Ls : List (List Rec)) (h : StAt w s d m c (stO Ls)) (hG : GoodL Ls) (id : Nat) (hid : id < 18446744073709551616) (data : ByteArray) (hd : data.size ≤ 500) (hl : Ls.length ≤ 14) (ht : tot Ls + (rbs (id, data)).size ≤ 20000) (hi : ∀ y ∈ Ls.flatten, y.1 < id) (hT : Tab w) (hg : ¬ (0 = s ∨ 0 = d ∨ 0 = m)) :
    Calls Tryz.prog 66 #[.pointer (some ⟨s, 0, none⟩), .int .u64 (id : Int), .string data] w fun e w' => ∃ P : St,
      e = .returned (.int .i64 0) ∧ Chg (fun k => k = s ∨ k = d ∨ k = m ∨ k = c) w w' ∧ StAt w' s d m c P ∧ P.sync = stO (layAdd Ls (id, data)) ∧ P.D.Calm ∧ 1 ≤ P.seg ∧ P.seg < 100 ∧ P.D.files.length ≤ 1048576 := by
  have hcalm := dkT_calm hG
  have hno : lget (id : Int) (stO Ls).C = none := GoodL.no (fun x hx e => by have := hi x hx; omega)
  have hsm := dkT_small hG
  have hfs := frec_size 1 id data
  have hr : (rbs (id, data)).size = (frec 1 id data).size := rfl
  rcases snoc_of Ls with rfl | ⟨A, g, rfl⟩
  · have hF : (stO []).Fit (frec 1 id data).size := ⟨hcalm, .inl rfl, by decide, by decide, by decide, by decide, by have := (hsm (segN (stO []).seg)).1; show ((dkT []).get _).nx.size ≤ _; omega⟩
    obtain ⟨h1, h2, h3, h4, h5⟩ := put_first (id, data) (by omega)
    refine (cput_any w s d m c (stO []) h id hid data (by omega) hF hno hT hg).mono ?_
    rintro e w' ⟨rfl, hC, hS⟩
    rw [show ((stO []).put id data).1 = 0 from h1]
    exact ⟨_, rfl, hC, hS, h5, put_calm (T := stO []) hcalm (by decide) hsm id data hd, by rw [show ((stO []).put id data).2.seg = 1 from h3]; decide, by rw [show ((stO []).put id data).2.seg = 1 from h3]; decide, by rw [show ((stO []).put id data).2.D.files.length = 1 from h4]; decide⟩
  · have hA : A.length < 14 := by rw [List.length_append] at hl; simp at hl; omega
    have hseg : (stO (A ++ [g])).seg = A.length + 1 := by simp [stO]
    have hsz : (stO (A ++ [g])).size = sizeG g := lastSize_snoc A g
    have htg := tot_mem (Ls := A ++ [g]) (g := g) (List.mem_append_right _ (List.mem_singleton.2 rfl))
    rw [gB_size] at htg
    rw [layAdd_snoc]
    by_cases hle : sizeG g + (rbs (id, data)).size ≤ 2000
    · rw [if_pos hle]
      have hF : (stO (A ++ [g])).Fit (frec 1 id data).size := ⟨hcalm, .inr (by rw [hsz]; exact hle), by rw [hseg]; omega, by rw [hseg]; omega, by show 2000 ≤ _; decide, by rw [hsz]; omega, by have := (hsm (segN (stO (A ++ [g])).seg)).1; show ((dkT (A ++ [g])).get _).nx.size ≤ _; omega⟩
      obtain ⟨h1, h2, h3, h4, h5⟩ := put_more A g (id, data) (by omega) ht
      refine (cput_any w s d m c (stO (A ++ [g])) h id hid data (by omega) hF hno hT hg).mono ?_
      rintro e w' ⟨rfl, hC, hS⟩
      rw [show ((stO (A ++ [g])).put id data).1 = 0 from h1]
      exact ⟨_, rfl, hC, hS, h5, put_calm (T := stO (A ++ [g])) hcalm (by rw [hseg]; omega) hsm id data hd, by rw [show ((stO (A ++ [g])).put id data).2.seg = _ from h3]; omega, by rw [show ((stO (A ++ [g])).put id data).2.seg = _ from h3]; omega, by rw [show ((stO (A ++ [g])).put id data).2.D.files.length = _ from h4, filesFrom_length]; omega⟩
    · rw [if_neg hle]
      have hg0 : 0 < sizeG g := by
        rcases Nat.eq_zero_or_pos (sizeG g) with h0 | h0
        · omega
        · exact h0
      obtain ⟨h1, h2, h3, h4, h5⟩ := put_roll A g (id, data) (by omega) ht
      refine (cput_roll w s d m c (stO (A ++ [g])) h id hid data (by omega) rfl hcalm (by rw [hseg]; omega) (by rw [hseg]; omega) (by show 2000 ≤ _; decide) (by rw [hsz]; omega) (by show (filesFrom 1 (A ++ [g])).length ≤ _; rw [filesFrom_length]; simp; omega) (by have := (hsm (segN ((stO (A ++ [g])).seg + 1))).1; show ((dkT (A ++ [g])).get _).nx.size ≤ _; omega) ⟨by rw [hsz]; exact hg0, by rw [hsz]; show 2000 < sizeG g + (rbs (id, data)).size; omega⟩ hno hT hg).mono ?_
      rintro e w' ⟨rfl, hC, hS⟩
      rw [show ((stO (A ++ [g])).roll.put id data).1 = 0 from h1]
      exact ⟨_, rfl, hC, hS, h5, put_calm (T := (stO (A ++ [g])).roll) hcalm (by show (stO (A ++ [g])).seg + 1 < 20; rw [hseg]; omega) hsm id data hd, by rw [show ((stO (A ++ [g])).roll.put id data).2.seg = _ from h3]; omega, by rw [show ((stO (A ++ [g])).roll.put id data).2.seg = _ from h3]; omega, by rw [show ((stO (A ++ [g])).roll.put id data).2.D.files.length = _ from h4, filesFrom_length]; simp; omega⟩
def NdO (w : World) (K : Ks) (Ls : List (List Rec)) : Prop := NdAt w K.n K.s K.d K.m K.c (stO Ls) 0 ∧ GoodL Ls
theorem NdO.chg {w w' : World} {K : Ks} {Ls : List (List Rec)} {P : Nat → Prop} (h : NdO w K Ls) (hC : Chg P w w') (hP : ∀ k, P k → ¬ K.has k) : NdO w' K Ls := ⟨h.1.chg hC hP, h.2⟩
theorem NdO.ext {w w' : World} {K : Ks} {Ls : List (List Rec)} (h : NdO w K Ls) (hE : Ext w w') : NdO w' K Ls := h.chg hE (fun _ h => h.elim)
theorem NdO.lt {w : World} {K : Ks} {Ls : List (List Rec)} (h : NdO w K Ls) : ∀ k, K.has k → k < w.heap.size := by
  have h1 := h.1
  rintro k (rfl | rfl | rfl | rfl | rfl)
  · exact h1.nd.lt
  · exact h1.st.st.lt
  · exact h1.st.dk.1.lt
  · exact h1.st.dk.2.lt
  · exact h1.st.ch.lt
set_option maxRecDepth 100000 in
set_option maxHeartbeats 2000000 in
theorem nputT_any (w : World) (K : Ks) (Ls : List (List Rec)) (h : NdO w K Ls) (id : Nat) (hid : id < 18446744073709551616) (data : ByteArray) (hd : data.size ≤ 500) (hl : Ls.length ≤ 14) (ht : tot Ls + (rbs (id, data)).size ≤ 20000) (hi : ∀ y ∈ Ls.flatten, y.1 < id) (hT : Tab w) (hg : ¬ K.has 0) :
    Calls Tryz.prog 33 #[.pointer (some ⟨K.n, 0, none⟩), .int .u64 (id : Int), .string data] w fun e w' => e = .returned (.int .i64 0) ∧ Chg K.has w w' ∧ NdO w' K (layAdd Ls (id, data)) := by
  obtain ⟨hN, hG⟩ := h
  obtain ⟨n, s, d, m, c⟩ := K
  simp only at hN
  simp only [Ks.has, not_or] at hg
  obtain ⟨g1, g2, g3, g4, g5⟩ := hg
  have hadd := (hG.add hl ht ⟨hd, hid⟩ hi).1
  have hno : lget (id : Int) (stO Ls).C = none := GoodL.no (fun x hx e => by have := hi x hx; omega)
  have cu := up_any w n s d m c (stO Ls) 0 hN rfl
  have ch := chas_any w s d m c (stO Ls) hN.st (id : Int)
  rw [hno] at ch
  have c1 : w.cell? ⟨n, 1, none⟩ = some (.pointer (some ⟨s, 0, none⟩)) := hN.nd.cell 1
  have cp := fun w' (hE : Ext w w') => cputT_any w' s d m c Ls (hN.st.ext hE) hG id hid data hd hl ht hi (hT.ext hE) (by rintro (e | e | e); exact g2 e; exact g3 e; exact g4 e)
  have hns := hN.ns
  have hnd := hN.nd'
  have hnm := hN.nm
  have hnc := hN.nc
  go_enter Tryz.func33, Tryz.ntmps33
  go_wp2_with fail
  refine cu.mono ?_
  rintro e w1 ⟨rfl, rfl⟩
  clear cu
  go_wp2_with fail
  refine ch.mono ?_
  rintro e w2 ⟨rfl, hE2⟩
  clear ch
  have cp2 := cp w2 hE2
  clear cp
  have hA2 := hN.nd.ext hE2
  have k1 : w2.cell? ⟨n, 1, none⟩ = some (.pointer (some ⟨s, 0, none⟩)) := hA2.cell 1
  go_wp2_with fail
  refine cp2.mono ?_
  rintro e w3 ⟨P, rfl, hC3, hS3, hsy, hPc, hp1, hp2, hpf⟩
  clear cp2
  have hA3 := hA2.chg hC3 (by rintro (e | e | e | e); exact hns e; exact hnd e; exact hnm e; exact hnc e)
  have hC03 := hE2.chg_trans hC3
  have hCK : Chg (fun k => k = n ∨ k = s ∨ k = d ∨ k = m ∨ k = c) w1 w3 := hC03.mono (fun k _ h => .inr h)
  have k3 : w3.cell? ⟨n, 1, none⟩ = some (.pointer (some ⟨s, 0, none⟩)) := hA3.cell 1
  have cy := csync_any w3 s d m c _ hS3 hPc hp1 hp2 hpf
  rw [hsy] at cy
  go_wp2_with fail
  refine cy.mono ?_
  rintro e w4 ⟨rfl, hC4, hS4⟩
  clear cy
  go_wp2_with fail
  refine (after_any w4 n 0 (by decide)).mono ?_
  rintro e w5 ⟨rfl, rfl⟩
  go_wp2_with fail
  go_ret
  have hA4 := hA3.chg hC4 (by rintro (e | e | e); exact hns e; exact hnd e; exact hnm e)
  exact ⟨rfl, hCK.trans hC4 (fun k _ hk => by rcases hk with h | h | h; exact .inr (.inl h); exact .inr (.inr (.inl h)); exact .inr (.inr (.inr (.inl h)))), ⟨hA4, hS4⟩, hadd⟩
set_option maxRecDepth 100000 in
set_option maxHeartbeats 1000000 in
theorem nnewT_any (w : World) : Calls Tryz.prog 24 #[.int .i64 20000] w fun e w' => ∃ K : Ks, e = .returned (.pointer (some ⟨K.n, 0, none⟩)) ∧ NdO w' K [] ∧ Ext w w' ∧ ∀ k, K.has k → w.heap.size ≤ k := by
  go_enter Tryz.func24, Tryz.ntmps24
  go_wp2_with fail
  refine (new_any 20000 w).mono ?_
  rintro e w1 ⟨d, m, rfl, hdk, hE1, hd, hm⟩
  have hA := At.new w1 41 #[.pointer (some ⟨d, 0, none⟩), .pointer none, .int .i64 0]
  have hE2 := (Ext.refl w1).alloc (.cells #[.pointer (some ⟨d, 0, none⟩), .pointer none, .int .i64 0] 41)
  have hs1 := hE1.size
  have hs2 := hE2.size
  have cn := nopen_any _ _ d m (Dk.new 20000) hA (hdk.ext hE2) (dkT_calm GoodL.nil) rfl
  go_wp2_with fail
  refine cn.mono ?_
  rintro e w2 ⟨s, c, rfl, hs, hc, hC, hN⟩
  clear cn
  go_wp2_with fail
  go_ret
  refine ⟨⟨w1.heap.size, s, d, m, c⟩, rfl, ⟨hN, GoodL.nil⟩, ((hE1.trans hE2).chg_trans hC).mono (fun k hk h => by rcases h with h | h <;> omega), ?_⟩
  intro k hk
  simp only [Ks.has] at hk
  rcases hk with h | h | h | h | h <;> omega
end Go.Proofs.YtapodcmjggmgmaaGreatDoor
