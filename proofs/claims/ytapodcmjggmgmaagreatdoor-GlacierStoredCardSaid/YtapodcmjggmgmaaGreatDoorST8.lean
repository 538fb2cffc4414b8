/-
  Part 8 of what the law leans on.
-/
import Derived.Test.YtapodcmjggmgmaaGreatDoorST1
import Derived.Test.YtapodcmjggmgmaaGreatDoorST2
import Derived.Test.YtapodcmjggmgmaaGreatDoorST5
import Derived.Test.YtapodcmjggmgmaaGreatDoorST7
import Derived.ChangeKeysEq
import Derived.Lib.Builder
import Derived.Lib.AppendStr
import Derived.Laws.AppendOwn
import Derived.WalkSpells
import Derived.WalkLawsBesides
import Derived.BigQuiet
set_option linter.unusedVariables false
set_option linter.unusedSimpArgs false
set_option linter.unusedSectionVars false
namespace Go.Proofs.YtapodcmjggmgmaaGreatDoor
open Go.RowKit Go.Sort
structure St where
  lim : Nat
  D : Dk
  C : List (Int × Plc)
  seg : Nat
  size : Nat
  dirty : Bool
def St.cells (S : St) (d c : Nat) : Array Value := #[.pointer (some ⟨d, 0, none⟩), .int .i64 (S.lim : Int), .map (some c), .int .i64 (S.seg : Int), .int .i64 (S.size : Int), .bool S.dirty]
structure StAt (w : World) (s d m c : Nat) (S : St) : Prop where
  st : At w s 130 (S.cells d c)
  dk : DkAt w d m S.D
  ch : MapAt u64Way Plc.val w c S.C
  ne : m ≠ c
structure Dk.Calm (D : Dk) : Prop where
  ok : D.Ok
  lost : D.lost = false
  armed : D.armed = 0
theorem Dk.Calm.e {D : Dk} (h : D.Calm) : D.e = 0 := by
  unfold Dk.e tryE
  rw [h.lost, h.armed]; rfl
theorem Dk.Calm.tick {D : Dk} (h : D.Calm) : D.tick = D := by
  obtain ⟨room, used, lost, armed, files⟩ := D
  have h1 := h.lost
  have h2 := h.armed
  simp only at h1 h2
  subst h1 h2
  rfl
theorem StAt.ext {w w' : World} {s d m c : Nat} {S : St} (h : StAt w s d m c S) (hE : Ext w w') : StAt w' s d m c S := ⟨h.st.ext hE, h.dk.ext hE, h.ch.ext hE, h.ne⟩
theorem StAt.sd {w : World} {s d m c : Nat} {S : St} (h : StAt w s d m c S) : s ≠ d := h.st.ne h.dk.1 (by decide)
theorem StAt.sm {w : World} {s d m c : Nat} {S : St} (h : StAt w s d m c S) : s ≠ m := fun e => h.dk.2.ne_at h.st e.symm
theorem StAt.sc {w : World} {s d m c : Nat} {S : St} (h : StAt w s d m c S) : s ≠ c := fun e => h.ch.ne_at h.st e.symm
theorem StAt.dc {w : World} {s d m c : Nat} {S : St} (h : StAt w s d m c S) : d ≠ c := fun e => h.ch.ne_at h.dk.1 e.symm
theorem zero_plc (w : World) : (zeroValue 126).run Tryz.prog w = .ok (Plc.val ⟨0, 0, 0, []⟩) w := by kernel_rfl
theorem map_chunks : Tryz.prog.underlying 128 = some (.map 28 126) := by kernel_rfl
theorem key_chunks : Tryz.prog.underlying 28 = some (.int .u64) := by kernel_rfl
theorem plc_info : (Tryz.prog.info? 126).map (·.size) = some 11 := by kernel_rfl
theorem plc_size (p : Plc) : p.cells.size = 11 := rfl
theorem plc_one (p : Plc) : p.cells.all (·.oneCell') = true := by simp [Plc.cells, U8, Value.oneCell']
abbrev Z11 : Array Value := #[.int .i64 0, .int .i64 0, .int .i64 0, .int .u8 0, .int .u8 0, .int .u8 0, .int .u8 0, .int .u8 0, .int .u8 0, .int .u8 0, .int .u8 0]
def St.at_ (S : St) (id : Int) : Plc := (lget id S.C).getD ⟨0, 0, 0, []⟩
theorem StAt.look {w : World} {s d m c : Nat} {S : St} (h : StAt w s d m c S) (id : Int) :
    (Instr.lookup 128 (.map (some c)) (.int .u64 id) true).run Tryz.prog w = .ok (.tuple #[.agg (S.at_ id).cells, .bool (lget id S.C).isSome]) w := by
  have := h.ch.lookup_ok (P := Tryz.prog) (t := 128) (kt := 28) (et := 126) map_chunks key_chunks zero_plc id
  rw [show (Instr.lookup 128 (.map (some c)) (.int .u64 id) true) = (Instr.lookup 128 (.map (some c)) (u64Way.val id) true) from rfl, this]
  unfold St.at_
  cases lget id S.C <;> rfl
set_option maxRecDepth 100000 in
set_option maxHeartbeats 600000 in
theorem chas_any (w : World) (s d m c : Nat) (S : St) (h : StAt w s d m c S) (id : Int) :
    Calls Tryz.prog 35 #[.pointer (some ⟨s, 0, none⟩), .int .u64 id] w fun e w' => e = .returned (.bool (lget id S.C).isSome) ∧ Ext w w' := by
  have hl := h.look id
  have c2 : w.cell? ⟨s, 2, none⟩ = some (.map (some c)) := h.st.cell 2
  have hs := plc_size (S.at_ id)
  have h1 := plc_one (S.at_ id)
  generalize (S.at_ id).cells = X at hl hs h1
  generalize (lget id S.C).isSome = b at hl ⊢
  have hA := At.new w 126 Z11
  have hT := Lib.hid hA.there
  have h11 := plc_info
  rw [← hs] at h11
  have hE := Ext.setCells (b := w.heap.size) ((Ext.refl w).alloc (.cells Z11 126)) (Nat.le_refl _) X.toList 0
  go_enter Tryz.func35, Tryz.ntmps35
  go_wp2_with (refine wpList_store_mid rfl 126 _ _ rfl w.heap.size 0 X rfl rfl (by rw [hs]; exact hT.out) h11 h1 ?_)
  go_ret
  exact ⟨rfl, hE⟩
def St.add1 (S : St) (f : ByteArray) : Int × St :=
  if (S.D.change (segN S.seg) fun x => x ++ f).1 = 0 then (0, { S with D := (S.D.change (segN S.seg) fun x => x ++ f).2, dirty := true, size := S.size + f.size })
  else ((S.D.change (segN S.seg) fun x => x ++ f).1, { S with D := (S.D.change (segN S.seg) fun x => x ++ f).2 })
def St.plc (S : St) (f : ByteArray) : Plc := if (S.D.change (segN S.seg) fun x => x ++ f).1 = 0 then ⟨S.seg, S.size, f.size, f.data.toList⟩ else ⟨0, 0, 0, []⟩
theorem St.cells_size (S : St) (d c n : Nat) : ((St.cells { S with dirty := true } d c).setIfInBounds 4 (.int .i64 ((S.size : Int) + (n : Int)))) = St.cells { S with dirty := true, size := S.size + n } d c := by
  simp [St.cells]
theorem rec3_info : (Tryz.prog.info? 139).map (·.size) = some 3 := by kernel_rfl
set_option maxRecDepth 100000 in
set_option maxHeartbeats 1000000 in
theorem add_here (w : World) (s d m c : Nat) (S : St) (h : StAt w s d m c S) (hD : S.D.Calm) (kind num : Nat) (data : ByteArray) (hk : kind < 18446744073709551616) (hn : num < 18446744073709551616) (hd : data.size ≤ 1000000)
    (hno : S.size = 0 ∨ S.size + (frec kind num data).size ≤ S.lim) (h1 : 1 ≤ S.seg) (h2 : S.seg < 100) (hl : S.lim ≤ 1000000) (hsz : S.size ≤ 1000000) (hfl : (S.D.get (segN S.seg)).nx.size ≤ 1000000) (hT : Tab w) (hg : ¬ (0 = s ∨ 0 = d ∨ 0 = m)) :
    Calls Tryz.prog 99 #[.pointer (some ⟨s, 0, none⟩), .agg #[.int .u64 (kind : Int), .int .u64 (num : Int), .string data]] w fun e w' =>
      e = .returned (.tuple #[(S.plc (frec kind num data)).val, .int .i64 (S.add1 (frec kind num data)).1]) ∧ Chg (fun k => k = s ∨ k = d ∨ k = m) w w' ∧ StAt w' s d m c (S.add1 (frec kind num data)).2 := by
  have hfs := frec_size kind num data
  have hf8 := frec_ge kind num data
  have hcf := fun (w : World) (hT : Tab w) => frec_any w kind num data hk hn hd hT
  generalize frec kind num data = f at *
  have hR0 := At.new w 139 #[.int .u64 (kind : Int), .int .u64 (num : Int), .string data]
  have hZ0 := At.new (w.alloc (.cells #[.int .u64 (kind : Int), .int .u64 (num : Int), .string data] 139)) 126 Z11
  have hE0 := ((Ext.refl w).alloc (.cells #[.int .u64 (kind : Int), .int .u64 (num : Int), .string data] 139)).alloc (.cells Z11 126)
  have hR1 := hR0.alloc (.cells Z11 126)
  have hrg := Lib.hid hR1.range
  have hsz1 : (w.alloc (.cells #[.int .u64 (kind : Int), .int .u64 (num : Int), .string data] 139)).heap.size = w.heap.size + 1 := by simp
  rw [hsz1] at hZ0
  go_enter Tryz.func99, Tryz.ntmps99
  go_wp2_with (refine wpList_load_mid rfl 139 _ rfl w.heap.size 0 rfl _ _ hrg.out Tryz.underlying139 rfl rec3_info ?_)
  have hS0 := h.ext hE0
  have hT0 := hT.ext hE0
  have hzs : s ≠ w.heap.size + 1 := by have := h.st.lt; omega
  have hzd : w.heap.size + 1 ≠ d := by have := h.dk.1.lt; omega
  have hzm : w.heap.size + 1 ≠ m := by have := h.dk.2.lt; omega
  have hzc : w.heap.size + 1 ≠ c := by have := h.ch.lt; omega
  have hmc := h.ne
  have hdc := h.dc
  have hsc := h.sc
  generalize (w.alloc (.cells #[.int .u64 (kind : Int), .int .u64 (num : Int), .string data] 139)).alloc (.cells Z11 126) = w0 at hZ0 hE0 hS0 hT0 ⊢
  obtain ⟨zb, hzb⟩ : ∃ zb, w.heap.size + 1 = zb := ⟨_, rfl⟩
  obtain ⟨rb, hrb⟩ : ∃ rb, w.heap.size = rb := ⟨_, rfl⟩
  rw [hzb] at hZ0 hzs hzd hzm hzc ⊢
  rw [hrb]
  refine (hcf w0 hT0).mono ?_
  rintro e w1 ⟨rfl, hE1⟩
  replace hE0 := hE0.trans hE1
  replace hS0 := hS0.ext hE1
  replace hZ0 := hZ0.ext hE1
  replace hT0 := hT0.ext hE1
  clear hcf hR0 hR1 hrg hsz1 h hT hE1
  have c0 : w1.cell? ⟨s, 0, none⟩ = some (.pointer (some ⟨d, 0, none⟩)) := hS0.st.cell 0
  have c1 : w1.cell? ⟨s, 1, none⟩ = some (.int .i64 (S.lim : Int)) := hS0.st.cell 1
  have c3 : w1.cell? ⟨s, 3, none⟩ = some (.int .i64 (S.seg : Int)) := hS0.st.cell 3
  have c4 : w1.cell? ⟨s, 4, none⟩ = some (.int .i64 (S.size : Int)) := hS0.st.cell 4
  have hlr : f.size ≤ 1000038 := by omega
  have hb : (decide (0 < S.size) = false) ∨ (decide (0 < S.size) = true ∧ decide ((S.lim : Int) < (S.size : Int) + (f.size : Int)) = false) := by
    by_cases hz : S.size = 0
    · exact .inl (by simp; omega)
    · exact .inr ⟨by simp; omega, by simp; omega⟩
  clear hno
  have hsd := hS0.sd
  have hsm := hS0.sm
  rcases hb with g1 | ⟨g1, g2⟩
  all_goals
    go_wp2_with fail
    go_quiet (fail)
    go_wp2_with fail
    have hA := hS0.st.drewN nq
    have hZ := hZ0.drewN nq
    have hE0' := hE0.drewN nq
    have hT0' := hT0.ext ((Ext.refl w1).drewN nq)
    have hdk : DkAt (w1.drewN nq).drew d m S.D := hS0.dk.ext (((Ext.refl w1).drewN nq).drew)
    have hch : MapAt u64Way Plc.val (w1.drewN nq) c S.C := hS0.ch.drewN nq
    generalize w1.drewN nq = W at hA hZ hE0' hT0' hdk hch ⊢
    have hST : GQ.St (fun k => k = d ∨ k = m) (fun b w => DkAt w d m (if b = true then (S.D.change (segN S.seg) fun x => x ++ f).2 else S.D)) [] := ⟨fun _ _ _ h hE => h.ext hE, by
      intro gx hx
      cases hx⟩
    refine wp_region_phi (Γ := Nat → Value) (sgφ [.val (.pointer (some ⟨s, 0, none⟩)), .val (.pointer (some ⟨s, 0, none⟩)), .val (.pointer (some ⟨s, 0, none⟩)), .val (.pointer (some ⟨d, 0, none⟩)), .val (.pointer (some ⟨s, 0, none⟩)), .val (.pointer (some ⟨s, 0, none⟩)), .val (.pointer (some ⟨s, 3, none⟩)), .val (.int .i64 (S.seg : Int)), .val (.string (segN S.seg)), .val (.string f), .val (.int .i64 (S.D.change (segN S.seg) fun x => x ++ f).1), .val (.int .i64 (S.D.change (segN S.seg) fun x => x ++ f).1)])
      (GQ W (fun k => k = d ∨ k = m) 10 (fun b w => DkAt w d m (if b = true then (S.D.change (segN S.seg) fun x => x ++ f).2 else S.D)) [])
      (by kernel_rfl) (by kernel_rfl) (by kernel_rfl) (fun _ => undef) (GQ.start _ _ _ _ _ _ (hdk)) ?steps ?fin
    case steps =>
      show StepsTo _ _ _ _ _ _ 12
      refine ⟨⟨⟨⟨⟨⟨⟨⟨⟨⟨⟨⟨trivial, ?s0⟩, ?s1⟩, ?s2⟩, ?s3⟩, ?s4⟩, ?s5⟩, ?s6⟩, ?s7⟩, ?s8⟩, ?s9⟩, ?s10⟩, ?s11⟩
      case s0 =>
        refine sg_val (x := .pointer (some ⟨s, 0, none⟩)) rfl rfl rfl (GQ.keep (j := 0) (by decide) rfl) fun γ L v a w st => ?_
        have f0 := st.far 0 (by kernel_rfl)
        simp at f0
        go_simp
      case s1 =>
        refine sg_val (x := .pointer (some ⟨s, 0, none⟩)) rfl rfl rfl (GQ.keep (j := 1) (by decide) rfl) fun γ L v a w st => ?_
        have e0 := st.val 0 47 rfl (by kernel_rfl)
        rw [show v 0 = _ from st.φ 0 (by kernel_rfl)] at e0
        simp at e0
        go_simp
      case s2 =>
        refine sg_val (x := .pointer (some ⟨s, 0, none⟩)) rfl rfl rfl (GQ.keep (j := 2) (by decide) rfl) fun γ L v a w st => ?_
        have e1 := st.val 1 48 rfl (by kernel_rfl)
        rw [show v 1 = _ from st.φ 1 (by kernel_rfl)] at e1
        simp at e1
        go_simp
      case s3 =>
        refine sg_val (x := .pointer (some ⟨d, 0, none⟩)) rfl rfl rfl (GQ.keep (j := 3) (by decide) rfl) fun γ L v a w st => ?_
        have e2 := st.val 2 49 rfl (by kernel_rfl)
        rw [show v 2 = _ from st.φ 2 (by kernel_rfl)] at e2
        simp at e2
        have hcl := (hA.chg st.inv.chg (by rintro (e | e); exact hsd e; exact hsm e)).cell 0
        simp [St.cells] at hcl
        go_simp
      case s4 =>
        refine sg_val (x := .pointer (some ⟨s, 0, none⟩)) rfl rfl rfl (GQ.keep (j := 4) (by decide) rfl) fun γ L v a w st => ?_
        have f0 := st.far 0 (by kernel_rfl)
        simp at f0
        go_simp
      case s5 =>
        refine sg_val (x := .pointer (some ⟨s, 0, none⟩)) rfl rfl rfl (GQ.keep (j := 5) (by decide) rfl) fun γ L v a w st => ?_
        have e4 := st.val 4 51 rfl (by kernel_rfl)
        rw [show v 4 = _ from st.φ 4 (by kernel_rfl)] at e4
        simp at e4
        go_simp
      case s6 =>
        refine sg_val (x := .pointer (some ⟨s, 3, none⟩)) rfl rfl rfl (GQ.keep (j := 6) (by decide) rfl) fun γ L v a w st => ?_
        have e5 := st.val 5 52 rfl (by kernel_rfl)
        rw [show v 5 = _ from st.φ 5 (by kernel_rfl)] at e5
        simp at e5
        go_simp
      case s7 =>
        refine sg_val (x := .int .i64 (S.seg : Int)) rfl rfl rfl (GQ.keep (j := 7) (by decide) rfl) fun γ L v a w st => ?_
        have e6 := st.val 6 53 rfl (by kernel_rfl)
        rw [show v 6 = _ from st.φ 6 (by kernel_rfl)] at e6
        simp at e6
        have hcl := (hA.chg st.inv.chg (by rintro (e | e); exact hsd e; exact hsm e)).cell 3
        simp [St.cells] at hcl
        go_simp
      case s8 =>
        refine sg_callv' (x := .string (segN S.seg)) (f := 22) rfl rfl rfl fun γ L v a w st => ?_
        have e7 := st.val 7 54 rfl (by kernel_rfl)
        rw [show v 7 = _ from st.φ 7 (by kernel_rfl)] at e7
        simp at e7
        refine ⟨#[.int .i64 (S.seg : Int)], by go_simp, ?_⟩
        refine Calls.mono (name_any w S.seg h1 h2) ?_
        rintro e w' ⟨rfl, hE⟩
        exact ⟨rfl, st.inv.call hST hE (by decide) rfl st.off⟩
      case s9 =>
        refine sg_val (x := .string f) rfl rfl rfl (GQ.keep (j := 9) (by decide) rfl) fun γ L v a w st => ?_
        have f6 := st.far 6 (by kernel_rfl)
        simp at f6
        go_simp
      case s10 =>
        refine sg_callv' (x := .int .i64 (S.D.change (segN S.seg) fun x => x ++ f).1) (f := 143) rfl rfl rfl fun γ L v a w st => ?_
        have e3 := st.val 3 50 rfl (by kernel_rfl)
        rw [show v 3 = _ from st.φ 3 (by kernel_rfl)] at e3
        simp at e3
        have e8 := st.val 8 55 rfl (by kernel_rfl)
        rw [show v 8 = _ from st.φ 8 (by kernel_rfl)] at e8
        simp at e8
        have e9 := st.val 9 56 rfl (by kernel_rfl)
        rw [show v 9 = _ from st.φ 9 (by kernel_rfl)] at e9
        simp at e9
        refine ⟨#[.pointer (some ⟨d, 0, none⟩), .string (segN S.seg), .string f], by go_simp, ?_⟩
        refine Calls.mono (append_any w d m S.D (by have hpw := st.inv.pw; rw [st.off] at hpw; exact hpw) hD.ok (segN S.seg) f (by omega)) ?_
        rintro e w' ⟨rfl, hC, hd'⟩
        exact ⟨rfl, st.inv.write hC hd' (by intro x hx; cases hx) rfl⟩
      case s11 =>
        refine sg_val (x := .int .i64 (S.D.change (segN S.seg) fun x => x ++ f).1) rfl rfl rfl (GQ.keep (j := 11) (by decide) rfl) fun γ L v a w st => ?_
        have e10 := st.val 10 57 rfl (by kernel_rfl)
        rw [show v 10 = _ from st.φ 10 (by kernel_rfl)] at e10
        simp at e10
        go_simp
    case fin =>
      intro γ L v wr hall hG hφ
      have h11 : v 11 = (.int .i64 (S.D.change (segN S.seg) fun x => x ++ f).1) := hφ 11 (by decide)
      have hd8 := hG.pw
      rw [hall 10 (by decide)] at hd8
      simp only [if_true] at hd8
      have hC8 := hG.chg
      clear hall hφ hG
      change Exit.then _ _ _ (putAll _ v _ 12) wr
      simp only [putAll, dstOf, Act.put]
      simp only [List.getElem?_toArray, List.getElem?_cons_zero, List.getElem?_cons_succ, Option.bind_some, List.setIfInBounds_toArray, List.set_cons_zero, List.set_cons_succ]
      rw [h11]
      clear h11
      have hA8 := hA.chg hC8 (by rintro (e | e); exact hsd e; exact hsm e)
      have hZ8 := hZ.chg hC8 (by rintro (e | e); exact hzd e; exact hzm e)
      have hch8 := hch.chg hC8 (by rintro (e | e); exact hdc e.symm; exact hmc e.symm)
      have hE8 := hE0'.chg_trans hC8
      generalize hR : (S.D.change (segN S.seg) fun x => x ++ f) = R at *
      by_cases hr : R.1 = 0
      · have hr1 : (R.1 != 0) = false := by simpa using hr
        have d5 := hA8.cell 5
        have f5 := hA8.frozen 5
        simp only [St.cells, List.getElem?_toArray, List.getElem?_cons_zero, List.getElem?_cons_succ] at d5
        go_wp2_with fail
        have hA11 : At (wr.setCell ⟨s, 5, none⟩ (.bool true)) s 130 (St.cells { S with dirty := true } d c) := hA8.set 5 (.bool true)
        have hZ11 := hZ8.far (p := ⟨s, 5, none⟩) (fun e => hzs e.symm) (.bool true)
        obtain ⟨PC, hPC⟩ : ∃ PC : Array Value, PC = (Plc.cells ⟨S.seg, S.size, f.size, f.data.toList⟩) := ⟨_, rfl⟩
        have hPs : PC.size = 11 := by rw [hPC]; rfl
        have hP1 : PC.all (·.oneCell') = true := by rw [hPC]; exact plc_one _
        have HPC := Lib.hid hPC
        clear hPC
        obtain ⟨W11, hW11⟩ : ∃ W, wr.setCell ⟨s, 5, none⟩ (.bool true) = W := ⟨_, rfl⟩
        have hC11 : Chg (fun k => k = s ∨ k = d ∨ k = m) w (wr.setCell ⟨s, 5, none⟩ (.bool true)) := Chg.setCell (p := ⟨s, 5, none⟩) (hE8.mono (fun k _ h => .inr h)) (.inl (.inl rfl)) _
        have hd11 : DkAt (wr.setCell ⟨s, 5, none⟩ (.bool true)) d m R.2 := ⟨hd8.1.far (p := ⟨s, 5, none⟩) (fun e => hsd e.symm) _, hd8.2.setCell ⟨s, 5, none⟩ _⟩
        have hch11 := hch8.setCell ⟨s, 5, none⟩ (.bool true)
        rw [hW11] at hA11 hZ11 hC11 hd11 hch11 ⊢
        have hST : GQ.St (fun k => W11.heap.size ≤ k) (fun _ _ => True) [⟨13, 0, fun b v w => ∃ g, W11.heap.size ≤ g ∧ v = ptB g ∧ At w g 126 (if b = true then PC else Z11)⟩] := ⟨fun _ _ _ h _ => h, by
          intro gx hx
          rcases List.mem_cons.1 hx with rfl | hx
          · exact fun b v w w' h hE => by obtain ⟨g, a, b, c⟩ := h; exact ⟨g, a, b, c.ext hE⟩
          cases hx⟩
        refine wp_region_phi (Γ := Nat → Value) (sgφ [.val (.pointer (some ⟨s, 0, none⟩)), .val (.pointer (some ⟨s, 0, none⟩)), .val (.pointer (some ⟨s, 3, none⟩)), .val (.int .i64 (S.seg : Int)), .val (.pointer (some ⟨s, 0, none⟩)), .val (.pointer (some ⟨s, 0, none⟩)), .val (.pointer (some ⟨s, 4, none⟩)), .val (.int .i64 (S.size : Int)), .val (.string f), .val (.int .i64 (f.size : Int)), .val (.string f), .val (.agg (headV f.data.toList)), .val (.agg PC), .g 0, .any])
          (GQ W11 (fun k => W11.heap.size ≤ k) 14 (fun _ _ => True) [⟨13, 0, fun b v w => ∃ g, W11.heap.size ≤ g ∧ v = ptB g ∧ At w g 126 (if b = true then PC else Z11)⟩])
          (by kernel_rfl) (by kernel_rfl) (by kernel_rfl) (fun _ => undef) (GQ.start _ _ _ _ _ _ (trivial)) ?stepsb ?finb
        case stepsb =>
          show StepsTo _ _ _ _ _ _ 15
          refine ⟨⟨⟨⟨⟨⟨⟨⟨⟨⟨⟨⟨⟨⟨⟨trivial, ?s0⟩, ?s1⟩, ?s2⟩, ?s3⟩, ?s4⟩, ?s5⟩, ?s6⟩, ?s7⟩, ?s8⟩, ?s9⟩, ?s10⟩, ?s11⟩, ?s12⟩, ?s13⟩, ?s14⟩
          case s0 =>
            refine sg_val (x := .pointer (some ⟨s, 0, none⟩)) rfl rfl rfl (GQ.keep (j := 0) (by decide) rfl) fun γ L v a w st => ?_
            have f0 := st.far 0 (by kernel_rfl)
            simp at f0
            go_simp
          case s1 =>
            refine sg_val (x := .pointer (some ⟨s, 0, none⟩)) rfl rfl rfl (GQ.keep (j := 1) (by decide) rfl) fun γ L v a w st => ?_
            have e0 := st.val 0 65 rfl (by kernel_rfl)
            rw [show v 0 = _ from st.φ 0 (by kernel_rfl)] at e0
            simp at e0
            go_simp
          case s2 =>
            refine sg_val (x := .pointer (some ⟨s, 3, none⟩)) rfl rfl rfl (GQ.keep (j := 2) (by decide) rfl) fun γ L v a w st => ?_
            have e1 := st.val 1 66 rfl (by kernel_rfl)
            rw [show v 1 = _ from st.φ 1 (by kernel_rfl)] at e1
            simp at e1
            go_simp
          case s3 =>
            refine sg_val (x := .int .i64 (S.seg : Int)) rfl rfl rfl (GQ.keep (j := 3) (by decide) rfl) fun γ L v a w st => ?_
            have e2 := st.val 2 67 rfl (by kernel_rfl)
            rw [show v 2 = _ from st.φ 2 (by kernel_rfl)] at e2
            simp at e2
            have hcl := (hA11.ext (st.inv.chg.mono (fun k hk e => by omega))).cell 3
            simp [St.cells] at hcl
            go_simp
          case s4 =>
            refine sg_val (x := .pointer (some ⟨s, 0, none⟩)) rfl rfl rfl (GQ.keep (j := 4) (by decide) rfl) fun γ L v a w st => ?_
            have f0 := st.far 0 (by kernel_rfl)
            simp at f0
            go_simp
          case s5 =>
            refine sg_val (x := .pointer (some ⟨s, 0, none⟩)) rfl rfl rfl (GQ.keep (j := 5) (by decide) rfl) fun γ L v a w st => ?_
            have e4 := st.val 4 69 rfl (by kernel_rfl)
            rw [show v 4 = _ from st.φ 4 (by kernel_rfl)] at e4
            simp at e4
            go_simp
          case s6 =>
            refine sg_val (x := .pointer (some ⟨s, 4, none⟩)) rfl rfl rfl (GQ.keep (j := 6) (by decide) rfl) fun γ L v a w st => ?_
            have e5 := st.val 5 70 rfl (by kernel_rfl)
            rw [show v 5 = _ from st.φ 5 (by kernel_rfl)] at e5
            simp at e5
            go_simp
          case s7 =>
            refine sg_val (x := .int .i64 (S.size : Int)) rfl rfl rfl (GQ.keep (j := 7) (by decide) rfl) fun γ L v a w st => ?_
            have e6 := st.val 6 71 rfl (by kernel_rfl)
            rw [show v 6 = _ from st.φ 6 (by kernel_rfl)] at e6
            simp at e6
            have hcl := (hA11.ext (st.inv.chg.mono (fun k hk e => by omega))).cell 4
            simp [St.cells] at hcl
            go_simp
          case s8 =>
            refine sg_val (x := .string f) rfl rfl rfl (GQ.keep (j := 8) (by decide) rfl) fun γ L v a w st => ?_
            have f6 := st.far 6 (by kernel_rfl)
            simp at f6
            go_simp
          case s9 =>
            refine sg_val (x := .int .i64 (f.size : Int)) rfl rfl rfl (GQ.keep (j := 9) (by decide) rfl) fun γ L v a w st => ?_
            have e8 := st.val 8 73 rfl (by kernel_rfl)
            rw [show v 8 = _ from st.φ 8 (by kernel_rfl)] at e8
            simp at e8
            go_simp
          case s10 =>
            refine sg_val (x := .string f) rfl rfl rfl (GQ.keep (j := 10) (by decide) rfl) fun γ L v a w st => ?_
            have f6 := st.far 6 (by kernel_rfl)
            simp at f6
            go_simp
          case s11 =>
            refine sg_callv' (x := .agg (headV f.data.toList)) (f := 72) rfl rfl rfl fun γ L v a w st => ?_
            have e10 := st.val 10 75 rfl (by kernel_rfl)
            rw [show v 10 = _ from st.φ 10 (by kernel_rfl)] at e10
            simp at e10
            refine ⟨#[.string f], by go_simp, ?_⟩
            refine Calls.mono (headof_any w f hf8) ?_
            rintro e w' ⟨rfl, hE⟩
            exact ⟨rfl, st.inv.call hST hE (by decide) rfl st.off⟩
          case s12 =>
            refine sg_val (x := .agg PC) rfl rfl rfl (GQ.keep (j := 12) (by decide) rfl) fun γ L v a w st => ?_
            have e3 := st.val 3 68 rfl (by kernel_rfl)
            rw [show v 3 = _ from st.φ 3 (by kernel_rfl)] at e3
            simp at e3
            have e7 := st.val 7 72 rfl (by kernel_rfl)
            rw [show v 7 = _ from st.φ 7 (by kernel_rfl)] at e7
            simp at e7
            have e9 := st.val 9 74 rfl (by kernel_rfl)
            rw [show v 9 = _ from st.φ 9 (by kernel_rfl)] at e9
            simp at e9
            have e11 := st.val 11 76 rfl (by kernel_rfl)
            rw [show v 11 = _ from st.φ 11 (by kernel_rfl)] at e11
            simp at e11
            rw [HPC.out]
            simp only [headV] at e11
            go_simp
            simp [Plc.cells]
          case s13 =>
            refine sg_new (k := 0) rfl rfl rfl (by kernel_rfl) fun γ L v a w st => ?_
            have h14 : L 14 = false := by
              cases hq : L 14 with
              | false => rfl
              | true => have q := st.down 14 13 hq (by kernel_rfl); rw [st.off] at q; cases q
            refine ⟨.pointer (some ⟨w.heap.size, 0, none⟩), w.alloc (.cells #[.int .i64 0, .int .i64 0, .int .i64 0, .int .u8 0, .int .u8 0, .int .u8 0, .int .u8 0, .int .u8 0, .int .u8 0, .int .u8 0, .int .u8 0] 126), by go_simp, st.inv.new hST ((Ext.refl w).alloc _) (by decide) rfl ?_⟩
            intro gx hx hxj
            rcases List.mem_cons.1 hx with rfl | hx
            · rw [h14]; exact ⟨rfl, w.heap.size, st.inv.chg.size, rfl, At.new w _ _⟩
            cases hx
          case s14 =>
            refine sg_skip rfl rfl rfl fun γ L v a w st => ?_
            have e13 := st.val 13 9 rfl (by kernel_rfl)
            rw [show v 13 = _ from st.φ 13 (by kernel_rfl)] at e13
            have hg13 := st.inv.gh ⟨13, 0, fun b v w => ∃ g, W11.heap.size ≤ g ∧ v = ptB g ∧ At w g 126 (if b = true then PC else Z11)⟩ (by simp) (st.dep 13 (by kernel_rfl))
            have e12 := st.val 12 77 rfl (by kernel_rfl)
            rw [show v 12 = _ from st.φ 12 (by kernel_rfl)] at e12
            simp at e12
            obtain ⟨g, hgb, hgv, hgA⟩ := hg13
            rw [st.off] at hgA
            simp only [Bool.false_eq_true, if_false] at hgA
            rw [hgv] at e13
            refine ⟨w.setCells g 0 PC.toList, exec_store_mid (x := .tmp 9) (y := .tmp 77) (cells := PC) rfl (show a.eval (.tmp 9) = _ by simpa [Act.eval, ptB] using e13) (show a.eval (.tmp 77) = _ by simpa [Act.eval] using e12) (by rw [hPs]; exact hgA.there) (by rw [hPs]; exact plc_info) hP1, st.inv.write (Chg.setCells ((Chg.refl (fun k => W11.heap.size ≤ k) w)) hgb _ _) trivial (by intro x hx hn hl; rcases List.mem_cons.1 hx with rfl | hx; exact ⟨g, hgb, hgv, by simp only [if_true]; exact At.cells_all (cs := PC) hgA (by rw [hPs]; rfl)⟩; cases hx) rfl⟩
        case finb =>
          intro γ L v wr hall hG hφ
          have h13 : v 13 = γ 0 := hφ 13 (by decide)
          obtain ⟨g, hgb, hgv, hgA⟩ := hG.gh ⟨13, 0, fun b v w => ∃ g, W11.heap.size ≤ g ∧ v = ptB g ∧ At w g 126 (if b = true then PC else Z11)⟩ (by simp) (hall 13 (by decide))
          rw [hall 14 (by decide)] at hgA
          simp only [if_true] at hgA
          have hE12 : Ext W11 wr := hG.chg.mono (fun k hk e => by omega)
          clear hall hφ hG
          change Exit.then _ _ _ (putAll _ v _ 15) wr
          simp only [putAll, dstOf, Act.put]
          simp only [List.getElem?_toArray, List.getElem?_cons_zero, List.getElem?_cons_succ, Option.bind_some, List.setIfInBounds_toArray, List.set_cons_zero, List.set_cons_succ]
          rw [h13]
          clear h13
          rw [hgv]
          have hA12 := hA11.ext hE12
          have hZ12 := hZ11.ext hE12
          have d4 := hA12.cell 4
          have f4 := hA12.frozen 4
          simp only [St.cells, List.getElem?_toArray, List.getElem?_cons_zero, List.getElem?_cons_succ] at d4
          have hgs : g ≠ s := by have := hA11.lt; omega
          have hzg : zb ≠ g := by have := hZ11.lt; omega
          have hgA2 := hgA.far (p := ⟨s, 4, none⟩) hgs (.int .i64 ((S.size : Int) + (f.size : Int)))
          have hZA2 := hZ12.far (p := ⟨s, 4, none⟩) (fun e => hzs e.symm) (.int .i64 ((S.size : Int) + (f.size : Int)))
          have HGR := Lib.hid hgA2.range
          have HZT := Lib.hid hZA2.there
          go_wp2_with (first | (refine wpList_load_mid rfl 126 _ rfl g 0 rfl _ _ HGR.out Tryz.underlying126 rfl (by rw [Array.length_toList, hPs]; exact plc_info) ?_) | (refine wpList_store_mid rfl 126 _ _ rfl zb 0 PC rfl rfl (by rw [hPs]; exact HZT.out) (by rw [hPs]; exact plc_info) hP1 ?_))
          have e1 : S.plc f = ⟨S.seg, S.size, f.size, f.data.toList⟩ := by unfold St.plc; rw [if_pos (by rw [hR]; exact hr)]
          have e2 : S.add1 f = (0, { S with D := R.2, dirty := true, size := S.size + f.size }) := by unfold St.add1; rw [if_pos (by rw [hR]; exact hr), hR]
          have hl := run_loadVar_mid (P := Tryz.prog) _ zb 0 126 PC.toList _ (hZA2.cells_all (cs := PC) (by rw [hPs]; rfl)).range Tryz.underlying126 rfl (by rw [Array.length_toList, hPs]; exact plc_info)
          rw [Array.toArray_toList] at hl
          refine bodyPost_ret (v := .tuple #[.agg PC, .int .i64 0]) (results_ct (Tryz.results99) _ rfl hl) rfl ?_
          have hCz := chg_setCells (w := wr.setCell ⟨s, 4, none⟩ (.int .i64 ((S.size : Int) + (f.size : Int)))) (b := zb) PC.toList 0
          rw [e1, e2]
          refine ⟨by rw [HPC.out]; rfl, ?_, ⟨?_, ?_, ?_, hmc⟩⟩
          · refine Chg.trans (S' := fun k => k = zb) ?_ hCz (fun k hk e => by omega)
            refine Chg.setCell (p := ⟨s, 4, none⟩) ?_ (.inl (.inl rfl)) _
            exact hC11.ext_trans hE12
          · have hx := hA12.set 4 (.int .i64 ((S.size : Int) + (f.size : Int)))
            rw [St.cells_size] at hx
            exact hx.chg hCz hzs
          · have hx : DkAt wr d m R.2 := hd11.ext hE12
            exact ⟨(hx.1.far (p := ⟨s, 4, none⟩) (fun e => hsd e.symm) _).chg hCz (fun e => hzd e.symm), (hx.2.setCell ⟨s, 4, none⟩ _).chg hCz (fun e => hzm e.symm)⟩
          · exact ((hch11.ext hE12).setCell ⟨s, 4, none⟩ _).chg hCz (fun e => hzc e.symm)
      · have hr1 : (R.1 != 0) = true := by simpa using hr
        have hTz := Lib.hid hZ8.there
        go_wp2_with (refine wpList_store_mid rfl 126 _ _ rfl zb 0 Z11 rfl rfl hTz.out plc_info (by simp [Value.oneCell']) ?_)
        have e1 : S.plc f = ⟨0, 0, 0, []⟩ := by unfold St.plc; rw [if_neg (by rw [hR]; exact hr)]
        have e2 : S.add1 f = (R.1, { S with D := R.2 }) := by unfold St.add1; rw [if_neg (by rw [hR]; exact hr), hR]
        have hl := run_loadVar_mid (P := Tryz.prog) _ zb 0 126 Z11.toList _ (hZ8.cells_all (cs := Z11) rfl).range Tryz.underlying126 rfl plc_info
        refine bodyPost_ret (v := .tuple #[.agg Z11, .int .i64 R.1]) (results_ct (Tryz.results99) _ rfl hl) rfl ?_
        have hCz := chg_setCells (w := wr) (b := zb) Z11.toList 0
        rw [e1, e2]
        refine ⟨rfl, ?_, ⟨?_, ?_, ?_, hmc⟩⟩
        · exact (hE8.mono (fun k _ h => .inr h)).trans hCz (fun k hk e => by omega)
        · exact hA8.chg hCz (fun e => hzs e)
        · exact ⟨hd8.1.chg hCz (fun e => hzd e.symm), hd8.2.chg hCz (fun e => hzm e.symm)⟩
        · exact hch8.chg hCz (fun e => hzc e.symm)
end Go.Proofs.YtapodcmjggmgmaaGreatDoor
namespace Go.Proofs.YtapodcmjggmgmaaGreatDoor
open Go.RowKit Go.Sort
set_option maxRecDepth 100000 in
set_option maxHeartbeats 400000 in
theorem read_calm (w : World) (d m : Nat) (D : Dk) (hD : DkAt w d m D) (hC : D.Calm) (n : ByteArray) (ht : (D.get n).nt = true) :
    Calls Tryz.prog 69 #[.pointer (some ⟨d, 0, none⟩), .string n] w fun e w' => e = .returned (.tuple #[.string (D.get n).nx, .int .i64 0]) ∧ Ext w w' := by
  have c2 : w.cell? ⟨d, 2, none⟩ = some (.bool false) := by rw [hD.1.cell 2]; simp [hC.lost]
  have c3 : w.cell? ⟨d, 2 + 1, none⟩ = some (.int .i64 0) := by rw [hD.1.cell 3]; simp [hC.armed]
  have e4 : w.cell? ⟨d, 4, none⟩ = some (.map (some m)) := hD.1.cell 4
  have cl : (Instr.lookup 46 (.map (some m)) (.string n) false).run Tryz.prog w = .ok (.agg #[.bool (D.get n).nt, .string (D.get n).nx, .bool (D.get n).st, .string (D.get n).sx]) w := hD.look n
  rw [ht] at cl
  have ct := try_calm d 2 w c2 c3
  go_enter Tryz.func69, Tryz.ntmps69
  go_wp2_with fail
  refine ct.mono ?_
  rintro e w1 ⟨rfl, rfl⟩
  clear ct
  go_wp2_with fail
  go_ret2
  exact ⟨rfl, (Ext.refl w1).alloc _⟩
theorem u8_eq (c : UInt8) (w : World) : (Op.equalIn 9999 5 (U8 c) (U8 c)).run Tryz.prog w = .ok true w := by
  show (Op.equalIn (9998 + 1) _ (.int .u8 _) (.int .u8 _)).run _ w = _
  rw [run_equalIn_int w 9998 _ .u8 .u8 _ _ Tryz.underlying5]
  simp
set_option maxRecDepth 100000 in
theorem head_eq (l : List UInt8) (w : World) : (Op.equalIn 10000 124 (.agg (headV l)) (.agg (headV l))).run Tryz.prog w = .ok true w := by
  obtain ⟨i, hi, _⟩ := Option.map_eq_some_iff.1 u8_info
  show (Op.equalIn (9999 + 1) _ _ _).run _ w = _
  rw [run_equalIn_array w 9999 _ _ Tryz.underlying124 hi]
  have e := fun c => u8_eq c w
  have hc : Tryz.prog.cellsOf 5 = 1 := by kernel_rfl
  have p0 : (part 5 (headV l) 0).run Tryz.prog w = .ok (U8 (l.getD 0 0)) w := by unfold headV; go_simp
  have p1 : (part 5 (headV l) 1).run Tryz.prog w = .ok (U8 (l.getD 1 0)) w := by unfold headV; go_simp
  have p2 : (part 5 (headV l) 2).run Tryz.prog w = .ok (U8 (l.getD 2 0)) w := by unfold headV; go_simp
  have p3 : (part 5 (headV l) 3).run Tryz.prog w = .ok (U8 (l.getD 3 0)) w := by unfold headV; go_simp
  have p4 : (part 5 (headV l) 4).run Tryz.prog w = .ok (U8 (l.getD 4 0)) w := by unfold headV; go_simp
  have p5 : (part 5 (headV l) 5).run Tryz.prog w = .ok (U8 (l.getD 5 0)) w := by unfold headV; go_simp
  have p6 : (part 5 (headV l) 6).run Tryz.prog w = .ok (U8 (l.getD 6 0)) w := by unfold headV; go_simp
  have p7 : (part 5 (headV l) 7).run Tryz.prog w = .ok (U8 (l.getD 7 0)) w := by unfold headV; go_simp
  simp only [List.range, List.range.loop, Op.eqItems, hc, Nat.mul_one, Sem.run_bind, p0, p1, p2, p3, p4, p5, p6, p7, e, Result.andThen_ok, Bool.not_true, Bool.false_eq_true, if_false]
  rfl
def Holds (D : Dk) (id : Nat) (p : Plc) (data : ByteArray) : Prop :=
  ∃ n a : Nat, p.seg = (n : Int) ∧ p.at_ = (a : Int) ∧ p.size = ((frec 1 id data).size : Int) ∧ headV p.head = headV (frec 1 id data).data.toList ∧ 1 ≤ n ∧ n < 100 ∧ (D.get (segN n)).nt = true ∧
    (D.get (segN n)).nx.extract a (a + (frec 1 id data).size) = frec 1 id data ∧ a + (frec 1 id data).size ≤ (D.get (segN n)).nx.size ∧ (D.get (segN n)).nx.size ≤ 1000000
theorem lget_at {S : St} {id : Int} {p : Plc} (h : lget id S.C = some p) : S.at_ id = p ∧ (lget id S.C).isSome = true := by
  unfold St.at_; rw [h]; exact ⟨rfl, rfl⟩
set_option maxRecDepth 100000 in
set_option maxHeartbeats 4000000 in
theorem cget_any (w : World) (s d m c : Nat) (S : St) (h : StAt w s d m c S) (hD : S.D.Calm) (id : Nat) (hid : id < 18446744073709551616) (p : Plc) (data : ByteArray) (hd : data.size ≤ 4000) (hp : lget (id : Int) S.C = some p) (hH : Holds S.D id p data) (hT : Tab w) :
    Calls Tryz.prog 38 #[.pointer (some ⟨s, 0, none⟩), .int .u64 (id : Int)] w fun e w' => e = .returned (.tuple #[.string data, .int .i64 0]) ∧ Ext w w' := by
  obtain ⟨n, a, hp1, hp2, hp3, hp4, hn1, hn2, hnt, hex, hle, hxs⟩ := hH
  have hl := h.look (id : Int)
  obtain ⟨l1, l2⟩ := lget_at hp
  rw [l1, l2] at hl
  have hfs := frec_size 1 id data
  have hf8 := frec_ge 1 id data
  have hon := fun (w : World) (hT : Tab w) => only_frame w (frec 1 id data) ⟨(recL 1 id data).toArray⟩ rfl (by show (recL 1 id data).length ≤ _; have := recL_len 1 id data; omega) hT
  have hpa : ∀ w : World, Calls Tryz.prog 73 #[.string ⟨(recL 1 id data).toArray⟩] w fun e w' => e = .returned (.tuple #[.agg #[.int .u64 1, .int .u64 (id : Int), .string data], .bool true]) ∧ Ext w w' := fun w => parse_any w 1 id data (by decide) hid (by omega)
  have hrd := fun (w : World) (hk : DkAt w d m S.D) => read_calm w d m S.D hk hD (segN n) hnt
  obtain ⟨x, hx⟩ : ∃ x, (S.D.get (segN n)).nx = x := ⟨_, rfl⟩
  rw [hx] at hex hle hxs hrd
  generalize frec 1 id data = f at *
  obtain ⟨pseg, pat, psz, phd⟩ := p
  simp only at hp1 hp2 hp3 hp4
  subst hp1 hp2 hp3
  have c2 : w.cell? ⟨s, 2, none⟩ = some (.map (some c)) := h.st.cell 2
  obtain ⟨PC, hPC⟩ : ∃ PC : Array Value, PC = (Plc.cells ⟨n, a, f.size, phd⟩) := ⟨_, rfl⟩
  rw [← hPC] at hl
  have hPs : PC.size = 11 := by rw [hPC]; rfl
  have hP1 : PC.all (·.oneCell') = true := by rw [hPC]; exact plc_one _
  have q0 : PC[0]? = some (.int .i64 (n : Int)) := by rw [hPC]; rfl
  have q1 : PC[1]? = some (.int .i64 (a : Int)) := by rw [hPC]; rfl
  have q2 : PC[2]? = some (.int .i64 (f.size : Int)) := by rw [hPC]; rfl
  have hqh : PC.toList.drop 3 = (headV phd).toList := by rw [hPC]; rfl
  have HPC := Lib.hid hPC
  clear hPC l1 l2 hp
  have hA0 := At.new w 126 Z11
  have hTz := Lib.hid hA0.there
  have hA1 := hA0.cells_all (cs := PC) (by rw [hPs]; rfl)
  have hE1 := Ext.setCells (b := w.heap.size) ((Ext.refl w).alloc (.cells Z11 126)) (Nat.le_refl _) PC.toList 0
  go_enter Tryz.func38, Tryz.ntmps38
  go_wp2_with (refine wpList_store_mid rfl 126 _ _ rfl w.heap.size 0 PC rfl rfl (by rw [hPs]; exact hTz.out) (by rw [hPs]; exact plc_info) hP1 ?_)
  obtain ⟨zb, hzb⟩ : ∃ zb, w.heap.size = zb := ⟨_, rfl⟩
  have hS1 := h.ext hE1
  have hT1 := hT.ext hE1
  generalize (w.alloc (.cells Z11 126)).setCells w.heap.size 0 PC.toList = W at hA1 hE1 hS1 hT1 ⊢
  rw [hzb] at hA1 ⊢
  clear hTz hA0 c2 hl
  have hST : GQ.St (fun _ => False) (fun _ _ => True) [] := ⟨fun _ _ _ h _ => h, by
    intro gx hx
    cases hx⟩
  refine wp_region_phi (Γ := Nat → Value) (sgφ [.val (.pointer (some ⟨s, 0, none⟩)), .val (.pointer (some ⟨s, 0, none⟩)), .val (.pointer (some ⟨s, 0, none⟩)), .val (.pointer (some ⟨d, 0, none⟩)), .val (.pointer (some ⟨zb, 0, none⟩)), .val (.int .i64 (n : Int)), .val (.string (segN n)), .val (.tuple #[.string x, .int .i64 0]), .val (.tuple #[.string x, .int .i64 0]), .val (.string x), .val (.int .i64 0), .val (.string x), .val (.int .i64 0)])
    (GQ W (fun _ => False) 1000 (fun _ _ => True) [])
    (by kernel_rfl) (by kernel_rfl) (by kernel_rfl) (fun _ => undef) (GQ.start _ _ _ _ _ _ (trivial)) ?steps ?fin
  case steps =>
    show StepsTo _ _ _ _ _ _ 13
    refine ⟨⟨⟨⟨⟨⟨⟨⟨⟨⟨⟨⟨⟨trivial, ?s0⟩, ?s1⟩, ?s2⟩, ?s3⟩, ?s4⟩, ?s5⟩, ?s6⟩, ?s7⟩, ?s8⟩, ?s9⟩, ?s10⟩, ?s11⟩, ?s12⟩
    case s0 =>
      refine sg_val (x := .pointer (some ⟨s, 0, none⟩)) rfl rfl rfl (GQ.keep (j := 0) (by decide) rfl) fun γ L v a w st => ?_
      have f0 := st.far 0 (by kernel_rfl)
      simp at f0
      go_simp
    case s1 =>
      refine sg_val (x := .pointer (some ⟨s, 0, none⟩)) rfl rfl rfl (GQ.keep (j := 1) (by decide) rfl) fun γ L v a w st => ?_
      have e0 := st.val 0 25 rfl (by kernel_rfl)
      rw [show v 0 = _ from st.φ 0 (by kernel_rfl)] at e0
      simp at e0
      go_simp
    case s2 =>
      refine sg_val (x := .pointer (some ⟨s, 0, none⟩)) rfl rfl rfl (GQ.keep (j := 2) (by decide) rfl) fun γ L v a w st => ?_
      have e1 := st.val 1 26 rfl (by kernel_rfl)
      rw [show v 1 = _ from st.φ 1 (by kernel_rfl)] at e1
      simp at e1
      go_simp
    case s3 =>
      refine sg_val (x := .pointer (some ⟨d, 0, none⟩)) rfl rfl rfl (GQ.keep (j := 3) (by decide) rfl) fun γ L v a w st => ?_
      have e2 := st.val 2 27 rfl (by kernel_rfl)
      rw [show v 2 = _ from st.φ 2 (by kernel_rfl)] at e2
      simp at e2
      have hcl := (hS1.st.ext (st.inv.off (fun _ h => h))).cell 0
      simp [St.cells] at hcl
      go_simp
    case s4 =>
      refine sg_val (x := .pointer (some ⟨zb, 0, none⟩)) rfl rfl rfl (GQ.keep (j := 4) (by decide) rfl) fun γ L v a w st => ?_
      have f6 := st.far 6 (by kernel_rfl)
      simp at f6
      go_simp
    case s5 =>
      refine sg_val (x := .int .i64 (n : Int)) rfl rfl rfl (GQ.keep (j := 5) (by decide) rfl) fun γ L v a w st => ?_
      have e4 := st.val 4 29 rfl (by kernel_rfl)
      rw [show v 4 = _ from st.φ 4 (by kernel_rfl)] at e4
      simp at e4
      have hcl := ((hA1.ext (st.inv.off (fun _ h => h))).cell 0).trans q0
      go_simp
    case s6 =>
      refine sg_callv' (x := .string (segN n)) (f := 22) rfl rfl rfl fun γ L v a w st => ?_
      have e5 := st.val 5 30 rfl (by kernel_rfl)
      rw [show v 5 = _ from st.φ 5 (by kernel_rfl)] at e5
      simp at e5
      refine ⟨#[.int .i64 (n : Int)], by go_simp, ?_⟩
      refine Calls.mono (name_any w n hn1 hn2) ?_
      rintro e w' ⟨rfl, hE⟩
      exact ⟨rfl, st.inv.call hST hE (by decide) rfl st.off⟩
    case s7 =>
      refine sg_callv' (x := .tuple #[.string x, .int .i64 0]) (f := 69) rfl rfl rfl fun γ L v a w st => ?_
      have e3 := st.val 3 28 rfl (by kernel_rfl)
      rw [show v 3 = _ from st.φ 3 (by kernel_rfl)] at e3
      simp at e3
      have e6 := st.val 6 31 rfl (by kernel_rfl)
      rw [show v 6 = _ from st.φ 6 (by kernel_rfl)] at e6
      simp at e6
      refine ⟨#[.pointer (some ⟨d, 0, none⟩), .string (segN n)], by go_simp, ?_⟩
      refine Calls.mono (hrd w (hS1.dk.ext (st.inv.off (fun _ h => h)))) ?_
      rintro e w' ⟨rfl, hE⟩
      exact ⟨rfl, st.inv.call hST hE (by decide) rfl st.off⟩
    case s8 =>
      refine sg_val (x := .tuple #[.string x, .int .i64 0]) rfl rfl rfl (GQ.keep (j := 8) (by decide) rfl) fun γ L v a w st => ?_
      have e7 := st.val 7 32 rfl (by kernel_rfl)
      rw [show v 7 = _ from st.φ 7 (by kernel_rfl)] at e7
      simp at e7
      go_simp
    case s9 =>
      refine sg_val (x := .string x) rfl rfl rfl (GQ.keep (j := 9) (by decide) rfl) fun γ L v a w st => ?_
      have e8 := st.val 8 24 rfl (by kernel_rfl)
      rw [show v 8 = _ from st.φ 8 (by kernel_rfl)] at e8
      simp at e8
      go_simp
    case s10 =>
      refine sg_val (x := .int .i64 0) rfl rfl rfl (GQ.keep (j := 10) (by decide) rfl) fun γ L v a w st => ?_
      have e8 := st.val 8 24 rfl (by kernel_rfl)
      rw [show v 8 = _ from st.φ 8 (by kernel_rfl)] at e8
      simp at e8
      go_simp
    case s11 =>
      refine sg_val (x := .string x) rfl rfl rfl (GQ.keep (j := 11) (by decide) rfl) fun γ L v a w st => ?_
      have e9 := st.val 9 33 rfl (by kernel_rfl)
      rw [show v 9 = _ from st.φ 9 (by kernel_rfl)] at e9
      simp at e9
      go_simp
    case s12 =>
      refine sg_val (x := .int .i64 0) rfl rfl rfl (GQ.keep (j := 12) (by decide) rfl) fun γ L v a w st => ?_
      have e10 := st.val 10 34 rfl (by kernel_rfl)
      rw [show v 10 = _ from st.φ 10 (by kernel_rfl)] at e10
      simp at e10
      go_simp
  case fin =>
    intro γ L v wr hall hG hφ
    have h11 : v 11 = (.string x) := hφ 11 (by decide)
    have h12 : v 12 = (.int .i64 0) := hφ 12 (by decide)
    have hE := hG.off (fun _ h => h)
    clear hall hφ hG
    change Exit.then _ _ _ (putAll _ v _ 13) wr
    simp only [putAll, dstOf, Act.put]
    simp only [List.getElem?_toArray, List.getElem?_cons_zero, List.getElem?_cons_succ, Option.bind_some, List.setIfInBounds_toArray, List.set_cons_zero, List.set_cons_succ]
    rw [h11, h12]
    clear h11 h12
    have hS2 := hS1.ext hE
    have hA2 := hA1.ext hE
    have hE2 := hE1.trans hE
    have hT2 := hT1.ext hE
    have k1 := (hA2.cell 1).trans q1
    have k2 := (hA2.cell 2).trans q2
    have g1 : decide ((x.size : Int) < (a : Int) + (f.size : Int)) = false := by simp; omega
    go_wp2_with fail
    refine (hon wr hT2).mono ?_
    rintro e w3 ⟨rfl, hE3⟩
    have hA3 := hA2.ext hE3
    have hhr : ∀ w', Ext w3 w' → w'.rangeAt zb 3 (headV f.data.toList).toList := fun w' hE j v hj => by
      have h3 := (hA3.ext hE).range (3 + j) v (by rw [← List.getElem?_drop, hqh, hp4]; exact hj)
      rwa [Nat.zero_add] at h3
    replace hE3 := hE2.trans hE3
    go_wp2_with fail
    have hST : GQ.St (fun _ => False) (fun _ _ => True) [] := ⟨fun _ _ _ h _ => h, by
      intro gx hx
      cases hx⟩
    refine wp_region_phi (Γ := Nat → Value) (sgφ [.val (.int .i64 0), .val (.bool false), .val (.bool false), .val (.string f), .val (.agg (headV f.data.toList)), .val (.pointer (some ⟨zb, 3, none⟩)), .val (.agg (headV f.data.toList)), .val (.bool false), .val (.bool false)])
      (GQ w3 (fun _ => False) 1000 (fun _ _ => True) [])
      (by kernel_rfl) (by kernel_rfl) (by kernel_rfl) (fun _ => undef) (GQ.start _ _ _ _ _ _ (trivial)) ?stepsb ?finb
    case stepsb =>
      show StepsTo _ _ _ _ _ _ 9
      refine ⟨⟨⟨⟨⟨⟨⟨⟨⟨trivial, ?s0⟩, ?s1⟩, ?s2⟩, ?s3⟩, ?s4⟩, ?s5⟩, ?s6⟩, ?s7⟩, ?s8⟩
      case s0 =>
        refine sg_val (x := .int .i64 0) rfl rfl rfl (GQ.keep (j := 0) (by decide) rfl) fun γ L v a w st => ?_
        have f9 := st.far 9 (by kernel_rfl)
        simp at f9
        go_simp
      case s1 =>
        refine sg_val (x := .bool false) rfl rfl rfl (GQ.keep (j := 1) (by decide) rfl) fun γ L v a w st => ?_
        have e0 := st.val 0 60 rfl (by kernel_rfl)
        rw [show v 0 = _ from st.φ 0 (by kernel_rfl)] at e0
        simp at e0
        go_simp
      case s2 =>
        refine sg_val (x := .bool false) rfl rfl rfl (GQ.keep (j := 2) (by decide) rfl) fun γ L v a w st => ?_
        have e1 := st.val 1 61 rfl (by kernel_rfl)
        rw [show v 1 = _ from st.φ 1 (by kernel_rfl)] at e1
        simp at e1
        go_simp
      case s3 =>
        refine sg_val_on (x := .string f) (on := 2) (t := 62) (b := false) rfl rfl (by kernel_rfl) rfl rfl rfl (GQ.keep (j := 3) (by decide) rfl) fun γ L v a w st => ?_
        have f10 := st.far 10 (by kernel_rfl)
        simp at f10
        have e2 := st.val 2 62 rfl (by kernel_rfl)
        rw [show v 2 = _ from st.φ 2 (by kernel_rfl)] at e2
        simp at e2
        go_simp
      case s4 =>
        refine sg_callv_on (x := .agg (headV f.data.toList)) (f := 72) (on := 2) (t := 62) (b := false) rfl rfl (by kernel_rfl) rfl rfl rfl fun γ L v a w st => ?_
        have e3 := st.val 3 63 rfl (by kernel_rfl)
        rw [show v 3 = _ from st.φ 3 (by kernel_rfl)] at e3
        simp at e3
        have e2 := st.val 2 62 rfl (by kernel_rfl)
        rw [show v 2 = _ from st.φ 2 (by kernel_rfl)] at e2
        simp at e2
        refine ⟨#[.string f], by go_simp, ?_⟩
        refine Calls.mono (headof_any w f hf8) ?_
        rintro e w' ⟨rfl, hE⟩
        exact ⟨rfl, st.inv.call hST hE (by decide) rfl st.off⟩
      case s5 =>
        refine sg_val_on (x := .pointer (some ⟨zb, 3, none⟩)) (on := 2) (t := 62) (b := false) rfl rfl (by kernel_rfl) rfl rfl rfl (GQ.keep (j := 5) (by decide) rfl) fun γ L v a w st => ?_
        have f6 := st.far 6 (by kernel_rfl)
        simp at f6
        have e2 := st.val 2 62 rfl (by kernel_rfl)
        rw [show v 2 = _ from st.φ 2 (by kernel_rfl)] at e2
        simp at e2
        go_simp
      case s6 =>
        refine sg_val_on (x := .agg (headV f.data.toList)) (on := 2) (t := 62) (b := false) rfl rfl (by kernel_rfl) rfl rfl rfl (GQ.keep (j := 6) (by decide) rfl) fun γ L v a w st => ?_
        have e5 := st.val 5 65 rfl (by kernel_rfl)
        rw [show v 5 = _ from st.φ 5 (by kernel_rfl)] at e5
        simp at e5
        have e2 := st.val 2 62 rfl (by kernel_rfl)
        rw [show v 2 = _ from st.φ 2 (by kernel_rfl)] at e2
        simp at e2
        have hld := exec_load_mid (P := Tryz.prog) (x := .tmp 65) (o := { dst := some 66, op := .load 124 (.tmp 65), type := 124, pos := "", after := #[], guard := none }) rfl (show a.eval (.tmp 65) = _ by simpa [Act.eval] using e5) (hhr w (st.inv.off (fun _ h => h))) Tryz.underlying124 rfl (by rw [Array.length_toList]; exact arr8_info)
        rw [Array.toArray_toList] at hld
        exact hld
      case s7 =>
        refine sg_val_on (x := .bool false) (on := 2) (t := 62) (b := false) rfl rfl (by kernel_rfl) rfl rfl rfl (GQ.keep (j := 7) (by decide) rfl) fun γ L v a w st => ?_
        have e4 := st.val 4 64 rfl (by kernel_rfl)
        rw [show v 4 = _ from st.φ 4 (by kernel_rfl)] at e4
        simp at e4
        have e6 := st.val 6 66 rfl (by kernel_rfl)
        rw [show v 6 = _ from st.φ 6 (by kernel_rfl)] at e6
        simp at e6
        have e2 := st.val 2 62 rfl (by kernel_rfl)
        rw [show v 2 = _ from st.φ 2 (by kernel_rfl)] at e2
        simp at e2
        have heq := head_eq f.data.toList w
        generalize headV f.data.toList = X at e4 e6 heq
        go_simp
      case s8 =>
        refine sg_val (x := .bool false) rfl rfl rfl (GQ.keep (j := 8) (by decide) rfl) fun γ L v a w st => ?_
        have e2 := st.val 2 62 rfl (by kernel_rfl)
        rw [show v 2 = _ from st.φ 2 (by kernel_rfl)] at e2
        simp at e2
        have e7 := st.val 7 67 rfl (by kernel_rfl)
        rw [show v 7 = _ from st.φ 7 (by kernel_rfl)] at e7
        simp at e7
        go_simp
    case finb =>
      intro γ L v wr hall hG hφ
      have h8 : v 8 = (.bool false) := hφ 8 (by decide)
      have hE := hG.off (fun _ h => h)
      clear hall hφ hG
      change Exit.then _ _ _ (putAll _ v _ 9) wr
      simp only [putAll, dstOf, Act.put]
      simp only [List.getElem?_toArray, List.getElem?_cons_zero, List.getElem?_cons_succ, Option.bind_some, List.setIfInBounds_toArray, List.set_cons_zero, List.set_cons_succ]
      rw [h8]
      clear h8
      replace hE3 := hE3.trans hE
      go_wp2_with fail
      refine (hpa wr).mono ?_
      rintro e w5 ⟨rfl, hE5⟩
      replace hE3 := hE3.trans hE5
      have hB0 := At.new w5 139 #[.int .u64 0, .int .u64 0, .string ⟨#[]⟩]
      have hTb := Lib.hid hB0.there
      have hB1 : At ((w5.alloc (.cells #[.int .u64 0, .int .u64 0, .string ⟨#[]⟩] 139)).setCells w5.heap.size 0 [.int .u64 1, .int .u64 (id : Int), .string data]) w5.heap.size 139 #[.int .u64 1, .int .u64 (id : Int), .string data] := hB0.cells_all (cs := #[.int .u64 1, .int .u64 (id : Int), .string data]) rfl
      have b0 := hB1.cell 0
      have b1 := hB1.cell 1
      have b2 := hB1.cell 2
      simp only [List.getElem?_toArray, List.getElem?_cons_zero, List.getElem?_cons_succ] at b0 b1 b2
      have hE6 := Ext.setCells (b := w5.heap.size) ((Ext.refl w5).alloc (.cells #[.int .u64 0, .int .u64 0, .string ⟨#[]⟩] 139)) (Nat.le_refl _) [.int .u64 1, .int .u64 (id : Int), .string data] 0
      go_wp2_with (refine wpList_store_mid rfl 139 _ _ rfl w5.heap.size 0 #[.int .u64 1, .int .u64 (id : Int), .string data] rfl rfl hTb.out rec3_info (by simp [Value.oneCell']) ?_)
      go_ret2
      exact ⟨rfl, hE3.trans hE6⟩
end Go.Proofs.YtapodcmjggmgmaaGreatDoor
namespace Go.Proofs.YtapodcmjggmgmaaGreatDoor
open Go.RowKit Go.Sort
def St.put (S : St) (id : Nat) (data : ByteArray) : Int × St :=
  if (S.add1 (frec 1 id data)).1 = 0 then (0, { (S.add1 (frec 1 id data)).2 with C := ((id : Int), S.plc (frec 1 id data)) :: ldel (id : Int) S.C }) else S.add1 (frec 1 id data)
def St.sync (S : St) : St := if S.dirty then { S with D := S.D.syncL [segN S.seg], dirty := false } else S
theorem add1_C (S : St) (f : ByteArray) : (S.add1 f).2.C = S.C := by unfold St.add1; split <;> rfl
theorem StAt.setC {w w' : World} {s d m c : Nat} {S : St} (h : StAt w s d m c S) (hC : Chg (fun k => k = c) w w') {C : List (Int × Plc)} (hM : MapAt u64Way Plc.val w' c C) : StAt w' s d m c { S with C := C } :=
  ⟨h.st.chg hC h.sc, ⟨h.dk.1.chg hC h.dc, h.dk.2.chg hC h.ne⟩, hM, h.ne⟩
theorem chunks_upd {w : World} {c : Nat} {C : List (Int × Plc)} (h : MapAt u64Way Plc.val w c C) (id : Int) (p : Plc) :
    ∃ w', (Instr.mapUpdate 128 (.map (some c)) (.int .u64 id) (.agg p.cells)).run Tryz.prog w = .ok () w' ∧ MapAt u64Way Plc.val w' c ((id, p) :: ldel id C) ∧ Chg (· = c) w w' :=
  h.update (K := u64Way) map_chunks key_chunks id p
structure St.Fit (S : St) (n : Nat) : Prop where
  calm : S.D.Calm
  room : S.size = 0 ∨ S.size + n ≤ S.lim
  s1 : 1 ≤ S.seg
  s2 : S.seg < 100
  lim : S.lim ≤ 1000000
  size : S.size ≤ 1000000
  file : (S.D.get (segN S.seg)).nx.size ≤ 1000000
set_option maxRecDepth 100000 in
set_option maxHeartbeats 2000000 in
theorem cput_any (w : World) (s d m c : Nat) (S : St) (h : StAt w s d m c S) (id : Nat) (hid : id < 18446744073709551616) (data : ByteArray) (hd : data.size ≤ 4000) (hf : S.Fit (frec 1 id data).size) (hno : lget (id : Int) S.C = none) (hT : Tab w) (hg : ¬ (0 = s ∨ 0 = d ∨ 0 = m)) :
    Calls Tryz.prog 66 #[.pointer (some ⟨s, 0, none⟩), .int .u64 (id : Int), .string data] w fun e w' =>
      e = .returned (.int .i64 (S.put id data).1) ∧ Chg (fun k => k = s ∨ k = d ∨ k = m ∨ k = c) w w' ∧ StAt w' s d m c (S.put id data).2 := by
  have chas := chas_any w s d m c S h (id : Int)
  rw [hno] at chas
  have cadd := fun w' (hE : Ext w w') => add_here w' s d m c S (h.ext hE) hf.calm 1 id data (by decide) hid (by omega) hf.room hf.s1 hf.s2 hf.lim hf.size hf.file (hT.ext hE) hg
  have hC1 := add1_C S (frec 1 id data)
  unfold St.put
  generalize frec 1 id data = f at *
  generalize S.add1 f = R at *
  generalize S.plc f = p at *
  have hl0 : decide ((4000 : Int) < (data.size : Int)) = false := by simp; omega
  have hPs := plc_size p
  have hP1 := plc_one p
  have hpv : p.val = .agg p.cells := rfl
  have cupd := fun w' (hM : MapAt u64Way Plc.val w' c S.C) => chunks_upd hM (id : Int) p
  rw [hpv] at cadd
  generalize p.cells = PC at *
  obtain ⟨RR, hRR⟩ : ∃ RR : Int × St, RR = if R.1 = 0 then (0, { R.2 with C := ((id : Int), p) :: ldel (id : Int) S.C }) else R := ⟨_, rfl⟩
  rw [← hRR]
  have HRR := Lib.hid hRR
  clear hRR
  go_enter Tryz.func66, Tryz.ntmps66
  go_wp2_with fail
  refine chas.mono ?_
  rintro e w1 ⟨rfl, hE1⟩
  clear chas
  have cadd1 := cadd w1 hE1
  clear cadd
  go_wp2_with fail
  refine cadd1.mono ?_
  rintro e w2 ⟨rfl, hC2, hS2⟩
  clear cadd1
  have hE12 := hE1.chg_trans hC2
  have hZ := At.new w2 126 Z11
  have hTz := Lib.hid hZ.there
  have hA3 := hZ.cells_all (cs := PC) (by rw [hPs]; rfl)
  have hE3 := Ext.setCells (b := w2.heap.size) ((Ext.refl w2).alloc (.cells Z11 126)) (Nat.le_refl _) PC.toList 0
  by_cases hr : R.1 = 0
  · have hr1 : (R.1 != 0) = false := by simpa using hr
    have hRR' : RR = (0, { R.2 with C := ((id : Int), p) :: ldel (id : Int) S.C }) := by rw [HRR.out, if_pos hr]
    have HR' := Lib.hid hRR'
    clear hRR'
    go_wp2_with (refine wpList_store_mid rfl 126 _ _ rfl w2.heap.size 0 PC rfl rfl (by rw [hPs]; exact hTz.out) (by rw [hPs]; exact plc_info) hP1 ?_)
    have hS3 := hS2.ext hE3
    have hC3 := hE12.ext_trans hE3
    obtain ⟨zb, hzb⟩ : ∃ zb, w2.heap.size = zb := ⟨_, rfl⟩
    have hzc : zb ≠ c := by have := hS2.ch.lt; omega
    generalize (w2.alloc (.cells Z11 126)).setCells w2.heap.size 0 PC.toList = W at hA3 hE3 hS3 hC3 ⊢
    rw [hzb] at hA3 ⊢
    have hch : MapAt u64Way Plc.val W.drew c S.C := by have := hS3.ch; rw [hC1] at this; exact this
    have hcs := hS3.sc
    have hST : GQ.St (fun k => k = c) (fun b w => MapAt u64Way Plc.val w c (if b = true then ((id : Int), p) :: ldel (id : Int) S.C else S.C)) [] := ⟨fun _ _ _ h hE => h.ext hE, by
      intro gx hx
      cases hx⟩
    refine wp_region_phi (Γ := Nat → Value) (sgφ [.val (.pointer (some ⟨s, 0, none⟩)), .val (.pointer (some ⟨s, 0, none⟩)), .val (.pointer (some ⟨s, 2, none⟩)), .val (.map (some c)), .val (.int .u64 (id : Int)), .val (.agg PC), .any])
      (GQ W (fun k => k = c) 6 (fun b w => MapAt u64Way Plc.val w c (if b = true then ((id : Int), p) :: ldel (id : Int) S.C else S.C)) [])
      (by kernel_rfl) (by kernel_rfl) (by kernel_rfl) (fun _ => undef) (GQ.start _ _ _ _ _ _ (hch)) ?steps ?fin
    case steps =>
      show StepsTo _ _ _ _ _ _ 7
      refine ⟨⟨⟨⟨⟨⟨⟨trivial, ?s0⟩, ?s1⟩, ?s2⟩, ?s3⟩, ?s4⟩, ?s5⟩, ?s6⟩
      case s0 =>
        refine sg_val (x := .pointer (some ⟨s, 0, none⟩)) rfl rfl rfl (GQ.keep (j := 0) (by decide) rfl) fun γ L v a w st => ?_
        have f0 := st.far 0 (by kernel_rfl)
        simp at f0
        go_simp
      case s1 =>
        refine sg_val (x := .pointer (some ⟨s, 0, none⟩)) rfl rfl rfl (GQ.keep (j := 1) (by decide) rfl) fun γ L v a w st => ?_
        have e0 := st.val 0 26 rfl (by kernel_rfl)
        rw [show v 0 = _ from st.φ 0 (by kernel_rfl)] at e0
        simp at e0
        go_simp
      case s2 =>
        refine sg_val (x := .pointer (some ⟨s, 2, none⟩)) rfl rfl rfl (GQ.keep (j := 2) (by decide) rfl) fun γ L v a w st => ?_
        have e1 := st.val 1 27 rfl (by kernel_rfl)
        rw [show v 1 = _ from st.φ 1 (by kernel_rfl)] at e1
        simp at e1
        go_simp
      case s3 =>
        refine sg_val (x := .map (some c)) rfl rfl rfl (GQ.keep (j := 3) (by decide) rfl) fun γ L v a w st => ?_
        have e2 := st.val 2 28 rfl (by kernel_rfl)
        rw [show v 2 = _ from st.φ 2 (by kernel_rfl)] at e2
        simp at e2
        have hcl := (hS3.st.chg st.inv.chg hcs).cell 2
        simp [St.cells] at hcl
        go_simp
      case s4 =>
        refine sg_val (x := .int .u64 (id : Int)) rfl rfl rfl (GQ.keep (j := 4) (by decide) rfl) fun γ L v a w st => ?_
        have f1 := st.far 1 (by kernel_rfl)
        simp at f1
        go_simp
      case s5 =>
        refine sg_val (x := .agg PC) rfl rfl rfl (GQ.keep (j := 5) (by decide) rfl) fun γ L v a w st => ?_
        have f7 := st.far 7 (by kernel_rfl)
        simp at f7
        have hld := exec_load_mid (P := Tryz.prog) (x := .tmp 7) (o := { dst := some 31, op := .load 126 (.tmp 7), type := 126, pos := "", after := #[], guard := none }) rfl (show a.eval (.tmp 7) = _ by simpa [Act.eval] using f7) (hA3.chg st.inv.chg hzc).range Tryz.underlying126 rfl (by rw [Array.length_toList, hPs]; exact plc_info)
        rw [Array.toArray_toList] at hld
        exact hld
      case s6 =>
        refine sg_skip rfl rfl rfl fun γ L v a w st => ?_
        have e3 := st.val 3 29 rfl (by kernel_rfl)
        rw [show v 3 = _ from st.φ 3 (by kernel_rfl)] at e3
        simp at e3
        have e4 := st.val 4 30 rfl (by kernel_rfl)
        rw [show v 4 = _ from st.φ 4 (by kernel_rfl)] at e4
        simp at e4
        have e5 := st.val 5 31 rfl (by kernel_rfl)
        rw [show v 5 = _ from st.φ 5 (by kernel_rfl)] at e5
        simp at e5
        have hpw := st.inv.pw
        rw [st.off] at hpw
        simp only [Bool.false_eq_true, if_false] at hpw
        obtain ⟨w', hrun, hM, hC⟩ := cupd w hpw
        refine ⟨w', by go_simp, st.inv.write hC (by simp only [if_true]; exact hM) (by intro x hx; cases hx) rfl⟩
    case fin =>
      intro γ L v wr hall hG hφ
      have hM8 := hG.pw
      rw [hall 6 (by decide)] at hM8
      simp only [if_true] at hM8
      have hC8 := hG.chg
      clear hall hφ hG
      change Exit.then _ _ _ (putAll _ v _ 7) wr
      simp only [putAll, dstOf, Act.put]
      simp only [List.getElem?_toArray, List.getElem?_cons_zero, List.getElem?_cons_succ, Option.bind_some, List.setIfInBounds_toArray, List.set_cons_zero, List.set_cons_succ]
      go_wp2_with fail
      go_ret
      rw [HR'.out]
      exact ⟨rfl, hC3.mono (fun k _ hk => by rcases hk with h | h | h; exact .inl h; exact .inr (.inl h); exact .inr (.inr (.inl h))) |>.trans hC8 (fun k _ hk => .inr (.inr (.inr hk))), hS3.setC hC8 hM8⟩
  · have hr1 : (R.1 != 0) = true := by simpa using hr
    have hRR' : RR = R := by rw [HRR.out, if_neg hr]
    have HR' := Lib.hid hRR'
    clear hRR'
    go_wp2_with (refine wpList_store_mid rfl 126 _ _ rfl w2.heap.size 0 PC rfl rfl (by rw [hPs]; exact hTz.out) (by rw [hPs]; exact plc_info) hP1 ?_)
    go_ret
    rw [HR'.out]
    exact ⟨rfl, (hE12.ext_trans hE3).mono (fun k _ hk => by rcases hk with h | h | h; exact .inl h; exact .inr (.inl h); exact .inr (.inr (.inl h))), hS2.ext hE3⟩
theorem sync_calm {D : Dk} (h : D.Calm) {ns : List ByteArray} (hne : ns ≠ []) : D.sync ns = (0, D.syncL ns) := by
  unfold Dk.sync
  rw [if_neg (by simp [h.e]), if_neg hne, h.tick]
set_option maxRecDepth 100000 in
set_option maxHeartbeats 2000000 in
theorem csync_any (w : World) (s d m c : Nat) (S : St) (h : StAt w s d m c S) (hD : S.D.Calm) (h1 : 1 ≤ S.seg) (h2 : S.seg < 100) (hfl : S.D.files.length ≤ 1048576) :
    Calls Tryz.prog 63 #[.pointer (some ⟨s, 0, none⟩)] w fun e w' =>
      e = .returned (.int .i64 0) ∧ Chg (fun k => k = s ∨ k = d ∨ k = m) w w' ∧ StAt w' s d m c S.sync := by
  have c5 : w.cell? ⟨s, 5, none⟩ = some (.bool S.dirty) := h.st.cell 5
  obtain ⟨SS, hSS⟩ : ∃ SS : St, SS = S.sync := ⟨_, rfl⟩
  rw [← hSS]
  have HSS := Lib.hid hSS
  clear hSS
  cases hdy : S.dirty
  · rw [hdy] at c5
    have hx : SS = S := by rw [HSS.out]; unfold St.sync; rw [hdy]; rfl
    have HX := Lib.hid hx
    clear hx
    go_enter Tryz.func63, Tryz.ntmps63
    go_wp2_with fail
    go_ret
    rw [HX.out]
    exact ⟨rfl, Chg.refl _ _, h⟩
  · rw [hdy] at c5
    have hx : SS = { S with D := S.D.syncL [segN S.seg], dirty := false } := by rw [HSS.out]; unfold St.sync; rw [hdy]; rfl
    have HX := Lib.hid hx
    clear hx
    have hsd := h.sd
    have hsm := h.sm
    have hdl := h.dk.1.lt
    have hml := h.dk.2.lt
    go_enter Tryz.func63, Tryz.ntmps63
    go_wp2_with fail
    rename World => W
    have hST : GQ.St (fun k => k = d ∨ k = m) (fun b w => DkAt w d m (if b = true then S.D.syncL [segN S.seg] else S.D)) [⟨9, 0, NewAt W.heap.size 9 #[.string (segN S.seg)] (slB 1 1)⟩] := ⟨fun _ _ _ h hE => h.ext hE, by
      intro gx hx
      rcases List.mem_cons.1 hx with rfl | hx
      · exact fun b _ _ _ h hE => NewAt.ext (b := b) h hE
      cases hx⟩
    refine wp_region_phi (Γ := Nat → Value) (sgφ [.val (.pointer (some ⟨s, 0, none⟩)), .val (.pointer (some ⟨s, 0, none⟩)), .val (.pointer (some ⟨s, 0, none⟩)), .val (.pointer (some ⟨d, 0, none⟩)), .val (.pointer (some ⟨s, 0, none⟩)), .val (.pointer (some ⟨s, 0, none⟩)), .val (.pointer (some ⟨s, 3, none⟩)), .val (.int .i64 (S.seg : Int)), .val (.string (segN S.seg)), .g 0, .val (.int .i64 0), .val (.int .i64 0)])
      (GQ W (fun k => k = d ∨ k = m) 10 (fun b w => DkAt w d m (if b = true then S.D.syncL [segN S.seg] else S.D)) [⟨9, 0, NewAt W.heap.size 9 #[.string (segN S.seg)] (slB 1 1)⟩])
      (by kernel_rfl) (by kernel_rfl) (by kernel_rfl) (fun _ => undef) (GQ.start _ _ _ _ _ _ (h.dk.ext ((Ext.refl W).drew))) ?steps ?fin
    case steps =>
      show StepsTo _ _ _ _ _ _ 12
      refine ⟨⟨⟨⟨⟨⟨⟨⟨⟨⟨⟨⟨trivial, ?s0⟩, ?s1⟩, ?s2⟩, ?s3⟩, ?s4⟩, ?s5⟩, ?s6⟩, ?s7⟩, ?s8⟩, ?s9⟩, ?s10⟩, ?s11⟩
      case s0 =>
        refine sg_val (x := .pointer (some ⟨s, 0, none⟩)) rfl rfl rfl (GQ.keep (j := 0) (by decide) rfl) fun γ L v a w st => ?_
        have f0 := st.far 0 (by kernel_rfl)
        simp at f0
        go_simp
      case s1 =>
        refine sg_val (x := .pointer (some ⟨s, 0, none⟩)) rfl rfl rfl (GQ.keep (j := 1) (by decide) rfl) fun γ L v a w st => ?_
        have e0 := st.val 0 9 rfl (by kernel_rfl)
        rw [show v 0 = _ from st.φ 0 (by kernel_rfl)] at e0
        simp at e0
        go_simp
      case s2 =>
        refine sg_val (x := .pointer (some ⟨s, 0, none⟩)) rfl rfl rfl (GQ.keep (j := 2) (by decide) rfl) fun γ L v a w st => ?_
        have e1 := st.val 1 10 rfl (by kernel_rfl)
        rw [show v 1 = _ from st.φ 1 (by kernel_rfl)] at e1
        simp at e1
        go_simp
      case s3 =>
        refine sg_val (x := .pointer (some ⟨d, 0, none⟩)) rfl rfl rfl (GQ.keep (j := 3) (by decide) rfl) fun γ L v a w st => ?_
        have e2 := st.val 2 11 rfl (by kernel_rfl)
        rw [show v 2 = _ from st.φ 2 (by kernel_rfl)] at e2
        simp at e2
        have hcl := (h.st.chg st.inv.chg (by rintro (e | e); exact hsd e; exact hsm e)).cell 0
        simp [St.cells] at hcl
        go_simp
      case s4 =>
        refine sg_val (x := .pointer (some ⟨s, 0, none⟩)) rfl rfl rfl (GQ.keep (j := 4) (by decide) rfl) fun γ L v a w st => ?_
        have f0 := st.far 0 (by kernel_rfl)
        simp at f0
        go_simp
      case s5 =>
        refine sg_val (x := .pointer (some ⟨s, 0, none⟩)) rfl rfl rfl (GQ.keep (j := 5) (by decide) rfl) fun γ L v a w st => ?_
        have e4 := st.val 4 13 rfl (by kernel_rfl)
        rw [show v 4 = _ from st.φ 4 (by kernel_rfl)] at e4
        simp at e4
        go_simp
      case s6 =>
        refine sg_val (x := .pointer (some ⟨s, 3, none⟩)) rfl rfl rfl (GQ.keep (j := 6) (by decide) rfl) fun γ L v a w st => ?_
        have e5 := st.val 5 14 rfl (by kernel_rfl)
        rw [show v 5 = _ from st.φ 5 (by kernel_rfl)] at e5
        simp at e5
        go_simp
      case s7 =>
        refine sg_val (x := .int .i64 (S.seg : Int)) rfl rfl rfl (GQ.keep (j := 7) (by decide) rfl) fun γ L v a w st => ?_
        have e6 := st.val 6 15 rfl (by kernel_rfl)
        rw [show v 6 = _ from st.φ 6 (by kernel_rfl)] at e6
        simp at e6
        have hcl := (h.st.chg st.inv.chg (by rintro (e | e); exact hsd e; exact hsm e)).cell 3
        simp [St.cells] at hcl
        go_simp
      case s8 =>
        refine sg_callv' (x := .string (segN S.seg)) (f := 22) rfl rfl rfl fun γ L v a w st => ?_
        have e7 := st.val 7 16 rfl (by kernel_rfl)
        rw [show v 7 = _ from st.φ 7 (by kernel_rfl)] at e7
        simp at e7
        refine ⟨#[.int .i64 (S.seg : Int)], by go_simp, ?_⟩
        refine Calls.mono (name_any w S.seg h1 h2) ?_
        rintro e w' ⟨rfl, hE⟩
        exact ⟨rfl, st.inv.call hST hE (by decide) rfl st.off⟩
      case s9 =>
        refine sg_new (k := 0) rfl rfl rfl (by kernel_rfl) fun γ L v a w st => ?_
        have e8 := st.val 8 17 rfl (by kernel_rfl)
        rw [show v 8 = _ from st.φ 8 (by kernel_rfl)] at e8
        simp at e8
        refine ⟨.slice (some ⟨w.heap.size, 0, none⟩) 1 1, w.alloc (.cells #[.string (segN S.seg)] 9), by go_simp, st.inv.new hST ((Ext.refl w).alloc _) (by decide) rfl ?_⟩
        intro gx hx hxj
        rcases List.mem_cons.1 hx with rfl | hx
        · exact ⟨rfl, w.heap.size, st.inv.chg.size, rfl, At.new w _ _⟩
        cases hx
      case s10 =>
        refine sg_callv' (x := .int .i64 0) (f := 100) rfl rfl rfl fun γ L v a w st => ?_
        have e3 := st.val 3 12 rfl (by kernel_rfl)
        rw [show v 3 = _ from st.φ 3 (by kernel_rfl)] at e3
        simp at e3
        have e9 := st.val 9 18 rfl (by kernel_rfl)
        rw [show v 9 = _ from st.φ 9 (by kernel_rfl)] at e9
        have hg9 := st.inv.gh ⟨9, 0, NewAt W.heap.size 9 #[.string (segN S.seg)] (slB 1 1)⟩ (by simp) (st.dep 9 (by kernel_rfl))
        have hpw := st.inv.pw
        rw [st.off] at hpw
        simp only [Bool.false_eq_true, if_false] at hpw
        have hsl : Sl w (γ 0) [.string (segN S.seg)] := NewAt.sl (b := true) (xs := [.string (segN S.seg)]) (c := 1) hg9
        refine ⟨#[.pointer (some ⟨d, 0, none⟩), γ 0], by go_simp, ?_⟩
        refine Calls.mono (sync_any w d m S.D hpw hD.ok (γ 0) [segN S.seg] hsl (by simp [segN_size h2]; decide) (by simp) hfl (fun h => by cases h)) ?_
        rw [sync_calm hD (by simp)]
        rintro e w' ⟨rfl, hC, hd'⟩
        exact ⟨rfl, st.inv.write hC (by simp only [if_true]; exact hd') (by intro x hx hn hl; rcases List.mem_cons.1 hx with rfl | hx; exact NewAt.chg (b := true) (b' := true) hg9 hC (by rintro k (rfl | rfl) <;> assumption); cases hx) rfl⟩
      case s11 =>
        refine sg_val (x := .int .i64 0) rfl rfl rfl (GQ.keep (j := 11) (by decide) rfl) fun γ L v a w st => ?_
        have e10 := st.val 10 19 rfl (by kernel_rfl)
        rw [show v 10 = _ from st.φ 10 (by kernel_rfl)] at e10
        simp at e10
        go_simp
    case fin =>
      intro γ L v wr hall hG hφ
      have h11 : v 11 = (.int .i64 0) := hφ 11 (by decide)
      have hd3 := hG.pw
      rw [hall 10 (by decide)] at hd3
      simp only [if_true] at hd3
      have hC3 := hG.chg
      clear hall hφ hG
      change Exit.then _ _ _ (putAll _ v _ 12) wr
      simp only [putAll, dstOf, Act.put]
      simp only [List.getElem?_toArray, List.getElem?_cons_zero, List.getElem?_cons_succ, Option.bind_some, List.setIfInBounds_toArray, List.set_cons_zero, List.set_cons_succ]
      rw [h11]
      clear h11
      have hA3 := h.st.chg hC3 (by rintro (e | e); exact hsd e; exact hsm e)
      have hch3 := h.ch.chg hC3 (by rintro (e | e); exact h.dc e.symm; exact h.ne e.symm)
      have k5 := hA3.cell 5
      have f5 := hA3.frozen 5
      simp only [St.cells, List.getElem?_toArray, List.getElem?_cons_zero, List.getElem?_cons_succ] at k5
      go_wp2_with fail
      go_ret
      rw [HX.out]
      refine ⟨rfl, Chg.setCell (p := ⟨s, 5, none⟩) (hC3.mono (fun k _ h => .inr h)) (.inl (.inl rfl)) _, ⟨hA3.set 5 (.bool false), ⟨hd3.1.far (p := ⟨s, 5, none⟩) (fun e => hsd e.symm) _, hd3.2.setCell ⟨s, 5, none⟩ _⟩, hch3.setCell ⟨s, 5, none⟩ _, h.ne⟩⟩
end Go.Proofs.YtapodcmjggmgmaaGreatDoor
namespace Go.Proofs.YtapodcmjggmgmaaGreatDoor
open Go.RowKit
end Go.Proofs.YtapodcmjggmgmaaGreatDoor
