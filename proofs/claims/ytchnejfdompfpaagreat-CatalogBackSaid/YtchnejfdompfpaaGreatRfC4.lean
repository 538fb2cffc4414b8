/-
  The document's catalog: a client's command: List.
-/
import Derived.Test.YtchnejfdompfpaaGreatRgW
namespace Go.Proofs.YtchnejfdompfpaaGreat
open Go.RowKit Go.Sort

/-- what comes of a command, as the document's -/
def RcOut (w : World) (R : Pm × Rs) (e : Ending) (w' : World) : Prop :=
  ∃ v nv, e = .returned (.tuple #[v, resV R.2.err R.2.blob R.2.size R.2.sum nv]) ∧ RfIn w' v R.1 ∧ w'.ownsRow 0 9 1 nv R.2.names.length (R.2.names.map Value.string) ∧ Ext w w'
def rArr (v : Value) : Array Value := #[.int .i64 0, .int .u64 0, .int .i64 0, .int .u32 0, v]
theorem rArr_one (A : Option Addr) (n c : Nat) : (rArr (.slice A n c)).all (·.oneCell') = true := by simp [rArr, Value.oneCell']
set_option maxRecDepth 100000 in
set_option maxHeartbeats 8000000 in
theorem rclient_4 (w : World) (v : Value) (P : Pm) (n : Nat) (h : RfIn w v P) (hi : PInv n P) (hn : n ≤ 1000000) (x : Cmd) (dx : Value) (hx : w.ownsRow 0 3 1 dx x.disks.length (x.disks.map (Value.int .i64))) (hk : x.kind = 4) :
    Calls Tryz.prog 63 #[v, cmdVal x dx] w (RcOut w (P, ⟨0, 0, 0, 0, namesL P.L⟩)) := by
  obtain ⟨lv, DV, rfl, hDV, hR⟩ := h
  have hlen : DV.length = P.L.length := by rw [← hDV, List.length_map]
  obtain ⟨A, c, rfl⟩ := own_slc hR.own
  obtain ⟨xA, xc, rfl⟩ := own_slc hx
  have HRF : Hid (RfIn w (.agg (rfArr (.slice A DV.length c) P.vols)) P) := Lib.hid ⟨_, DV, rfl, hDV, hR⟩
  have HX : Hid (rfArr (.slice A DV.length c) P.vols = (.slice A DV.length c :: (P.vols.map vlRow).flatten).toArray) := Lib.hid rfl
  have h37 := rfArr_size (.slice A DV.length c) hi.vlen
  have hone := rfArr_one A DV.length c P.vols
  have HVOL : Hid (∀ v y, P.vols[v]? = some y → (rfArr (.slice A DV.length c) P.vols)[1 + v * 3]? = some (.bool y.closed) ∧ (rfArr (.slice A DV.length c) P.vols)[1 + v * 3 + 1]? = some (.bool y.erase) ∧ (rfArr (.slice A DV.length c) P.vols)[1 + v * 3 + 2]? = some (.int .i64 y.gen)) := Lib.hid (fun v y h => rf_vol h)
  generalize hX : rfArr (.slice A DV.length c) P.vols = X at HX HRF HVOL h37 hone ⊢
  clear hX
  have H37 := Lib.hid h37
  have HONE := Lib.hid hone
  have HI1 : Hid ((Tryz.prog.info? 31).map (·.size) = some X.toList.length) := Lib.hid (by rw [Array.length_toList, h37]; exact rf_cinfo)
  have HI2 : Hid ((Tryz.prog.info? 31).map (·.size) = some X.size) := Lib.hid (by rw [h37]; exact rf_cinfo)
  have hX0 : X[0]? = some (.slice A DV.length c) := by rw [HX.out]; rfl
  have HX0 := Lib.hid hX0
  have HDV := Lib.hid hDV
  have HR := Lib.hid hR
  have HI := Lib.hid hi
  have HXO := Lib.hid hx
  have HK := Lib.hid hk
  clear hDV hlen hR hi hx hk hX0 h37 hone
  unfold cmdVal
  go_enter Tryz.func63, Tryz.ntmps63
  have hB := (((At.new w 31 X).alloc (.cells #[.int .i64 x.kind, .int .i64 x.client, .int .i64 x.seq, .string x.name, .int .u64 (x.blob : Int), .int .i64 x.size, .int .u32 (x.sum : Int), .slice xA x.disks.length xc, .int .i64 x.pool, .int .i64 x.vol, .int .i64 x.at_] 75)).alloc (.cells #[.slice none 0 0, .bool false, .bool false, .int .i64 0, .bool false, .bool false, .int .i64 0, .bool false, .bool false, .int .i64 0, .bool false, .bool false, .int .i64 0, .bool false, .bool false, .int .i64 0, .bool false, .bool false, .int .i64 0, .bool false, .bool false, .int .i64 0, .bool false, .bool false, .int .i64 0, .bool false, .bool false, .int .i64 0, .bool false, .bool false, .int .i64 0, .bool false, .bool false, .int .i64 0, .bool false, .bool false, .int .i64 0] 31)).alloc (.cells #[.int .i64 0, .int .u64 0, .int .i64 0, .int .u32 0, .slice none 0 0] 72)
  have hY := ((At.new (w.alloc (.cells X 31)) 75 #[.int .i64 x.kind, .int .i64 x.client, .int .i64 x.seq, .string x.name, .int .u64 (x.blob : Int), .int .i64 x.size, .int .u32 (x.sum : Int), .slice xA x.disks.length xc, .int .i64 x.pool, .int .i64 x.vol, .int .i64 x.at_]).alloc (.cells #[.slice none 0 0, .bool false, .bool false, .int .i64 0, .bool false, .bool false, .int .i64 0, .bool false, .bool false, .int .i64 0, .bool false, .bool false, .int .i64 0, .bool false, .bool false, .int .i64 0, .bool false, .bool false, .int .i64 0, .bool false, .bool false, .int .i64 0, .bool false, .bool false, .int .i64 0, .bool false, .bool false, .int .i64 0, .bool false, .bool false, .int .i64 0, .bool false, .bool false, .int .i64 0, .bool false, .bool false, .int .i64 0] 31)).alloc (.cells #[.int .i64 0, .int .u64 0, .int .i64 0, .int .u32 0, .slice none 0 0] 72)
  have hC := (At.new ((w.alloc (.cells X 31)).alloc (.cells #[.int .i64 x.kind, .int .i64 x.client, .int .i64 x.seq, .string x.name, .int .u64 (x.blob : Int), .int .i64 x.size, .int .u32 (x.sum : Int), .slice xA x.disks.length xc, .int .i64 x.pool, .int .i64 x.vol, .int .i64 x.at_] 75)) 31 #[.slice none 0 0, .bool false, .bool false, .int .i64 0, .bool false, .bool false, .int .i64 0, .bool false, .bool false, .int .i64 0, .bool false, .bool false, .int .i64 0, .bool false, .bool false, .int .i64 0, .bool false, .bool false, .int .i64 0, .bool false, .bool false, .int .i64 0, .bool false, .bool false, .int .i64 0, .bool false, .bool false, .int .i64 0, .bool false, .bool false, .int .i64 0, .bool false, .bool false, .int .i64 0, .bool false, .bool false, .int .i64 0]).alloc (.cells #[.int .i64 0, .int .u64 0, .int .i64 0, .int .u32 0, .slice none 0 0] 72)
  have hS := At.new (((w.alloc (.cells X 31)).alloc (.cells #[.int .i64 x.kind, .int .i64 x.client, .int .i64 x.seq, .string x.name, .int .u64 (x.blob : Int), .int .i64 x.size, .int .u32 (x.sum : Int), .slice xA x.disks.length xc, .int .i64 x.pool, .int .i64 x.vol, .int .i64 x.at_] 75)).alloc (.cells #[.slice none 0 0, .bool false, .bool false, .int .i64 0, .bool false, .bool false, .int .i64 0, .bool false, .bool false, .int .i64 0, .bool false, .bool false, .int .i64 0, .bool false, .bool false, .int .i64 0, .bool false, .bool false, .int .i64 0, .bool false, .bool false, .int .i64 0, .bool false, .bool false, .int .i64 0, .bool false, .bool false, .int .i64 0, .bool false, .bool false, .int .i64 0, .bool false, .bool false, .int .i64 0, .bool false, .bool false, .int .i64 0] 31)) 72 #[.int .i64 0, .int .u64 0, .int .i64 0, .int .u32 0, .slice none 0 0]
  have hE := ((((Ext.refl w).alloc (.cells X 31)).alloc (.cells #[.int .i64 x.kind, .int .i64 x.client, .int .i64 x.seq, .string x.name, .int .u64 (x.blob : Int), .int .i64 x.size, .int .u32 (x.sum : Int), .slice xA x.disks.length xc, .int .i64 x.pool, .int .i64 x.vol, .int .i64 x.at_] 75)).alloc (.cells #[.slice none 0 0, .bool false, .bool false, .int .i64 0, .bool false, .bool false, .int .i64 0, .bool false, .bool false, .int .i64 0, .bool false, .bool false, .int .i64 0, .bool false, .bool false, .int .i64 0, .bool false, .bool false, .int .i64 0, .bool false, .bool false, .int .i64 0, .bool false, .bool false, .int .i64 0, .bool false, .bool false, .int .i64 0, .bool false, .bool false, .int .i64 0, .bool false, .bool false, .int .i64 0, .bool false, .bool false, .int .i64 0] 31)).alloc (.cells #[.int .i64 0, .int .u64 0, .int .i64 0, .int .u32 0, .slice none 0 0] 72)
  rw [show (w.alloc (.cells X 31)).heap.size = w.heap.size + 1 by simp] at hY
  rw [show ((w.alloc (.cells X 31)).alloc (.cells #[.int .i64 x.kind, .int .i64 x.client, .int .i64 x.seq, .string x.name, .int .u64 (x.blob : Int), .int .i64 x.size, .int .u32 (x.sum : Int), .slice xA x.disks.length xc, .int .i64 x.pool, .int .i64 x.vol, .int .i64 x.at_] 75)).heap.size = w.heap.size + 1 + 1 by simp] at hC
  rw [show (((w.alloc (.cells X 31)).alloc (.cells #[.int .i64 x.kind, .int .i64 x.client, .int .i64 x.seq, .string x.name, .int .u64 (x.blob : Int), .int .i64 x.size, .int .u32 (x.sum : Int), .slice xA x.disks.length xc, .int .i64 x.pool, .int .i64 x.vol, .int .i64 x.at_] 75)).alloc (.cells #[.slice none 0 0, .bool false, .bool false, .int .i64 0, .bool false, .bool false, .int .i64 0, .bool false, .bool false, .int .i64 0, .bool false, .bool false, .int .i64 0, .bool false, .bool false, .int .i64 0, .bool false, .bool false, .int .i64 0, .bool false, .bool false, .int .i64 0, .bool false, .bool false, .int .i64 0, .bool false, .bool false, .int .i64 0, .bool false, .bool false, .int .i64 0, .bool false, .bool false, .int .i64 0, .bool false, .bool false, .int .i64 0] 31)).heap.size = w.heap.size + 1 + 1 + 1 by simp] at hS
  go_upto_region 1 with fail
  obtain ⟨xb, hxb⟩ : ∃ xb, w.heap.size = xb := ⟨_, rfl⟩
  rw [hxb] at hB hY hC hS ⊢
  generalize World.alloc _ _ = W at hB hY hC hS hE ⊢
  have HXB := Lib.hid (show w.heap.size ≤ xb by omega)
  clear hxb
  have HZ : Hid ((#[.slice none 0 0, .bool false, .bool false, .int .i64 0, .bool false, .bool false, .int .i64 0, .bool false, .bool false, .int .i64 0, .bool false, .bool false, .int .i64 0, .bool false, .bool false, .int .i64 0, .bool false, .bool false, .int .i64 0, .bool false, .bool false, .int .i64 0, .bool false, .bool false, .int .i64 0, .bool false, .bool false, .int .i64 0, .bool false, .bool false, .int .i64 0, .bool false, .bool false, .int .i64 0, .bool false, .bool false, .int .i64 0] : Array Value).size = 37) := Lib.hid rfl
  generalize (#[.slice none 0 0, .bool false, .bool false, .int .i64 0, .bool false, .bool false, .int .i64 0, .bool false, .bool false, .int .i64 0, .bool false, .bool false, .int .i64 0, .bool false, .bool false, .int .i64 0, .bool false, .bool false, .int .i64 0, .bool false, .bool false, .int .i64 0, .bool false, .bool false, .int .i64 0, .bool false, .bool false, .int .i64 0, .bool false, .bool false, .int .i64 0, .bool false, .bool false, .int .i64 0, .bool false, .bool false, .int .i64 0] : Array Value) = ZC at hC HZ
  have lS := hS.lt
  have lC := hC.lt
  have lY := hY.lt
  have lB := hB.lt
  have y0 := hY.cell 0
  simp at y0
  rw [HK.out] at y0
  go_upto_region 2 with fail
  have hCA : ∀ v w1 w2, (W.heap.size ≤ w1.heap.size ∧ w1.ownsRow W.heap.size 9 1 v (namesL P.L).length ((namesL P.L).map Value.string)) → (∃ Z, At w1 (xb + 1 + 1) 31 Z) → (∃ Z, At w1 (xb + 1 + 1 + 1) 72 Z) → Chg (fun k => k = xb + 1 + 1 ∨ k = xb + 1 + 1 + 1) w1 w2 → (W.heap.size ≤ w2.heap.size ∧ w2.ownsRow W.heap.size 9 1 v (namesL P.L).length ((namesL P.L).map Value.string)) := fun v w1 w2 h1 _ _ hc => by
    refine ⟨Nat.le_trans h1.1 hc.size, own_keep h1.2 hc fun k hk e => ?_⟩
    rcases h1.2.2 with ⟨e1, _⟩ | ⟨g, cap, cur, e1, hb1, _⟩
    · rw [e1] at hk; cases hk
    · rw [e1] at hk
      have e2 : k = g := by injection hk
      rcases e with e | e <;> omega
  have hrg : ∀ w1, Chg (fun k => k = xb + 1 + 1 ∨ k = xb + 1 + 1 + 1) W w1 → w1.rangeAt xb 0 X.toList := fun w1 hc => (hB.chg hc (fun e => by rcases e with e | e <;> omega)).range
  have hEw : ∀ w1, Chg (fun k => k = xb + 1 + 1 ∨ k = xb + 1 + 1 + 1) W w1 → Ext w w1 := fun w1 hc => Chg.mono (hE.chg_trans hc) (fun k hk e => by have := HXB.out; rcases e with e | e <;> omega)
  refine wp_region_phi (Γ := Nat → Value) (sgφ [.val (.agg X), .val (.agg X), .g 0, .g 1, .any, .any])
    (GTwo W (xb + 1 + 1) (xb + 1 + 1 + 1) 2 3 4 5 (fun v w1 => W.heap.size ≤ w1.heap.size ∧ w1.ownsRow W.heap.size 9 1 v (namesL P.L).length ((namesL P.L).map Value.string)) (fun _ => X) rArr) (by kernel_rfl) (by kernel_rfl) (by kernel_rfl) (fun _ => undef) ?inv ?steps ?fin
  case inv =>
    exact ⟨(Ext.refl W).drew.chg, fun hh => (by cases hh), fun hh => (by cases hh), (World.there_drew W _ 0 37).2 (by have h := hC.there; rw [HZ.out] at h; exact h), (World.there_drew W _ 0 5).2 hS.there, ⟨_, hC.drew⟩, ⟨_, hS.drew⟩, fun hh => (by cases hh), fun hh => (by cases hh)⟩
  case steps =>
    show StepsTo _ _ _ _ _ _ 6
    refine ⟨⟨⟨⟨⟨⟨trivial, ?s0⟩, ?s1⟩, ?s2⟩, ?s3⟩, ?s4⟩, ?s5⟩
    case s0 =>
      refine sg_val (x := .agg X) rfl rfl rfl (GTwo.keep (j := 0) (by decide) (by decide) (by decide) (by decide)) fun γ L v a w1 st => ?_
      have e2 := st.far 2 (by kernel_rfl)
      simp at e2
      exact exec_load_mid rfl (b := xb) (off := 0) (by simp [Act.eval, e2]) (hrg w1 st.inv.chg) Tryz.underlying31 rfl HI1.out
    case s1 =>
      refine sg_val (x := .agg X) rfl rfl rfl (GTwo.keep (j := 1) (by decide) (by decide) (by decide) (by decide)) fun γ L v a w1 st => ?_
      have e2 := st.far 2 (by kernel_rfl)
      simp at e2
      exact exec_load_mid rfl (b := xb) (off := 0) (by simp [Act.eval, e2]) (hrg w1 st.inv.chg) Tryz.underlying31 rfl HI1.out
    case s2 =>
      refine sg_call (k := 0) (f := 84) rfl rfl rfl (by kernel_rfl) fun γ L v a w1 st => ?_
      have e14 := st.val 1 14 rfl (by kernel_rfl)
      rw [show v 1 = _ from st.φ 1 (by kernel_rfl)] at e14
      simp at e14
      have h3 : L 3 = false := by
        cases hq : L 3 with
        | false => rfl
        | true =>
          have q2 := st.down 3 2 hq (by kernel_rfl)
          have q99 := st.off; rw [q2] at q99; cases q99
      have h5 : L 5 = false := by
        cases hq : L 5 with
        | false => rfl
        | true =>
          have q2 := st.down 5 3 hq (by kernel_rfl)
          rw [h3] at q2; cases q2
      refine ⟨#[.agg X], by go_simp, ?_⟩
      have hsz := st.inv.chg.size
      refine (rnames_any w1 (.agg X) P (HRF.out.ext (hEw w1 st.inv.chg)) (by have := HI.out.len; omega)).mono ?_
      rintro e w2 ⟨nv, rfl, hO, hE2⟩
      exact ⟨nv, rfl, GTwo.called st.inv hE2 (fun hh => by rw [h3] at hh; cases hh) (fun hh => by rw [h5] at hh; cases hh) (fun _ => rfl) (by decide) (by decide) (by decide) ⟨Nat.le_trans hsz hE2.size, own_lowR hO hsz⟩⟩
    case s3 =>
      refine sg_new (k := 1) rfl rfl rfl (by kernel_rfl) fun γ L v a w1 st => ?_
      have e15 := st.val 2 15 rfl (by kernel_rfl)
      rw [show v 2 = _ from st.φ 2 (by kernel_rfl)] at e15
      simp at e15
      obtain ⟨gA, gc, hγ⟩ := own_slc (st.inv.call (st.dep 2 (by kernel_rfl))).2
      refine ⟨.agg (rArr (γ 0)), w1, by rw [hγ] at e15 ⊢; unfold rArr; go_simp; try exact ⟨rfl, rfl, rfl, rfl, rfl⟩, GTwo.built st.inv (by decide) (by decide) (by decide)⟩
    case s4 =>
      refine sg_skip rfl rfl rfl fun γ L v a w1 st => ?_
      have e4 := st.far 4 (by kernel_rfl)
      simp at e4
      have e13 := st.val 0 13 rfl (by kernel_rfl)
      rw [show v 0 = _ from st.φ 0 (by kernel_rfl)] at e13
      simp at e13
      refine ⟨_, exec_store_mid rfl (b := xb + 1 + 1) (off := 0) (cells := X) (by simp [Act.eval, e4]) (by simp [Act.eval, e13]) (by rw [H37.out]; exact st.inv.tc) HI2.out HONE.out, ?_⟩
      exact GTwo.storeC st.inv (by omega) hCA H37.out (by decide) (by decide) (by decide)
    case s5 =>
      refine sg_skip rfl rfl rfl fun γ L v a w1 st => ?_
      have e5 := st.far 5 (by kernel_rfl)
      simp at e5
      have hb := st.inv.bld (st.dep 3 (by kernel_rfl))
      have e16 := st.val 3 16 rfl (by kernel_rfl)
      rw [show v 3 = _ from st.φ 3 (by kernel_rfl), hb] at e16
      simp at e16
      have hdep : L 2 = true := st.down 3 2 (st.dep 3 (by kernel_rfl)) (by kernel_rfl)
      obtain ⟨gA, gc, hγ⟩ := own_slc (st.inv.call hdep).2
      refine ⟨_, exec_store_mid rfl (b := xb + 1 + 1 + 1) (off := 0) (cells := rArr (γ 0)) (by simp [Act.eval, e5]) (by simp [Act.eval, e16]) st.inv.tr res_info (by rw [hγ]; exact rArr_one _ _ _), ?_⟩
      exact GTwo.storeR st.inv (by omega) hCA rfl (by decide) (by decide) (by decide)
  case fin =>
    intro γ L v wx hall hG hφ
    have hc := hG.call (hall 2 (by decide))
    have hrc := hG.rc (hall 4 (by decide))
    have hrr := hG.rr (hall 5 (by decide))
    have hEx := hEw wx hG.chg
    have l1 : (loadVar 31 ⟨xb + 1 + 1, 0, none⟩).run Tryz.prog wx = .ok (.agg X) wx := run_loadVar_mid (P := Tryz.prog) wx (xb + 1 + 1) 0 31 X.toList _ hrc Tryz.underlying31 rfl HI1.out
    have l2 : (loadVar 72 ⟨xb + 1 + 1 + 1, 0, none⟩).run Tryz.prog wx = .ok (.agg (rArr (γ 0))) wx := run_loadVar_mid (P := Tryz.prog) wx (xb + 1 + 1 + 1) 0 72 (rArr (γ 0)).toList _ hrr Tryz.underlying72 rfl res_info
    have HF : Hid (RcOut w (P, ⟨0, 0, 0, 0, namesL P.L⟩) (.returned (.tuple #[.agg X, .agg (rArr (γ 0))])) wx) := Lib.hid ⟨.agg X, γ 0, rfl, HRF.out.ext hEx, own_base0 hc.2, hEx⟩
    have HL := Lib.hid (And.intro l1 l2)
    clear hc hrc hrr hEx l1 l2 hφ hall hCA hrg hEw
    generalize rArr (γ 0) = RA at HF HL
    change Exit.then _ _ _ (putAll _ v _ 6) wx
    simp only [putAll, dstOf, Act.put]
    simp only [List.getElem?_toArray, List.getElem?_cons_zero, List.getElem?_cons_succ, Option.bind_some, List.setIfInBounds_toArray, List.set_cons_zero, List.set_cons_succ]
    go_wp2_with fail
    refine bodyPost_ret (v := .tuple #[.agg X, .agg RA]) (results_two Tryz.results63 _ rfl rfl HL.out.1 HL.out.2) rfl ?_
    exact HF.out
end Go.Proofs.YtchnejfdompfpaaGreat
