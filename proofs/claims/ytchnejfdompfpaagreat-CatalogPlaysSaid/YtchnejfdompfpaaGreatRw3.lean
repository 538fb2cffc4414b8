/-
  The document's Write: a catalog as bytes.
-/
import Derived.Test.YtchnejfdompfpaaGreatRw2
namespace Go.Proofs.YtchnejfdompfpaaGreat
open Go.RowKit Go.Sort

def cpl (b : Bl) : List Cp := [b.a, b.b]
theorem cpl_enc (b : Bl) : (cpl b).flatMap cpEnc = cpEnc b.a ++ cpEnc b.b := by simp [cpl]
theorem blA_eq (b : Bl) : blA b = uenc b.id ++ senc b.name ++ benc (!b.dead) ++ ienc b.size ++ uenc b.sum ++ lenc b.disks := by simp [blA]
theorem cpEnc_eq (c : Cp) : cpEnc c = benc c.there ++ ienc c.vol ++ ienc c.at_ := by simp [cpEnc]
theorem vlEnc_eq (v : Vl) : vlEnc v = benc v.closed ++ benc v.erase ++ ienc v.gen := by simp [vlEnc]
theorem blEnc_eq (b : Bl) : blEnc b = blA b ++ (cpl b).flatMap cpEnc ++ ienc b.pins := by simp [blEnc, cpl]
theorem uenc_le (v : Nat) : (uenc v).length ≤ 10 := uenc_length v
theorem cp_rng {n : Nat} {b : Bl} (h : BlOk n b) : ∀ c ∈ cpl b, (-9223372036854775808 ≤ c.vol ∧ c.vol ≤ 9223372036854775807) ∧ (-9223372036854775808 ≤ c.at_ ∧ c.at_ ≤ 9223372036854775807) := by
  intro c hc
  simp only [cpl, List.mem_cons, List.not_mem_nil, or_false] at hc
  rcases hc with rfl | rfl
  · rcases h.ca with e | ⟨_, _, h1, h2, h3, h4⟩
    · rw [e]; decide
    · omega
  · rcases h.cb with e | ⟨_, _, h1, h2, h3, h4⟩
    · rw [e]; decide
    · omega
theorem cp_cells {w : World} {g : Nat} {b : Bl} (h : At w g 78 #[.bool b.a.there, .int .i64 b.a.vol, .int .i64 b.a.at_, .bool b.b.there, .int .i64 b.b.vol, .int .i64 b.b.at_]) {j : Nat} {x : Cp} (hx : (cpl b)[j]? = some x) :
    w.cell? ⟨g, j * 3, none⟩ = some (.bool x.there) ∧ w.cell? ⟨g, j * 3 + 1, none⟩ = some (.int .i64 x.vol) ∧ w.cell? ⟨g, j * 3 + 2, none⟩ = some (.int .i64 x.at_) := by
  have hj : j < 2 := (List.getElem?_eq_some_iff.1 hx).1
  have h2 : j = 0 ∨ j = 1 := by omega
  rcases h2 with rfl | rfl
  · obtain rfl : b.a = x := by simpa [cpl] using hx
    exact ⟨h.cell 0, h.cell 1, h.cell 2⟩
  · obtain rfl : b.b = x := by simpa [cpl] using hx
    exact ⟨h.cell 3, h.cell 4, h.cell 5⟩
set_option maxRecDepth 100000 in
set_option maxHeartbeats 8000000 in
theorem rwrite_any (w : World) (v : Value) (P : Pm) (n : Nat) (hR : RfIn w v P) (hi : PInv n P) (hpl : P.L.length < 50) (hn : n ≤ 2147483648) :
    Calls Tryz.prog 13 #[v] w fun e w' => e = .returned (.string ⟨P.enc.toArray⟩) ∧ Ext w w' := by
  obtain ⟨lv, DV, rfl, hDV, hRR⟩ := hR
  have hlen : DV.length = P.L.length := by rw [← hDV, List.length_map]
  obtain ⟨A, cp, rfl⟩ := own_slc hRR.own
  rw [hlen] at hRR ⊢
  have HIX := Lib.hid (vl_idxR hi.vlen)
  have HINF := Lib.hid (vl_info12 hi.vlen)
  have HIV : Hid (∀ {w : World} {g : Nat}, At w g 31 (rfArr (.slice A P.L.length cp) P.vols) → w.rangeAt g 1 ((P.vols.map vlRow).flatten)) := Lib.hid fun h => rf_vrange h
  have hX0 : (rfArr (.slice A P.L.length cp) P.vols)[0]? = some (.slice A P.L.length cp) := rfl
  generalize rfArr (.slice A P.L.length cp) P.vols = X at HIV hX0 ⊢
  have HDV := Lib.hid hDV
  have HRR := Lib.hid hRR
  have HI := Lib.hid hi
  have HLI := Lib.hid (ri_any)
  clear hDV hRR hi
  go_enter Tryz.func13, Tryz.ntmps13
  have hB := At.new w 31 X
  have hE := (Ext.refl w).alloc (.cells X 31)
  go_upto_region 1 with fail
  generalize w.heap.size = xb at hB ⊢
  generalize w.alloc _ = W at hB hE ⊢
  have x0 := hB.cell 0
  rw [hX0] at x0
  have HC := Lib.hid (ri_any W (P.L.length : Int) (by omega))
  go_wp2_with fail
  refine HC.out.mono ?_
  rintro e w1 ⟨rfl, hE1⟩
  have hB := hB.ext hE1
  have x0 := hB.cell 0
  rw [hX0] at x0
  have hE := hE.trans hE1
  have HE := Lib.hid hE
  have HB := Lib.hid hB
  clear HC hE hE1 hB hX0
  go_upto_region 3 with fail
  clear x0
  go_loopw [3, 17] (fun sv iv wr => ∃ k : Nat, k ≤ P.L.length ∧ sv = .string ⟨([(P.L.length : Int)].flatMap ienc ++ (P.L.take k).flatMap blEnc).toArray⟩ ∧ iv = .int .i64 (k : Int) ∧ Ext w1 wr) (fun _ iv _ => P.L.length - (intOf iv).toNat)
  case atStart => exact ⟨0, by omega, by simp, rfl, Ext.refl _⟩
  case round =>
    obtain ⟨k, hk, rfl, rfl, hEk⟩ := hrel
    have hpre := enc_pre HI.out hpl k
    by_cases hlt : k < P.L.length
    · obtain ⟨b, hb⟩ : ∃ b, P.L[k]? = some b := ⟨_, List.getElem?_eq_getElem hlt⟩
      obtain ⟨dv2, h2⟩ : ∃ q, DV[k]? = some (b, q) := by
        have e := hb
        rw [← HDV.out, List.getElem?_map] at e
        cases h : DV[k]? with
        | none => rw [h] at e; cases e
        | some p => rw [h] at e; injection e with e; exact ⟨p.2, by rw [← e]⟩
      have HBK := Lib.hid (HI.out.bl _ (List.mem_of_getElem? hb))
      have HFT := Lib.hid (enc_step hb blEnc ([(P.L.length : Int)].flatMap ienc))
      obtain ⟨eA, eAc, rfl⟩ : ∃ A c, dv2 = .slice A b.disks.length c := own_slc (HRR.out.dks _ (List.mem_of_getElem? h2))
      have hw1r : Ext w wr := HE.out.trans hEk
      have hO2 := own_keep (HRR.out.dks _ (List.mem_of_getElem? h2)) hw1r (fun _ _ hh => hh)
      have hS2 := (HRR.out.sln).ext hw1r
      obtain ⟨b2, o2, rfl⟩ := cmds_some hS2 (fun e => by
        have h0 := List.map_eq_nil_iff.1 e
        rw [h0] at h2; simp at h2)
      obtain ⟨s0, s1, s2, s3, s4, s5, s6, s7, s8, s9, s10, s11, s12⟩ := bl_cells hS2 h2
      have hYb := At.new wr 80 (blCells b (.slice eA b.disks.length eAc))
      have hEy := (Ext.refl wr).alloc (.cells (blCells b (.slice eA b.disks.length eAc)) 80)
      generalize hpr : [(P.L.length : Int)].flatMap ienc ++ (P.L.take k).flatMap blEnc = pre at hpre HFT ⊢
      go_upto_region 5 with fail
      clear s0 s1 s2 s3 s4 s5 s6 s7 s8 s9 s10 s11 s12
      generalize wr.heap.size = yb at hYb ⊢
      generalize wr.alloc (.cells (blCells b (.slice eA b.disks.length eAc)) 80) = W2 at hYb hEy ⊢
      have hdl := rises_len HBK.out.rises
      have hO3 := own_keep hO2 hEy (fun _ _ hh => hh)
      have cw1 := ru_re W2 b.id HBK.out.id.2
      have cw2 := rs_re W2 b.name (by have := HBK.out.name.2; omega)
      have cw3 := rb_re W2 (!b.dead)
      have cw4 := ri_re W2 b.size (by have := HBK.out.size; omega)
      have cw5 := ru_re W2 b.sum (by have := HBK.out.sum; omega)
      have hsw : IntKind.u64.wrap (b.sum : Int) = (b.sum : Int) := IntWalk.u64_in _ (by have := HBK.out.sum; omega)
      have cw6 := rl_re W2 (.slice eA b.disks.length eAc) b.disks hO3 (by omega) (fun x hx => by have := rises_lim HBK.out.rises x hx; omega)
      have HBA := Lib.hid (blA_eq b)
      have l1 := uenc_le b.id
      have l2 := senc_length b.name
      have l4 := ienc_le b.size
      have l5 := uenc_le b.sum
      have l6 := lenc_length b.disks
      have l3 : (benc (!b.dead)).length = 1 := rfl
      have l7 := HBK.out.name.2
      have y0 := hYb.cell_regrown 0
      have y1 := hYb.cell_regrown 1
      have y2 := hYb.cell_regrown 2
      have y3 := hYb.cell_regrown 3
      have y4 := hYb.cell_regrown 4
      have y12 := hYb.cell_regrown 12
      simp [blCells] at y0 y1 y2 y3 y4 y12
      clear h2 hb hO2 hS2 hpr
      generalize uenc b.id = a1 at cw1 HBA l1
      generalize senc b.name = a2 at cw2 HBA l2
      generalize benc (!b.dead) = a3 at cw3 HBA l3
      generalize ienc b.size = a4 at cw4 HBA l4
      generalize uenc b.sum = a5 at cw5 HBA l5
      generalize lenc b.disks = a6 at cw6 HBA l6
      have z1 : ¬ 9223372036854775807 < a1.length + a2.length := by omega
      have z2 : ¬ 9223372036854775807 < a1.length + a2.length + a3.length := by omega
      have z3 : ¬ 9223372036854775807 < a1.length + a2.length + a3.length + a4.length := by omega
      have z4 : ¬ 9223372036854775807 < a1.length + a2.length + a3.length + a4.length + a5.length := by omega
      have z5 : ¬ 9223372036854775807 < a1.length + a2.length + a3.length + a4.length + a5.length + a6.length := by omega
      have z6 : ¬ 9223372036854775807 < pre.length + (a1.length + a2.length + a3.length + a4.length + a5.length + a6.length) := by omega
      refine wp_region_quiet_ext (by kernel_rfl) (by kernel_rfl) ?_
      repeat (go_big_quiet_step (first | with_reducible exact cw1 _ _ | with_reducible exact cw2 _ _ | with_reducible exact cw3 _ _ | with_reducible exact cw4 _ _ | with_reducible exact cw5 _ _ | with_reducible exact cw6 _ _))
      refine wpQuiet_nil ?_
      intro W3 hE3
      have hstr : (⟨pre.toArray⟩ : ByteArray) ++ (⟨a1.toArray⟩ ++ ⟨a2.toArray⟩ ++ ⟨a3.toArray⟩ ++ ⟨a4.toArray⟩ ++ ⟨a5.toArray⟩ ++ ⟨a6.toArray⟩) = ⟨(pre ++ blA b).toArray⟩ := by rw [HBA.out]; simp only [ba_app]
      rw [hstr]
      have hbl : (pre ++ blA b).length ≤ 15010 + 200 := by rw [List.length_append]; have := blA_length HBK.out; omega
      clear y0 y1 y2 y3 y4 y12 cw1 cw2 cw3 cw4 cw5 cw6 z1 z2 z3 z4 z5 z6 hstr l1 l2 l3 l4 l5 l6 l7 hO3 hsw HBA
      have hYb := hYb.ext hE3
      have hE4 := hEy.trans hE3
      clear hEy hE3
      have y5 := hYb.cell 5
      have y6 := hYb.cell 6
      have y7 := hYb.cell 7
      have y8 := hYb.cell 8
      have y9 := hYb.cell 9
      have y10 := hYb.cell 10
      simp [blCells] at y5 y6 y7 y8 y9 y10
      have hZ := At.new W3 78 #[.bool b.a.there, .int .i64 b.a.vol, .int .i64 b.a.at_, .bool b.b.there, .int .i64 b.b.vol, .int .i64 b.b.at_]
      have hEz := (Ext.refl W3).alloc (.cells #[.bool b.a.there, .int .i64 b.a.vol, .int .i64 b.a.at_, .bool b.b.there, .int .i64 b.b.vol, .int .i64 b.b.at_] 78)
      go_upto_region 7 with fail
      clear y5 y6 y7 y8 y9 y10
      generalize W3.heap.size = zb at hZ ⊢
      generalize W3.alloc (.cells #[.bool b.a.there, .int .i64 b.a.vol, .int .i64 b.a.at_, .bool b.b.there, .int .i64 b.b.vol, .int .i64 b.b.at_] 78) = W5 at hZ hEz ⊢
      have hYb := hYb.ext hEz
      have hE5 := hE4.trans hEz
      clear hE4 hEz
      generalize hpr2 : pre ++ blA b = pre2 at hbl HFT ⊢
      go_loopw [3, 54] (fun sv jv wx => ∃ j : Nat, j ≤ 2 ∧ sv = .string ⟨(pre2 ++ ((cpl b).take j).flatMap cpEnc).toArray⟩ ∧ jv = .int .i64 (j : Int) ∧ Ext W5 wx) (fun _ jv _ => 2 - (intOf jv).toNat)
      case atStart => exact ⟨0, by omega, by simp, rfl, Ext.refl _⟩
      case round =>
        obtain ⟨j, hj, rfl, rfl, hEj⟩ := hrel
        have hcl : (((cpl b).take j).flatMap cpEnc).length ≤ 42 := by
          have h1 := flatLe cpEnc 21 ((cpl b).take j) (fun c _ => cpEnc_length c)
          have h2 := List.length_take_le j (cpl b)
          omega
        by_cases hj2 : j < 2
        · obtain ⟨x, hx⟩ : ∃ x, (cpl b)[j]? = some x := ⟨_, List.getElem?_eq_getElem (by simpa [cpl] using hj2)⟩
          have HXR := Lib.hid (cp_rng HBK.out x (List.mem_of_getElem? hx))
          have HST := Lib.hid (enc_step hx cpEnc pre2)
          obtain ⟨q0, q1, q2⟩ := cp_cells (hZ.ext hEj) hx
          generalize hp3 : pre2 ++ ((cpl b).take j).flatMap cpEnc = pre3 at HST ⊢
          have hp3l : pre3.length ≤ 15252 := by rw [← hp3, List.length_append]; omega
          have hT := At.new wr 78 #[.bool x.there, .int .i64 x.vol, .int .i64 x.at_]
          have hEt := (Ext.refl wr).alloc (.cells #[.bool x.there, .int .i64 x.vol, .int .i64 x.at_] 78)
          clear hp3 hx hcl
          go_upto_region 9 with fail
          clear q0 q1 q2
          generalize wr.heap.size = tb at hT ⊢
          generalize wr.alloc (.cells #[.bool x.there, .int .i64 x.vol, .int .i64 x.at_] 78) = W6 at hT hEt ⊢
          have cw1 := rb_re W6 x.there
          have cw2 := ri_re W6 x.vol HXR.out.1
          have cw3 := ri_re W6 x.at_ HXR.out.2
          have HCE := Lib.hid (cpEnc_eq x)
          have l1 : (benc x.there).length = 1 := rfl
          have l2 := ienc_le x.vol
          have l3 := ienc_le x.at_
          have t0 := hT.cell_regrown 0
          have t1 := hT.cell_regrown 1
          have t2 := hT.cell_regrown 2
          simp at t0 t1 t2
          generalize benc x.there = a1 at cw1 HCE l1
          generalize ienc x.vol = a2 at cw2 HCE l2
          generalize ienc x.at_ = a3 at cw3 HCE l3
          have z1 : ¬ 9223372036854775807 < a1.length + a2.length := by omega
          have z2 : ¬ 9223372036854775807 < a1.length + a2.length + a3.length := by omega
          have z3 : ¬ 9223372036854775807 < pre3.length + (a1.length + a2.length + a3.length) := by omega
          refine wp_region_quiet_ext (by kernel_rfl) (by kernel_rfl) ?_
          repeat (go_big_quiet_step (first | with_reducible exact cw1 _ _ | with_reducible exact cw2 _ _ | with_reducible exact cw3 _ _))
          refine wpQuiet_nil ?_
          intro W8 hE8
          have hstr : (⟨pre3.toArray⟩ : ByteArray) ++ (⟨a1.toArray⟩ ++ ⟨a2.toArray⟩ ++ ⟨a3.toArray⟩) = ⟨(pre3 ++ cpEnc x).toArray⟩ := by rw [HCE.out]; simp only [ba_app]
          rw [hstr]
          clear t0 t1 t2 cw1 cw2 cw3 z1 z2 z3 hstr
          go_wp2_with fail
          exact ⟨⟨j + 1, by omega, by rw [HST.out], by simp, (hEj.trans hEt).trans hE8⟩, by simp [intOf]; omega⟩
        · obtain rfl : j = 2 := by omega
          have hYb := hYb.ext hEj
          have hEall := (hEk.trans hE5).trans hEj
          have y11 := hYb.cell 11
          simp [blCells] at y11
          have hfull : (cpl b).take 2 = cpl b := rfl
          rw [hfull] at hcl ⊢
          have HC := Lib.hid (ri_any wr b.pins (by have := HBK.out.pins; omega))
          have hpl3 : (pre2 ++ (cpl b).flatMap cpEnc).length ≤ 15252 := by rw [List.length_append]; omega
          have HFE : Hid (([(P.L.length : Int)].flatMap ienc ++ (P.L.take (k + 1)).flatMap blEnc) = (pre2 ++ (cpl b).flatMap cpEnc) ++ ienc b.pins) := Lib.hid (by rw [HFT.out, ← hpr2, blEnc_eq]; simp only [List.append_assoc])
          generalize pre2 ++ (cpl b).flatMap cpEnc = pre3 at hpl3 HFE ⊢
          have l1 := ienc_le b.pins
          clear hcl hfull
          go_wp2_with fail
          refine HC.out.mono ?_
          rintro e w9 ⟨rfl, hE9⟩
          have z1 : ¬ 9223372036854775807 < pre3.length + (ienc b.pins).length := by omega
          clear HC y11
          go_wp2_with fail
          exact ⟨⟨k + 1, by omega, by rw [HFE.out]; exact congrArg Value.string (ba_app _ _), by simp, hEall.trans hE9⟩, by simp [intOf]; omega⟩
    · obtain rfl : k = P.L.length := by omega
      have hRGE := HE.out.trans hEk
      have HRG := Lib.hid (HIV.out (HB.out.ext hEk))
      have hpl2 := fun j => enc_pre2 HI.out hpl j
      rw [List.take_length]
      go_upto_region 14 with (refine wpList_load_mid rfl 29 _ rfl xb 1 rfl _ _ HRG.out Tryz.underlying29 rfl HINF.out ?_)
      rw [show Value.agg ((P.vols.map vlRow).flatten).toArray = vlArr P.vols from rfl]
      generalize vlArr P.vols = va at HIX ⊢
      clear HRG HINF HIV hpre
      have HPL2 := Lib.hid hpl2
      clear hpl2
      go_loopw [3, 80] (fun sv jv wx => ∃ j : Nat, j ≤ 12 ∧ sv = .string ⟨(([(P.L.length : Int)].flatMap ienc ++ P.L.flatMap blEnc) ++ (P.vols.take j).flatMap vlEnc).toArray⟩ ∧ jv = .int .i64 (j : Int) ∧ Ext wr wx) (fun _ jv _ => 12 - (intOf jv).toNat)
      case atStart => exact ⟨0, by omega, by simp, rfl, Ext.refl _⟩
      case round =>
        obtain ⟨j, hj, rfl, rfl, hEj⟩ := hrel
        by_cases hj2 : j < 12
        · obtain ⟨y, hy, hix⟩ := HIX.out j hj2
          have HST := Lib.hid (enc_step hy vlEnc ([(P.L.length : Int)].flatMap ienc ++ P.L.flatMap blEnc))
          have hyg := HI.out.gen y (List.mem_of_getElem? hy)
          have hp := HPL2.out j
          generalize ([(P.L.length : Int)].flatMap ienc ++ P.L.flatMap blEnc) ++ (P.vols.take j).flatMap vlEnc = pre3 at HST hp ⊢
          have hV := At.new wr 28 #[.bool y.closed, .bool y.erase, .int .i64 y.gen]
          have hEv := (Ext.refl wr).alloc (.cells #[.bool y.closed, .bool y.erase, .int .i64 y.gen] 28)
          go_upto_region 16 with fail
          clear hix hy
          generalize wr.heap.size = vb at hV ⊢
          generalize wr.alloc (.cells #[.bool y.closed, .bool y.erase, .int .i64 y.gen] 28) = W6 at hV hEv ⊢
          have cw1 := rb_re W6 y.closed
          have cw2 := rb_re W6 y.erase
          have cw3 := ri_re W6 y.gen (by omega)
          have HCE := Lib.hid (vlEnc_eq y)
          have l1 : (benc y.closed).length = 1 := rfl
          have l2 : (benc y.erase).length = 1 := rfl
          have l3 := ienc_le y.gen
          have t0 := hV.cell_regrown 0
          have t1 := hV.cell_regrown 1
          have t2 := hV.cell_regrown 2
          simp at t0 t1 t2
          generalize benc y.closed = a1 at cw1 HCE l1
          generalize benc y.erase = a2 at cw2 HCE l2
          generalize ienc y.gen = a3 at cw3 HCE l3
          have z1 : ¬ 9223372036854775807 < a1.length + a2.length := by omega
          have z2 : ¬ 9223372036854775807 < a1.length + a2.length + a3.length := by omega
          have z3 : ¬ 9223372036854775807 < pre3.length + (a1.length + a2.length + a3.length) := by omega
          refine wp_region_quiet_ext (by kernel_rfl) (by kernel_rfl) ?_
          repeat (go_big_quiet_step (first | with_reducible exact cw1 _ _ | with_reducible exact cw2 _ _ | with_reducible exact cw3 _ _))
          refine wpQuiet_nil ?_
          intro W8 hE8
          have hstr : (⟨pre3.toArray⟩ : ByteArray) ++ (⟨a1.toArray⟩ ++ ⟨a2.toArray⟩ ++ ⟨a3.toArray⟩) = ⟨(pre3 ++ vlEnc y).toArray⟩ := by rw [HCE.out]; simp only [ba_app]
          rw [hstr]
          clear t0 t1 t2 cw1 cw2 cw3 z1 z2 z3 hstr
          go_wp2_with fail
          exact ⟨⟨j + 1, by omega, by rw [HST.out], by simp, (hEj.trans hEv).trans hE8⟩, by simp [intOf]; omega⟩
        · obtain rfl : j = 12 := by omega
          have hvt : P.vols.take 12 = P.vols := List.take_of_length_le (by rw [HI.out.vlen]; omega)
          go_wp2_with fail
          go_ret
          exact ⟨by rw [hvt]; rfl, hRGE.trans hEj⟩
end Go.Proofs.YtchnejfdompfpaaGreat
