/-
  Layer 18: parts, walked.
-/
import Derived.Test.YtlodaffiamegpaaHsPart
namespace Go.Proofs.Ytlodaffiamegpaa
open Go.RowKit Go.Sort

theorem own_ext {w w' : World} {base : Nat} {e : TypeId} {size : Nat} {v : Value} {n : Nat} {xs : List Value} (h : w.ownsRow base e size v n xs) (hc : Ext w w') : w'.ownsRow base e size v n xs := own_chg h (S := fun _ => False) hc (fun _ h => h.elim)
abbrev opCells (x : HRow) : Array Value := #[.int .i64 x.1.kind, .string x.1.name, .int .u64 x.1.value, .int .i64 x.1.start, .int .i64 x.1.fin, .int .i64 x.1.err, .int .u64 x.1.got, .slice x.2.1 x.1.names.length x.2.2]
structure PartsOut (l : List HRow) (w : World) (e : Ending) (w' : World) : Prop where
  out : ∃ (v : Value) (pvs : List Value), e = .returned v ∧ Sl w' v pvs ∧ pvs.length = (partsOf l).length ∧ ∀ (i : Nat) (pv : Value) (p : List HRow), pvs[i]? = some pv → (partsOf l)[i]? = some p → Sln w' pv 8 (p.map hrow)
  ext : Ext w w'

set_option maxRecDepth 100000 in
set_option maxHeartbeats 2000000 in
theorem parts_any (w : World) (l : List HRow) (ov : Value) (hI : Sln w ov 8 (l.map hrow)) (h20 : l.length ≤ 20) :
    Calls Try.prog 18 #[ov] w fun e w' => PartsOut l w e w' := by
  obtain ⟨iO, hiO, hzO0, hzO1, hzO2⟩ := info_parts op_info
  obtain ⟨iS, hiS, hzS0, hzS1, hzS2⟩ := info_parts str_info
  obtain ⟨iR, hiR, hzR0, hzR1, hzR2⟩ := info_parts ops_info
  obtain ⟨LA, lc, hov⟩ := sln_slice hI
  rw [List.length_map] at hov
  subst hov
  go_enter Try.func18, Try.ntmps18
  go_wp2_with fail
  go_loopw [3, 4, 5, 16] (fun av nv wv iv wx => ∃ k : Nat, k ≤ l.length ∧ iv = .int .i64 (k : Int) ∧ wx.ownsRow w.heap.size 37 8 av (kept (l.take k)).length ((kept (l.take k)).map hrow).flatten ∧ wx.ownsRow w.heap.size 9 1 nv (kept (l.take k)).length ((namesIn (kept (l.take k))).map Value.string) ∧ wv = .bool (wholeB (kept (l.take k))) ∧ Ext w wx) (fun _ _ _ iv _ => l.length - (intOf iv).toNat)
  case atStart => exact ⟨0, Nat.zero_le _, rfl, ⟨rfl, .inl ⟨rfl, rfl⟩⟩, ⟨rfl, .inl ⟨rfl, rfl⟩⟩, rfl, Ext.refl _⟩
  case round =>
    obtain ⟨k, hk, rfl, hA, hN, rfl, hE⟩ := hrel
    by_cases hlt : k < l.length
    · have hS := hI.ext hE
      obtain ⟨b, o, rfl⟩ := sln_some hS (fun e => by have := List.map_eq_nil_iff.1 e; subst this; simp at hlt)
      obtain ⟨r0, r1, r2, r3, r4, r5, r6, r7⟩ := row_cells hS hlt
      have HK := Lib.hid (kept_next hlt)
      have hkl := kept_len l k
      generalize kept (l.take k) = ks at *
      generalize rowAt l k = x at *
      have hXb := At.new wr 37 (opCells x)
      have hA2 := hA.alloc (.cells (opCells x) 37)
      have hN2 := hN.alloc (.cells (opCells x) 37)
      have hE2 := hE.alloc (.cells (opCells x) 37)
      have HAX := Lib.hid (fun (k' : Nat) (h : u3.ownBlock = some k') => own_lt hA k' h)
      clear hA hN hE hS
      go_upto_region 7 with fail
      clear r0 r1 r2 r3 r4 r5 r6 r7
      generalize wr.heap.size = xb at *
      generalize wr.alloc _ = W1 at *
      go_cut [26] from 20 to 26 (fun bv wx => bv = .bool (!keepB x) ∧ At wx xb 37 (opCells x) ∧ wx.ownsRow w.heap.size 37 8 u3 ks.length (ks.map hrow).flatten ∧ wx.ownsRow w.heap.size 9 1 u4 ks.length ((namesIn ks).map Value.string) ∧ Ext w wx)
      case first =>
        have q0 := hXb.cell 0
        have q1 := hXb.cell 1
        have q2 := hXb.cell 2
        have q3 := hXb.cell 3
        have q4 := hXb.cell 4
        have q5 := hXb.cell 5
        have q6 := hXb.cell 6
        have q7 := hXb.cell 7
        simp at q0 q1 q2 q3 q4 q5 q6 q7
        go_wp2_with fail
        refine (reads_any _ x).mono ?_
        rintro e w1 ⟨rfl, hE1⟩
        cases hrd : x.1.readsB
        · have hkeep : (!keepB x) = false := by unfold keepB; rw [hrd]; rfl
          go_wp2_with fail
          go_meet
          case rel => exact ⟨by rw [hkeep], hXb.ext hE1, own_ext hA2 hE1, own_ext hN2 hE1, hE2.trans hE1⟩
        · have hX1 := hXb.ext hE1
          have p0 := hX1.cell 0
          have p1 := hX1.cell 1
          have p2 := hX1.cell 2
          have p3 := hX1.cell 3
          have p4 := hX1.cell 4
          have p5 := hX1.cell 5
          have p6 := hX1.cell 6
          have p7 := hX1.cell 7
          simp at p0 p1 p2 p3 p4 p5 p6 p7
          clear q0 q1 q2 q3 q4 q5 q6 q7
          go_wp2_with fail
          refine (answered_any _ x).mono ?_
          rintro e w2 ⟨rfl, hE2'⟩
          have hE3 := hE1.trans hE2'
          cases hans : x.1.ans
          · have hkeep : (!keepB x) = true := by unfold keepB; rw [hrd, hans]; simp
            go_wp2_with fail
            go_meet
            case rel => exact ⟨by rw [hkeep], hX1.ext hE2', own_ext hA2 hE3, own_ext hN2 hE3, hE2.trans hE3⟩
          · have hkeep : (!keepB x) = false := by unfold keepB; rw [hans]; simp
            go_wp2_with fail
            go_meet
            case rel => exact ⟨by rw [hkeep], hX1.ext hE2', own_ext hA2 hE3, own_ext hN2 hE3, hE2.trans hE3⟩
      case rest =>
        obtain ⟨rfl, hX, hA, hN, hE⟩ := hcut
        clear hXb hA2 hN2 hE2
        cases hkeep : keepB x
        · have hkeep' : ¬ keepB x = true := by rw [hkeep]; simp
          rw [if_neg hkeep', List.append_nil] at HK
          clear hkeep' hkeep
          go_wp2_with fail
          refine ⟨⟨k + 1, by omega, by go_num, ?_, ?_, ?_, hE⟩, by simp [intOf]; omega⟩
          · rw [HK.out]; exact hA
          · rw [HK.out]; exact hN
          · rw [HK.out]
        rw [if_pos hkeep] at HK
        clear hkeep
        have hfl : ((ks ++ [x]).map hrow).flatten = (ks.map hrow).flatten ++ hrow x := by simp
        have q0 := hX.cell 0
        have q1 := hX.cell 1
        have q2 := hX.cell 2
        have q3 := hX.cell 3
        have q4 := hX.cell 4
        have q5 := hX.cell 5
        have q6 := hX.cell 6
        have q7 := hX.cell 7
        simp at q0 q1 q2 q3 q4 q5 q6 q7
        have hxw := hX.lt
        have hszw := hE.size
        have hY := At.new wc 37 (opCells x)
        have hEY := (Ext.refl wc).alloc (.cells (opCells x) 37)
        obtain ⟨aA, ac, rfl⟩ := own_slice' hA
        go_upto_region 9 with (at_builtin; refine wpList_append_own _ rfl _ _ 22 rfl w.heap.size 37 iO _ 8 88 Try.underlying22 hiO hzO0 hzO1 hzO2 rfl (by decide) _ _ _ rfl (hA.alloc _) ⟨wc.heap.size, 0, none⟩ 1 1 (hrow x) ?hx rfl ?c1 ?c2 ?c3 ?c4 ?c5 ?_)
        case hx => rfl
        case c1 =>
          intro q u hu
          have hq := hY.cell q
          rw [Go.WideShapes.add_plain, Nat.zero_add, hq]
          simpa [hrow] using hu
        case c2 => intro u hu; simp [hrow] at hu; rcases hu with rfl | rfl | rfl | rfl | rfl | rfl | rfl | rfl <;> rfl
        case c3 => unfold maxLen; omega
        case c4 => omega
        case c5 => simp; omega
        intro v1 w4 hA4 hgrow4 _
        have hge := own_ge hA
        have hG := hEY.chg_trans (Chg.of_grown hgrow4)
        have hE4 : Ext w w4 := Chg.mono (hE.trans hEY |>.chg_trans (Chg.of_grown hgrow4)) fun j hj h => by have := hge j h; omega
        have hN4 := own_far hN hG (fun k' hk' h => own_own hA hN (by decide) k' h hk')
        have hX4 := hX.chg hG (fun h => by have := HAX.out xb h.symm; omega)
        obtain ⟨aA4, ac4, rfl⟩ := own_slice' hA4
        clear hge hG hA hN hX hE hY hEY hgrow4 q0 q1 q2 q3 q4 q5 q6 q7 HAX
        obtain ⟨nA, nc, rfl⟩ := own_slice' hN4
        have q1 := hX4.cell 1
        have hszw := hE4.size
        simp at q1
        go_upto_region 10 with (at_builtin; refine wpList_append_own _ rfl _ _ 35 rfl w.heap.size 9 iS (.string ByteArray.empty) 1 16 Try.underlying35 hiS hzS0 hzS1 hzS2 rfl (by decide) _ _ _ rfl (hN4.alloc _) ⟨w4.heap.size, 0, none⟩ 1 1 [.string x.1.name] ?hx rfl ?c1 ?c2 ?c3 ?c4 ?c5 ?_)
        case hx => rfl
        case c1 => exact cell_one
        case c2 => simp [Value.oneCell']
        case c3 => unfold maxLen; omega
        case c4 => omega
        case c5 => simp; omega
        intro v2 w5 hN5 hgrow5 _
        have hge := own_ge hN4
        have hG := ((Ext.refl w4).alloc (.cells #[.string x.1.name] 9)).chg_trans (Chg.of_grown hgrow5)
        have hE5 : Ext w w5 := Chg.mono ((hE4.alloc (.cells #[.string x.1.name] 9)).chg_trans (Chg.of_grown hgrow5)) fun j hj h => by have := hge j h; omega
        have hA5 := own_far hA4 hG (fun k' hk' h => own_own hN4 hA4 (by decide) k' h hk')
        have hX5 := hX4.chg hG (fun h => own_apart hN4 hX4 (by decide) xb h rfl)
        clear hge hG hgrow5 q1 hN4 hA4 hX4 hE4
        have q0 := hX5.cell 0
        simp at q0
        have hwh : wholeB (ks ++ [x]) = (wholeB ks || (x.1.kind == 4)) := by unfold wholeB; simp
        have HWH := Lib.hid hwh
        have HFL := Lib.hid hfl
        clear hwh hfl
        cases hw1 : wholeB ks
        · go_wp2_with fail
          refine ⟨⟨k + 1, by omega, by go_num, ?_, ?_, ?_, hE5⟩, by simp [intOf]; omega⟩
          · rw [HK.out, HFL.out]; simpa using hA5
          · rw [HK.out]; simpa [namesIn] using hN5
          · rw [HK.out, HWH.out, hw1]; rfl
        · go_wp2_with fail
          refine ⟨⟨k + 1, by omega, by go_num, ?_, ?_, ?_, hE5⟩, by simp [intOf]; omega⟩
          · rw [HK.out, HFL.out]; simpa using hA5
          · rw [HK.out]; simpa [namesIn] using hN5
          · rw [HK.out, HWH.out, hw1]; rfl
    · obtain rfl : k = l.length := by omega
      have hkl := kept_len l l.length
      rw [List.take_length] at hA hN hkl ⊢
      have hpo : partsOf l = if wholeB (kept l) then [kept l] else (namesOf (namesIn (kept l))).map fun n => named n (kept l) := rfl
      generalize kept l = ks at *
      have HPO := Lib.hid hpo
      clear hpo hk hlt
      cases hw1 : wholeB ks
      · rw [if_neg (by rw [hw1]; simp)] at HPO
        have hkn : (namesIn ks).length = ks.length := by unfold namesIn; simp
        generalize namesIn ks = nks at *
        clear hw1
        go_wp2_with fail
        refine (sortS_own hN (by omega)).mono ?_
        rintro e w2 ⟨rfl, hN2, hC2⟩
        have hge := own_ge hN
        have hA2 := own_far hA hC2 (fun k' hk' h => own_own hA hN (by decide) k' hk' h)
        have hE2 : Ext w w2 := Chg.mono (hE.chg_trans hC2) fun j hj h => by have := hge j h; omega
        clear hA hN hE hC2 hge
        go_wp2_with fail
        refine (compactS_own hN2 (by omega)).mono ?_
        rintro e w3 ⟨nv3, rfl, hN3, hb3, hC3⟩
        have hge := own_ge hN2
        have hA3 := own_far hA2 hC3 (fun k' hk' h => own_own hA2 hN2 (by decide) k' hk' h)
        have hE3 : Ext w w3 := Chg.mono (hE2.chg_trans hC3) fun j hj h => by have := hge j h; omega
        clear hA2 hN2 hE2 hC3 hge hb3
        have hnl := namesOf_len nks
        generalize namesOf nks = ns at *
        obtain ⟨nA, nc, rfl⟩ := own_slice' hN3
        obtain ⟨aA, ac, rfl⟩ := own_slice' hA3
        go_wp2_with fail
        go_loopw [8, 51] (fun ov iv wx => ∃ (j : Nat) (pvs : List Value), j ≤ ns.length ∧ iv = .int .i64 (j : Int) ∧ pvs.length = j ∧ wx.ownsRow w.heap.size 22 1 ov j pvs ∧
          Hid (∀ (i : Nat) (pv : Value) (n : ByteArray), pvs[i]? = some pv → ns[i]? = some n → wx.ownsRow w.heap.size 37 8 pv (named n ks).length ((named n ks).map hrow).flatten) ∧
          wx.ownsRow w.heap.size 37 8 (.slice aA ks.length ac) ks.length (ks.map hrow).flatten ∧ wx.ownsRow w.heap.size 9 1 (.slice nA ns.length nc) ns.length (ns.map Value.string) ∧ Ext w wx) (fun _ iv _ => ns.length - (intOf iv).toNat)
        case atStart => exact ⟨0, [], Nat.zero_le _, rfl, rfl, ⟨rfl, .inl ⟨rfl, rfl⟩⟩, Lib.hid (fun i pv n h => by cases h), hA3, hN3, hE3⟩
        case round =>
          clear hA3 hN3 hE3
          obtain ⟨j, pvs, hj, rfl, hpl, hO, HP, hA, hN, hE⟩ := hrel
          have hszw := hE.size
          by_cases hlt : j < ns.length
          · have hnj : ns[j]? = some ns[j] := List.getElem?_eq_getElem hlt
            have hnc : (ns.map Value.string)[j]? = some (.string ns[j]) := by rw [List.getElem?_map, hnj]; rfl
            obtain ⟨nb, no, nc', hnv, hn0⟩ := sl_elem (Sl.of_own hN) hnc
            injection hnv with hnv1 hnv2 hnv3
            clear hnv2
            subst hnv1 hnv3
            have HNJ := Lib.hid hnj
            generalize ns[j] = n at *
            clear hnc hnj
            obtain ⟨wz, hwz⟩ : ∃ wz, wz = wr := ⟨_, rfl⟩
            subst hwz
            go_wp2_with fail
            clear hn0
            go_loopw [11, 57] (fun pv iv wx => ∃ i : Nat, i ≤ ks.length ∧ iv = .int .i64 (i : Int) ∧ wx.ownsRow wz.heap.size 37 8 pv (named n (ks.take i)).length ((named n (ks.take i)).map hrow).flatten ∧ Ext wz wx) (fun _ iv _ => ks.length - (intOf iv).toNat)
            case atStart => exact ⟨0, Nat.zero_le _, rfl, ⟨rfl, .inl ⟨rfl, rfl⟩⟩, Ext.refl _⟩
            case round =>
              obtain ⟨i, hi, rfl, hP, hEz⟩ := hrel
              have hsz2 := hEz.size
              have hnl2 := named_len n ks i
              by_cases hlt2 : i < ks.length
              · have hS : Sln wr (.slice aA ks.length ac) 8 (ks.map hrow) := Sln.of_own (own_ext hA hEz) (by intro r hr; obtain ⟨x, _, rfl⟩ := List.mem_map.1 hr; rfl) (by simp)
                obtain ⟨b, o, rfl⟩ := sln_some hS (fun e => by have := List.map_eq_nil_iff.1 e; subst this; simp at hlt2)
                obtain ⟨r0, r1, r2, r3, r4, r5, r6, r7⟩ := row_cells hS hlt2
                have HNN := Lib.hid (named_next (n := n) hlt2)
                generalize named n (ks.take i) = ps at *
                generalize rowAt ks i = x at *
                clear hS
                cases hnm : (x.1.name.toList == n.toList)
                · have hne : ¬ x.1.name = n := fun e => by rw [e] at hnm; simp at hnm
                  have HNE := Lib.hid hne
                  clear hne
                  go_wp2_with fail
                  refine ⟨⟨i + 1, by omega, by go_num, ?_, hEz.alloc _⟩, by simp [intOf]; omega⟩
                  rw [HNN.out, if_neg HNE.out, List.append_nil]; exact hP.alloc _
                · have hne : x.1.name = n := by
                    have := eq_of_beq hnm
                    exact toList_inj.1 this
                  have HNE := Lib.hid hne
                  clear hne
                  obtain ⟨pA, pc, rfl⟩ := own_slice' hP
                  have hY := At.new (wr.alloc (.cells (opCells x) 37)) 37 (opCells x)
                  rw [show (wr.alloc (.cells (opCells x) 37)).heap.size = wr.heap.size + 1 by simp] at hY
                  go_wp2_with (at_builtin; refine wpList_append_own _ rfl _ _ 22 rfl wz.heap.size 37 iO _ 8 88 Try.underlying22 hiO hzO0 hzO1 hzO2 rfl (by decide) _ _ _ rfl ((hP.alloc _).alloc _) ⟨wr.heap.size + 1, 0, none⟩ 1 1 (hrow x) ?hx rfl ?c1 ?c2 ?c3 ?c4 ?c5 ?_)
                  case hx => rfl
                  case c1 =>
                    intro q u hu
                    have hq := hY.cell q
                    rw [Go.WideShapes.add_plain, Nat.zero_add, hq]
                    simpa [hrow] using hu
                  case c2 => intro u hu; simp [hrow] at hu; rcases hu with rfl | rfl | rfl | rfl | rfl | rfl | rfl | rfl <;> rfl
                  case c3 => unfold maxLen; omega
                  case c4 => omega
                  case c5 => simp; omega
                  intro v1 w4 hP4 hgrow4 _
                  have hge := own_ge hP
                  have hE4 : Ext wz w4 := Chg.mono (((hEz.alloc (.cells (opCells x) 37)).alloc (.cells (opCells x) 37)).chg_trans (Chg.of_grown hgrow4)) fun j hj h => by have := hge j h; omega
                  clear hgrow4 hge hP hEz
                  go_wp2_with fail
                  refine ⟨⟨i + 1, by omega, by go_num, ?_, hE4⟩, by simp [intOf]; omega⟩
                  rw [HNN.out, if_pos HNE.out]; simpa using hP4
              · obtain rfl : i = ks.length := by omega
                rw [List.take_length] at hP hnl2
                generalize hps : named n ks = ps at *
                have HPS := Lib.hid hps
                clear hps
                have hA5 := own_ext hA hEz
                have hN5 := own_ext hN hEz
                have hO5 := own_ext hO hEz
                have hE5 := hE.trans hEz
                obtain ⟨pA, pc, rfl⟩ := own_slice' hP
                obtain ⟨oA, oc, rfl⟩ := own_slice' hO5
                go_wp2_with (at_builtin; refine wpList_append_own _ rfl _ _ 44 rfl w.heap.size 22 iR (.slice none 0 0) 1 24 Try.underlying44 hiR hzR0 hzR1 hzR2 rfl (by decide) _ _ _ rfl (hO5.alloc _) ⟨wr.heap.size, 0, none⟩ 1 1 [.slice pA ps.length pc] ?hx rfl ?c1 ?c2 ?c3 ?c4 ?c5 ?_)
                case hx => rfl
                case c1 => exact cell_one
                case c2 => simp [Value.oneCell']
                case c3 => unfold maxLen; omega
                case c4 => omega
                case c5 => simp; omega
                intro v1 w4 hO6 hgrow6 _
                have hge := own_ge hO5
                have hG := ((Ext.refl wr).alloc (.cells #[.slice pA ps.length pc] 22)).chg_trans (Chg.of_grown hgrow6)
                have hE6 : Ext w w4 := Chg.mono (hE5.chg_trans hG) fun j hj h => by have := hge j h; omega
                have hA6 := own_far hA5 hG (fun k' hk' h => own_own hO5 hA5 (by decide) k' h hk')
                have hN6 := own_far hN5 hG (fun k' hk' h => own_own hO5 hN5 (by decide) k' h hk')
                have hP6 := own_base (own_far hP hG (fun k' hk' h => own_own hO5 hP (by decide) k' h hk')) hszw
                have HP6 : Hid (∀ (i : Nat) (pv : Value) (n' : ByteArray), (pvs ++ [.slice pA ps.length pc])[i]? = some pv → ns[i]? = some n' → w4.ownsRow w.heap.size 37 8 pv (named n' ks).length ((named n' ks).map hrow).flatten) := Lib.hid (fun i pv n' h1 h2 => by
                  by_cases hij : i < pvs.length
                  · rw [List.getElem?_append_left hij] at h1
                    have hp0 := own_ext (HP.out i pv n' h1 h2) hEz
                    exact own_far hp0 hG (fun k' hk' h => own_own hO5 hp0 (by decide) k' h hk')
                  · have hil : i < (pvs ++ [Value.slice pA ps.length pc]).length := (List.getElem?_eq_some_iff.1 h1).1
                    obtain rfl : i = j := by simp at hil; omega
                    rw [← hpl, List.getElem?_concat_length] at h1
                    rw [HNJ.out] at h2
                    cases h1; cases h2
                    rw [HPS.out]; exact hP6)
                clear hge hG hO5 hA5 hN5 hP hP6 HP hgrow6
                go_wp2_with fail
                exact ⟨⟨j + 1, pvs ++ [.slice pA ps.length pc], by omega, by go_num, by simp; omega, hO6, HP6, hA6, hN6, hE6⟩, by simp [intOf]; omega⟩
          · obtain rfl : j = ns.length := by omega
            go_wp2_with fail
            go_ret
            refine ⟨⟨_, pvs, rfl, Sl.of_own hO, ?_, ?_⟩, hE⟩
            · rw [HPO.out, List.length_map]; exact hpl
            · intro i pv p h1 h2
              rw [HPO.out, List.getElem?_map] at h2
              obtain ⟨n', hn', rfl⟩ := Option.map_eq_some_iff.1 h2
              exact Sln.of_own (HP.out i pv n' h1 hn') (by intro r hr; obtain ⟨x, _, rfl⟩ := List.mem_map.1 hr; rfl) (by simp)
      · rw [if_pos hw1] at HPO
        obtain ⟨aA, ac, rfl⟩ := own_slice' hA
        go_wp2_with fail
        go_ret
        refine ⟨⟨_, [.slice aA ks.length ac], rfl, sl_at (At.new wr _ _) 1 1 rfl, ?_, ?_⟩, hE.alloc _⟩
        · rw [HPO.out]; rfl
        · intro i pv p h1 h2
          rw [HPO.out] at h2
          have hi : i = 0 := by have := (List.getElem?_eq_some_iff.1 h1).1; simp at this; exact this
          subst hi
          cases h1; cases h2
          exact Sln.of_own (hA.alloc _) (by intro r hr; obtain ⟨x, _, rfl⟩ := List.mem_map.1 hr; rfl) (by simp)
end Go.Proofs.Ytlodaffiamegpaa
