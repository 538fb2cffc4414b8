/-
  Layer 18: the document's functions: Put and Without, walked.
-/
import Derived.Test.YtlodaffiamegpaaHsRef
namespace Go.Proofs.Ytlodaffiamegpaa
open Go.RowKit Go.Sort

set_option maxRecDepth 100000 in
set_option maxHeartbeats 2000000 in
theorem put_any (w : World) (E : HEnts) (ev : Value) (n : ByteArray) (v : Nat) (there : Bool) (hS : Sln w ev 2 (E.map erow)) (hl : E.length ≤ 1000) :
    Calls Try.prog 35 #[ev, .agg #[.string n, .int .u64 (v : Int)], .bool there] w fun e w' => ∃ v', e = .returned v' ∧ w'.ownsRow w.heap.size 63 2 v' (rput E n v there).length (((rput E n v there).map erow).flatten) ∧ Ext w w' := by
  obtain ⟨LA, lc, hov⟩ := sln_slice hS
  rw [List.length_map] at hov
  subst hov
  go_enter Try.func35, Try.ntmps35
  have hX0 := At.new w 63 (ecells (n, v))
  have hE0 := (Ext.refl w).alloc (.cells (ecells (n, v)) 63)
  go_upto_region 1 with fail
  generalize hxb : w.heap.size = xb at *
  generalize w.alloc _ = w0 at *
  go_wp2_with fail
  go_loopw [7, 8, 16] (fun ov dv iv wx => ∃ k : Nat, k ≤ E.length ∧ iv = .int .i64 (k : Int) ∧ dv = .bool (rputN n v (!there) E k).2 ∧ wx.ownsRow w0.heap.size 63 2 ov (rputN n v (!there) E k).1.length (((rputN n v (!there) E k).1.map erow).flatten) ∧ Ext w0 wx) (fun _ _ iv _ => E.length - (intOf iv).toNat)
  case atStart => exact ⟨0, Nat.zero_le _, rfl, rfl, w0.ownsRow_made #[] 0 (Nat.le_refl _) (by unfold maxLen; omega) rfl, (Ext.refl w0).alloc _⟩
  case round =>
    obtain ⟨k, hk, rfl, hdv, hO, hE⟩ := hrel
    subst hdv
    have hql := rputN_len n v (!there) E k
    by_cases hlt : k < E.length
    · have hS2 := hS.ext (hE0.trans hE)
      obtain ⟨b, o, rfl⟩ := sln_some hS2 (fun e => by have := List.map_eq_nil_iff.1 e; subst this; simp at hlt)
      obtain ⟨r0, r1⟩ := ent_cells hS2 hlt
      have HNX := Lib.hid (rputN_next (n := n) (v := v) (d := !there) hlt)
      generalize hq : rputN n v (!there) E k = q at *
      obtain ⟨q, d⟩ := q
      clear hq
      dsimp only at hO hql ⊢
      generalize entAt E k = p at *
      have hYb := At.new wr 63 (ecells p)
      have hO2 := hO.alloc (.cells (ecells p) 63)
      have hE2 := hE.alloc (.cells (ecells p) 63)
      have hoy : ∀ k', u7.ownBlock = some k' → k' < wr.heap.size := own_lt hO
      have HOY := Lib.hid hoy
      have hsz0 := hE.size
      clear hS2 hO hE hoy
      go_upto_region 6 with fail
      clear r0 r1
      generalize hyb : wr.heap.size = yb at *
      generalize wr.alloc _ = W1 at *
      have hX := hX0.ext hE2
      have x0 := hX.cell 0
      have x1 := hX.cell 1
      have y0 := hYb.cell 0
      have y1 := hYb.cell 1
      simp at x0 x1 y0 y1
      go_cut [28] from 20 to 28 (fun bv wx => bv = .bool (!d && !blt p.1 n) ∧ wx = W1)
      case first =>
        cases d
        · go_wp2_with fail
          go_meet
          case rel => exact ⟨by rw [less_eq]; simp, rfl⟩
        · go_wp2_with fail
          go_meet
          case rel => exact ⟨rfl, rfl⟩
      case rest =>
        obtain ⟨rfl, rfl⟩ := hcut
        have hsz1 := hE2.size
        go_upto_if 28 with fail
        go_cut [7, 8] from 28 to 32 (fun ov dv wx => dv = .bool (d || !blt p.1 n) ∧ (∃ q1 : HEnts, Hid (q1 = q ++ (if !d && !blt p.1 n then [(n, v)] else [])) ∧ q1.length ≤ 2 * k + 1 ∧ wx.ownsRow w0.heap.size 63 2 ov q1.length ((q1.map erow).flatten)) ∧ At wx yb 63 (ecells p) ∧ Ext w0 wx)
        case first =>
          cases hc : (!d && !blt p.1 n)
          · go_wp2_with fail
            go_meet
            case rel =>
              refine ⟨?_, ⟨q, Lib.hid (by rw [hc]; simp), by omega, hO2⟩, hYb, hE2⟩
              cases d <;> simp_all
          · obtain ⟨oA, oc, rfl⟩ := own_slice' hO2
            go_wp2_with (at_builtin; refine wpList_append_row _ hO2 31 Try.underlying31 ent_info rfl rfl (by decide) (by decide) rfl (by omega) (by omega) rfl _ _ rfl rfl rfl ?_)
            intro v1 w4 hO4 hC4
            have hE4 := Chg.own_ext hE2 hC4 hO2 (Nat.le_refl _)
            have hY4 := hYb.chg hC4 (fun h => by have := HOY.out _ (Eq.symm h); omega)
            clear hC4 hO2 hYb hE2 x0 x1 y0 y1 hX
            go_wp2_with fail
            go_meet
            case rel =>
              refine ⟨?_, ⟨q ++ [(n, v)], Lib.hid (by rw [hc]; simp), by simp; omega, by simpa using hO4⟩, hY4, hE4⟩
              cases d <;> simp_all
        case rest =>
          clear hO2 hYb hE2 x0 x1 y0 y1 hX
          obtain ⟨rfl, ⟨q1, HQ1, hq1, hO⟩, hY, hE⟩ := hcut
          have y0 := hY.cell 0
          have y1 := hY.cell 1
          simp at y0 y1
          have hX := hX0.ext hE
          have x0 := hX.cell 0
          simp at x0
          have hsz2 := hE.size
          have hstep : rputN n v (!there) E (k + 1) = (q1 ++ (if p.1 = n then [] else [p]), d || !blt p.1 n) := by
            rw [HNX.out]; unfold rputStep; simp only; rw [HQ1.out]
          have HST := Lib.hid hstep
          clear hstep
          cases hnm : (p.1.toList == n.toList)
          · have hne : ¬ p.1 = n := fun e => by rw [e] at hnm; simp at hnm
            rw [if_neg hne] at HST
            clear hne
            obtain ⟨oA, oc, rfl⟩ := own_slice' hO
            go_wp2_with (at_builtin; refine wpList_append_row _ hO 31 Try.underlying31 ent_info rfl rfl (by decide) (by decide) rfl (by omega) (by omega) rfl _ _ rfl rfl rfl ?_)
            intro v1 w4 hO4 hC4
            have hE4 := Chg.own_ext hE hC4 hO (Nat.le_refl _)
            clear hC4 hO hY hE hX y0 y1 x0
            go_wp2_with fail
            refine ⟨⟨k + 1, by omega, by go_num, ?_, ?_, hE4⟩, by simp [intOf]; omega⟩
            · rw [HST.out]
            · rw [HST.out]; simpa using hO4
          · have hne : p.1 = n := toList_inj.1 (eq_of_beq hnm)
            rw [if_pos hne, List.append_nil] at HST
            clear hne
            go_wp2_with fail
            refine ⟨⟨k + 1, by omega, by go_num, ?_, ?_, hE⟩, by simp [intOf]; omega⟩
            · rw [HST.out]
            · rw [HST.out]; exact hO
    · obtain rfl : k = E.length := by omega
      have hrp : rput E n v there = (rputN n v (!there) E E.length).1 ++ (if (rputN n v (!there) E E.length).2 then [] else [(n, v)]) := rfl
      generalize rputN n v (!there) E E.length = q at *
      obtain ⟨q, d⟩ := q
      dsimp only at hO hql hrp ⊢
      have HRP := Lib.hid hrp
      clear hrp
      have hX := hX0.ext hE
      have x0 := hX.cell 0
      have x1 := hX.cell 1
      simp at x0 x1
      have hsz2 := hE.size
      obtain ⟨oA, oc, rfl⟩ := own_slice' hO
      cases d
      · go_wp2_with (at_builtin; refine wpList_append_row _ hO 31 Try.underlying31 ent_info rfl rfl (by decide) (by decide) rfl (by omega) (by omega) rfl _ _ rfl rfl rfl ?_)
        intro v1 w4 hO4 hC4
        have hE4 := Chg.own_ext hE hC4 hO (Nat.le_refl _)
        clear hC4 hO hE hX x0 x1
        go_wp2_with fail
        go_ret
        refine ⟨_, rfl, ?_, hE0.trans hE4⟩
        rw [HRP.out]
        refine own_base (b1 := w0.heap.size) ?_ (by have := hE0.size; omega)
        simpa using hO4
      · go_wp2_with fail
        go_ret
        refine ⟨_, rfl, ?_, hE0.trans hE⟩
        rw [HRP.out]
        exact own_base (by simpa using hO) (by have := hE0.size; omega)
theorem ent_sln {w : World} {base : Nat} {v : Value} {E : HEnts} (h : w.ownsRow base 63 2 v E.length ((E.map erow).flatten)) : Sln w v 2 (E.map erow) :=
  Sln.of_own h (by intro r hr; obtain ⟨x, _, rfl⟩ := List.mem_map.1 hr; rfl) (by simp)
end Go.Proofs.Ytlodaffiamegpaa
