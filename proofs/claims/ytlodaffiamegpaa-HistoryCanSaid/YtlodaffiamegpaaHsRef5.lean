/-
  Layer 18: the document's Check, walked.
-/
import Derived.Test.YtlodaffiamegpaaHsRef4
namespace Go.Proofs.Ytlodaffiamegpaa
open Go.RowKit Go.Sort

theorem opsOf_erase : ∀ (l : List HRow) (i : Nat), opsOf (l.eraseIdx i) = (opsOf l).eraseIdx i
  | [], _ => rfl
  | _ :: _, 0 => rfl
  | x :: l, i + 1 => by
    show x.1 :: opsOf (l.eraseIdx i) = x.1 :: (opsOf l).eraseIdx i
    rw [opsOf_erase l i]
theorem erase_sub {l : List HRow} {i : Nat} {x : HRow} (h : x ∈ l.eraseIdx i) : x ∈ l := List.mem_of_mem_eraseIdx h
def rgo (m : Nat) (l : List HOp) (E : HEnts) (i : Nat) : Bool := rmay l i (opAt l i) && (rok E (opAt l i) && rchk m (l.eraseIdx i) (reff E (opAt l i)))
theorem rchk_over {m : Nat} {l : List HOp} {E : HEnts} (h : l.all (fun o => !o.ans) = true) : rchk m l E = true := by
  cases m with
  | zero => rfl
  | succ m => unfold rchk; rw [h]; rfl
theorem rchk_yes {m : Nat} {l : List HOp} {E : HEnts} {i : Nat} (hi : i < l.length) (h : rgo m l E i = true) : rchk (m + 1) l E = true := by
  unfold rchk
  rw [Bool.or_eq_true]
  refine .inr (List.any_eq_true.2 ⟨i, List.mem_range.2 hi, ?_⟩)
  rw [opAt_get hi]
  exact h
theorem rchk_no {m : Nat} {l : List HOp} {E : HEnts} (h0 : l.all (fun o => !o.ans) = false) (h : ∀ i, i < l.length → rgo m l E i = false) : rchk (m + 1) l E = false := by
  unfold rchk
  rw [h0, Bool.false_or, List.any_eq_false]
  intro i hi
  have hi' := List.mem_range.1 hi
  rw [opAt_get hi']
  have := h i hi'
  unfold rgo at this
  simp only [this]
  simp
theorem reff_len (E : HEnts) (o : HOp) (h : Rises blt E) : (reff E o).length ≤ E.length + 1 := by
  unfold reff
  split
  · rw [(lput_perm blt_ordd h).length_eq, List.length_cons]
    have : (ldel o.name E).length ≤ E.length := List.length_filter_le _ _
    omega
  · split
    · have : (ldel o.name E).length ≤ E.length := List.length_filter_le _ _
      omega
    · omega
theorem all_take_succ {l : List HRow} {k : Nat} (f : HRow → Bool) (h : k < l.length) : (l.take (k + 1)).all f = ((l.take k).all f && f (rowAt l k)) := by
  have : l.take (k + 1) = l.take k ++ [rowAt l k] := by
    rw [List.take_add_one, rowAt_get h]; rfl
  rw [this, List.all_append]; simp
theorem ans_lt (x : HOp) : (!x.ans) = decide (x.fin < 0) := by unfold HOp.ans; rw [Bool.eq_iff_iff]; simp

set_option maxRecDepth 100000 in
set_option maxHeartbeats 2000000 in
theorem rchk_any : ∀ (m : Nat) (w : World) (l : List HRow) (E : HEnts) (lv ev : Value), l.length ≤ m → Sln w lv 8 (l.map hrow) → (∀ x ∈ l, Sl w (.slice x.2.1 x.1.names.length x.2.2) (x.1.names.map Value.string)) → (∀ x ∈ l, x.1.names.length ≤ 9223372036854775807) →
    Sln w ev 2 (E.map erow) → Rises blt E → E.length + l.length ≤ 100 →
    Calls Try.prog 13 #[lv, ev] w fun e w' => e = .returned (.bool (rchk m (opsOf l) E)) ∧ Ext w w' := by
  intro m
  induction m with
  | zero =>
    intro w l E lv ev hm hS hR hxn hSE hr hlen
    have hl0 : l = [] := List.eq_nil_of_length_eq_zero (by omega)
    subst hl0
    obtain ⟨LA, lc, hov⟩ := sln_slice hS
    have hov' : lv = .slice LA 0 lc := hov
    subst hov'
    clear hov
    go_enter Try.func13, Try.ntmps13
    go_wp2_with fail
    go_loopw [5, 17] (fun bv iv wx => bv = .bool true ∧ iv = .int .i64 0 ∧ wx = w) (fun _ _ _ => 0)
    case atStart => exact ⟨rfl, rfl, rfl⟩
    case round =>
      obtain ⟨rfl, rfl, rfl⟩ := hrel
      go_wp2_with fail
      go_ret
      exact ⟨rfl, Ext.refl _⟩
  | succ m ih =>
    intro w l E lv ev hm hS hR hxn hSE hr hlen
    have HR := Lib.hid hR
    have HXN := Lib.hid hxn
    have IH := Lib.hid ih
    clear hR hxn ih
    obtain ⟨LA, lc, hov⟩ := sln_slice hS
    rw [List.length_map] at hov
    subst hov
    go_enter Try.func13, Try.ntmps13
    go_wp2_with fail
    go_loopw [5, 17] (fun bv iv wx => ∃ k : Nat, k ≤ l.length ∧ iv = .int .i64 (k : Int) ∧ bv = .bool ((l.take k).all fun x => !x.1.ans) ∧ Ext w wx) (fun _ iv _ => l.length - (intOf iv).toNat)
    case atStart => exact ⟨0, Nat.zero_le _, rfl, rfl, Ext.refl _⟩
    case round =>
      obtain ⟨k, hk, rfl, rfl, hE⟩ := hrel
      by_cases hlt : k < l.length
      · have hS2 := hS.ext hE
        obtain ⟨b, o, rfl⟩ := sln_some hS2 (fun e => by have := List.map_eq_nil_iff.1 e; subst this; simp at hlt)
        obtain ⟨r0, r1, r2, r3, r4, r5, r6, r7⟩ := row_cells hS2 hlt
        have HNX := Lib.hid (all_take_succ (fun x => !x.1.ans) hlt)
        generalize (l.take k).all (fun x => !x.1.ans) = bb at *
        generalize rowAt l k = x at *
        have hE2 := hE.alloc (.cells (opCells x) 56)
        have hAN := Lib.hid (ans_lt x.1)
        clear hS2
        cases bb
        · go_wp2_with fail
          exact ⟨⟨k + 1, by omega, by go_num, by rw [HNX.out]; rfl, hE2⟩, by simp [intOf]; omega⟩
        · go_wp2_with fail
          exact ⟨⟨k + 1, by omega, by go_num, by rw [HNX.out, hAN.out]; rfl, hE2⟩, by simp [intOf]; omega⟩
      · obtain rfl : k = l.length := by omega
        rw [List.take_length]
        have hall : ((opsOf l).all fun o => !o.ans) = l.all fun x => !x.1.ans := by unfold opsOf; rw [List.all_map]; rfl
        have HALL := Lib.hid hall
        clear hall
        cases hov : l.all fun x => !x.1.ans
        case true =>
          have hres := Lib.hid (rchk_over (m := m + 1) (E := E) (by rw [HALL.out, hov]))
          clear hov
          go_wp2_with fail
          go_ret
          exact ⟨by rw [hres.out]; rfl, hE⟩
        case false =>
          rw [hov] at HALL
          clear hov
          go_wp2_with fail
          go_loopw [31] (fun iv wx => ∃ k : Nat, k ≤ l.length ∧ iv = .int .i64 (k : Int) ∧ Hid (∀ i, i < k → rgo m (opsOf l) E i = false) ∧ Ext w wx) (fun iv _ => l.length - (intOf iv).toNat)
          case atStart => exact ⟨0, Nat.zero_le _, rfl, Lib.hid (fun i hi => by omega), hE⟩
          case round =>
            clear hE
            obtain ⟨k, hk, rfl, HNO, hE⟩ := hrel
            by_cases hlt : k < l.length
            · have hS2 := hS.ext hE
              obtain ⟨b, o, rfl⟩ := sln_some hS2 (fun e => by have := List.map_eq_nil_iff.1 e; subst this; simp at hlt)
              obtain ⟨r0, r1, r2, r3, r4, r5, r6, r7⟩ := row_cells hS2 hlt
              have hopx := rowAt_op hlt
              have hxm : rowAt l k ∈ l := List.mem_of_getElem? (rowAt_get hlt)
              have hNX : rgo m (opsOf l) E k = false → ∀ i, i < k + 1 → rgo m (opsOf l) E i = false := fun h i hi => by
                by_cases hik : i = k
                · subst hik; exact h
                · exact HNO.out i (by omega)
              have HNX := Lib.hid hNX
              have hgo : rgo m (opsOf l) E k = (((l.eraseIdx k).all fun q => !q.1.ans || decide ((rowAt l k).1.start ≤ q.1.fin)) && (rok E (rowAt l k).1 && rchk m (opsOf (l.eraseIdx k)) (reff E (rowAt l k).1))) := by
                unfold rgo rmay
                rw [← opsOf_erase, ← hopx]
                unfold opsOf
                rw [List.all_map]; rfl
              have HGO := Lib.hid hgo
              have HXM := Lib.hid hxm
              clear hgo hNX hopx HNO hxm
              generalize rowAt l k = x at *
              have hYb := At.new wr 56 (opCells x)
              have hE2 := hE.alloc (.cells (opCells x) 56)
              clear hE hS2
              go_upto_region 12 with fail
              clear r0 r1 r2 r3 r4 r5 r6 r7
              generalize hyb : wr.heap.size = yb at *
              generalize wr.alloc _ = W1 at *
              go_wp2_with fail
              refine (without_any W1 l _ k (hS.ext hE2) (by omega)).mono ?_
              rintro e w2 ⟨pv, rfl, hSp, hEw⟩
              have hE3 := hE2.trans hEw
              have hY2 := hYb.ext hEw
              obtain ⟨PA, pc, hpv⟩ := sln_slice hSp
              rw [List.length_map] at hpv
              subst hpv
              have hpl : (l.eraseIdx k).length ≤ 100 := by have := List.length_eraseIdx_le l k; omega
              have hel : (l.eraseIdx k).length ≤ m := by rw [List.length_eraseIdx_of_lt hlt]; omega
              have hel2 : (l.eraseIdx k).length + 1 = l.length := by rw [List.length_eraseIdx_of_lt hlt]; omega
              have hpm : ∀ y ∈ l.eraseIdx k, y ∈ l := fun y hy => erase_sub hy
              have HPM := Lib.hid hpm
              clear hpm hYb hE2 hEw
              have HW := Lib.hid (fun (wx : World) (lv : Value) (h : Sln wx lv 8 (l.map hrow)) => without_any wx l lv k h (by omega))
              generalize l.eraseIdx k = p at *
              go_wp2_with fail
              go_loopw [10, 40] (fun bv iv wx => ∃ j : Nat, j ≤ p.length ∧ iv = .int .i64 (j : Int) ∧ bv = .bool ((p.take j).all fun q => !q.1.ans || decide (x.1.start ≤ q.1.fin)) ∧ Ext w2 wx) (fun _ iv _ => p.length - (intOf iv).toNat)
              case atStart => exact ⟨0, Nat.zero_le _, rfl, rfl, Ext.refl _⟩
              case round =>
                obtain ⟨j, hj, rfl, rfl, hEj⟩ := hrel
                by_cases hlj : j < p.length
                · have hS3 := hSp.ext hEj
                  obtain ⟨b2, o2, rfl⟩ := sln_some hS3 (fun e => by have := List.map_eq_nil_iff.1 e; subst this; simp at hlj)
                  obtain ⟨r0, r1, r2, r3, r4, r5, r6, r7⟩ := row_cells hS3 hlj
                  have HNXJ := Lib.hid (all_take_succ (fun q => !q.1.ans || decide (x.1.start ≤ q.1.fin)) hlj)
                  generalize (p.take j).all (fun q => !q.1.ans || decide (x.1.start ≤ q.1.fin)) = bb at *
                  generalize rowAt p j = q at *
                  have hYj := hY2.ext (hEj.alloc (.cells (opCells q) 56))
                  have hE4 := hEj.alloc (.cells (opCells q) 56)
                  have y3 := hYj.cell 3
                  simp at y3
                  have HAN := Lib.hid (ans_lt q.1)
                  clear hS3 hYj
                  cases bb
                  · go_wp2_with fail
                    exact ⟨⟨j + 1, by omega, by go_num, by rw [HNXJ.out]; rfl, hE4⟩, by simp [intOf]; omega⟩
                  · by_cases hq : q.1.fin < 0
                    · have hd : (!q.1.ans) = true := by rw [HAN.out]; simpa using hq
                      have HD := Lib.hid hd
                      clear hd
                      go_wp2_with fail
                      exact ⟨⟨j + 1, by omega, by go_num, by rw [HNXJ.out, HD.out]; rfl, hE4⟩, by simp [intOf]; omega⟩
                    · have hd : (!q.1.ans) = false := by rw [HAN.out]; simpa using hq
                      have HD := Lib.hid hd
                      clear hd
                      go_wp2_with fail
                      exact ⟨⟨j + 1, by omega, by go_num, by rw [HNXJ.out, HD.out]; rfl, hE4⟩, by simp [intOf]; omega⟩
                · obtain rfl : j = p.length := by omega
                  rw [List.take_length]
                  generalize (p.all fun q => !q.1.ans || decide (x.1.start ≤ q.1.fin)) = may at *
                  cases may
                  · have hno : rgo m (opsOf l) E k = false := by rw [HGO.out]; rfl
                    have HN := Lib.hid (HNX.out hno)
                    clear hno HGO
                    go_wp2_with fail
                    exact ⟨⟨k + 1, by omega, by go_num, HN, hE3.trans hEj⟩, by simp [intOf]; omega⟩
                  · rw [Bool.true_and] at HGO
                    have hYj := hY2.ext hEj
                    have q0 := hYj.cell 0
                    have q1 := hYj.cell 1
                    have q2 := hYj.cell 2
                    have q3 := hYj.cell 3
                    have q4 := hYj.cell 4
                    have q5 := hYj.cell 5
                    have q6 := hYj.cell 6
                    have q7 := hYj.cell 7
                    simp at q0 q1 q2 q3 q4 q5 q6 q7
                    have hE4 := hE3.trans hEj
                    go_wp2_with fail
                    refine (do_any wr E _ x (hSE.ext hE4) (by omega) hr ((HR.out x HXM.out).ext hE4) (HXN.out x HXM.out)).mono ?_
                    rintro e w5 ⟨nv, rfl, hSn, _, hE5⟩
                    have hE6 := hE4.trans hE5
                    have hrl := reff_len E x.1 hr
                    have hrr := reff_rises hr x.1
                    clear q0 q1 q2 q3 q4 q5 q6 q7 hYj hE4
                    generalize reff E x.1 = E2 at *
                    generalize rok E x.1 = rk at *
                    cases rk
                    · have hno : rgo m (opsOf l) E k = false := by rw [HGO.out]; rfl
                      have HN := Lib.hid (HNX.out hno)
                      clear hno HGO
                      go_wp2_with fail
                      exact ⟨⟨k + 1, by omega, by go_num, HN, hE6⟩, by simp [intOf]; omega⟩
                    · rw [Bool.true_and] at HGO
                      go_wp2_with fail
                      refine (HW.out w5 _ (hS.ext hE6)).mono ?_
                      rintro e w7 ⟨pv2, rfl, hSp2, hE7⟩
                      have hE8 := hE6.trans hE7
                      go_wp2_with fail
                      refine (IH.out w7 p E2 pv2 _ hel hSp2 (fun y hy => (HR.out y (HPM.out y hy)).ext hE8) (fun y hy => HXN.out y (HPM.out y hy)) (hSn.ext hE7) hrr (by omega)).mono ?_
                      rintro e w9 ⟨rfl, hE9⟩
                      have hE10 := hE8.trans hE9
                      generalize rchk m (opsOf p) E2 = rc at *
                      cases rc
                      · have HN := Lib.hid (HNX.out HGO.out)
                        clear HGO
                        go_wp2_with fail
                        exact ⟨⟨k + 1, by omega, by go_num, HN, hE10⟩, by simp [intOf]; omega⟩
                      · have hres := Lib.hid (rchk_yes (by rw [opsOf_len]; exact hlt) HGO.out)
                        clear HGO
                        go_wp2_with fail
                        go_ret
                        exact ⟨by rw [hres.out]; rfl, hE10⟩
            · obtain rfl : k = l.length := by omega
              have hres := Lib.hid (rchk_no HALL.out (fun i hi => HNO.out i (by rw [opsOf_len] at hi; exact hi)))
              clear HNO
              go_wp2_with fail
              go_ret
              exact ⟨by rw [hres.out]; rfl, hE⟩
end Go.Proofs.Ytlodaffiamegpaa
