/-
  Layer 18: the document's Do, walked.
-/
import Derived.Test.YtlodaffiamegpaaHsRef3
namespace Go.Proofs.Ytlodaffiamegpaa
open Go.RowKit Go.Sort

theorem rise_len_put (E : HEnts) (n : ByteArray) (v : Nat) (b : Bool) : (rput E n v b).length ≤ 2 * E.length + 1 := by
  unfold rput
  have := rputN_len n v (!b) E E.length
  rw [List.length_append]
  split <;> simp <;> omega
theorem rput_eff1 {E : HEnts} (h : Rises blt E) {o : HOp} (hk : o.kind = 1) : rput E o.name o.value true = reff E o := by
  rw [rput_put h]; unfold reff; rw [if_pos hk]
theorem rput_eff3 {E : HEnts} {o : HOp} (hk : o.kind = 3) : rput E o.name 0 false = reff E o := by
  rw [rput_del]; unfold reff; rw [if_neg (by omega), if_pos hk]
theorem reff_still {E : HEnts} {o : HOp} (h1 : ¬ o.kind = 1) (h3 : ¬ o.kind = 3) : reff E o = E := by
  unfold reff; rw [if_neg h1, if_neg h3]
def namesEq (E : HEnts) (ns : List ByteArray) (k : Nat) : Bool := decide (ns.take k = (E.take k).map (·.1))
theorem namesEq_next {E : HEnts} {ns : List ByteArray} {k : Nat} (h1 : k < E.length) (h2 : k < ns.length) : namesEq E ns (k + 1) = (namesEq E ns k && decide (ns[k] = (entAt E k).1)) := by
  unfold namesEq
  rw [List.take_add_one, List.take_add_one, entAt_get h1, List.getElem?_eq_getElem h2, Bool.eq_iff_iff]
  simp only [Option.toList_some, List.map_append, List.map_cons, List.map_nil, Bool.and_eq_true, decide_eq_true_eq]
  have hl : (ns.take k).length = ((E.take k).map (·.1)).length := by simp [List.length_take]; omega
  constructor
  · intro h
    have := List.append_inj h hl
    exact ⟨this.1, by simpa using this.2⟩
  · rintro ⟨h, h'⟩
    rw [h, h']

theorem err_dec (a b : Int) : decide (a = b) = (a == b) := by rw [Bool.eq_iff_iff]; simp
theorem got_dec' (a b : Nat) : ((a : Int) == (b : Int)) = decide (a = b) := by rw [Bool.eq_iff_iff]; simp; omega
theorem got_dec (a b : Nat) : decide (a = b) = ((a : Int) == (b : Int)) := by rw [Bool.eq_iff_iff]; simp; omega
set_option maxRecDepth 100000 in
set_option maxHeartbeats 2000000 in
theorem do_any (w : World) (E : HEnts) (ev : Value) (x : HRow) (hS : Sln w ev 2 (E.map erow)) (hl : E.length ≤ 999) (hr : Rises blt E) (hx : Sl w (.slice x.2.1 x.1.names.length x.2.2) (x.1.names.map Value.string)) (_hxn : x.1.names.length ≤ 9223372036854775807) :
    Calls Try.prog 22 #[ev, hagg x] w fun e w' => ∃ v', e = .returned (.tuple #[v', .bool (rok E x.1)]) ∧ Sln w' v' 2 ((reff E x.1).map erow) ∧ Hid (∀ base, base ≤ w.heap.size → w.ownsRow base 63 2 ev E.length ((E.map erow).flatten) → w'.ownsRow base 63 2 v' (reff E x.1).length (((reff E x.1).map erow).flatten)) ∧ Ext w w' := by
  obtain ⟨LA, lc, hov⟩ := sln_slice hS
  rw [List.length_map] at hov
  subst hov
  unfold hagg
  go_enter Try.func22, Try.ntmps22
  have hX0 := At.new w 56 (opCells x)
  have hE0 := (Ext.refl w).alloc (.cells (opCells x) 56)
  go_upto_region 1 with fail
  generalize hxb : w.heap.size = xb at *
  generalize w.alloc _ = w0 at *
  have x1 := hX0.cell 1
  simp at x1
  go_wp2_with fail
  refine (find_any w0 E _ x.1.name (hS.ext hE0) (by omega)).mono ?_
  rintro e w1 ⟨rfl, hE1⟩
  have hX := hX0.ext hE1
  have hE := hE0.trans hE1
  have hx1 := hx.ext hE
  have hS1 := hS.ext hE
  clear hX0 hE0 hE1 hx hS x1
  have q0 := hX.cell 0
  have q1 := hX.cell 1
  have q2 := hX.cell 2
  have q4 := hX.cell 4
  have q5 := hX.cell 5
  have q6 := hX.cell 6
  have q7 := hX.cell 7
  simp at q0 q1 q2 q4 q5 q6 q7
  generalize hgv : lget x.1.name E = gv at *
  have HGV := Lib.hid hgv
  clear hgv
  go_upto_block 0 with fail
  go_cut [0, 8] from 9 to 109 (fun lv okv wx => okv = .bool (rtells E x.1) ∧ Sln wx lv 2 ((reff E x.1).map erow) ∧ Hid (∀ base, base ≤ xb → w.ownsRow base 63 2 (.slice LA E.length lc) E.length ((E.map erow).flatten) → wx.ownsRow base 63 2 lv (reff E x.1).length (((reff E x.1).map erow).flatten)) ∧ At wx xb 56 (opCells x) ∧ Ext w wx)
  case first =>
    by_cases k1 : x.1.kind = 1
    · have b1 : (x.1.kind == 1) = true := by simp [k1]
      have ht : rtells E x.1 = (x.1.err == 0) := by unfold rtells; rw [if_pos k1, Bool.eq_iff_iff]; simp
      have HT := Lib.hid ht
      have HE := Lib.hid (rput_eff1 hr k1)
      clear k1 ht
      go_wp2_with fail
      refine (put_any w1 E _ x.1.name x.1.value true hS1 (by omega)).mono ?_
      rintro e w2 ⟨v', rfl, hS2, hE2⟩
      have hX2 := hX.ext hE2
      have p5 := hX2.cell 5
      simp at p5
      clear q0 q1 q2 q4 q5 q6 q7
      go_wp2_with fail
      go_meet
      case rel => exact ⟨by rw [HT.out], by rw [← HE.out]; exact ent_sln hS2, Lib.hid (fun base hb _ => own_base (by rw [← HE.out]; exact hS2) (by have := hE.size; omega)), hX2, hE.trans hE2⟩
    have b1 : (x.1.kind == 1) = false := by simp [k1]
    by_cases k2 : x.1.kind = 2 ∨ x.1.kind = 5
    · have b2 : (x.1.kind == 2) = true ∨ (x.1.kind == 2) = false ∧ (x.1.kind == 5) = true := by
        rcases k2 with k | k
        · left; simp [k]
        · right; simp [k]
      have k3 : ¬ x.1.kind = 3 := by omega
      have ht : rtells E x.1 = (match lget x.1.name E with | some v => decide (x.1.err = 0) && decide (x.1.got = v) | none => decide (x.1.err = 5)) := by
        unfold rtells; rw [if_neg k1, if_pos k2]; rfl
      have HE := Lib.hid (reff_still (E := E) k1 k3)
      rw [HGV.out] at ht
      have HT := Lib.hid ht
      clear ht k1 k2 k3
      cases gv with
      | none =>
        dsimp only at HT
        rcases b2 with b2 | ⟨b2, b5⟩
        all_goals
          go_wp2_with fail
          go_meet
          case rel => exact ⟨by rw [HT.out, err_dec], by rw [HE.out]; exact hS1, Lib.hid (fun base _ ho => by rw [HE.out]; exact own_ext ho hE), hX, hE⟩
      | some v =>
        dsimp only at HT
        rw [err_dec, got_dec] at HT
        rcases b2 with b2 | ⟨b2, b5⟩
        all_goals
          cases hb1 : (x.1.err == 0)
          · rw [hb1] at HT
            go_wp2_with fail
            go_meet
            case rel => exact ⟨by rw [HT.out]; rfl, by rw [HE.out]; exact hS1, Lib.hid (fun base _ ho => by rw [HE.out]; exact own_ext ho hE), hX, hE⟩
          · rw [hb1] at HT
            cases hb2 : ((x.1.got : Int) == (v : Int))
            · rw [hb2] at HT
              go_wp2_with fail
              go_meet
              case rel => exact ⟨by rw [HT.out]; rfl, by rw [HE.out]; exact hS1, Lib.hid (fun base _ ho => by rw [HE.out]; exact own_ext ho hE), hX, hE⟩
            · rw [hb2] at HT
              go_wp2_with fail
              go_meet
              case rel => exact ⟨by rw [HT.out]; rfl, by rw [HE.out]; exact hS1, Lib.hid (fun base _ ho => by rw [HE.out]; exact own_ext ho hE), hX, hE⟩
    by_cases k3 : x.1.kind = 3
    · have b2 : (x.1.kind == 2) = false := by simp [k3]
      have b5 : (x.1.kind == 5) = false := by simp [k3]
      have b3 : (x.1.kind == 3) = true := by simp [k3]
      have ht : rtells E x.1 = (match lget x.1.name E with | some _ => decide (x.1.err = 0) | none => decide (x.1.err = 5)) := by
        unfold rtells; rw [if_neg k1, if_neg k2, if_pos k3]; rfl
      rw [HGV.out] at ht
      have HT := Lib.hid ht
      have HE := Lib.hid (rput_eff3 (E := E) k3)
      clear k1 k2 k3 ht
      cases gv with
      | none =>
        go_wp2_with fail
        refine (put_any w1 E _ x.1.name 0 false hS1 (by omega)).mono ?_
        rintro e w2 ⟨v', rfl, hS2, hE2⟩
        have hX2 := hX.ext hE2
        have p5 := hX2.cell 5
        simp at p5
        clear q0 q1 q2 q4 q5 q6 q7
        go_wp2_with fail
        go_meet
        case rel => exact ⟨by rw [HT.out, err_dec], by rw [← HE.out]; exact ent_sln hS2, Lib.hid (fun base hb _ => own_base (by rw [← HE.out]; exact hS2) (by have := hE.size; omega)), hX2, hE.trans hE2⟩
      | some v =>
        dsimp only at HT
        rw [err_dec] at HT
        go_wp2_with fail
        refine (put_any w1 E _ x.1.name 0 false hS1 (by omega)).mono ?_
        rintro e w2 ⟨v', rfl, hS2, hE2⟩
        have hX2 := hX.ext hE2
        have p5 := hX2.cell 5
        simp at p5
        clear q0 q1 q2 q4 q5 q6 q7
        cases hb1 : (x.1.err == 0)
        all_goals
          rw [hb1] at HT
          go_wp2_with fail
          go_meet
          case rel => exact ⟨by rw [HT.out], by rw [← HE.out]; exact ent_sln hS2, Lib.hid (fun base hb _ => own_base (by rw [← HE.out]; exact hS2) (by have := hE.size; omega)), hX2, hE.trans hE2⟩
    have HE := Lib.hid (reff_still (E := E) k1 k3)
    have b2 : (x.1.kind == 2) = false := by
      have : ¬ x.1.kind = 2 := fun e => k2 (.inl e)
      simp [this]
    have b5 : (x.1.kind == 5) = false := by
      have : ¬ x.1.kind = 5 := fun e => k2 (.inr e)
      simp [this]
    have b3 : (x.1.kind == 3) = false := by simp [k3]
    by_cases k4 : x.1.kind = 4
    · have b4 : (x.1.kind == 4) = true := by simp [k4]
      have ht : rtells E x.1 = (decide (x.1.err = 0) && decide (x.1.names = E.map (·.1))) := by
        unfold rtells; rw [if_neg k1, if_neg k2, if_neg k3, if_pos k4]
      have HT := Lib.hid ht
      clear ht k1 k2 k3 k4
      generalize hc : ((x.1.err == 0) && ((x.1.names.length : Int) == (E.length : Int))) = c at *
      have HC := Lib.hid hc
      clear hc
      go_upto_region 14 with fail
      go_cut [8] from 79 to 89 (fun okv wx => okv = .bool c ∧ wx = w1)
      case first =>
        cases hb1 : (x.1.err == 0)
        · have hc := HC.out
          rw [hb1] at hc
          obtain rfl : c = false := by rw [← hc]; rfl
          go_wp2_with fail
          go_meet
          case rel => exact ⟨rfl, rfl⟩
        · have hc := HC.out
          rw [hb1, Bool.true_and] at hc
          subst hc
          go_wp2_with fail
          go_meet
          case rel => exact ⟨rfl, rfl⟩
      case rest =>
        obtain ⟨rfl, rfl⟩ := hcut
        have hlen : c = true → x.1.names.length = E.length := fun h => by
          have := HC.out; rw [h, Bool.and_eq_true] at this
          have := eq_of_beq this.2
          omega
        have HLEN := Lib.hid hlen
        clear hlen
        go_wp2_with fail
        go_loopw [8, 92] (fun okv iv wx => ∃ k : Nat, k ≤ E.length ∧ iv = .int .i64 (k : Int) ∧ okv = .bool (c && namesEq E x.1.names k) ∧ Ext wc wx) (fun _ iv _ => E.length - (intOf iv).toNat)
        case atStart => exact ⟨0, Nat.zero_le _, rfl, by simp [namesEq], Ext.refl _⟩
        case round =>
          obtain ⟨k, hk, rfl, rfl, hEk⟩ := hrel
          by_cases hlt : k < E.length
          · cases hcn : (c && namesEq E x.1.names k)
            · have hnx : (c && namesEq E x.1.names (k + 1)) = false := by
                cases c
                · rfl
                · have hl2 := HLEN.out rfl
                  rw [namesEq_next hlt (by omega), Bool.true_and]
                  rw [Bool.true_and] at hcn
                  rw [hcn]; rfl
              have HNX := Lib.hid hnx
              clear hnx hcn
              go_wp2_with fail
              go_region
              go_wp2_with fail
              exact ⟨⟨k + 1, by omega, by go_num, by rw [HNX.out], hEk.drew⟩, by simp [intOf]; omega⟩
            · have hcn' : c = true ∧ namesEq E x.1.names k = true := by simpa using hcn
              have hl2 := HLEN.out hcn'.1
              have hnx : (c && namesEq E x.1.names (k + 1)) = ((x.1.names.getD k ByteArray.empty).toList == (entAt E k).1.toList) := by
                rw [namesEq_next hlt (by omega), hcn'.1, hcn'.2, Bool.true_and, Bool.true_and, dec_name, List.getD_eq_getElem?_getD, List.getElem?_eq_getElem (by omega)]
                rw [Bool.eq_iff_iff]; simp
              have HNX := Lib.hid hnx
              have hnk : (x.1.names.map Value.string)[k]? = some (.string (x.1.names.getD k ByteArray.empty)) := by
                rw [List.getElem?_map, List.getD_eq_getElem?_getD, List.getElem?_eq_getElem (by omega)]; rfl
              obtain ⟨nb, no, nc', hnv, hn0⟩ := sl_elem (hx1.ext hEk) hnk
              injection hnv with hnv1 hnv2 hnv3
              clear hnv2
              have hS2 := hS1.ext hEk
              obtain ⟨b, o, rfl⟩ := sln_some hS2 (fun e => by have := List.map_eq_nil_iff.1 e; subst this; simp at hlt)
              obtain ⟨r0, r1⟩ := ent_cells hS2 hlt
              have hX2 := hX.ext hEk
              have p7 := hX2.cell 7
              simp at p7
              rw [hnv1, hl2] at p7
              generalize x.1.names.getD k ByteArray.empty = nk at *
              clear hcn' hcn hnx r1 q0 q1 q2 q4 q5 q6 q7 hS2 hX2
              go_wp2_with fail
              go_region
              go_wp2_with fail
              exact ⟨⟨k + 1, by omega, by go_num, by rw [HNX.out], hEk.drew⟩, by simp [intOf]; omega⟩
          · obtain rfl : k = E.length := by omega
            have hfin : rtells E x.1 = (c && namesEq E x.1.names E.length) := by
              rw [HT.out, ← HC.out]
              unfold namesEq
              rw [List.take_length, err_dec, got_dec', Bool.eq_iff_iff]
              simp only [Bool.and_eq_true, beq_iff_eq, decide_eq_true_eq]
              constructor
              · rintro ⟨h1, h2⟩
                have hl2 : x.1.names.length = E.length := by rw [h2]; simp
                exact ⟨⟨h1, hl2⟩, by rw [← hl2, List.take_length]; exact h2⟩
              · rintro ⟨⟨h1, h2⟩, h3⟩
                rw [← h2, List.take_length] at h3
                exact ⟨h1, h3⟩
            have HF := Lib.hid hfin
            clear hfin
            go_wp2_with fail
            go_meet
            case rel => exact ⟨by rw [HF.out], by rw [HE.out]; exact hS1.ext hEk, Lib.hid (fun base _ ho => by rw [HE.out]; exact own_ext ho (hE.trans hEk)), hX.ext hEk, hE.trans hEk⟩
    · have b4 : (x.1.kind == 4) = false := by simp [k4]
      have ht : rtells E x.1 = false := by
        unfold rtells; rw [if_neg k1, if_neg k2, if_neg k3, if_neg k4]
      have HT := Lib.hid ht
      clear ht k1 k2 k3 k4
      go_wp2_with fail
      go_meet
      case rel => exact ⟨by rw [HT.out], by rw [HE.out]; exact hS1, Lib.hid (fun base _ ho => by rw [HE.out]; exact own_ext ho hE), hX, hE⟩
  case rest =>
    clear q0 q1 q2 q4 q5 q6 q7 hX hE hS1
    obtain ⟨rfl, hS2, HOW, hX, hE⟩ := hcut
    have q4 := hX.cell 4
    simp at q4
    have hro : rok E x.1 = (rtells E x.1 || !x.1.ans) := rfl
    have han : (!x.1.ans) = decide (x.1.fin < 0) := by unfold HOp.ans; rw [Bool.eq_iff_iff]; simp
    rw [han] at hro
    have HRO := Lib.hid hro
    clear hro han
    generalize rtells E x.1 = rt at *
    cases rt
    · go_wp2_with fail
      go_region
      go_wp2_with fail
      refine bodyPost_ret (v := .tuple #[u0, .bool (decide (x.1.fin < 0))]) (by simp [results, Try.results22, go_sem]) rfl ⟨_, by rw [HRO.out]; rfl, hS2.ext (Ext.refl _).drew, Lib.hid (fun base hb ho => own_ext (HOW.out base (by omega) ho) (Ext.refl _).drew), hE.drew⟩
    · go_wp2_with fail
      go_region
      go_wp2_with fail
      refine bodyPost_ret (v := .tuple #[u0, .bool true]) (by simp [results, Try.results22, go_sem]) rfl ⟨_, by rw [HRO.out]; rfl, hS2.ext (Ext.refl _).drew, Lib.hid (fun base hb ho => own_ext (HOW.out base (by omega) ho) (Ext.refl _).drew), hE.drew⟩
end Go.Proofs.Ytlodaffiamegpaa
