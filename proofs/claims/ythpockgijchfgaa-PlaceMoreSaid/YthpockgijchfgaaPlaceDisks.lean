/-
  Layer 15: place.Disks.
-/
import Derived.Test.YthpockgijchfgaaPlaceStable
namespace Go.Proofs.Ythpockgijchfgaa
open Go.RowKit Go.Sort

theorem clone_any (w : World) (v : Value) (hl : List Int) (hH : Sl w v (hl.map (Value.int .i64))) (hb : hl.length ≤ 17592186043904) :
    Calls Try.prog 17 #[v] w fun e w' => ∃ v', e = .returned v' ∧ w'.ownsRow w.heap.size 3 1 v' hl.length (hl.map (Value.int .i64)) ∧ Ext w w' := by
  obtain ⟨A, c, rfl, hx⟩ := hH
  rw [List.length_map]
  by_cases hne : hl = []
  · subst hne
    cases A with
    | none =>
      refine (Try.slices_Clone_int_nil _ _ _).mono ?_
      rintro e w' ⟨rfl, rfl⟩
      exact ⟨_, rfl, ⟨rfl, .inl ⟨rfl, rfl⟩⟩, Ext.refl _⟩
    | some a =>
      refine (Try.slices_Clone_int_zero a c w).mono ?_
      rintro e w' ⟨v', rfl, h1, _, h2⟩
      exact ⟨_, rfl, h1, Ext.of_below h2⟩
  · obtain ⟨b, o, rfl, hc⟩ := hx (by simpa using hne)
    refine (Try.slices_Clone_int b o hl.length c hl w (Nat.le_refl _) (by omega) (fun j hj => ?_)).mono ?_
    · exact hc j _ (by rw [List.getElem?_map, List.getElem?_eq_getElem hj, List.getD_eq_getElem?_getD, List.getElem?_eq_getElem hj]; rfl)
    · rintro e w' ⟨v', rfl, h1, _, h2⟩
      rw [List.take_length] at h1
      exact ⟨_, rfl, h1, Ext.of_below h2⟩
theorem wpList_append_none {P : Program} {ops : Array Oper} {rest : List Oper} {o : Oper} {a : Act} {w : World} {Q : Exit → Act → World → Prop} (hgd : o.guard = none) (s x : Operand) (t : TypeId)
    (ho : o.op = .call { callee := .builtin .append, args := #[s, x], argTypes := #[t, t] }) (base : Nat) (e : TypeId) (i : TypeInfo) (size : Nat) (ht : P.underlying t = some (.slice e)) (hi : P.info? e = some i)
    (v : Value) (n : Nat) (xs : List Value) (hs : a.eval s = v) (hown : w.ownsRow base e size v n xs) (hx : a.eval x = .slice none 0 0)
    (h : wpList P ops Q rest (a.put o.dst v) w) : wpList P ops Q (o :: rest) a w :=
  wpList_plain hgd fun _ hK => by
    have hrun := run_append_owned_none (P := P) w base t o.type e i size ht hi v n xs hown
    unfold Oper.wp execOp
    simp only [ho, resolve, invoke, builtin, Sem.run_bind, Sem.run_pure, Result.andThen_ok, List.map_toArray, List.map_cons, List.map_nil, hs, hx, hrun]
    exact hK _ _ h
theorem sortI_le' (zs : List Int) : (sortI zs).Pairwise (· ≤ ·) :=
  (List.pairwise_mergeSort (fun a b c h1 h2 => by simp only [decide_eq_true_eq] at *; omega) (fun a b => by simp only [Bool.or_eq_true, decide_eq_true_eq]; omega) zs).imp (by simp)
theorem own_base {w : World} {base base' : Nat} {v : Value} {xs : List Value} {n : Nat} {e : TypeId} (h : w.ownsRow base e 1 v n xs) (hb : base' ≤ base) : w.ownsRow base' e 1 v n xs := by
  refine ⟨h.1, ?_⟩
  rcases h.2 with h | ⟨g, cap, cur, h1, h2, h3⟩
  · exact .inl h
  · exact .inr ⟨g, cap, cur, h1, by omega, h3⟩
theorem own_slice {w : World} {base : Nat} {v : Value} {xs : List Value} {n : Nat} {e : TypeId} (h : w.ownsRow base e 1 v n xs) : ∃ A c, v = .slice A n c ∧ ((A = none ∧ n = 0 ∧ c = 0) ∨ ∃ g, A = some ⟨g, 0, none⟩ ∧ base ≤ g ∧ n ≤ c ∧ c ≤ maxLen) := by
  rcases h.2 with ⟨rfl, h0⟩ | ⟨g, cap, cur, rfl, hb, _, h1, h2, _⟩
  · exact ⟨none, 0, by rw [h0], .inl ⟨rfl, h0, rfl⟩⟩
  · exact ⟨_, _, rfl, .inr ⟨g, rfl, hb, h1, h2⟩⟩
theorem own_keep {w w' : World} {base : Nat} {e : TypeId} {size : Nat} {v : Value} {n : Nat} {xs : List Value} (h : w.ownsRow base e size v n xs) (hc : ∀ k, k < w.heap.size → w'.heap[k]? = w.heap[k]?) : w'.ownsRow base e size v n xs := by
  obtain ⟨h1, h2⟩ := h
  refine ⟨h1, ?_⟩
  rcases h2 with h2 | ⟨g, cap, cur, rfl, hb, hg, h3⟩
  · exact .inl h2
  · exact .inr ⟨g, cap, cur, rfl, hb, (hc g (lt_of_block hg)).trans hg, h3⟩
theorem stable_nil (w : World) (A : Option Addr) (c : Nat) (fv : Value) : Calls Try.prog 20 #[.slice A 0 c, fv] w fun e w' => e = .returned (.tuple #[]) ∧ w' = w := by
  have hc := stablec_of w (.slice A 0 c) fv 0 (by omega) (fun w' => w' = w) (insc_none w _ _)
  go_enter Try.func20, Try.ntmps20
  go_wp2_with fail
  refine hc.mono ?_
  rintro e w1 ⟨rfl, rfl⟩
  go_wp2_with fail
  go_end0
  exact ⟨rfl, rfl⟩
theorem contains_any (w : World) (v : Value) (hl : List Int) (hH : Sl w v (hl.map (Value.int .i64))) (hb : hl.length ≤ 17592186043904) (x : Int) :
    Calls Try.prog 19 #[v, .int .i64 x] w fun e w' => e = .returned (.bool (hl.contains x)) ∧ w' = w := by
  obtain ⟨A, c, rfl, hx⟩ := hH
  rw [List.length_map]
  by_cases hne : hl = []
  · subst hne
    exact Try.slices_Contains_int_empty A c x w
  · obtain ⟨b, o, rfl, hc⟩ := hx (by simpa using hne)
    have := Try.slices_Contains_int b o hl.length c hl x w (Nat.le_refl _) (by omega) (fun j hj => hc j _ (by rw [List.getElem?_map, List.getElem?_eq_getElem hj, List.getD_eq_getElem?_getD, List.getElem?_eq_getElem hj]; rfl))
    rw [List.take_length] at this
    exact this

set_option maxRecDepth 100000 in
set_option maxHeartbeats 1000000 in
theorem disks_any (w : World) (lv hvv : Value) (l : List Spot) (hv : List Int) (hS : Sln w lv 2 (l.map Spot.cells)) (hH : Sl w hvv (hv.map (Value.int .i64))) (hl : l.length ≤ 12) (hhl : hv.length ≤ 1000) (size copies : Int) (hcp : copies ≤ 1000) (hcp0 : 0 ≤ copies) :
    Calls Try.prog 7 #[lv, .int .i64 size, .int .i64 copies, hvv] w fun e w' => ∃ (v : Value) (r : List Int), e = .returned (.tuple #[v, .bool (decide (copies ≤ (r.length : Int)))]) ∧ Chosen l size copies hv r ∧ w'.ownsRow w.heap.size 3 1 v r.length (r.map (Value.int .i64)) ∧ Ext w w' := by
  obtain ⟨i0, hi, hz0, hz1, hz2⟩ := info_parts int_info
  obtain ⟨LA, lc, rfl, hlx⟩ := hS
  have hS : Sln w (.slice LA (l.map Spot.cells).length lc) 2 (l.map Spot.cells) := ⟨LA, lc, rfl, hlx⟩
  clear hlx
  rw [List.length_map] at hS ⊢
  go_enter Try.func7, Try.ntmps7
  go_wp2_with fail
  have hBx := At.new w 22 #[.slice LA l.length lc]
  have hE0 := (Ext.refl w).alloc (.cells #[.slice LA l.length lc] 22)
  generalize w.alloc (.cells #[.slice LA l.length lc] 22) = w0 at hBx hE0 ⊢
  refine (clone_any w0 hvv hv (hH.ext hE0) (by omega)).mono ?_
  rintro e w1 ⟨rv, rfl, hrown, hE1⟩
  have hE01 := hE0.trans hE1
  replace hBx := hBx.ext hE1
  have c4 := hBx.cell 0
  simp at c4
  go_wp2_with fail
  go_loopw [11, 19] (fun ov iv wr => ∃ k : Nat, k ≤ l.length ∧ iv = .int .i64 (k : Int) ∧ wr.ownsRow w1.heap.size 3 1 ov (others l size hv k).length ((others l size hv k).map ival) ∧ Ext w1 wr) (fun _ iv _ => l.length - (intOf iv).toNat)
  case atStart => exact ⟨0, Nat.zero_le _, rfl, ⟨rfl, .inl ⟨rfl, rfl⟩⟩, Ext.refl _⟩
  case round =>
    obtain ⟨k, hk, rfl, hown, hE⟩ := hrel
    by_cases hlt : k < l.length
    · have hS2 := hS.ext (hE01.trans hE)
      have hH2 := hH.ext (hE01.trans hE)
      obtain ⟨b, o, rfl⟩ : ∃ b o, LA = some ⟨b, o, none⟩ := by
        obtain ⟨A', c', hv', hx⟩ := hS2
        obtain ⟨b, o, rfl, _⟩ := hx (fun e => by have := List.map_eq_nil_iff.1 e; subst this; simp at hlt)
        simp only [Value.slice.injEq] at hv'
        exact ⟨b, o, hv'.1⟩
      obtain ⟨r0, r1⟩ := spot_cells hS2 hlt
      have hsz := hE.size
      have hos := others_succ l size hv k
      have holen := others_len l size hv k
      unfold mayB at hos
      generalize others l size hv k = os at *
      go_wp2_with fail
      refine (fits_any _ (spotAt l k) size).mono ?_
      rintro e w2 ⟨rfl, hE2⟩
      have hX : Ext w1 w2 := (hE.alloc _).trans hE2
      have hE12 := (Ext.refl wr).alloc (.cells #[.bool (spotAt l k).up, .int .i64 (spotAt l k).free] 30)
      have hown2 := own_chg (own_chg hown hE12.chg (S := fun _ => False) (fun _ h => h.elim)) (Ext.chg (S := fun _ => False) hE2) (fun _ h => h.elim)
      have hH3 := hH.ext (hE01.trans hX)
      have hsz3 := hX.size
      clear r0 r1 hE2 hE12 hown hE hS2 hH2 hsz
      cases hf : (spotAt l k).fits size
      · rw [hf] at hos
        have HO := Lib.hid hos
        clear hos
        go_wp2_with fail
        go_roundw
        case rel => exact ⟨k + 1, by omega, by go_num, by rw [HO.out]; simpa using hown2, hX⟩
        case measure => simp [intOf]; omega
      · rw [hf] at hos
        go_wp2_with fail
        refine (contains_any w2 hvv hv hH3 (by omega) (k : Int)).mono ?_
        rintro e w3 ⟨rfl, rfl⟩
        cases hcn : hv.contains (k : Int)
        · rw [hcn] at hos
          have HO := Lib.hid hos
          clear hos
          go_wp2_with (at_builtin; refine wpList_append_own _ rfl _ _ 26 rfl w1.heap.size 3 i0 (.int .i64 0) 1 8 Try.underlying26 hi hz0 hz1 hz2 rfl (by decide) _ _ _ rfl (hown2.alloc _) ⟨w3.heap.size, 0, none⟩ 1 1 [.int .i64 (k : Int)] rfl rfl ?c1 ?c2 ?c3 ?c4 ?c5 ?_)
          case c1 => exact cell_one
          case c2 => simp [Value.oneCell']
          case c3 => unfold maxLen; omega
          case c4 => omega
          case c5 => simp; omega
          intro v1 w4 hown4 hgrow4 _
          have hge := own_ge (hown2.alloc (.cells #[.int .i64 (k : Int)] 3))
          have hE4 : Ext w1 w4 := Chg.mono ((hX.alloc _).chg_trans (Chg.of_grown hgrow4)) fun j hj h => by have := hge j h; omega
          clear hgrow4 hge
          go_wp2
          go_roundw
          case rel => exact ⟨k + 1, by omega, by go_num, by rw [HO.out]; simpa [ival] using hown4, hE4⟩
          case measure => simp [intOf]; omega
        · rw [hcn] at hos
          have HO := Lib.hid hos
          clear hos
          go_wp2_with fail
          go_roundw
          case rel => exact ⟨k + 1, by omega, by go_num, by rw [HO.out]; simpa using hown2, hX⟩
          case measure => simp [intOf]; omega
    · obtain rfl : k = l.length := by omega
      have hos : ∀ x ∈ others l size hv l.length, x < l.length := fun x hx => (others_lt hx).1
      have hor : (others l size hv l.length).Pairwise (· < ·) := List.Pairwise.filter _ List.pairwise_lt_range
      have holen := others_len l size hv l.length
      have hsz := hE.size
      obtain ⟨oA, oc, hoe, hov⟩ := own_slice hown
      subst hoe
      have hsort : Calls Try.prog 20 #[.slice oA (others l size hv l.length).length oc, .func (.func 21) #[] #[.pointer (some ⟨w.heap.size, 0, none⟩)]] wr fun e w' => e = .returned (.tuple #[]) ∧
          ∃ ys : List Nat, ys.Perm (others l size hv l.length) ∧ ys.Pairwise (Ahead l) ∧ w'.ownsRow w1.heap.size 3 1 (.slice oA (others l size hv l.length).length oc) (others l size hv l.length).length (ys.map ival) ∧ Chg (fun k => w1.heap.size ≤ k) wr w' := by
        by_cases h0 : l = []
        · have hon : others l size hv l.length = [] := by subst h0; rfl
          rw [hon] at hown ⊢
          refine (stable_nil wr oA oc _).mono ?_
          rintro e w' ⟨rfl, rfl⟩
          exact ⟨rfl, [], List.Perm.refl _, List.Pairwise.nil, hown, Chg.refl _ _⟩
        · have hS2 := hS.ext (hE01.trans hE)
          obtain ⟨b, o, rfl⟩ : ∃ b o, LA = some ⟨b, o, none⟩ := by
            obtain ⟨A', c', hv', hx⟩ := hS2
            obtain ⟨b, o, rfl, _⟩ := hx (fun e => h0 (List.map_eq_nil_iff.1 e))
            simp only [Value.slice.injEq] at hv'
            exact ⟨b, o, hv'.1⟩
          have hc4 : wr.cell? ⟨w.heap.size, 0, none⟩ = some (.slice (some ⟨b, o, none⟩) l.length lc) := (Ext.cell (p := ⟨w.heap.size, 0, none⟩) hE (cell_lt c4)).trans c4
          have hbl := (hS.ext hE01).block_lt (fun r hr => by obtain ⟨s, _, rfl⟩ := List.mem_map.1 hr; simp [Spot.cells]) b o l.length lc rfl (fun e => h0 (List.map_eq_nil_iff.1 e))
          exact stable_any wr w.heap.size b o l.length lc _ w1.heap.size _ l _ hc4 hS2 (cell_lt c4) hbl hown hos hor hl (by omega)
      clear hown
      obtain ⟨rA, rc, rfl, hrv⟩ := own_slice hrown
      generalize hosl : others l size hv l.length = os at *
      go_wp2_with fail
      refine hsort.mono ?_
      clear hsort
      rintro e w5 ⟨rfl, ys, hyp, hyA, hyo, hC5⟩
      have hyl := hyp.length_eq
      have hr5 : w5.ownsRow w0.heap.size 3 1 (.slice rA hv.length rc) hv.length (hv.map (Value.int .i64)) := own_keep hrown fun k hk => (hC5.block k (by have := hE.size; omega) (by show ¬ w1.heap.size ≤ k; omega)).trans (Ext.block hE hk)
      have hX5 : Ext w w5 := Chg.mono (hE01.chg_trans (hE.chg_trans hC5)) fun j hj h => by have h' : w1.heap.size ≤ j := h; have := hE01.size; omega
      have hyl5 : ys.length ≤ 12 := by omega
      by_cases hcl : (hv.length : Int) < copies
      · obtain ⟨d, hd⟩ : ∃ d : Nat, copies = ((hv.length + d : Nat) : Int) := ⟨(copies - hv.length).toNat, by omega⟩
        subst hd
        have hdt : ((((hv.length + d : Nat) : Int) - hv.length).toNat) = d := by omega
        rcases hov with ⟨rfl, hn0, rfl⟩ | ⟨og, rfl, hob, hon, hoc⟩
        · obtain ⟨R6, hR6⟩ : ∃ R, R = hv ++ (if (hv.length : Int) < ((hv.length + d : Nat) : Int) then (ys.take (((hv.length + d : Nat) : Int) - hv.length).toNat).map Int.ofNat else []) := ⟨_, rfl⟩
          have hy0 : ys = [] := List.eq_nil_of_length_eq_zero (by omega)
          have hRe : R6 = hv := by rw [hR6, hy0]; simp
          have HR6 := Lib.hid hR6
          clear hR6
          have hm : (min ((hv.length : Int) + (d : Int) - (hv.length : Int)) 0).toNat = 0 := by omega
          have hm1 : 0 ≤ min ((hv.length : Int) + (d : Int) - (hv.length : Int)) 0 := by omega
          have hm2 : min ((hv.length : Int) + (d : Int) - (hv.length : Int)) 0 ≤ 0 := by omega
          have hr6 : w5.ownsRow w0.heap.size 3 1 (.slice rA hv.length rc) R6.length (R6.map (Value.int .i64)) := by rw [hRe]; exact hr5
          go_wp2_with (at_builtin; refine wpList_append_none rfl _ _ 26 rfl w0.heap.size 3 i0 1 Try.underlying26 hi _ _ _ rfl hr5 ?hx ?_)
          case hx => first | (show Value.slice none _ _ = _; rw [hm]) | (go_simp; done) | (go_simp; simp [hm])
          refine (sort_own hr6 (by rw [hRe]; omega)).mono ?_
          rintro e w7 ⟨rfl, hr7, hC7⟩
          have hge := own_ge hr6
          have hX7 : Ext w w7 := Chg.mono (hX5.chg_trans hC7) fun j hj h => by have := hge j h; have := hE0.size; omega
          clear hC7 hge
          go_wp2_with fail
          go_ret2
          have hsl6 : (sortI R6).length = R6.length := by unfold sortI; simp
          refine ⟨.slice rA hv.length rc, sortI R6, ?_, ⟨ys, (by rw [hosl]; exact hyp), hyA, (List.mergeSort_perm _ _).trans (by rw [HR6.out]), ?_⟩, ?_, hX7⟩
          · rw [hsl6, hRe]; simp
          · exact sortI_le' R6
          · rw [hsl6]; exact own_base hr7 hE0.size
        · obtain ⟨mm, hmm⟩ : ∃ mm : Nat, mm = min d os.length := ⟨_, rfl⟩
          obtain ⟨R6, hR6⟩ : ∃ R, R = hv ++ (if (hv.length : Int) < ((hv.length + d : Nat) : Int) then (ys.take (((hv.length + d : Nat) : Int) - hv.length).toNat).map Int.ofNat else []) := ⟨_, rfl⟩
          have hRe : R6.map (Value.int .i64) = hv.map (Value.int .i64) ++ (ys.map ival).take mm := by
            rw [hR6, if_pos hcl, hdt, List.map_append, List.map_map, hmm, ← hyl, ← List.map_take]
            congr 1
            rw [show ys.take (min d ys.length) = ys.take d by rw [List.take_eq_take_iff]; omega]
            rfl
          have hRl : R6.length = hv.length + mm := by have := congrArg List.length hRe; simp at this; omega
          have HR6 := Lib.hid hR6
          clear hR6
          have hm : (min ((hv.length : Int) + (d : Int) - (hv.length : Int)) (os.length : Int)).toNat = mm := by omega
          have hm1 : 0 ≤ min ((hv.length : Int) + (d : Int) - (hv.length : Int)) (os.length : Int) := by omega
          have hm2 : min ((hv.length : Int) + (d : Int) - (hv.length : Int)) (os.length : Int) ≤ (oc : Int) := by omega
          have hcells : ∀ j u, ((ys.map ival).take mm)[j]? = some u → w5.cell? (Addr.add ⟨og, 0, none⟩ j) = some u := fun j u hj => by
            have hj2 : j < mm := by have := (List.getElem?_eq_some_iff.1 hj).1; simp at this; omega
            have := hyo.cellAt j (by omega)
            rw [Go.WideShapes.add_plain, Nat.zero_add, this, ← hj, List.getElem?_take, if_pos hj2]
          have hlen6 : ((ys.map ival).take mm).length = mm := by simp; omega
          have hone : ∀ u ∈ (ys.map ival).take mm, u.oneCell' = true := fun u hu => by
            obtain ⟨q, _, rfl⟩ := List.mem_map.1 (List.mem_of_mem_take hu); rfl
          have hs05 : w0.heap.size ≤ w5.heap.size := by have := hE1.size; have := hE.size; have := hC5.size; omega
          have hmo : mm ≤ os.length := by omega
          clear hmm
          go_wp2_with (at_builtin; refine wpList_append_own _ rfl _ _ 26 rfl w0.heap.size 3 i0 (.int .i64 0) 1 8 Try.underlying26 hi hz0 hz1 hz2 rfl (by decide) _ _ _ rfl hr5 ⟨og, 0, none⟩ mm oc ((ys.map ival).take mm) ?hx (by omega) hcells hone (by unfold maxLen; omega) (by omega) hs05 ?_)
          case hx => go_simp
          intro v6 w6 hr6 hg6 _
          rw [← hRe, ← hRl] at hr6
          have hX6 : Ext w w6 := Chg.mono (hX5.chg_trans (Chg.of_grown hg6)) fun j hj h => by have := own_ge hr5 j h; have := hE0.size; omega
          clear hg6 hRe
          have HRl := Lib.hid hRl
          clear hRl hcells hone hlen6 hm hm1 hm2
          obtain ⟨sA, sc, rfl, hsv⟩ := own_slice hr6
          go_wp2_with fail
          refine (sort_own hr6 (by have := HRl.out; omega)).mono ?_
          rintro e w7 ⟨rfl, hr7, hC7⟩
          have hge := own_ge hr6
          have hX7 : Ext w w7 := Chg.mono (hX6.chg_trans hC7) fun j hj h => by have := hge j h; have := hE0.size; omega
          clear hC7 hge
          have hsl6 : (sortI R6).length = R6.length := by unfold sortI; simp
          have HSL := Lib.hid hsl6
          clear hsl6
          go_wp2_with fail
          go_ret2
          refine ⟨.slice sA R6.length sc, sortI R6, ?_, ⟨ys, (by rw [hosl]; exact hyp), hyA, (List.mergeSort_perm _ _).trans (by rw [HR6.out]), ?_⟩, ?_, hX7⟩
          · rw [HSL.out]; simp
          · exact sortI_le' R6
          · rw [HSL.out]; exact own_base hr7 hE0.size
      · obtain ⟨R6, hR6⟩ : ∃ R, R = hv ++ (if (hv.length : Int) < copies then (ys.take (copies - hv.length).toNat).map Int.ofNat else []) := ⟨_, rfl⟩
        have hRe : R6 = hv := by rw [hR6, if_neg hcl, List.append_nil]
        have HR6 := Lib.hid hR6
        clear hR6
        have hr6 : w5.ownsRow w0.heap.size 3 1 (.slice rA hv.length rc) R6.length (R6.map (Value.int .i64)) := by rw [hRe]; exact hr5
        go_wp2_with fail
        refine (sort_own hr6 (by rw [hRe]; omega)).mono ?_
        rintro e w7 ⟨rfl, hr7, hC7⟩
        have hge := own_ge hr6
        have hX7 : Ext w w7 := Chg.mono (hX5.chg_trans hC7) fun j hj h => by have := hge j h; have := hE0.size; omega
        clear hC7 hge
        go_wp2_with fail
        go_ret2
        have hsl6 : (sortI R6).length = R6.length := by unfold sortI; simp
        refine ⟨.slice rA hv.length rc, sortI R6, ?_, ⟨ys, (by rw [hosl]; exact hyp), hyA, (List.mergeSort_perm _ _).trans (by rw [HR6.out]), ?_⟩, ?_, hX7⟩
        · rw [hsl6, hRe, decide_eq_true (by omega : copies ≤ (hv.length : Int))]; rfl
        · exact sortI_le' R6
        · rw [hsl6]; exact own_base hr7 hE0.size
end Go.Proofs.Ythpockgijchfgaa
