/-
  Part 19 of what the law leans on.
-/
import Derived.Test.YtfjhdflpanaapaaS14
import Derived.Test.YtfjhdflpanaapaaS18
set_option linter.unusedVariables false
set_option linter.unusedSimpArgs false
set_option linter.unusedSectionVars false
namespace Go.Proofs.Ytfjhdflpanaapaa
open Go.RowKit Go.Sort
def clampI (x : Int) : Int := min (max x 0) 1000000
theorem clampI_range (x : Int) : 0 ≤ clampI x ∧ clampI x ≤ 1000000 := by unfold clampI; omega
theorem clamp_step (ks : List Int) (j : Nat) (x : Int) (hx : ks[j]? = some x) : (((ks.take j).map clampI ++ ks.drop j).map (Value.int .i64)).set j (.int .i64 (clampI x)) = ((ks.take (j + 1)).map clampI ++ ks.drop (j + 1)).map (Value.int .i64) := by
  have hj : j < ks.length := (List.getElem?_eq_some_iff.1 hx).1
  have hd : ks.drop j = x :: ks.drop (j + 1) := by
    rw [List.drop_eq_getElem_cons hj]
    congr 1
    exact (List.getElem?_eq_some_iff.1 hx).2
  have hl : ((ks.take j).map clampI).length = j := by simp; omega
  rw [hd, List.take_add_one, hx]
  simp only [List.map_append, List.map_cons, Option.toList_some, List.map_nil, List.append_assoc, List.cons_append, List.nil_append]
  rw [List.set_append_right _ _ (by simp; omega)]
  simp only [List.length_map, List.length_take, Nat.min_eq_left (Nat.le_of_lt hj), Nat.sub_self, List.set_cons_zero]
theorem quiet_load_mid {P : Program} {a : Act} {o : Oper} {C : World → Prop} {K : Act → Prop} {ty : TypeId} {x : Operand} (ho : o.op = .load ty x) {b off : Nat} (hx : a.eval x = .pointer (some ⟨b, off, none⟩)) {cs : Array Value} {d : TypeDesc} (hc : ∀ w, C w → w.rangeAt b off cs.toList) (hu : P.underlying ty = some d) (hd : d.isRow = true) (hi : (P.info? ty).map (·.size) = some cs.toList.length)
    (hk : K (a.put o.dst (.agg cs))) : o.quiet P a C K :=
  ⟨_, fun w hw => by unfold Oper.quietAt; rw [exec_load_mid ho hx (hc w hw) hu hd hi]; exact ⟨rfl, rfl⟩, hk⟩
theorem CmdsIn.ext {w w' : World} {l : List CRow} {v : Value} (h : CmdsIn w l v) (hE : Ext w w') : CmdsIn w' l v := ⟨h.ops.ext hE, h.cap, fun x hx => (h.row x hx).ext hE, h.len⟩
set_option maxRecDepth 100000 in
set_option maxHeartbeats 4000000 in
theorem choose_any (w : World) (lv hv iv cv : Value) (l : List Spot) (have_ items : List Int) (cmds : List CRow) (size copies pool not_ percent : Int) (hL : SlnC w lv 2 (l.map Spot.cells)) (hH : Sl w hv (have_.map (Value.int .i64))) (hHl : have_.length ≤ maxLen) (hC : CmdsIn w cmds cv) (hI : SlC w iv (items.map (Value.int .i64))) :
    Calls Try.prog 3 #[lv, hv, .int .i64 size, .int .i64 copies, .int .i64 pool, .int .i64 not_, cv, iv, .int .i64 percent] w fun e w' => e = .returned (.bool true) ∧ Ext w w' := by
  obtain ⟨i0, hi, hz0, hz1, hz2⟩ := info_parts int_info
  obtain ⟨hI, IA, ic, rfl, hic, hicm⟩ := hI
  rw [List.length_map] at hic hI ⊢
  unfold maxLen at hicm
  obtain ⟨k, hk⟩ : ∃ k, k = min items.length 12 := ⟨_, rfl⟩
  have hm : min (items.length : Int) 12 = (k : Int) := by omega
  have hkc : (k : Int) ≤ (ic : Int) := by omega
  have hk12 : k ≤ 12 := by omega
  have hkl : k ≤ items.length := by omega
  have hI1 : Sln w (.slice IA k ic) 1 (((items.take k).map (Value.int .i64)).map fun x => [x]) := by
    have h := hI.sln.pre (c' := ic) hkl
    rw [← List.map_take, ← List.map_take] at h
    exact h
  have hlen : (items.take k).length = k := by rw [List.length_take]; omega
  have HIM := Lib.hid hm
  clear hk hI hm
  generalize items.take k = ks at hI1 hlen
  go_enter Try.func3, Try.ntmps3
  have HAW := awake15_any w
  go_wp2_with fail
  refine HAW.mono ?_
  rintro e w1 ⟨rfl, hE1⟩
  clear HAW
  have HSP := spots_anyR w1 lv l ⟨hL.1.ext hE1, hL.2⟩
  go_wp2_with fail
  refine HSP.mono ?_
  rintro e w2 ⟨v1, v2, rfl, hs1, hE2, ⟨SA, sc, rfl, _⟩, hs2⟩
  clear HSP
  have hE02 := hE1.trans hE2
  clear hE1 hE2
  have hl12 : (l.take 12).length ≤ 12 := List.length_take_le _ _
  generalize l.take 12 = ss at hs1 hs2 hl12 ⊢
  have HSO := some_anyR w2 hv have_ ss.length (hH.ext hE02) hHl hl12
  go_wp2_with fail
  refine HSO.mono ?_
  rintro e w3 ⟨hv', hs, rfl, hsl, hsn, hsr, hown, hE3⟩
  clear HSO
  have hE03 := hE02.trans hE3
  have hH3 := Sl.of_own hown
  have hs13 := hs1.ext hE3
  have hs23 := hs2.ext hE3
  clear hE3 hs1 hs2 hown hE02
  have hm := HIM.out
  go_upto_region 6 with fail
  obtain ⟨cp, hcp⟩ : ∃ cp, cp = min (max copies 0) 20 := ⟨_, rfl⟩
  rw [← hcp]
  have hcp0 : 0 ≤ cp ∧ cp ≤ 20 := by omega
  clear hcp
  have hO := own_empty (w := w3) (base := w3.heap.size) (e := 3) (size := 1) (Nat.le_refl _)
  have hE04 := hE03.alloc (.cells #[] 3)
  have hE34 := (Ext.refl w3).alloc (.cells #[] 3)
  go_wp2_with (at_builtin; refine wpList_append_sln hO (hI1.ext hE04) (one_len _) (ints_one _) 23 Try.underlying23 int_info rfl (by decide) (by decide) (by simp; omega) (by simp) rfl _ _ rfl rfl rfl ?_)
  intro qv w5 hown hgrow
  have hE35 : Ext w3 w5 := Chg.own_ext hE34 hgrow hO (Nat.le_refl _)
  have hfl : ∀ q : List Int, (q.map ((fun x => [x]) ∘ Value.int .i64)).flatten = q.map (Value.int .i64) := fun q => by
    induction q with
    | nil => rfl
    | cons a q ih => simp [ih]
  rw [hfl] at hown
  clear hfl hgrow hO hE04 hE34 hm HIM hkl hkc hic hicm hI1
  subst hlen
  obtain ⟨QA, qc, rfl⟩ := own_slc hown
  go_wp2_with fail
  go_loopw [52] (fun jv wr => ∃ j : Nat, j ≤ ks.length ∧ jv = .int .i64 (j : Int) ∧ wr.ownsRow w3.heap.size 3 1 (.slice QA ks.length qc) ks.length (((ks.take j).map clampI ++ ks.drop j).map (Value.int .i64)) ∧ Ext w3 wr) (fun jv _ => ks.length - (intOf jv).toNat)
  case atStart => exact ⟨0, Nat.zero_le _, rfl, by simpa using hown, hE35⟩
  case round =>
    clear hown hE35
    obtain ⟨j, hj, rfl, hown, hE⟩ := hrel
    by_cases hlt : j < ks.length
    · obtain ⟨g, cap, hv2, hgb, hgl, hnc, hcm, hfz⟩ := own_some hown (by omega)
      injection hv2 with q1 q2 q3
      subst q1
      subst q3
      obtain ⟨x, hx⟩ : ∃ x, ks[j]? = some x := ⟨_, List.getElem?_eq_getElem hlt⟩
      have hcl := clamp_step ks j x hx
      have hcell : (((ks.take j).map clampI ++ ks.drop j).map (Value.int .i64))[j]? = some (.int .i64 x) := by
        rw [List.getElem?_map, List.getElem?_append_right (by simp; omega)]
        simp only [List.length_map, List.length_take, Nat.min_eq_left hj, Nat.sub_self, List.getElem?_drop, Nat.add_zero, hx]
        rfl
      have c1 : wr.cell? ⟨g, j, none⟩ = some (.int .i64 x) := by
        obtain ⟨A', c', e2, h2⟩ := Sl.of_own hown
        obtain ⟨b2, o2, rfl, hc2⟩ := h2 (fun e => by rw [e] at hcell; cases hcell)
        simp only [Value.slice.injEq, Option.some.injEq, Addr.mk.injEq, and_true] at e2
        obtain ⟨⟨rfl, rfl⟩, _⟩ := e2
        have := hc2 j _ hcell
        rwa [Nat.zero_add] at this
      have f1 := hfz j
      have hset := own_set hown (j := j) (by omega) (.int .i64 (clampI x))
      rw [hcl] at hset
      have HST := Lib.hid hset
      have HEX := Lib.hid hE
      clear hown hE hset hcell hcl hfz
      go_wp2_with fail
      exact ⟨⟨j + 1, by omega, by simp, HST.out, HEX.out.setCell hgb _⟩, by simp only [intOf]; omega⟩
    · obtain rfl : j = ks.length := by omega
      have hir : ∀ x ∈ ks.map clampI, 0 ≤ x ∧ x ≤ 1000000 := fun x hx => by
        obtain ⟨y, _, rfl⟩ := List.mem_map.1 hx
        exact clampI_range y
      have hil : (ks.map clampI).length ≤ 12 := by rw [List.length_map]; exact hk12
      rw [List.take_length, List.drop_length, List.append_nil] at hown
      have hI5 := Sl.of_own hown
      have hlk : ks.length = (ks.map clampI).length := by rw [List.length_map]
      rw [hlk] at hI5
      rw [hlk]
      generalize ks.map clampI = is at hir hil hI5 ⊢
      clear hown hlk
      have hE05 := hE03.trans hE
      have hH5 := hH3.ext hE
      have hs15 := hs13.ext hE
      have hs25 := hs23.ext hE
      have HGR := grow_any wr cmds cv (hC.ext hE05)
      clear hH3 hs13 hs23 hE03 hE hH
      go_wp2_with fail
      refine HGR.mono ?_
      rintro e w6 ⟨B, c, mb, mn, X, P, rfl, hBw, hCt, hRf, h37, hXo, hPI, hE6⟩
      clear HGR
      have hH6 := hH5.ext hE6
      have hs16 := hs15.ext hE6
      have hs26 := hs25.ext hE6
      have hI6 := hI5.ext hE6
      have hE06 := hE05.trans hE6
      clear hH5 hs15 hs25 hI5 hE6 hE05
      have HX37 := Lib.hid h37
      have HXO := Lib.hid hXo
      have HI1 : Hid ((Try.prog.info? 36).map (·.size) = some X.toList.length) := Lib.hid (by rw [Array.length_toList, h37]; exact rf_cinfo)
      have hX0 := At.new w6 36 #[.slice none 0 0, .bool false, .bool false, .int .i64 0, .bool false, .bool false, .int .i64 0, .bool false, .bool false, .int .i64 0, .bool false, .bool false, .int .i64 0, .bool false, .bool false, .int .i64 0, .bool false, .bool false, .int .i64 0, .bool false, .bool false, .int .i64 0, .bool false, .bool false, .int .i64 0, .bool false, .bool false, .int .i64 0, .bool false, .bool false, .int .i64 0, .bool false, .bool false, .int .i64 0, .bool false, .bool false, .int .i64 0]
      have hEx := (Ext.refl w6).alloc (.cells #[.slice none 0 0, .bool false, .bool false, .int .i64 0, .bool false, .bool false, .int .i64 0, .bool false, .bool false, .int .i64 0, .bool false, .bool false, .int .i64 0, .bool false, .bool false, .int .i64 0, .bool false, .bool false, .int .i64 0, .bool false, .bool false, .int .i64 0, .bool false, .bool false, .int .i64 0, .bool false, .bool false, .int .i64 0, .bool false, .bool false, .int .i64 0, .bool false, .bool false, .int .i64 0, .bool false, .bool false, .int .i64 0] 36)
      have HT0 := Lib.hid hX0.there
      go_upto_region 13 with (refine wpList_store_mid rfl 36 _ _ rfl w6.heap.size 0 X rfl rfl (by rw [HX37.out]; exact HT0.out) (by rw [HX37.out]; exact rf_cinfo) HXO.out ?_)
      have hX1 := At.cells_all (cs := X) hX0 (by rw [HX37.out]; rfl)
      have hE7 : Ext w6 ((w6.alloc (.cells #[.slice none 0 0, .bool false, .bool false, .int .i64 0, .bool false, .bool false, .int .i64 0, .bool false, .bool false, .int .i64 0, .bool false, .bool false, .int .i64 0, .bool false, .bool false, .int .i64 0, .bool false, .bool false, .int .i64 0, .bool false, .bool false, .int .i64 0, .bool false, .bool false, .int .i64 0, .bool false, .bool false, .int .i64 0, .bool false, .bool false, .int .i64 0, .bool false, .bool false, .int .i64 0, .bool false, .bool false, .int .i64 0] 36)).setCells w6.heap.size 0 X.toList) := hEx.setCells (Nat.le_refl _) _ _
      generalize w6.heap.size = xb at hX1 hE7 ⊢
      generalize (w6.alloc (.cells #[.slice none 0 0, .bool false, .bool false, .int .i64 0, .bool false, .bool false, .int .i64 0, .bool false, .bool false, .int .i64 0, .bool false, .bool false, .int .i64 0, .bool false, .bool false, .int .i64 0, .bool false, .bool false, .int .i64 0, .bool false, .bool false, .int .i64 0, .bool false, .bool false, .int .i64 0, .bool false, .bool false, .int .i64 0, .bool false, .bool false, .int .i64 0, .bool false, .bool false, .int .i64 0, .bool false, .bool false, .int .i64 0] 36)).setCells xb 0 X.toList = w7 at hX1 hE7 ⊢
      have hCt7 := hCt.ext hE7
      have hRf7 := hRf.ext hE7
      have hH7 := hH6.ext hE7
      have hs17 := hs16.ext hE7
      have hs27 := hs26.ext hE7
      have hI7 := hI6.ext hE7
      have hE07 := hE06.trans hE7
      clear hCt hRf hH6 hs16 hs26 hI6 hE06 hE7 hX0 hEx HT0 hBw hXo h37
      have HDS := disks_any w7 (.slice SA ss.length sc) hv' ss hs hs17 hH7 hl12 (by omega) size cp (by omega) hcp0.1
      go_wp2_with fail
      refine HDS.mono ?_
      rintro e w8 ⟨d1, r, rfl, hch, hr8, hE8⟩
      clear HDS
      have hdoc := chosen_doc hch hl12 hsn hsr
      have hHr8 := hH7.ext hE8
      have hRD := rdisks_any w8 v2 hv' ss hs (hs27.ext hE8) hHr8 hl12 hsl size cp
      rw [hdoc] at hRD
      go_wp2_with fail
      refine hRD.mono ?_
      rintro e w9 ⟨d2, rfl, hr9, hE9⟩
      have hE79 := hE8.trans hE9
      have hE09 := hE07.trans hE79
      have hA9 := (Sl.of_own hr8).ext hE9
      have hB9 := Sl.of_own hr9
      have hCt9 := hCt7.ext hE79
      have hRf9 := hRf7.ext hE79
      have hs19 := hs17.ext hE79
      have hs29 := hs27.ext hE79
      have hI9 := hI7.ext hE79
      have hX9 := hX1.ext hE79
      have hrl : r.length ≤ 1000 := by rw [← hdoc]; exact Nat.le_trans (outI_len _ 12) (by omega)
      clear hRD hch hdoc hHr8 hr8 hr9 hE8 hE9 hE79 hE07 hCt7 hRf7 hs17 hs27 hI7 hX1 hH7
      generalize decide (cp ≤ (r.length : Int)) = en
      have c1 : Hid (∀ dd os, Calls Try.prog 10 #[d1, d2] (grow (redrawn w9 dd) os) fun e w'' => e = .returned (.int .i64 0) ∧ ∃ p : Regrown, w'' = grow (redrawn w9 p.d) p.os) := Lib.hid fun dd os => Calls.ext_of (same15_any _ _ _ r (hA9.ext (ext_regrown w9 dd os)) (hB9.ext (ext_regrown w9 dd os)) (by omega))
      have c2 : Hid (∀ dd os, Calls Try.prog 11 #[.pointer (some ⟨c, 0, none⟩), .slice SA ss.length sc, .int .i64 pool, .int .i64 size, .int .i64 not_] (grow (redrawn w9 dd) os) fun e w'' => e = .returned (.int .i64 (volOf P ss pool size not_ ss.length)) ∧ ∃ p : Regrown, w'' = grow (redrawn w9 p.d) p.os) := Lib.hid fun dd os => Calls.ext_of (volume_any _ B c mb mn _ P ss (hCt9.ext (ext_regrown w9 dd os)) (hs19.ext (ext_regrown w9 dd os)) hl12 pool size not_)
      have c3 : Hid (∀ dd os, Calls Try.prog 12 #[.agg X, v2, .int .i64 pool, .int .i64 size, .int .i64 not_] (grow (redrawn w9 dd) os) fun e w'' => e = .returned (.int .i64 (volOf P ss pool size not_ ss.length)) ∧ ∃ p : Regrown, w'' = grow (redrawn w9 p.d) p.os) := Lib.hid fun dd os => Calls.ext_of (rvolume_any _ _ _ P 25 ss (hRf9.ext (ext_regrown w9 dd os)) hPI (hs29.ext (ext_regrown w9 dd os)) hl12 pool size not_)
      have c4 : Hid (∀ dd os, Calls Try.prog 13 #[.pointer (some ⟨c, 0, none⟩), .slice SA ss.length sc, .slice QA is.length qc, .int .i64 percent] (grow (redrawn w9 dd) os) fun e w'' => e = .returned (.int .i64 (sparseOf P ss is percent ss.length).1) ∧ ∃ p : Regrown, w'' = grow (redrawn w9 p.d) p.os) := Lib.hid fun dd os => Calls.ext_of (sparse_any _ B c mb mn _ _ P 25 ss is (hCt9.ext (ext_regrown w9 dd os)) hPI (by omega) (hs19.ext (ext_regrown w9 dd os)) hl12 (hI9.ext (ext_regrown w9 dd os)) hil hir percent)
      have c5 : Hid (∀ dd os, Calls Try.prog 14 #[.agg X, v2, .slice QA is.length qc, .int .i64 percent] (grow (redrawn w9 dd) os) fun e w'' => e = .returned (.int .i64 (sparseOf P ss is percent ss.length).1) ∧ ∃ p : Regrown, w'' = grow (redrawn w9 p.d) p.os) := Lib.hid fun dd os => Calls.ext_of (rsparse_any _ _ _ _ P 25 ss is (hRf9.ext (ext_regrown w9 dd os)) hPI (by omega) (hs29.ext (ext_regrown w9 dd os)) hl12 (hI9.ext (ext_regrown w9 dd os)) hil hir percent)
      have c6 : Hid (∀ W, (∃ p : Regrown, W = grow (redrawn w9 p.d) p.os) → W.rangeAt xb 0 X.toList) := Lib.hid (by rintro W ⟨p, rfl⟩; exact (hX9.ext (ext_regrown w9 _ _)).range)
      generalize volOf P ss pool size not_ ss.length = vo at c2 c3
      generalize (sparseOf P ss is percent ss.length).1 = so at c4 c5
      clear hA9 hB9 hCt9 hRf9 hs19 hs29 hI9 hX9 hPI hsr hsn hir
      go_upto_region 17 with fail
      refine wp_region_quiet_ext (by kernel_rfl) (by kernel_rfl) ?_
      repeat (first | go_big_quiet_skip | (go_big_quiet_want; first | (refine quiet_load_mid rfl rfl c6.out Try.underlying36 rfl HI1.out ?_; go_big_quiet_on; simp only [Act.put, List.setIfInBounds_toArray, List.set_cons_succ, List.set_cons_zero]) | (go_big_quiet_op; first | go_big_quiet_on | go_big_quiet_call (first | with_reducible exact c1.out _ _ | with_reducible exact c2.out _ _ | with_reducible exact c3.out _ _ | with_reducible exact c4.out _ _ | with_reducible exact c5.out _ _))))
      refine wpQuiet_nil ?_
      intro W8 hE8
      go_wp2_with fail
      go_ret
      exact ⟨rfl, hE09.trans hE8⟩
end Go.Proofs.Ytfjhdflpanaapaa
