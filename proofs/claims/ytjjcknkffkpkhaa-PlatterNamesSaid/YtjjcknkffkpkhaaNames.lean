/-
  PlatterNames: the walk.
-/
import Derived.Test.YtjjcknkffkpkhaaFresh
import Derived.Test.YtjjcknkffkpkhaaOpen
import Derived.Laws.AppendOwn
import Derived.Outline
namespace Go.Proofs.Ytjjcknkffkpkhaa
open Go.RowKit Go.Sort

theorem DkAt.far {S : Nat → Prop} {w w' : World} {d m : Nat} {D : Dk} (h : DkAt w d m D) (hc : Chg S w w') (hd : ¬ S d) (hm : ¬ S m) : DkAt w' d m D := ⟨h.1.chg hc hd, h.2.chg hc hm⟩
abbrev bF : ByteArray := ⟨#[102]⟩
theorem fname_some (s : ByteArray) : (bF ++ s).data.toList.isEmpty = false := by
  simp [ByteArray.data_append]

theorem Chg.of_grown {w w' : World} {row : Option Nat} (h : w.grownBy w' row) : Chg (fun k => some k = row) w w' := ⟨h.os, h.tape, h.output, h.size, fun k hk hn => h.block k hk hn⟩
section
variable {w w' : World} {base : Nat} {e : TypeId} {size : Nat} {v : Value} {n : Nat} {xs : List Value}
theorem own_ge (h : w.ownsRow base e size v n xs) : ∀ k, some k = v.ownBlock → base ≤ k := by
  intro k hk
  rcases h.2 with ⟨rfl, _⟩ | ⟨g, cap, cur, rfl, hb, _⟩
  · cases hk
  · cases hk; exact hb
theorem own_chg {S : Nat → Prop} (h : w.ownsRow base e size v n xs) (hc : Chg S w w') (hS : ∀ k, S k → k < base) : w'.ownsRow base e size v n xs := by
  obtain ⟨h1, h2⟩ := h
  refine ⟨h1, ?_⟩
  rcases h2 with h2 | ⟨g, cap, cur, rfl, hb, hg, h3⟩
  · exact .inl h2
  · refine .inr ⟨g, cap, cur, rfl, hb, ?_, h3⟩
    rw [hc.block g (lt_of_block hg) (fun hs => by have := hS _ hs; omega)]
    exact hg
theorem own_empty (w : World) (e : TypeId) {g : Nat} (hg : g = w.heap.size) : (w.alloc (.cells #[] e)).ownsRow g e 1 (.slice (some ⟨g, 0, none⟩) 0 0) 0 [] := by
  subst hg
  exact ⟨rfl, .inr ⟨w.heap.size, 0, #[], rfl, Nat.le_refl _, At.new w e #[], Nat.le_refl _, Nat.zero_le _, rfl, rfl⟩⟩
end
theorem str_info : (Try.prog.info? 9).map (fun i => (i.zero, i.size, i.bytes)) = some (some (.string ByteArray.empty), 1, 16) := by kernel_rfl

/-- The loop's state: both disks alike, and the names that were used. -/
structure Round (d m d' m' B : Nat) (w2 : World) (k : Nat) (lv : Value) (ns : List ByteArray) (D : Dk) (wr : World) : Prop where
  a : DkAt wr d m D
  b : DkAt wr d' m' D
  f : Fresh 40 k D
  len : ns.length = k
  own : wr.ownsRow B 9 1 lv k (ns.map Value.string)
  here : ∀ n ∈ ns, (D.get n).nt = true ∧ n.size ≤ maxLen
  all_ : ∀ n, (D.get n).nt = true → n ∈ ns
  chg : Chg (fun k => k = d ∨ k = m ∨ k = d' ∨ k = m') w2 wr

set_option maxRecDepth 100000 in
set_option maxHeartbeats 4000000 in
theorem names_any (nv tv : Value) (names texts : List ByteArray) (cv : Value) (ch : List Int) (w : World) (hN : Sl w nv (names.map Value.string)) (hT : Sl w tv (texts.map Value.string))
    (hNs : ∀ s ∈ names, s.size ≤ maxLen) (hTs : ∀ s ∈ texts, s.size ≤ maxLen) (hnl : names.length ≤ maxLen) (htl : texts.length ≤ maxLen)
    (hS : Sl w cv (ch.map (Value.int .i64))) (hr : ∀ x ∈ ch, I64 x) (hcl : ch.length ≤ maxLen) :
    Calls Try.prog 5 #[nv, tv, cv] w fun e w' => e = .returned (.bool true) ∧ Ext w w' := by
  unfold maxLen at hcl hnl htl
  have hcb := sl_block hS
  obtain ⟨NA, nc, rfl, hnx⟩ := hN
  obtain ⟨TA, tc, rfl, htx⟩ := hT
  rw [List.length_map, List.length_map]
  go_enter Try.func5, Try.ntmps5
  go_wp2_with fail
  refine (awake_any _).mono ?_
  rintro e w0 ⟨rfl, hE0⟩
  go_wp2_with fail
  refine (new_any _ _).mono ?_
  rintro e w1 ⟨d, m, rfl, hD, hE, hd, hm⟩
  go_wp2_with fail
  refine (new_any _ _).mono ?_
  rintro e w2 ⟨d', m', rfl, hD', hE', hd', hm'⟩
  have lt5 : d < w1.heap.size := hD.1.lt
  have lt6 : m < w1.heap.size := hD.2.lt
  replace hD := hD.ext hE'
  go_wp2_with fail
  have lt1 : d < w2.heap.size := hD.1.lt
  have lt2 : m < w2.heap.size := hD.2.lt
  have lt3 : d' < w2.heap.size := hD'.1.lt
  have lt4 : m' < w2.heap.size := hD'.2.lt
  go_loopw [9, 10] (fun lv i wr => ∃ (k : Nat) (ns : List ByteArray) (D : Dk), k ≤ names.length ∧ k ≤ texts.length ∧ k ≤ 6 ∧ i = .int .i64 k ∧ Round d m d' m' w2.heap.size w2 k lv ns D wr) (fun _ i _ => names.length - (intOf i).toNat)
  case atStart =>
    exact ⟨0, [], Dk.new 100000, Nat.zero_le _, Nat.zero_le _, Nat.zero_le _, rfl, ⟨hD.alloc _, hD'.alloc _, Fresh.new 40, rfl, own_empty _ _ rfl, fun n h => absurd h (by simp), fun n h => absurd h (by rw [new_get]; simp [Fl.zero]), (Chg.refl _ _).alloc _⟩⟩
  case round =>
    clear hD hD'
    obtain ⟨k, ns, D, hk1, hk2, hk6, rfl, R⟩ := hrel
    by_cases hlt : k < names.length
    · by_cases hlt2 : k < texts.length
      · by_cases hlt3 : k < 6
        · have X : Ext w wr := ((hE0.trans hE).trans hE').chg_trans R.chg |>.mono (fun j hj h => by rcases h with rfl | rfl | rfl | rfl <;> have := hE0.size <;> have := hE.size <;> omega)
          obtain ⟨nb, no, rfl, hnc'⟩ := hnx (by intro e; rw [List.map_eq_nil_iff] at e; subst e; simp at hlt)
          obtain ⟨tb, to, rfl, htc'⟩ := htx (by intro e; rw [List.map_eq_nil_iff] at e; subst e; simp at hlt2)
          have hn0 := hnc' k _ (by rw [List.getElem?_map, List.getElem?_eq_getElem hlt]; rfl)
          have ht0 := htc' k _ (by rw [List.getElem?_map, List.getElem?_eq_getElem hlt2]; rfl)
          have r0 : wr.cell? ⟨nb, no + k, none⟩ = some (.string names[k]) := (X.cell (p := ⟨nb, no + k, none⟩) (World.block_lt_of_cell? _ _ hn0)).trans hn0
          have r1 : wr.cell? ⟨tb, to + k, none⟩ = some (.string texts[k]) := (X.cell (p := ⟨tb, to + k, none⟩) (World.block_lt_of_cell? _ _ ht0)).trans ht0
          have hs1 := hNs _ (List.getElem_mem hlt)
          have hs2 := hTs _ (List.getElem_mem hlt2)
          clear hnc' htc' hn0 ht0 hnx htx
          generalize names[k] = nk at r0 hs1
          generalize texts[k] = tk at r1 hs2
          have g1 := cut_size nk 4
          have g2 := cut_size tk 40
          have k1 := cut_any nk 4 wr hs1 (by omega)
          have k2 := cut_any tk 40 wr hs2 (by omega)
          generalize cut nk 4 = n4 at g1 k1
          generalize cut tk 40 = t40 at g2 k2
          go_wp2_with fail
          refine k1.mono ?_
          clear k1
          rintro e wr ⟨rfl, rfl⟩
          go_wp2_with fail
          refine k2.mono ?_
          clear k2
          rintro e wr ⟨rfl, rfl⟩
          go_wp2_with fail
          have hnm : (bF ++ n4).size ≤ maxLen := by unfold maxLen; rw [ByteArray.size_append]; show 1 + _ ≤ _; omega
          have hap := R.f.append (by omega) hnm (fname_some n4) (t := t40) (by omega)
          have hsm := R.f.small (bF ++ n4)
          have c1 := append_any wr d m D R.a R.f.ok (bF ++ n4) t40 (by omega)
          have c2 := fun w' h => append_any w' d' m' D h R.f.ok (bF ++ n4) t40 (by omega)
          generalize hDD : D.change (bF ++ n4) (fun x => x ++ t40) = DD at hap c1 c2
          obtain ⟨x, D2⟩ := DD
          clear hDD
          obtain ⟨e0, hF2, hin, hmore, hold⟩ := hap
          simp only at e0 hF2 hin hmore hold c1 c2
          subst e0
          refine c1.mono ?_
          rintro e wa ⟨rfl, hCa, hDa⟩
          clear c1
          go_wp2_with fail
          refine (c2 _ (R.b.far hCa (by omega) (by omega))).mono ?_
          rintro e wb ⟨rfl, hCb, hDb⟩
          clear c2
          have hown := own_chg (own_chg R.own hCa (fun j h => by rcases h with rfl | rfl <;> omega)) hCb (fun j h => by rcases h with rfl | rfl <;> omega)
          have hDa' := hDa.far hCb (by omega) (by omega)
          have hC2 : Chg (fun k => k = d ∨ k = m ∨ k = d' ∨ k = m') w2 wb := (R.chg.trans hCa (fun j _ h => by rcases h with rfl | rfl <;> simp)).trans hCb (fun j _ h => by rcases h with rfl | rfl <;> simp)
          obtain ⟨i0, hi, hz0, hz1, hz2⟩ := info_parts str_info
          go_wp2_with (at_builtin; refine wpList_append_own _ rfl _ _ 34 rfl w2.heap.size 9 i0 (.string ByteArray.empty) 1 16 Try.underlying34 hi hz0 hz1 hz2 rfl (by decide) _ _ _ rfl (hown.alloc _) ⟨wb.heap.size, 0, none⟩ 1 1 [.string (bF ++ n4)] rfl rfl ?c1 ?c2 ?c3 ?c4 ?c5 ?_)
          case c1 =>
            intro j u hu
            cases j with
            | zero =>
              simp only [List.getElem?_cons_zero, Option.some.injEq] at hu
              subst hu
              exact (At.new wb 9 #[.string (bF ++ n4)]).cell 0
            | succ j => simp at hu
          case c2 => simp [Value.oneCell']
          case c3 => unfold maxLen; omega
          case c4 => omega
          case c5 => have := hC2.size; simp; omega
          intro v' w1' hown' hgrow _
          go_wp2
          go_roundw
          case rel =>
            have hge := own_ge (hown.alloc (.cells #[.string (bF ++ n4)] 9))
            have hG := Chg.of_grown hgrow
            have hfar : ∀ j, j < w2.heap.size → ¬ some j = _ := fun j hj e => absurd (hge j e) (by omega)
            refine ⟨k + 1, ns ++ [bF ++ n4], D2, by omega, by omega, by omega, by go_num, ⟨(hDa'.alloc _).far hG (hfar _ lt1) (hfar _ lt2), (hDb.alloc _).far hG (hfar _ lt3) (hfar _ lt4), hF2, ?_, ?_, ?_, ?_, (hC2.alloc _).trans hG (fun j hj h => absurd h (hfar j hj))⟩⟩
            · rw [List.length_append, R.len]; rfl
            · rw [List.map_append]; exact hown'
            · intro n hn
              rcases List.mem_append.1 hn with hn | hn
              · exact ⟨hmore n (R.here n hn).1, (R.here n hn).2⟩
              · rw [List.mem_singleton.1 hn]; exact ⟨hin, hnm⟩
            · intro n hn
              by_cases e : n = bF ++ n4
              · rw [e]; simp
              · rw [hold n e] at hn
                exact List.mem_append_left _ (R.all_ n hn)
          case measure => simp [intOf]; omega
        -- EXITS
        · have hSl := Sl.of_own R.own
          obtain ⟨LA, lc, rfl, hlx⟩ := hSl
          rw [List.length_map, R.len]
          go_wp2_with fail
          have hsy := R.f.synd [] (by simp)
          have c1 := sync_any wr d m D R.a R.f.ok (.slice none 0 0) [] (Sl.nil _ _) (by simp) (by simp) (by have := R.f.few; omega) (fun _ => ⟨_, rfl⟩)
          have hA : Done D (D.sync []).2 := hsy.2.done R.f (fun n h => by rw [if_pos rfl]; exact files_in h)
          have e0 := hsy.1
          clear hsy
          generalize D.sync [] = q at hA e0 c1
          obtain ⟨r1, Da⟩ := q
          simp only at hA e0 c1
          subst e0
          refine c1.mono ?_
          rintro e wa ⟨rfl, hCa, hDa⟩
          clear c1
          have hDb := R.b.far hCa (by omega) (by omega)
          have hown := own_chg R.own hCa (fun j h => by rcases h with rfl | rfl <;> omega)
          have hC : Chg (fun k => k = d ∨ k = m ∨ k = d' ∨ k = m') w2 wa := R.chg.trans hCa (fun j _ h => by rcases h with rfl | rfl <;> simp)
          have hf := R.f
          have hhere := R.here
          have hall := R.all_
          have hlen := R.len
          rw [List.length_map, hlen] at hown
          clear R hCa
          by_cases hk0 : k = 0
          · exact absurd hk0 (by omega)
          · have hpos : 0 < k := by omega
            go_wp2_with fail
            have hsy := hf.synd ns (fun n h => (hhere n h).2)
            have hns : ns ≠ [] := by intro e; subst e; simp at hlen; omega
            rw [if_neg hns] at hsy
            have c2 := sync_any wa d' m' D hDb hf.ok (.slice LA k lc) ns (Sl.of_own hown) (fun n h => (hhere n h).2) (by omega) (by have := hf.few; omega) (fun h => absurd h hns)
            have hB : Done D (D.sync ns).2 := hsy.2.done hf hall
            have e0 := hsy.1
            clear hsy
            generalize D.sync ns = q at hB e0 c2
            obtain ⟨r2, Db⟩ := q
            simp only at hB e0 c2
            subst e0
            refine c2.mono ?_
            rintro e wb ⟨rfl, hCb, hDb2⟩
            clear c2
            replace hDa := hDa.far hCb (by omega) (by omega)
            replace hown := own_chg hown hCb (fun j h => by rcases h with rfl | rfl <;> omega)
            replace hC := hC.trans hCb (fun j _ h => by rcases h with rfl | rfl <;> simp)
            replace hDb := hDb2
            clear hDb2 hCb
            go_wp2_with fail
            have X : Ext w wb := ((hE0.trans hE).trans hE').chg_trans hC |>.mono (fun j hj h => by rcases h with rfl | rfl | rfl | rfl <;> have := hE0.size <;> have := hE.size <;> omega)
            have c3 := crash_any wb d m Da hDa hA.ok (hA.small hf (by omega)) (by have := hA.few; have := hf.few; omega) cv ch (hS.ext X) hr hcl (fun b o n c hv hne hb => by have := hcb b o n c hv hne; have := hE0.size; have := hE.size; omega)
            rw [hA.crash ch] at c3
            refine c3.mono ?_
            rintro e w4 ⟨rfl, hC4, hDa4⟩
            clear c3
            have hDb4 := hDb.far hC4 (by omega) (by omega)
            have X4 : Ext w w4 := (X.chg_trans hC4).mono (fun j hj h => by rcases h with rfl | rfl <;> have := hE0.size <;> have := hE.size <;> omega)
            have hown4 := own_chg hown hC4 (fun j h => by rcases h with rfl | rfl <;> omega)
            clear hDa hDb hown hC hC4 X
            go_wp2_with fail
            have c4 := crash_any w4 d' m' Db hDb4 hB.ok (hB.small hf (by omega)) (by have := hB.few; have := hf.few; omega) cv ch (hS.ext X4) hr hcl (fun b o n c hv hne hb => by have := hcb b o n c hv hne; have := hE0.size; have := hE.size; omega)
            rw [hB.crash ch] at c4
            refine c4.mono ?_
            rintro e w5 ⟨rfl, hC5, hDb5⟩
            clear c4
            have hDa5 := hDa4.far hC5 (by omega) (by omega)
            have X5 : Ext w w5 := (X4.chg_trans hC5).mono (fun j hj h => by rcases h with rfl | rfl <;> have := hE0.size <;> have := hE.size <;> omega)
            have hown5 := own_chg hown4 hC5 (fun j h => by rcases h with rfl | rfl <;> omega)
            clear hDa4 hDb4 hown4 hC5 X4
            go_wp2_with fail
            go_loopw [89] (fun i wx => ∃ j : Nat, j ≤ k ∧ i = .int .i64 j ∧ DkAt wx d m Da ∧ DkAt wx d' m' Db ∧ Chg (fun k => k = d ∨ k = d') w5 wx) (fun i _ => k - (intOf i).toNat)
            case atStart => exact ⟨0, Nat.zero_le _, rfl, hDa5, hDb5, Chg.refl _ _⟩
            case round =>
              clear hDa5 hDb5
              obtain ⟨j, hj, rfl, gA, gB, gC⟩ := hrel
              by_cases hjk : j < k
              · obtain ⟨A', c', hv, hx'⟩ := Sl.of_own (own_chg hown5 gC (fun j h => by rcases h with rfl | rfl <;> omega))
                injection hv with q1 q2 q3
                subst q1 q3
                obtain ⟨b, o, rfl, hcell⟩ := hx' (by intro e; rw [List.map_eq_nil_iff] at e; subst e; simp at hlen; omega)
                have hjl : j < ns.length := by omega
                have r0 : wr.cell? ⟨b, o + j, none⟩ = some (.string ns[j]) := hcell j _ (by rw [List.getElem?_map, List.getElem?_eq_getElem hjl]; rfl)
                have hh := (hhere _ (List.getElem_mem hjl)).1
                generalize ns[j] = nj at r0 hh
                clear hcell hx' hlx hhere hall q2
                have c7 := read_any wr d m Da gA hA.ok nj
                have c8 := fun w' h => read_any w' d' m' Db h hB.ok nj
                rw [hA.read hh, hA.tick] at c7
                rw [hB.read hh, hB.tick] at c8
                generalize (D.get nj).nx = txt at c7 c8
                go_wp2_with fail
                refine c7.mono ?_
                rintro e w7 ⟨rfl, hC7, hD7⟩
                clear c7
                go_wp2_with fail
                refine (c8 _ (gB.far hC7 (by omega) (by omega))).mono ?_
                rintro e w8 ⟨rfl, hC8, hD8⟩
                clear c8
                go_wp2_with fail
                go_roundw
                case rel => exact ⟨j + 1, by omega, by go_num, hD7.far hC8 (by omega) (by omega), hD8, (gC.trans hC7 (fun _ _ h => .inl h)).trans hC8 (fun _ _ h => .inr h)⟩
                case measure => simp [intOf]; omega
              · clear hlx hhere hall hown5
                have X6 : Ext w wr := (X5.chg_trans gC).mono (fun j hj h => by rcases h with rfl | rfl <;> have := hE0.size <;> have := hE.size <;> omega)
                have u1 : ∀ dd os, Calls Try.prog 17 #[.pointer (some ⟨d, 0, none⟩)] (grow (redrawn wr dd) os) fun e w'' => e = .returned (.int .i64 D.used) ∧ ∃ p : Regrown, w'' = grow (redrawn wr p.d) p.os := fun dd os => Calls.ext_of ((used_any d 0 D.used _ (by have := (gA.ext (ext_regrown wr dd os)).1.cell 1; rw [hA.used] at this; exact this)).mono fun _ _ ⟨h, h'⟩ => ⟨h, h' ▸ Ext.refl _⟩)
                have u2 : ∀ dd os, Calls Try.prog 17 #[.pointer (some ⟨d', 0, none⟩)] (grow (redrawn wr dd) os) fun e w'' => e = .returned (.int .i64 D.used) ∧ ∃ p : Regrown, w'' = grow (redrawn wr p.d) p.os := fun dd os => Calls.ext_of ((used_any d' 0 D.used _ (by have := (gB.ext (ext_regrown wr dd os)).1.cell 1; rw [hB.used] at this; exact this)).mono fun _ _ ⟨h, h'⟩ => ⟨h, h' ▸ Ext.refl _⟩)
                have v1 : ∀ dd os, Calls Try.prog 18 #[.pointer (some ⟨d, 0, none⟩)] (grow (redrawn wr dd) os) fun e w'' => e = .returned (.bool true) ∧ ∃ p : Regrown, w'' = grow (redrawn wr p.d) p.os := fun dd os => Calls.ext_of (by have := safe_any _ d m Da (gA.ext (ext_regrown wr dd os)); rw [hA.allSafe] at this; exact this)
                have v2 : ∀ dd os, Calls Try.prog 18 #[.pointer (some ⟨d', 0, none⟩)] (grow (redrawn wr dd) os) fun e w'' => e = .returned (.bool true) ∧ ∃ p : Regrown, w'' = grow (redrawn wr p.d) p.os := fun dd os => Calls.ext_of (by have := safe_any _ d' m' Db (gB.ext (ext_regrown wr dd os)); rw [hB.allSafe] at this; exact this)
                have hqq : (D.used == D.used) = true := by simp
                go_wp2_with fail
                refine wp_region_quiet_ext (by kernel_rfl) (by kernel_rfl) ?_
                repeat (go_big_quiet_step (first | with_reducible exact u1 _ _ | with_reducible exact u2 _ _ | with_reducible exact v1 _ _ | with_reducible exact v2 _ _))
                refine wpQuiet_nil ?_
                intro W2 hE2
                go_wp2_with fail
                go_ret
                exact ⟨rfl, X6.trans hE2⟩
      · have hSl := Sl.of_own R.own
        obtain ⟨LA, lc, rfl, hlx⟩ := hSl
        rw [List.length_map, R.len]
        go_wp2_with fail
        have hsy := R.f.synd [] (by simp)
        have c1 := sync_any wr d m D R.a R.f.ok (.slice none 0 0) [] (Sl.nil _ _) (by simp) (by simp) (by have := R.f.few; omega) (fun _ => ⟨_, rfl⟩)
        have hA : Done D (D.sync []).2 := hsy.2.done R.f (fun n h => by rw [if_pos rfl]; exact files_in h)
        have e0 := hsy.1
        clear hsy
        generalize D.sync [] = q at hA e0 c1
        obtain ⟨r1, Da⟩ := q
        simp only at hA e0 c1
        subst e0
        refine c1.mono ?_
        rintro e wa ⟨rfl, hCa, hDa⟩
        clear c1
        have hDb := R.b.far hCa (by omega) (by omega)
        have hown := own_chg R.own hCa (fun j h => by rcases h with rfl | rfl <;> omega)
        have hC : Chg (fun k => k = d ∨ k = m ∨ k = d' ∨ k = m') w2 wa := R.chg.trans hCa (fun j _ h => by rcases h with rfl | rfl <;> simp)
        have hf := R.f
        have hhere := R.here
        have hall := R.all_
        have hlen := R.len
        rw [List.length_map, hlen] at hown
        clear R hCa
        by_cases hk0 : k = 0
        · subst hk0
          have hB : Done D D := hf.done (fun n => by
            cases h : (D.get n).nt
            · rfl
            · exact absurd (hall n h) (by rw [List.eq_nil_of_length_eq_zero hlen]; simp))
          go_wp2_with fail
          have X : Ext w wa := ((hE0.trans hE).trans hE').chg_trans hC |>.mono (fun j hj h => by rcases h with rfl | rfl | rfl | rfl <;> have := hE0.size <;> have := hE.size <;> omega)
          have c3 := crash_any wa d m Da hDa hA.ok (hA.small hf (by omega)) (by have := hA.few; have := hf.few; omega) cv ch (hS.ext X) hr hcl (fun b o n c hv hne hb => by have := hcb b o n c hv hne; have := hE0.size; have := hE.size; omega)
          rw [hA.crash ch] at c3
          refine c3.mono ?_
          rintro e w4 ⟨rfl, hC4, hDa4⟩
          clear c3
          have hDb4 := hDb.far hC4 (by omega) (by omega)
          have X4 : Ext w w4 := (X.chg_trans hC4).mono (fun j hj h => by rcases h with rfl | rfl <;> have := hE0.size <;> have := hE.size <;> omega)
          have hown4 := own_chg hown hC4 (fun j h => by rcases h with rfl | rfl <;> omega)
          clear hDa hDb hown hC hC4 X
          go_wp2_with fail
          have c4 := crash_any w4 d' m' D hDb4 hB.ok (hB.small hf (by omega)) (by have := hB.few; have := hf.few; omega) cv ch (hS.ext X4) hr hcl (fun b o n c hv hne hb => by have := hcb b o n c hv hne; have := hE0.size; have := hE.size; omega)
          rw [hB.crash ch] at c4
          refine c4.mono ?_
          rintro e w5 ⟨rfl, hC5, hDb5⟩
          clear c4
          have hDa5 := hDa4.far hC5 (by omega) (by omega)
          have X5 : Ext w w5 := (X4.chg_trans hC5).mono (fun j hj h => by rcases h with rfl | rfl <;> have := hE0.size <;> have := hE.size <;> omega)
          have hown5 := own_chg hown4 hC5 (fun j h => by rcases h with rfl | rfl <;> omega)
          clear hDa4 hDb4 hown4 hC5 X4
          go_wp2_with fail
          go_loopw [89] (fun i wx => ∃ j : Nat, j ≤ 0 ∧ i = .int .i64 j ∧ DkAt wx d m Da ∧ DkAt wx d' m' D ∧ Chg (fun k => k = d ∨ k = d') w5 wx) (fun i _ => 0 - (intOf i).toNat)
          case atStart => exact ⟨0, Nat.zero_le _, rfl, hDa5, hDb5, Chg.refl _ _⟩
          case round =>
            clear hDa5 hDb5
            obtain ⟨j, hj, rfl, gA, gB, gC⟩ := hrel
            by_cases hjk : j < 0
            · exact absurd hjk (by omega)
            · clear hlx hhere hall hown5
              have X6 : Ext w wr := (X5.chg_trans gC).mono (fun j hj h => by rcases h with rfl | rfl <;> have := hE0.size <;> have := hE.size <;> omega)
              have u1 : ∀ dd os, Calls Try.prog 17 #[.pointer (some ⟨d, 0, none⟩)] (grow (redrawn wr dd) os) fun e w'' => e = .returned (.int .i64 D.used) ∧ ∃ p : Regrown, w'' = grow (redrawn wr p.d) p.os := fun dd os => Calls.ext_of ((used_any d 0 D.used _ (by have := (gA.ext (ext_regrown wr dd os)).1.cell 1; rw [hA.used] at this; exact this)).mono fun _ _ ⟨h, h'⟩ => ⟨h, h' ▸ Ext.refl _⟩)
              have u2 : ∀ dd os, Calls Try.prog 17 #[.pointer (some ⟨d', 0, none⟩)] (grow (redrawn wr dd) os) fun e w'' => e = .returned (.int .i64 D.used) ∧ ∃ p : Regrown, w'' = grow (redrawn wr p.d) p.os := fun dd os => Calls.ext_of ((used_any d' 0 D.used _ (by have := (gB.ext (ext_regrown wr dd os)).1.cell 1; rw [hB.used] at this; exact this)).mono fun _ _ ⟨h, h'⟩ => ⟨h, h' ▸ Ext.refl _⟩)
              have v1 : ∀ dd os, Calls Try.prog 18 #[.pointer (some ⟨d, 0, none⟩)] (grow (redrawn wr dd) os) fun e w'' => e = .returned (.bool true) ∧ ∃ p : Regrown, w'' = grow (redrawn wr p.d) p.os := fun dd os => Calls.ext_of (by have := safe_any _ d m Da (gA.ext (ext_regrown wr dd os)); rw [hA.allSafe] at this; exact this)
              have v2 : ∀ dd os, Calls Try.prog 18 #[.pointer (some ⟨d', 0, none⟩)] (grow (redrawn wr dd) os) fun e w'' => e = .returned (.bool true) ∧ ∃ p : Regrown, w'' = grow (redrawn wr p.d) p.os := fun dd os => Calls.ext_of (by have := safe_any _ d' m' D (gB.ext (ext_regrown wr dd os)); rw [hB.allSafe] at this; exact this)
              have hqq : (D.used == D.used) = true := by simp
              go_wp2_with fail
              refine wp_region_quiet_ext (by kernel_rfl) (by kernel_rfl) ?_
              repeat (go_big_quiet_step (first | with_reducible exact u1 _ _ | with_reducible exact u2 _ _ | with_reducible exact v1 _ _ | with_reducible exact v2 _ _))
              refine wpQuiet_nil ?_
              intro W2 hE2
              go_wp2_with fail
              go_ret
              exact ⟨rfl, X6.trans hE2⟩
        · have hpos : 0 < k := by omega
          go_wp2_with fail
          have hsy := hf.synd ns (fun n h => (hhere n h).2)
          have hns : ns ≠ [] := by intro e; subst e; simp at hlen; omega
          rw [if_neg hns] at hsy
          have c2 := sync_any wa d' m' D hDb hf.ok (.slice LA k lc) ns (Sl.of_own hown) (fun n h => (hhere n h).2) (by omega) (by have := hf.few; omega) (fun h => absurd h hns)
          have hB : Done D (D.sync ns).2 := hsy.2.done hf hall
          have e0 := hsy.1
          clear hsy
          generalize D.sync ns = q at hB e0 c2
          obtain ⟨r2, Db⟩ := q
          simp only at hB e0 c2
          subst e0
          refine c2.mono ?_
          rintro e wb ⟨rfl, hCb, hDb2⟩
          clear c2
          replace hDa := hDa.far hCb (by omega) (by omega)
          replace hown := own_chg hown hCb (fun j h => by rcases h with rfl | rfl <;> omega)
          replace hC := hC.trans hCb (fun j _ h => by rcases h with rfl | rfl <;> simp)
          replace hDb := hDb2
          clear hDb2 hCb
          go_wp2_with fail
          have X : Ext w wb := ((hE0.trans hE).trans hE').chg_trans hC |>.mono (fun j hj h => by rcases h with rfl | rfl | rfl | rfl <;> have := hE0.size <;> have := hE.size <;> omega)
          have c3 := crash_any wb d m Da hDa hA.ok (hA.small hf (by omega)) (by have := hA.few; have := hf.few; omega) cv ch (hS.ext X) hr hcl (fun b o n c hv hne hb => by have := hcb b o n c hv hne; have := hE0.size; have := hE.size; omega)
          rw [hA.crash ch] at c3
          refine c3.mono ?_
          rintro e w4 ⟨rfl, hC4, hDa4⟩
          clear c3
          have hDb4 := hDb.far hC4 (by omega) (by omega)
          have X4 : Ext w w4 := (X.chg_trans hC4).mono (fun j hj h => by rcases h with rfl | rfl <;> have := hE0.size <;> have := hE.size <;> omega)
          have hown4 := own_chg hown hC4 (fun j h => by rcases h with rfl | rfl <;> omega)
          clear hDa hDb hown hC hC4 X
          go_wp2_with fail
          have c4 := crash_any w4 d' m' Db hDb4 hB.ok (hB.small hf (by omega)) (by have := hB.few; have := hf.few; omega) cv ch (hS.ext X4) hr hcl (fun b o n c hv hne hb => by have := hcb b o n c hv hne; have := hE0.size; have := hE.size; omega)
          rw [hB.crash ch] at c4
          refine c4.mono ?_
          rintro e w5 ⟨rfl, hC5, hDb5⟩
          clear c4
          have hDa5 := hDa4.far hC5 (by omega) (by omega)
          have X5 : Ext w w5 := (X4.chg_trans hC5).mono (fun j hj h => by rcases h with rfl | rfl <;> have := hE0.size <;> have := hE.size <;> omega)
          have hown5 := own_chg hown4 hC5 (fun j h => by rcases h with rfl | rfl <;> omega)
          clear hDa4 hDb4 hown4 hC5 X4
          go_wp2_with fail
          go_loopw [89] (fun i wx => ∃ j : Nat, j ≤ k ∧ i = .int .i64 j ∧ DkAt wx d m Da ∧ DkAt wx d' m' Db ∧ Chg (fun k => k = d ∨ k = d') w5 wx) (fun i _ => k - (intOf i).toNat)
          case atStart => exact ⟨0, Nat.zero_le _, rfl, hDa5, hDb5, Chg.refl _ _⟩
          case round =>
            clear hDa5 hDb5
            obtain ⟨j, hj, rfl, gA, gB, gC⟩ := hrel
            by_cases hjk : j < k
            · obtain ⟨A', c', hv, hx'⟩ := Sl.of_own (own_chg hown5 gC (fun j h => by rcases h with rfl | rfl <;> omega))
              injection hv with q1 q2 q3
              subst q1 q3
              obtain ⟨b, o, rfl, hcell⟩ := hx' (by intro e; rw [List.map_eq_nil_iff] at e; subst e; simp at hlen; omega)
              have hjl : j < ns.length := by omega
              have r0 : wr.cell? ⟨b, o + j, none⟩ = some (.string ns[j]) := hcell j _ (by rw [List.getElem?_map, List.getElem?_eq_getElem hjl]; rfl)
              have hh := (hhere _ (List.getElem_mem hjl)).1
              generalize ns[j] = nj at r0 hh
              clear hcell hx' hlx hhere hall q2
              have c7 := read_any wr d m Da gA hA.ok nj
              have c8 := fun w' h => read_any w' d' m' Db h hB.ok nj
              rw [hA.read hh, hA.tick] at c7
              rw [hB.read hh, hB.tick] at c8
              generalize (D.get nj).nx = txt at c7 c8
              go_wp2_with fail
              refine c7.mono ?_
              rintro e w7 ⟨rfl, hC7, hD7⟩
              clear c7
              go_wp2_with fail
              refine (c8 _ (gB.far hC7 (by omega) (by omega))).mono ?_
              rintro e w8 ⟨rfl, hC8, hD8⟩
              clear c8
              go_wp2_with fail
              go_roundw
              case rel => exact ⟨j + 1, by omega, by go_num, hD7.far hC8 (by omega) (by omega), hD8, (gC.trans hC7 (fun _ _ h => .inl h)).trans hC8 (fun _ _ h => .inr h)⟩
              case measure => simp [intOf]; omega
            · clear hlx hhere hall hown5
              have X6 : Ext w wr := (X5.chg_trans gC).mono (fun j hj h => by rcases h with rfl | rfl <;> have := hE0.size <;> have := hE.size <;> omega)
              have u1 : ∀ dd os, Calls Try.prog 17 #[.pointer (some ⟨d, 0, none⟩)] (grow (redrawn wr dd) os) fun e w'' => e = .returned (.int .i64 D.used) ∧ ∃ p : Regrown, w'' = grow (redrawn wr p.d) p.os := fun dd os => Calls.ext_of ((used_any d 0 D.used _ (by have := (gA.ext (ext_regrown wr dd os)).1.cell 1; rw [hA.used] at this; exact this)).mono fun _ _ ⟨h, h'⟩ => ⟨h, h' ▸ Ext.refl _⟩)
              have u2 : ∀ dd os, Calls Try.prog 17 #[.pointer (some ⟨d', 0, none⟩)] (grow (redrawn wr dd) os) fun e w'' => e = .returned (.int .i64 D.used) ∧ ∃ p : Regrown, w'' = grow (redrawn wr p.d) p.os := fun dd os => Calls.ext_of ((used_any d' 0 D.used _ (by have := (gB.ext (ext_regrown wr dd os)).1.cell 1; rw [hB.used] at this; exact this)).mono fun _ _ ⟨h, h'⟩ => ⟨h, h' ▸ Ext.refl _⟩)
              have v1 : ∀ dd os, Calls Try.prog 18 #[.pointer (some ⟨d, 0, none⟩)] (grow (redrawn wr dd) os) fun e w'' => e = .returned (.bool true) ∧ ∃ p : Regrown, w'' = grow (redrawn wr p.d) p.os := fun dd os => Calls.ext_of (by have := safe_any _ d m Da (gA.ext (ext_regrown wr dd os)); rw [hA.allSafe] at this; exact this)
              have v2 : ∀ dd os, Calls Try.prog 18 #[.pointer (some ⟨d', 0, none⟩)] (grow (redrawn wr dd) os) fun e w'' => e = .returned (.bool true) ∧ ∃ p : Regrown, w'' = grow (redrawn wr p.d) p.os := fun dd os => Calls.ext_of (by have := safe_any _ d' m' Db (gB.ext (ext_regrown wr dd os)); rw [hB.allSafe] at this; exact this)
              have hqq : (D.used == D.used) = true := by simp
              go_wp2_with fail
              refine wp_region_quiet_ext (by kernel_rfl) (by kernel_rfl) ?_
              repeat (go_big_quiet_step (first | with_reducible exact u1 _ _ | with_reducible exact u2 _ _ | with_reducible exact v1 _ _ | with_reducible exact v2 _ _))
              refine wpQuiet_nil ?_
              intro W2 hE2
              go_wp2_with fail
              go_ret
              exact ⟨rfl, X6.trans hE2⟩
    · have hSl := Sl.of_own R.own
      obtain ⟨LA, lc, rfl, hlx⟩ := hSl
      rw [List.length_map, R.len]
      go_wp2_with fail
      have hsy := R.f.synd [] (by simp)
      have c1 := sync_any wr d m D R.a R.f.ok (.slice none 0 0) [] (Sl.nil _ _) (by simp) (by simp) (by have := R.f.few; omega) (fun _ => ⟨_, rfl⟩)
      have hA : Done D (D.sync []).2 := hsy.2.done R.f (fun n h => by rw [if_pos rfl]; exact files_in h)
      have e0 := hsy.1
      clear hsy
      generalize D.sync [] = q at hA e0 c1
      obtain ⟨r1, Da⟩ := q
      simp only at hA e0 c1
      subst e0
      refine c1.mono ?_
      rintro e wa ⟨rfl, hCa, hDa⟩
      clear c1
      have hDb := R.b.far hCa (by omega) (by omega)
      have hown := own_chg R.own hCa (fun j h => by rcases h with rfl | rfl <;> omega)
      have hC : Chg (fun k => k = d ∨ k = m ∨ k = d' ∨ k = m') w2 wa := R.chg.trans hCa (fun j _ h => by rcases h with rfl | rfl <;> simp)
      have hf := R.f
      have hhere := R.here
      have hall := R.all_
      have hlen := R.len
      rw [List.length_map, hlen] at hown
      clear R hCa
      by_cases hk0 : k = 0
      · subst hk0
        have hB : Done D D := hf.done (fun n => by
          cases h : (D.get n).nt
          · rfl
          · exact absurd (hall n h) (by rw [List.eq_nil_of_length_eq_zero hlen]; simp))
        go_wp2_with fail
        have X : Ext w wa := ((hE0.trans hE).trans hE').chg_trans hC |>.mono (fun j hj h => by rcases h with rfl | rfl | rfl | rfl <;> have := hE0.size <;> have := hE.size <;> omega)
        have c3 := crash_any wa d m Da hDa hA.ok (hA.small hf (by omega)) (by have := hA.few; have := hf.few; omega) cv ch (hS.ext X) hr hcl (fun b o n c hv hne hb => by have := hcb b o n c hv hne; have := hE0.size; have := hE.size; omega)
        rw [hA.crash ch] at c3
        refine c3.mono ?_
        rintro e w4 ⟨rfl, hC4, hDa4⟩
        clear c3
        have hDb4 := hDb.far hC4 (by omega) (by omega)
        have X4 : Ext w w4 := (X.chg_trans hC4).mono (fun j hj h => by rcases h with rfl | rfl <;> have := hE0.size <;> have := hE.size <;> omega)
        have hown4 := own_chg hown hC4 (fun j h => by rcases h with rfl | rfl <;> omega)
        clear hDa hDb hown hC hC4 X
        go_wp2_with fail
        have c4 := crash_any w4 d' m' D hDb4 hB.ok (hB.small hf (by omega)) (by have := hB.few; have := hf.few; omega) cv ch (hS.ext X4) hr hcl (fun b o n c hv hne hb => by have := hcb b o n c hv hne; have := hE0.size; have := hE.size; omega)
        rw [hB.crash ch] at c4
        refine c4.mono ?_
        rintro e w5 ⟨rfl, hC5, hDb5⟩
        clear c4
        have hDa5 := hDa4.far hC5 (by omega) (by omega)
        have X5 : Ext w w5 := (X4.chg_trans hC5).mono (fun j hj h => by rcases h with rfl | rfl <;> have := hE0.size <;> have := hE.size <;> omega)
        have hown5 := own_chg hown4 hC5 (fun j h => by rcases h with rfl | rfl <;> omega)
        clear hDa4 hDb4 hown4 hC5 X4
        go_wp2_with fail
        go_loopw [89] (fun i wx => ∃ j : Nat, j ≤ 0 ∧ i = .int .i64 j ∧ DkAt wx d m Da ∧ DkAt wx d' m' D ∧ Chg (fun k => k = d ∨ k = d') w5 wx) (fun i _ => 0 - (intOf i).toNat)
        case atStart => exact ⟨0, Nat.zero_le _, rfl, hDa5, hDb5, Chg.refl _ _⟩
        case round =>
          clear hDa5 hDb5
          obtain ⟨j, hj, rfl, gA, gB, gC⟩ := hrel
          by_cases hjk : j < 0
          · exact absurd hjk (by omega)
          · clear hlx hhere hall hown5
            have X6 : Ext w wr := (X5.chg_trans gC).mono (fun j hj h => by rcases h with rfl | rfl <;> have := hE0.size <;> have := hE.size <;> omega)
            have u1 : ∀ dd os, Calls Try.prog 17 #[.pointer (some ⟨d, 0, none⟩)] (grow (redrawn wr dd) os) fun e w'' => e = .returned (.int .i64 D.used) ∧ ∃ p : Regrown, w'' = grow (redrawn wr p.d) p.os := fun dd os => Calls.ext_of ((used_any d 0 D.used _ (by have := (gA.ext (ext_regrown wr dd os)).1.cell 1; rw [hA.used] at this; exact this)).mono fun _ _ ⟨h, h'⟩ => ⟨h, h' ▸ Ext.refl _⟩)
            have u2 : ∀ dd os, Calls Try.prog 17 #[.pointer (some ⟨d', 0, none⟩)] (grow (redrawn wr dd) os) fun e w'' => e = .returned (.int .i64 D.used) ∧ ∃ p : Regrown, w'' = grow (redrawn wr p.d) p.os := fun dd os => Calls.ext_of ((used_any d' 0 D.used _ (by have := (gB.ext (ext_regrown wr dd os)).1.cell 1; rw [hB.used] at this; exact this)).mono fun _ _ ⟨h, h'⟩ => ⟨h, h' ▸ Ext.refl _⟩)
            have v1 : ∀ dd os, Calls Try.prog 18 #[.pointer (some ⟨d, 0, none⟩)] (grow (redrawn wr dd) os) fun e w'' => e = .returned (.bool true) ∧ ∃ p : Regrown, w'' = grow (redrawn wr p.d) p.os := fun dd os => Calls.ext_of (by have := safe_any _ d m Da (gA.ext (ext_regrown wr dd os)); rw [hA.allSafe] at this; exact this)
            have v2 : ∀ dd os, Calls Try.prog 18 #[.pointer (some ⟨d', 0, none⟩)] (grow (redrawn wr dd) os) fun e w'' => e = .returned (.bool true) ∧ ∃ p : Regrown, w'' = grow (redrawn wr p.d) p.os := fun dd os => Calls.ext_of (by have := safe_any _ d' m' D (gB.ext (ext_regrown wr dd os)); rw [hB.allSafe] at this; exact this)
            have hqq : (D.used == D.used) = true := by simp
            go_wp2_with fail
            refine wp_region_quiet_ext (by kernel_rfl) (by kernel_rfl) ?_
            repeat (go_big_quiet_step (first | with_reducible exact u1 _ _ | with_reducible exact u2 _ _ | with_reducible exact v1 _ _ | with_reducible exact v2 _ _))
            refine wpQuiet_nil ?_
            intro W2 hE2
            go_wp2_with fail
            go_ret
            exact ⟨rfl, X6.trans hE2⟩
      · have hpos : 0 < k := by omega
        go_wp2_with fail
        have hsy := hf.synd ns (fun n h => (hhere n h).2)
        have hns : ns ≠ [] := by intro e; subst e; simp at hlen; omega
        rw [if_neg hns] at hsy
        have c2 := sync_any wa d' m' D hDb hf.ok (.slice LA k lc) ns (Sl.of_own hown) (fun n h => (hhere n h).2) (by omega) (by have := hf.few; omega) (fun h => absurd h hns)
        have hB : Done D (D.sync ns).2 := hsy.2.done hf hall
        have e0 := hsy.1
        clear hsy
        generalize D.sync ns = q at hB e0 c2
        obtain ⟨r2, Db⟩ := q
        simp only at hB e0 c2
        subst e0
        refine c2.mono ?_
        rintro e wb ⟨rfl, hCb, hDb2⟩
        clear c2
        replace hDa := hDa.far hCb (by omega) (by omega)
        replace hown := own_chg hown hCb (fun j h => by rcases h with rfl | rfl <;> omega)
        replace hC := hC.trans hCb (fun j _ h => by rcases h with rfl | rfl <;> simp)
        replace hDb := hDb2
        clear hDb2 hCb
        go_wp2_with fail
        have X : Ext w wb := ((hE0.trans hE).trans hE').chg_trans hC |>.mono (fun j hj h => by rcases h with rfl | rfl | rfl | rfl <;> have := hE0.size <;> have := hE.size <;> omega)
        have c3 := crash_any wb d m Da hDa hA.ok (hA.small hf (by omega)) (by have := hA.few; have := hf.few; omega) cv ch (hS.ext X) hr hcl (fun b o n c hv hne hb => by have := hcb b o n c hv hne; have := hE0.size; have := hE.size; omega)
        rw [hA.crash ch] at c3
        refine c3.mono ?_
        rintro e w4 ⟨rfl, hC4, hDa4⟩
        clear c3
        have hDb4 := hDb.far hC4 (by omega) (by omega)
        have X4 : Ext w w4 := (X.chg_trans hC4).mono (fun j hj h => by rcases h with rfl | rfl <;> have := hE0.size <;> have := hE.size <;> omega)
        have hown4 := own_chg hown hC4 (fun j h => by rcases h with rfl | rfl <;> omega)
        clear hDa hDb hown hC hC4 X
        go_wp2_with fail
        have c4 := crash_any w4 d' m' Db hDb4 hB.ok (hB.small hf (by omega)) (by have := hB.few; have := hf.few; omega) cv ch (hS.ext X4) hr hcl (fun b o n c hv hne hb => by have := hcb b o n c hv hne; have := hE0.size; have := hE.size; omega)
        rw [hB.crash ch] at c4
        refine c4.mono ?_
        rintro e w5 ⟨rfl, hC5, hDb5⟩
        clear c4
        have hDa5 := hDa4.far hC5 (by omega) (by omega)
        have X5 : Ext w w5 := (X4.chg_trans hC5).mono (fun j hj h => by rcases h with rfl | rfl <;> have := hE0.size <;> have := hE.size <;> omega)
        have hown5 := own_chg hown4 hC5 (fun j h => by rcases h with rfl | rfl <;> omega)
        clear hDa4 hDb4 hown4 hC5 X4
        go_wp2_with fail
        go_loopw [89] (fun i wx => ∃ j : Nat, j ≤ k ∧ i = .int .i64 j ∧ DkAt wx d m Da ∧ DkAt wx d' m' Db ∧ Chg (fun k => k = d ∨ k = d') w5 wx) (fun i _ => k - (intOf i).toNat)
        case atStart => exact ⟨0, Nat.zero_le _, rfl, hDa5, hDb5, Chg.refl _ _⟩
        case round =>
          clear hDa5 hDb5
          obtain ⟨j, hj, rfl, gA, gB, gC⟩ := hrel
          by_cases hjk : j < k
          · obtain ⟨A', c', hv, hx'⟩ := Sl.of_own (own_chg hown5 gC (fun j h => by rcases h with rfl | rfl <;> omega))
            injection hv with q1 q2 q3
            subst q1 q3
            obtain ⟨b, o, rfl, hcell⟩ := hx' (by intro e; rw [List.map_eq_nil_iff] at e; subst e; simp at hlen; omega)
            have hjl : j < ns.length := by omega
            have r0 : wr.cell? ⟨b, o + j, none⟩ = some (.string ns[j]) := hcell j _ (by rw [List.getElem?_map, List.getElem?_eq_getElem hjl]; rfl)
            have hh := (hhere _ (List.getElem_mem hjl)).1
            generalize ns[j] = nj at r0 hh
            clear hcell hx' hlx hhere hall q2
            have c7 := read_any wr d m Da gA hA.ok nj
            have c8 := fun w' h => read_any w' d' m' Db h hB.ok nj
            rw [hA.read hh, hA.tick] at c7
            rw [hB.read hh, hB.tick] at c8
            generalize (D.get nj).nx = txt at c7 c8
            go_wp2_with fail
            refine c7.mono ?_
            rintro e w7 ⟨rfl, hC7, hD7⟩
            clear c7
            go_wp2_with fail
            refine (c8 _ (gB.far hC7 (by omega) (by omega))).mono ?_
            rintro e w8 ⟨rfl, hC8, hD8⟩
            clear c8
            go_wp2_with fail
            go_roundw
            case rel => exact ⟨j + 1, by omega, by go_num, hD7.far hC8 (by omega) (by omega), hD8, (gC.trans hC7 (fun _ _ h => .inl h)).trans hC8 (fun _ _ h => .inr h)⟩
            case measure => simp [intOf]; omega
          · clear hlx hhere hall hown5
            have X6 : Ext w wr := (X5.chg_trans gC).mono (fun j hj h => by rcases h with rfl | rfl <;> have := hE0.size <;> have := hE.size <;> omega)
            have u1 : ∀ dd os, Calls Try.prog 17 #[.pointer (some ⟨d, 0, none⟩)] (grow (redrawn wr dd) os) fun e w'' => e = .returned (.int .i64 D.used) ∧ ∃ p : Regrown, w'' = grow (redrawn wr p.d) p.os := fun dd os => Calls.ext_of ((used_any d 0 D.used _ (by have := (gA.ext (ext_regrown wr dd os)).1.cell 1; rw [hA.used] at this; exact this)).mono fun _ _ ⟨h, h'⟩ => ⟨h, h' ▸ Ext.refl _⟩)
            have u2 : ∀ dd os, Calls Try.prog 17 #[.pointer (some ⟨d', 0, none⟩)] (grow (redrawn wr dd) os) fun e w'' => e = .returned (.int .i64 D.used) ∧ ∃ p : Regrown, w'' = grow (redrawn wr p.d) p.os := fun dd os => Calls.ext_of ((used_any d' 0 D.used _ (by have := (gB.ext (ext_regrown wr dd os)).1.cell 1; rw [hB.used] at this; exact this)).mono fun _ _ ⟨h, h'⟩ => ⟨h, h' ▸ Ext.refl _⟩)
            have v1 : ∀ dd os, Calls Try.prog 18 #[.pointer (some ⟨d, 0, none⟩)] (grow (redrawn wr dd) os) fun e w'' => e = .returned (.bool true) ∧ ∃ p : Regrown, w'' = grow (redrawn wr p.d) p.os := fun dd os => Calls.ext_of (by have := safe_any _ d m Da (gA.ext (ext_regrown wr dd os)); rw [hA.allSafe] at this; exact this)
            have v2 : ∀ dd os, Calls Try.prog 18 #[.pointer (some ⟨d', 0, none⟩)] (grow (redrawn wr dd) os) fun e w'' => e = .returned (.bool true) ∧ ∃ p : Regrown, w'' = grow (redrawn wr p.d) p.os := fun dd os => Calls.ext_of (by have := safe_any _ d' m' Db (gB.ext (ext_regrown wr dd os)); rw [hB.allSafe] at this; exact this)
            have hqq : (D.used == D.used) = true := by simp
            go_wp2_with fail
            refine wp_region_quiet_ext (by kernel_rfl) (by kernel_rfl) ?_
            repeat (go_big_quiet_step (first | with_reducible exact u1 _ _ | with_reducible exact u2 _ _ | with_reducible exact v1 _ _ | with_reducible exact v2 _ _))
            refine wpQuiet_nil ?_
            intro W2 hE2
            go_wp2_with fail
            go_ret
            exact ⟨rfl, X6.trans hE2⟩
end Go.Proofs.Ytjjcknkffkpkhaa
