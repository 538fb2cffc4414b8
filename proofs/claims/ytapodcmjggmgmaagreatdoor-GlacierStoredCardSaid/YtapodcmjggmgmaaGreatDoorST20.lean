/-
  Part 20 of what the law leans on.
-/
import Derived.Test.YtapodcmjggmgmaaGreatDoorST19
set_option linter.unusedVariables false
set_option linter.unusedSimpArgs false
set_option linter.unusedSectionVars false
namespace Go.Proofs.YtapodcmjggmgmaaGreatDoor
open Go.RowKit Go.Sort
theorem applyL_take (Ls : List (List Rec)) {j : Nat} {g : List Rec} (h : Ls[j]? = some g) : applyL 1 (Ls.take (j + 1)) [] = applyG (1 + j) 0 g (applyL 1 (Ls.take j) []) := by
  have hj := (List.getElem?_eq_some_iff.1 h).1
  rw [List.take_add_one, h]
  show applyL 1 (Ls.take j ++ [g]) [] = _
  rw [applyL_snoc, List.length_take, Nat.min_eq_left (by omega)]
def stR (Ls : List (List Rec)) : St := ⟨2000, dkT Ls, Cof Ls, Ls.length + 1, 0, false⟩
set_option maxRecDepth 100000 in
set_option maxHeartbeats 4000000 in
theorem copenT_any (w : World) (d m : Nat) (Ls : List (List Rec)) (hdk : DkAt w d m (dkT Ls)) (hG : GoodL Ls) (hT : Tab w) (hg : ¬ 0 = d) :
    Calls Tryz.prog 37 #[.pointer (some ⟨d, 0, none⟩), .int .i64 2000] w fun e w' =>
      ∃ s c, e = .returned (.tuple #[.pointer (some ⟨s, 0, none⟩), .int .i64 0]) ∧ w.heap.size ≤ s ∧ w.heap.size ≤ c ∧ Chg (fun k => k = d) w w' ∧ StAt w' s d m c (stR Ls) := by
  have hD := dkT_calm hG
  have hlen := hG.len
  have cn := pnames_any w d m (dkT Ls) hdk hD.ok (by show (filesFrom 1 Ls).length ≤ _; rw [filesFrom_length]; omega)
  rw [hD.e, hD.tick, dkT_names hG] at cn
  have hmm := @run_makeMap Tryz.prog
  go_enter Tryz.func37, Tryz.ntmps37
  go_wp2_with fail
  refine cn.mono ?_
  rintro e w1 ⟨v, rfl, hSl, hC1, hdk1⟩
  clear cn
  have hnl : ((nameFrom 1 Ls).map segN).length = Ls.length := by rw [List.length_map, nameFrom_length]
  obtain ⟨A, c0, hve⟩ : ∃ A c, v = .slice A Ls.length c := by
    obtain ⟨A, c, h, _⟩ := hSl
    exact ⟨A, c, by rw [h, List.length_map, hnl]⟩
  subst hve
  have hs1 := hC1.size
  have hT1 := hT.chg hC1 hg
  have hnb : ∀ b o n c', (Value.slice A Ls.length c0) = .slice (some ⟨b, o, none⟩) n c' → ((nameFrom 1 Ls).map segN).map Value.string ≠ [] → b < w1.heap.size := fun b o n c' hv hne => by
    obtain ⟨A', c'', h1, h2⟩ := hSl
    obtain ⟨b2, o2, rfl, hc⟩ := h2 hne
    rw [h1] at hv
    simp only [Value.slice.injEq, Option.some.injEq, Addr.mk.injEq] at hv
    obtain ⟨x, hx⟩ := List.exists_mem_of_ne_nil _ hne
    obtain ⟨i, hi, e⟩ := List.mem_iff_getElem.1 hx
    have := cell_lt (hc i x (by rw [List.getElem?_eq_getElem hi, e]))
    rw [← hv.1.1]; exact this
  go_wp2_with fail
  rw [show max (2000 : Int) 1 = 2000 from rfl]
  have hM := (MapAt.new u64Way Plc.val w1).alloc (.cells #[.pointer (some ⟨d, 0, none⟩), .int .i64 2000, .map (some w1.heap.size), .int .i64 1, .int .i64 0, .bool false] 130)
  have hsz : (w1.alloc (.map #[] 0)).heap.size = w1.heap.size + 1 := by simp
  have hA := At.new (w1.alloc (.map #[] 0)) 130 #[.pointer (some ⟨d, 0, none⟩), .int .i64 2000, .map (some w1.heap.size), .int .i64 1, .int .i64 0, .bool false]
  rw [hsz] at hA
  have hE := ((Ext.refl w1).alloc (.map #[] 0)).alloc (.cells #[.pointer (some ⟨d, 0, none⟩), .int .i64 2000, .map (some w1.heap.size), .int .i64 1, .int .i64 0, .bool false] 130)
  generalize (w1.alloc (.map #[] 0)).alloc (.cells #[.pointer (some ⟨d, 0, none⟩), .int .i64 2000, .map (some w1.heap.size), .int .i64 1, .int .i64 0, .bool false] 130) = W at hM hA hE ⊢
  have hdkl := hdk1.2.lt
  have hddl := hdk1.1.lt
  obtain ⟨c, hcE⟩ : ∃ c, w1.heap.size = c := ⟨_, rfl⟩
  obtain ⟨s, hsE⟩ : ∃ s, w1.heap.size + 1 = s := ⟨_, rfl⟩
  have hsc : c < s := by omega
  have hS0 : StAt W s d m c ⟨2000, dkT Ls, applyL 1 (Ls.take 0) [], 1 + 0, 0, false⟩ := ⟨by rw [← hsE]; simpa [St.cells, hcE] using hA, hdk1.ext hE, by rw [← hcE]; exact hM, by omega⟩
  have hSl0 := hSl.ext hE
  have hT0 := hT1.ext hE
  have hw1 : w.heap.size ≤ c := by omega
  have hwl : w1.heap.size ≤ c := by omega
  have htl := hT1.lt
  rw [hsE, hcE]
  clear hM hA hSl hT1 hdk hdk1 hsz hcE hsE
  go_loopw [31] (fun iv wr => ∃ j : Nat, j ≤ Ls.length ∧ iv = .int .i64 (j : Int) ∧ StAt wr s d m c ⟨2000, dkT Ls, applyL 1 (Ls.take j) [], 1 + j, 0, false⟩ ∧ Chg (fun b => b = s ∨ b = c) W wr) (fun iv _ => Ls.length - (intOf iv).toNat)
  case atStart => exact ⟨0, Nat.zero_le _, rfl, hS0, Chg.refl _ _⟩
  case round =>
    clear hS0
    obtain ⟨j, hj, rfl, hS, hC⟩ := hrel
    rename World => wr
    have hSl : Sl wr (.slice A Ls.length c0) (((nameFrom 1 Ls).map segN).map Value.string) := hSl0.chg hC (fun b o n c' hv hne hb => by have := hnb b o n c' hv hne; rcases hb with e | e <;> omega)
    have hTr : Tab wr := hT0.chg hC (by rintro (e | e) <;> omega)
    by_cases hlt : j < Ls.length
    · obtain ⟨g, hg1⟩ : ∃ g, Ls[j]? = some g := ⟨_, List.getElem?_eq_getElem hlt⟩
      have hn := nameFrom_get 1 Ls j hlt
      obtain ⟨b', o', rfl, hcell⟩ := hSl.pick (k := j) (x := .string (segN (1 + j))) (by simp [hn])
      have hget := dkT_at hlen hg1
      have hgm := List.mem_of_getElem? hg1
      have cnum := number_any wr (1 + j) (by omega) (by omega)
      have crd := fun w (h : DkAt w d m (dkT Ls)) => read_calm w d m (dkT Ls) h hD (segN (1 + j)) (by rw [hget]; rfl)
      rw [hget] at crd
      have hgg : ∀ x ∈ g, x.2.size ≤ 500 ∧ x.1 < 18446744073709551616 := fun x hx => hG.small x (List.mem_flatten.2 ⟨g, hgm, hx⟩)
      have hap := applyL_take Ls hg1
      obtain ⟨C0, hC0⟩ : ∃ C0, applyL 1 (Ls.take j) [] = C0 := ⟨_, rfl⟩
      rw [hC0] at hS hap
      have HAP := Lib.hid hap
      have htg := tot_mem hgm
      have htt := hG.tot
      have hgl : g.length ≤ 100000 := by
        have h8 : ∀ g : List Rec, 8 * g.length ≤ sizeG g := fun g => by
          induction g with
          | nil => simp [sizeG]
          | cons x g ih => have : 8 ≤ (rbs x).size := frec_ge 1 x.1 x.2; simp only [List.length_cons, sizeG]; omega
        have := h8 g
        rw [gB_size] at htg
        omega
      have hnx : (fl (gB g)).nx = gB g := rfl
      rw [hnx] at crd
      have cap := fun w S (h : StAt w s d m c S) (hT : Tab w) => applyT_any w s d m c S h (1 + j) g hgg hgl (by omega) hT (by omega)
      clear hap hn hget hgg hgl htg htt hgm hnx hC0
      generalize gB g = tx at *
      go_wp2_with fail
      refine cnum.mono ?_
      rintro e w3 ⟨rfl, rfl⟩
      clear cnum hcell
      have crd1 := crd _ hS.dk
      clear crd
      go_wp2_with fail
      refine crd1.mono ?_
      rintro e w4 ⟨rfl, hE4⟩
      clear crd1
      have cap1 := cap w4 _ (hS.ext hE4) (hTr.ext hE4)
      clear cap
      rw [show ((1 + j : Nat) : Int) = 1 + (j : Int) by simp] at cap1
      go_wp2_with fail
      refine cap1.mono ?_
      rintro e w5 ⟨rfl, hC5, hS5⟩
      clear cap1
      have k3 := hS5.st.cell 3
      have f3 := hS5.st.frozen 3
      simp [St.cells] at k3
      have hA6 := hS5.st.set 3 (.int .i64 (1 + (j : Int) + 1))
      have hC6 : Chg (fun b => b = s) w5 (w5.setCell ⟨s, 3, none⟩ (.int .i64 (1 + (j : Int) + 1))) := (Chg.refl (fun b => b = s) w5).setCell (p := ⟨s, 3, none⟩) (.inl rfl) _
      have hsd := hS5.sd
      have hsm := hS5.sm
      have hd6 : DkAt (w5.setCell ⟨s, 3, none⟩ (.int .i64 (1 + (j : Int) + 1))) d m (dkT Ls) := ⟨hS5.dk.1.chg hC6 (fun e => hsd e.symm), hS5.dk.2.chg hC6 (fun e => hsm e.symm)⟩
      have hm6 := hS5.ch.chg hC6 (fun e => by omega)
      have hCz := ((hC.ext_trans hE4).trans hC5 (fun b hb e => .inr e)).trans hC6 (fun b hb e => .inl e)
      clear hS hC hE4 hC5 hC6 hSl
      go_wp2_with fail
      go_roundw
      case rel =>
        refine ⟨j + 1, by omega, by go_num, ?_, hCz⟩
        rw [HAP.out]
        refine ⟨?_, hd6, hm6, by omega⟩
        have e : (1 + (j : Int) + 1) = ((1 + (j + 1) : Nat) : Int) := by simp; omega
        rw [e] at hA6 ⊢
        simpa [St.cells] using hA6
      case measure => simp [intOf]; omega
    · obtain rfl : j = Ls.length := by omega
      go_wp2_with fail
      go_ret2
      rw [List.take_length] at hS
      refine ⟨s, c, rfl, by omega, hw1, (hC1.ext_trans hE).trans hC (fun b hb e => by omega), ?_⟩
      have e : (⟨2000, dkT Ls, applyL 1 Ls [], 1 + Ls.length, 0, false⟩ : St) = stR Ls := by unfold stR Cof; rw [Nat.add_comm]
      rw [← e]; exact hS
end Go.Proofs.YtapodcmjggmgmaaGreatDoor
namespace Go.Proofs.YtapodcmjggmgmaaGreatDoor
open Go.RowKit Go.Sort
set_option maxRecDepth 100000 in
theorem failT_any (w : World) (d m : Nat) (D : Dk) (hD : DkAt w d m D) (ha : D.armed = 0) :
    Calls Tryz.prog 40 #[.pointer (some ⟨d, 2, none⟩), .int .i64 (-1)] w fun e w' => e = .returned (.tuple #[]) ∧ Chg (fun k => k = d) w w' ∧ DkAt w' d m D := by
  have c3 : w.cell? ⟨d, 3, none⟩ = some (.int .i64 D.armed) := hD.1.cell 3
  have f3 : w.frozen? ⟨d, 3, none⟩ = false := hD.1.frozen 3
  have hd := hD.chg_armed 0
  have e : ({ D with armed := 0 } : Dk) = D := by rw [← ha]
  rw [e] at hd
  go_enter Tryz.func40, Tryz.ntmps40
  go_wp2_with fail
  refine bodyPost_ret (results_none rfl _ _ _) rfl ?_
  exact ⟨rfl, (Chg.refl (fun k => k = d) w).setCell (p := ⟨d, 3, none⟩) (.inl rfl) _, hd⟩
set_option maxRecDepth 100000 in
theorem loseT_any (w : World) (d m : Nat) (D : Dk) (hD : DkAt w d m D) : Calls Tryz.prog 16 #[.pointer (some ⟨d, 2, none⟩)] w fun e w' => e = .returned (.tuple #[]) ∧ Chg (fun k => k = d) w w' ∧ DkAt w' d m { D with lost := true } := by
  have c2 : w.cell? ⟨d, 2, none⟩ = some (.bool D.lost) := hD.1.cell 2
  have f2 : w.frozen? ⟨d, 2, none⟩ = false := hD.1.frozen 2
  have h2 := hD.1.set 2 (.bool true)
  go_enter Tryz.func16, Tryz.ntmps16
  go_wp2_with fail
  go_end0
  exact ⟨rfl, (Chg.refl (fun k => k = d) w).setCell (p := ⟨d, 2, none⟩) (.inl rfl) _, by simpa using h2, hD.2.setCell _ _⟩
structure NdS (w : World) (K : Ks) (Ls : List (List Rec)) : Prop where
  nd : At w K.n 41 #[.pointer (some ⟨K.d, 0, none⟩), .pointer none, .int .i64 0]
  dk : DkAt w K.d K.m (dkT Ls)
  good : GoodL Ls
structure NdR (w : World) (K : Ks) (Ls : List (List Rec)) (lost : Bool) : Prop where
  nd : At w K.n 41 #[.pointer (some ⟨K.d, 0, none⟩), .pointer (some ⟨K.s, 0, none⟩), .int .i64 0]
  st : StAt w K.s K.d K.m K.c ⟨2000, { dkT Ls with lost := lost }, Cof Ls, Ls.length + 1, 0, false⟩
  good : GoodL Ls
theorem NdR.chg {w w' : World} {K : Ks} {Ls : List (List Rec)} {lost : Bool} {P : Nat → Prop} (h : NdR w K Ls lost) (hC : Chg P w w') (hP : ∀ k, P k → ¬ K.has k) : NdR w' K Ls lost := by
  have q : ∀ {x}, (x = K.n ∨ x = K.s ∨ x = K.d ∨ x = K.m ∨ x = K.c) → ¬ P x := fun hx hp => hP _ hp hx
  exact ⟨h.nd.chg hC (q (.inl rfl)), ⟨h.st.st.chg hC (q (.inr (.inl rfl))), ⟨h.st.dk.1.chg hC (q (.inr (.inr (.inl rfl)))), h.st.dk.2.chg hC (q (.inr (.inr (.inr (.inl rfl)))))⟩, h.st.ch.chg hC (q (.inr (.inr (.inr (.inr rfl))))), h.st.ne⟩, h.good⟩
theorem NdR.ext {w w' : World} {K : Ks} {Ls : List (List Rec)} {lost : Bool} (h : NdR w K Ls lost) (hE : Ext w w') : NdR w' K Ls lost := h.chg hE (fun _ h => h.elim)
set_option maxRecDepth 100000 in
set_option maxHeartbeats 1000000 in
theorem nstopT_any (w : World) (K : Ks) (Ls : List (List Rec)) (h : NdO w K Ls) (cv : Value) (ch : List Int) (hS : Sl w cv (ch.map (Value.int .i64))) (hr : ∀ x ∈ ch, I64 x) (hcl : ch.length ≤ 9223372036854775807)
    (hap : ∀ b o n c, cv = .slice (some ⟨b, o, none⟩) n c → ch.map (Value.int .i64) ≠ [] → ¬ K.has b) :
    Calls Tryz.prog 14 #[.pointer (some ⟨K.n, 0, none⟩), cv] w fun e w' => e = .returned (.int .i64 0) ∧ Chg K.has w w' ∧ NdS w' K Ls := by
  obtain ⟨hN, hG⟩ := h
  obtain ⟨n, s, d, m, c⟩ := K
  simp only at hN
  have hnd := hN.nd'
  have hnm := hN.nm
  have k0 : w.cell? ⟨n, 0, none⟩ = some (.pointer (some ⟨d, 0, none⟩)) := hN.nd.cell 0
  have k1 : w.cell? ⟨n, 1, none⟩ = some (.pointer (some ⟨s, 0, none⟩)) := hN.nd.cell 1
  have f1 := hN.nd.frozen 1
  have hA1 := hN.nd.set 1 (.pointer none)
  simp at hA1
  have hC1 : Chg (fun k => k = n) w (w.setCell ⟨n, 1, none⟩ (.pointer none)) := (Chg.refl (fun k => k = n) w).setCell (p := ⟨n, 1, none⟩) (.inl rfl) _
  have hd1 : DkAt (w.setCell ⟨n, 1, none⟩ (.pointer none)) d m (dkT Ls) := ⟨hN.st.dk.1.chg hC1 (fun e => hnd e.symm), hN.st.dk.2.chg hC1 (fun e => hnm e.symm)⟩
  have hS1 : Sl (w.setCell ⟨n, 1, none⟩ (.pointer none)) cv (ch.map (Value.int .i64)) := hS.chg hC1 (fun b o n c hv hne e => hap b o n c hv hne (.inl e))
  have cc := crash_any _ d m (dkT Ls) hd1 (dkT_calm hG).ok (fun n => by have := dkT_small hG n; omega) (by show (filesFrom 1 Ls).length ≤ _; rw [filesFrom_length]; have := hG.len; omega) cv ch hS1 hr hcl (fun b o n c hv hne e => hap b o n c hv hne (by rcases e with e | e; exact .inr (.inr (.inl e)); exact .inr (.inr (.inr (.inl e)))))
  rw [dkT_crash] at cc
  go_enter Tryz.func14, Tryz.ntmps14
  go_wp2_with fail
  refine cc.mono ?_
  rintro e w2 ⟨rfl, hC2, hd2⟩
  clear cc
  go_wp2_with fail
  go_ret
  refine ⟨rfl, (hC1.mono (fun k _ e => .inl e)).trans hC2 (fun k _ e => ?_), hA1.chg hC2 (by rintro (e | e); exact hnd e; exact hnm e), hd2, hG⟩
  rcases e with e | e
  · exact .inr (.inr (.inl e))
  · exact .inr (.inr (.inr (.inl e)))
set_option maxRecDepth 100000 in
set_option maxHeartbeats 1000000 in
theorem nopenT_any (w : World) (n d m : Nat) (Ls : List (List Rec)) (hA : At w n 41 #[.pointer (some ⟨d, 0, none⟩), .pointer none, .int .i64 0]) (hdk : DkAt w d m (dkT Ls)) (hG : GoodL Ls) (hT : Tab w) (hg : ¬ 0 = d) :
    Calls Tryz.prog 41 #[.pointer (some ⟨n, 0, none⟩)] w fun e w' => ∃ s c, e = .returned (.int .i64 0) ∧ w.heap.size ≤ s ∧ w.heap.size ≤ c ∧ Chg (fun k => k = n ∨ k = d) w w' ∧ NdR w' ⟨n, s, d, m, c⟩ Ls false := by
  have c0 : w.cell? ⟨n, 0, none⟩ = some (.pointer (some ⟨d, 0, none⟩)) := hA.cell 0
  have co := copenT_any w d m Ls hdk hG hT hg
  have hnd : n ≠ d := hA.ne hdk.1 (by decide)
  go_enter Tryz.func41, Tryz.ntmps41
  go_wp2_with fail
  refine co.mono ?_
  rintro e w1 ⟨s, c, rfl, hs, hc, hC1, hS1⟩
  clear co
  have hA1 := hA.chg hC1 hnd
  have hns : n ≠ s := by have := hA.lt; omega
  have hnc : n ≠ c := by have := hA.lt; omega
  have hnm : n ≠ m := fun e => hdk.2.ne_at hA e.symm
  have f1 := hA1.frozen 1
  have k1 := hA1.cell 1
  have hA2 := hA1.set 1 (.pointer (some ⟨s, 0, none⟩))
  have f2 := hA2.frozen 2
  have k2 := hA2.cell 2
  have hA3 := hA2.set 2 (.int .i64 0)
  have hC2 : Chg (fun k => k = n) w1 ((w1.setCell ⟨n, 1, none⟩ (.pointer (some ⟨s, 0, none⟩))).setCell ⟨n, 2, none⟩ (.int .i64 0)) := ((Chg.refl (fun k => k = n) w1).setCell (p := ⟨n, 1, none⟩) (.inl rfl) _).setCell (p := ⟨n, 2, none⟩) (.inl rfl) _
  simp only [List.getElem?_toArray, List.getElem?_cons_zero, List.getElem?_cons_succ, List.setIfInBounds_toArray, List.set_cons_zero, List.set_cons_succ] at k1 k2 hA3
  go_wp2_with fail
  go_ret
  refine ⟨s, c, rfl, hs, hc, (hC1.mono (fun k _ h => .inr h)).trans hC2 (fun _ _ h => .inl h), hA3, ⟨hS1.st.chg hC2 (fun e => hns e.symm), ⟨hS1.dk.1.chg hC2 (fun e => hnd e.symm), hS1.dk.2.chg hC2 (fun e => hnm e.symm)⟩, hS1.ch.chg hC2 (fun e => hnc e.symm), hS1.ne⟩, hG⟩
set_option maxRecDepth 100000 in
set_option maxHeartbeats 1000000 in
theorem nstartT_any (w : World) (K : Ks) (Ls : List (List Rec)) (h : NdS w K Ls) (hT : Tab w) (hg : ¬ K.has 0) :
    Calls Tryz.prog 15 #[.pointer (some ⟨K.n, 0, none⟩)] w fun e w' => ∃ s c, e = .returned (.int .i64 0) ∧ w.heap.size ≤ s ∧ w.heap.size ≤ c ∧ Chg K.has w w' ∧ NdR w' { K with s := s, c := c } Ls false := by
  obtain ⟨hA, hdk, hG⟩ := h
  obtain ⟨n, s, d, m, c⟩ := K
  simp only at hA hdk
  have hnd : n ≠ d := hA.ne hdk.1 (by decide)
  have k0 : w.cell? ⟨n, 0, none⟩ = some (.pointer (some ⟨d, 0, none⟩)) := hA.cell 0
  have k1 : w.cell? ⟨n, 1, none⟩ = some (.pointer none) := hA.cell 1
  have hlo := lost_any w d m (dkT Ls) hdk
  have hlf : (dkT Ls).lost = false := rfl
  rw [hlf] at hlo
  have cf := failT_any w d m (dkT Ls) hdk rfl
  have hgd : ¬ 0 = d := fun e => hg (.inr (.inr (.inl e)))
  go_enter Tryz.func15, Tryz.ntmps15
  go_wp2_with fail
  refine hlo.mono ?_
  rintro e w1 ⟨rfl, rfl⟩
  clear hlo
  go_wp2_with fail
  refine cf.mono ?_
  rintro e w2 ⟨rfl, hC2, hd2⟩
  clear cf
  have co := nopenT_any w2 n d m Ls (hA.chg hC2 hnd) hd2 hG (hT.chg hC2 hgd) hgd
  go_wp2_with fail
  refine co.mono ?_
  rintro e w3 ⟨s', c', rfl, hs, hc, hC3, hN⟩
  clear co
  go_wp2_with fail
  go_ret
  have hsz := hC2.size
  refine ⟨s', c', rfl, by omega, by omega, (hC2.mono (fun k _ e => .inr (.inr (.inl e)))).trans hC3 (fun k _ e => ?_), hN⟩
  rcases e with e | e
  · exact .inl e
  · exact .inr (.inr (.inl e))
end Go.Proofs.YtapodcmjggmgmaaGreatDoor
namespace Go.Proofs.YtapodcmjggmgmaaGreatDoor
open Go.RowKit Go.Sort
abbrev stL (Ls : List (List Rec)) (lost : Bool) : St := ⟨2000, { dkT Ls with lost := lost }, Cof Ls, Ls.length + 1, 0, false⟩
set_option maxRecDepth 100000 in
theorem upT_any (w : World) (K : Ks) (Ls : List (List Rec)) (lost : Bool) (h : NdR w K Ls lost) :
    Calls Tryz.prog 34 #[.pointer (some ⟨K.n, 0, none⟩)] w fun e w' => e = .returned (.bool (!lost)) ∧ w' = w := by
  have hl := lost_any w K.d K.m _ h.st.dk
  have hll : (stL Ls lost).D.lost = lost := rfl
  rw [hll] at hl
  have c0 : w.cell? ⟨K.n, 0, none⟩ = some (.pointer (some ⟨K.d, 0, none⟩)) := h.nd.cell 0
  have c1 : w.cell? ⟨K.n, 1, none⟩ = some (.pointer (some ⟨K.s, 0, none⟩)) := h.nd.cell 1
  go_enter Tryz.func34, Tryz.ntmps34
  go_wp2_with fail
  refine hl.mono ?_
  rintro e w1 ⟨rfl, rfl⟩
  clear hl
  cases lost
  · go_wp2_with fail
    go_ret
    exact ⟨rfl, rfl⟩
  · go_wp2_with fail
    go_ret
    exact ⟨rfl, rfl⟩
set_option maxRecDepth 100000 in
set_option maxHeartbeats 1000000 in
theorem ngetT_any (w : World) (K : Ks) (Ls : List (List Rec)) (h : NdR w K Ls false) (x : Rec) (hx : x ∈ Ls.flatten) (hT : Tab w) :
    Calls Tryz.prog 119 #[.pointer (some ⟨K.n, 0, none⟩), .int .u64 (x.1 : Int)] w fun e w' => e = .returned (.tuple #[.string x.2, .int .i64 0]) ∧ Ext w w' := by
  obtain ⟨p, hp, hH⟩ := h.good.at_ hx
  obtain ⟨hs, hi⟩ := h.good.small x hx
  have cu := upT_any w K Ls false h
  rw [Bool.not_false] at cu
  have cg := cget_any w K.s K.d K.m K.c (stL Ls false) h.st (dkT_calm h.good) x.1 hi p x.2 (by omega) hp hH hT
  have c1 : w.cell? ⟨K.n, 1, none⟩ = some (.pointer (some ⟨K.s, 0, none⟩)) := h.nd.cell 1
  go_enter Tryz.func119, Tryz.ntmps119
  go_wp2_with fail
  refine cu.mono ?_
  rintro e w1 ⟨rfl, rfl⟩
  clear cu
  go_wp2_with fail
  refine cg.mono ?_
  rintro e w2 ⟨rfl, hE⟩
  clear cg
  go_wp2_with fail
  go_ret2
  exact ⟨rfl, hE⟩
set_option maxRecDepth 100000 in
theorem ngetT_lost (w : World) (K : Ks) (Ls : List (List Rec)) (h : NdR w K Ls true) (id : Int) :
    Calls Tryz.prog 119 #[.pointer (some ⟨K.n, 0, none⟩), .int .u64 id] w fun e w' => e = .returned (.tuple #[.string ⟨#[]⟩, .int .i64 9]) ∧ Ext w w' := by
  have cu := upT_any w K Ls true h
  rw [Bool.not_true] at cu
  go_enter Tryz.func119, Tryz.ntmps119
  go_wp2_with fail
  refine cu.mono ?_
  rintro e w1 ⟨rfl, rfl⟩
  clear cu
  go_wp2_with fail
  go_ret2
  exact ⟨rfl, Ext.refl _⟩
set_option maxRecDepth 100000 in
set_option maxHeartbeats 1000000 in
theorem nverT_any (w : World) (K : Ks) (Ls : List (List Rec)) (h : NdR w K Ls false) (x : Rec) (hx : x ∈ Ls.flatten) (hT : Tab w) :
    Calls Tryz.prog 77 #[.pointer (some ⟨K.n, 0, none⟩), .int .u64 (x.1 : Int), .int .i64 (x.2.size : Int), .int .u32 (crc x.2.data.toList : Nat)] w fun e w' => e = .returned (.tuple #[.string x.2, .int .i64 0]) ∧ Ext w w' := by
  have cg := ngetT_any w K Ls h x hx hT
  have hsz := (h.good.small x hx).1
  obtain ⟨id, data⟩ := x
  simp only at cg hsz ⊢
  go_enter Tryz.func77, Tryz.ntmps77
  go_wp2_with fail
  refine cg.mono ?_
  rintro e w2 ⟨rfl, hE2⟩
  clear cg
  have cs := sum_any (w2.alloc (.cells #[.string data] 9)) (.slice (some ⟨w2.heap.size, 0, none⟩) 1 1) [data] (sl_one w2 9 (.string data) 1) (by simp) (by intro s hs; simp at hs; subst hs; unfold maxLen; omega) ((hT.ext hE2).alloc _)
  simp only [List.flatMap_cons, List.flatMap_nil, List.append_nil] at cs
  generalize crc data.data.toList = cx at cs ⊢
  go_wp2_with fail
  refine cs.mono ?_
  rintro e w3 ⟨rfl, rfl⟩
  clear cs
  go_wp2_with fail
  go_ret2
  exact ⟨rfl, hE2.alloc _⟩
set_option maxRecDepth 100000 in
theorem nverT_lost (w : World) (K : Ks) (Ls : List (List Rec)) (h : NdR w K Ls true) (id sz sm : Int) :
    Calls Tryz.prog 77 #[.pointer (some ⟨K.n, 0, none⟩), .int .u64 id, .int .i64 sz, .int .u32 sm] w fun e w' => e = .returned (.tuple #[.string ⟨#[]⟩, .int .i64 9]) ∧ Ext w w' := by
  have cg := ngetT_lost w K Ls h id
  go_enter Tryz.func77, Tryz.ntmps77
  go_wp2_with fail
  refine cg.mono ?_
  rintro e w2 ⟨rfl, hE2⟩
  clear cg
  go_wp2_with fail
  go_ret2
  exact ⟨rfl, hE2⟩
set_option maxRecDepth 100000 in
set_option maxHeartbeats 1000000 in
theorem nsureT_any (w : World) (K : Ks) (Ls : List (List Rec)) (h : NdR w K Ls false) (x : Rec) (hx : x ∈ Ls.flatten) (hT : Tab w) :
    Calls Tryz.prog 12 #[.pointer (some ⟨K.n, 0, none⟩), .int .u64 (x.1 : Int), .int .i64 (x.2.size : Int), .int .u32 (crc x.2.data.toList : Nat)] w fun r w' => r = .returned (.bool true) ∧ Ext w w' := by
  have c0 : w.cell? ⟨K.n, 0, none⟩ = some (.pointer (some ⟨K.d, 0, none⟩)) := h.nd.cell 0
  have c1 : w.cell? ⟨K.n, 1, none⟩ = some (.pointer (some ⟨K.s, 0, none⟩)) := h.nd.cell 1
  have hlo := lost_any w K.d K.m _ h.st.dk
  have hll : (stL Ls false).D.lost = false := rfl
  rw [hll] at hlo
  obtain ⟨p, hp, hH⟩ := h.good.at_ hx
  obtain ⟨hsz, hi⟩ := h.good.small x hx
  have cg := cget_any w K.s K.d K.m K.c (stL Ls false) h.st (dkT_calm h.good) x.1 hi p x.2 (by omega) hp hH hT
  obtain ⟨id, data⟩ := x
  simp only at cg hsz ⊢
  go_enter Tryz.func12, Tryz.ntmps12
  go_wp2_with fail
  refine hlo.mono ?_
  rintro e w1 ⟨rfl, rfl⟩
  clear hlo
  go_wp2_with fail
  refine cg.mono ?_
  rintro e w2 ⟨rfl, hE2⟩
  clear cg
  have cs := sum_any (w2.alloc (.cells #[.string data] 9)) (.slice (some ⟨w2.heap.size, 0, none⟩) 1 1) [data] (sl_one w2 9 (.string data) 1) (by simp) (by intro s hs; simp at hs; subst hs; unfold maxLen; omega) ((hT.ext hE2).alloc _)
  simp only [List.flatMap_cons, List.flatMap_nil, List.append_nil] at cs
  generalize crc data.data.toList = cx at cs ⊢
  go_wp2_with fail
  refine cs.mono ?_
  rintro e w3 ⟨rfl, rfl⟩
  clear cs
  go_wp2_with fail
  go_ret
  exact ⟨ret_bool (by simp), hE2.alloc _⟩
set_option maxRecDepth 100000 in
theorem nsureT_lost (w : World) (K : Ks) (Ls : List (List Rec)) (h : NdR w K Ls true) (id sz sm : Int) :
    Calls Tryz.prog 12 #[.pointer (some ⟨K.n, 0, none⟩), .int .u64 id, .int .i64 sz, .int .u32 sm] w fun r w' => r = .returned (.bool false) ∧ Ext w w' := by
  have c0 : w.cell? ⟨K.n, 0, none⟩ = some (.pointer (some ⟨K.d, 0, none⟩)) := h.nd.cell 0
  have hlo := lost_any w K.d K.m _ h.st.dk
  have hll : (stL Ls true).D.lost = true := rfl
  rw [hll] at hlo
  go_enter Tryz.func12, Tryz.ntmps12
  go_wp2_with fail
  refine hlo.mono ?_
  rintro e w1 ⟨rfl, rfl⟩
  clear hlo
  go_wp2_with fail
  go_ret
  exact ⟨rfl, Ext.refl _⟩
end Go.Proofs.YtapodcmjggmgmaaGreatDoor
