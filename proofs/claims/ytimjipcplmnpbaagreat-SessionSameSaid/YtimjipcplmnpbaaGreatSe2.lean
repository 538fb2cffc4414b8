/-
  Layer 14: own, New, Seq, Count, Catalog, Told.
-/
import Derived.Test.YtimjipcplmnpbaaGreatSe1
import Derived.Test.YtimjipcplmnpbaaGreatMid
import Derived.Test.YtimjipcplmnpbaaGreatFewG
namespace Go.Proofs.YtimjipcplmnpbaaGreat
open Go.RowKit Go.Sort

theorem cres_info : (Tryz.prog.info? 36).map (·.size) = some 5 := by kernel_rfl
theorem last_info : (Tryz.prog.info? 76).map (·.size) = some 6 := by kernel_rfl
theorem sclone_any (w : World) (v : Value) (hl : List ByteArray) (hH : Sl w v (hl.map Value.string)) (hb : hl.length ≤ 1000000000) :
    Calls Tryz.prog 70 #[v] w fun e w' => ∃ v', e = .returned v' ∧ w'.ownsRow w.heap.size 9 1 v' hl.length (hl.map Value.string) ∧ Ext w w' := by
  obtain ⟨A, c, rfl, hx⟩ := hH
  rw [List.length_map]
  by_cases hne : hl = []
  · subst hne
    cases A with
    | none =>
      refine (Tryz.slices_Clone_string_nil _ _ _).mono ?_
      rintro e w' ⟨rfl, rfl⟩
      exact ⟨_, rfl, ⟨rfl, .inl ⟨rfl, rfl⟩⟩, Ext.refl _⟩
    | some a =>
      refine (Tryz.slices_Clone_string_zero a c w).mono ?_
      rintro e w' ⟨v', rfl, h1, _, h2⟩
      exact ⟨_, rfl, h1, Ext.of_below h2⟩
  · obtain ⟨b, o, rfl, hc⟩ := hx (by simpa using hne)
    refine (Tryz.slices_Clone_string b o hl.length c hl w (Nat.le_refl _) (by omega) (fun j hj => ?_)).mono ?_
    · exact hc j _ (by rw [List.getElem?_map, List.getElem?_eq_getElem hj, List.getD_eq_getElem?_getD, List.getElem?_eq_getElem hj]; rfl)
    · rintro e w' ⟨v', rfl, h1, _, h2⟩
      rw [List.take_length] at h1
      exact ⟨_, rfl, h1, Ext.of_below h2⟩
set_option maxRecDepth 100000 in
set_option maxHeartbeats 2000000 in
theorem sown_any (w : World) (er : Int) (bl : Nat) (sz : Int) (sm : Nat) (nv : Value) (ns : List ByteArray) (hn : w.ownsRow 0 9 1 nv ns.length (ns.map Value.string)) (hl : ns.length ≤ 1000000000) :
    Calls Tryz.prog 33 #[resV er bl sz sm nv] w fun e w' => ∃ A c, e = .returned (resV er bl sz sm (.slice A ns.length c)) ∧ w'.ownsRow w.heap.size 9 1 (.slice A ns.length c) ns.length (ns.map Value.string) ∧ Ext w w' := by
  obtain ⟨nA, nc, rfl⟩ := own_slc hn
  unfold resV
  have HN := Lib.hid hn
  clear hn
  go_enter Tryz.func33, Tryz.ntmps33
  have hB := (At.new w 36 #[.int .i64 er, .int .u64 (bl : Int), .int .i64 sz, .int .u32 (sm : Int), .slice nA ns.length nc]).alloc (.cells #[.int .i64 0, .int .u64 0, .int .i64 0, .int .u32 0, .slice none 0 0] 36)
  have hQ := At.new (w.alloc (.cells #[.int .i64 er, .int .u64 (bl : Int), .int .i64 sz, .int .u32 (sm : Int), .slice nA ns.length nc] 36)) 36 #[.int .i64 0, .int .u64 0, .int .i64 0, .int .u32 0, .slice none 0 0]
  have hE := ((Ext.refl w).alloc (.cells #[.int .i64 er, .int .u64 (bl : Int), .int .i64 sz, .int .u32 (sm : Int), .slice nA ns.length nc] 36)).alloc (.cells #[.int .i64 0, .int .u64 0, .int .i64 0, .int .u32 0, .slice none 0 0] 36)
  rw [show (w.alloc (.cells #[.int .i64 er, .int .u64 (bl : Int), .int .i64 sz, .int .u32 (sm : Int), .slice nA ns.length nc] 36)).heap.size = w.heap.size + 1 by simp] at hQ
  go_upto_region 1 with fail
  obtain ⟨xb, hxb⟩ : ∃ xb, w.heap.size = xb := ⟨_, rfl⟩
  rw [hxb] at hB hQ ⊢
  generalize World.alloc _ _ = W at hB hQ hE ⊢
  have HXB := Lib.hid (show w.heap.size ≤ xb by omega)
  clear hxb
  have b4 := hB.cell 4
  simp at b4
  have HC := Lib.hid (sclone_any W (.slice nA ns.length nc) ns (Sl.of_own (own_keep HN.out hE (fun _ _ hh => hh))) hl)
  go_wp2_with fail
  refine HC.out.mono ?_
  rintro e w1 ⟨v', rfl, hO, hE1⟩
  obtain ⟨A, c, rfl⟩ := own_slc hO
  have hB := hB.ext hE1
  have hQ := hQ.ext hE1
  replace hO := own_baseU hO hE.size
  have hE := hE.trans hE1
  clear HC b4 hE1
  have b4 := hB.cell 4
  have bf4 := hB.frozen 4
  simp at b4
  go_upto_region 2 with fail
  clear b4 bf4
  have hB2 : At (w1.setCell ⟨xb, 4, none⟩ (.slice A ns.length c)) xb 36 #[.int .i64 er, .int .u64 (bl : Int), .int .i64 sz, .int .u32 (sm : Int), .slice A ns.length c] := hB.set 4 _
  have hch : Chg (· = xb) w1 (w1.setCell ⟨xb, 4, none⟩ (.slice A ns.length c)) := Chg.setCell (S := (· = xb)) (p := ⟨xb, 4, none⟩) (Ext.refl w1).chg (.inl rfl) _
  have hQ2 := hQ.chg hch (by omega)
  have hO2 := own_keep hO hch fun k hk e => own_apart' hO hB (by decide) k hk e
  have hE2 : Ext w (w1.setCell ⟨xb, 4, none⟩ (.slice A ns.length c)) := hE.chg_trans hch |>.mono (fun k hk e => by have := HXB.out; have e' : k = xb := e; omega)
  clear hB hQ hO hE hch
  generalize w1.setCell ⟨xb, 4, none⟩ (.slice A ns.length c) = W2 at hB2 hQ2 hO2 hE2 ⊢
  have HRB := Lib.hid hB2.range
  have HTQ := Lib.hid hQ2.there
  have hch : Chg (· = xb + 1) W2 (W2.setCells (xb + 1) 0 (#[.int .i64 er, .int .u64 (bl : Int), .int .i64 sz, .int .u32 (sm : Int), .slice A ns.length c] : Array Value).toList) := chg_setCells _ _
  have hQ3 : At (W2.setCells (xb + 1) 0 (#[.int .i64 er, .int .u64 (bl : Int), .int .i64 sz, .int .u32 (sm : Int), .slice A ns.length c] : Array Value).toList) (xb + 1) 36 #[.int .i64 er, .int .u64 (bl : Int), .int .i64 sz, .int .u32 (sm : Int), .slice A ns.length c] := At.cells_all hQ2 rfl
  have HO3 := Lib.hid (own_keep hO2 hch fun k hk e => own_apart' hO2 hQ2 (by decide) k hk e)
  have HE3 := Lib.hid (hE2.setCells (show w.heap.size ≤ xb + 1 by have := HXB.out; omega) (#[.int .i64 er, .int .u64 (bl : Int), .int .i64 sz, .int .u32 (sm : Int), .slice A ns.length c] : Array Value).toList 0)
  have HL := Lib.hid (run_loadVar_mid (P := Tryz.prog) _ (xb + 1) 0 36 (#[.int .i64 er, .int .u64 (bl : Int), .int .i64 sz, .int .u32 (sm : Int), .slice A ns.length c] : Array Value).toList _ hQ3.range Tryz.underlying36 rfl cres_info)
  clear hB2 hQ2 hO2 hE2 hch hQ3
  go_wp2_with (first | (refine wpList_load_mid rfl 36 _ rfl xb 0 rfl _ _ HRB.out Tryz.underlying36 rfl cres_info ?_) | (refine wpList_store_mid rfl 36 _ _ rfl (xb + 1) 0 #[.int .i64 er, .int .u64 (bl : Int), .int .i64 sz, .int .u32 (sm : Int), .slice A ns.length c] rfl rfl HTQ.out cres_info (by simp [Value.oneCell']) ?_))
  refine bodyPost_ret (v := .agg #[.int .i64 er, .int .u64 (bl : Int), .int .i64 sz, .int .u32 (sm : Int), .slice A ns.length c]) (results_one Tryz.results33 _ rfl HL.out) rfl ?_
  exact ⟨A, c, rfl, HO3.out, HE3.out⟩
set_option maxRecDepth 100000 in
theorem fld_seq (a0 a1 a2 a3 a4 a5 : Value) (w : World) : (Instr.field 76 (.agg #[a0, a1, a2, a3, a4, a5]) 0).run Tryz.prog w = .ok a0 w := by first | kernel_rfl | rfl
section
variable {w : World} {B : Nat → Prop} {m : Nat} {M : Mach}
set_option maxRecDepth 100000 in
set_option maxHeartbeats 1000000 in
theorem snew_any (w : World) : Calls Tryz.prog 9 #[] w fun e w' => ∃ m, e = .returned (.pointer (some ⟨m, 0, none⟩)) ∧ MachIn w' (Hi w.heap.size) m Mach.empty ∧ Ext w w' := by
  have hmm := @run_makeMap Tryz.prog
  have HN := Lib.hid (cnew_any w)
  go_enter Tryz.func9, Tryz.ntmps9
  go_wp2_with fail
  refine HN.out.mono ?_
  rintro e w1 ⟨c, mb, mn, rfl, hC, hE⟩
  have hMp := MapAt.new i64Way lastV w1
  have hE2 := (Ext.refl w1).alloc (.map #[] 0)
  have hm := At.new (w1.alloc (.map #[] 0)) 71 #[.pointer (some ⟨c, 0, none⟩), .map (some w1.heap.size), .int .i64 0]
  have hE3 := (Ext.refl (w1.alloc (.map #[] 0))).alloc (.cells #[.pointer (some ⟨c, 0, none⟩), .map (some w1.heap.size), .int .i64 0] 71)
  clear HN
  go_wp2_with fail
  go_ret
  obtain ⟨C, hCC, hRR⟩ := hC
  have hlb := hCC.bm.lt
  have hln := hCC.nm.lt
  have hsz := hE.size
  refine ⟨(w1.alloc (.map #[] 0)).heap.size, by simp, ⟨c, mb, mn, w1.heap.size, [], hm, ⟨C, (hCC.ext hE2).ext hE3, hRR⟩, rfl, hMp.ext hE3, (fun p hp => by cases hp), ⟨by omega, by omega⟩, ⟨(by show w.heap.size ≤ _; simp; omega), hsz⟩, (fun p hp => by cases hp)⟩, (hE.trans hE2).trans hE3⟩
set_option maxRecDepth 100000 in
theorem sseq_any (h : MachIn w B m M) (k : Int) : Calls Tryz.prog 11 #[.pointer (some ⟨m, 0, none⟩), .int .i64 k] w fun e w' => e = .returned (.int .i64 (M.seq k)) ∧ Ext w w' := by
  obtain ⟨c, mb, mn, mc, rows, hM⟩ := h
  obtain ⟨c0, c1, c2, _⟩ := hM.cells
  have hlk := hM.look0 k
  have hg := rows_get hM.cl k
  have HS : Hid (M.seq k = ((lget k rows).map fun l => l.1.seq).getD 0) := Lib.hid (by unfold Mach.seq; rw [← hg, Option.map_map]; rfl)
  go_enter Tryz.func11, Tryz.ntmps11
  clear hg hM
  cases hr : lget k rows with
  | none =>
    rw [hr] at hlk HS
    simp only [Option.elim, zeroLast] at hlk
    have hfd := fld_seq (.int .i64 0) (.int .i64 0) (.int .u64 0) (.int .i64 0) (.int .u32 0) (.slice none 0 0)
    go_wp2_with fail
    go_ret
    exact ⟨by rw [HS.out]; rfl, Ext.refl _⟩
  | some l =>
    rw [hr] at hlk HS
    simp only [Option.elim, lastV] at hlk
    have hfd := fld_seq (.int .i64 l.1.seq) (.int .i64 l.1.r.err) (.int .u64 (l.1.r.blob : Int)) (.int .i64 l.1.r.size) (.int .u32 (l.1.r.sum : Int)) l.2
    go_wp2_with fail
    go_ret
    exact ⟨by rw [HS.out]; rfl, Ext.refl _⟩
set_option maxRecDepth 100000 in
theorem scount_any (h : MachIn w B m M) : Calls Tryz.prog 16 #[.pointer (some ⟨m, 0, none⟩)] w fun e w' => e = .returned (.int .i64 M.n) ∧ Ext w w' := by
  obtain ⟨c, mb, mn, mc, rows, hM⟩ := h
  obtain ⟨c0, c1, c2, _⟩ := hM.cells
  go_enter Tryz.func16, Tryz.ntmps16
  go_wp2_with fail
  go_ret
  exact ⟨rfl, Ext.refl _⟩
set_option maxRecDepth 100000 in
theorem scat_any {c mb mn mc : Nat} {rows : Rows14} (hM : MAt w B m c mb mn mc M rows) : Calls Tryz.prog 19 #[.pointer (some ⟨m, 0, none⟩)] w fun e w' => e = .returned (.pointer (some ⟨c, 0, none⟩)) ∧ Ext w w' := by
  obtain ⟨c0, c1, c2, _⟩ := hM.cells
  go_enter Tryz.func19, Tryz.ntmps19
  go_wp2_with fail
  go_ret
  exact ⟨rfl, Ext.refl _⟩
end
end Go.Proofs.YtimjipcplmnpbaaGreat
