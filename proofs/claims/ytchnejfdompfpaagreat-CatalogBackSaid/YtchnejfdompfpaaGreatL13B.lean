/-
  The document's Apply does what Pm.app says.
  Layer 13's laws: two lists of texts that are the same; a command, told.
  Layer 13's laws: what the regions leave in which a command is told to both; operations with a guard.
-/
import Derived.Test.YtchnejfdompfpaaGreatRfE
import Derived.Test.YtchnejfdompfpaaGreatCatLvC
namespace Go.Proofs.YtchnejfdompfpaaGreat
open Go.RowKit Go.Sort

theorem rapply_any (w : World) (v : Value) (P : Pm) (n : Nat) (h : RfIn w v P) (hi : PInv n P) (hn : n ≤ 1000000) (x : Cmd) (dx : Value) (hx : w.ownsRow 0 3 1 dx x.disks.length (x.disks.map (Value.int .i64))) (hd : x.disks.length ≤ 17592186043904) (hnm : x.name.size ≤ 9223372036854775807) (hw : x.Wf) :
    Calls Tryz.prog 20 #[v, cmdVal x dx] w (RcOut w (P.app x)) := by
  cases hg : x.good with
  | false => exact rapply_bad w v P n h hi hn x dx hx hd hnm hw hg
  | true =>
    obtain ⟨hk, hk0, _, _, _, _, _, _, hv, _⟩ := Cmd.good_iff.1 hg
    by_cases h6 : x.kind < 6
    · exact rapply_client w v P n h hi hn x dx hx hd hnm hw ⟨hg, by omega, h6⟩
    obtain ⟨j, hj⟩ : ∃ j : Nat, x.vol = (j : Int) := ⟨x.vol.toNat, by omega⟩
    have hj12 : j < 12 := by omega
    obtain ⟨y, hy⟩ : ∃ y, P.vols[j]? = some y := ⟨_, List.getElem?_eq_getElem (by rw [hi.vlen]; exact hj12)⟩
    by_cases h11 : x.kind = 11
    · exact rapply_11 w v P n h hi hn x dx hx hd hnm hw j y ⟨hg, h11, hj, hj12, hy⟩
    by_cases h12 : x.kind = 12
    · exact rapply_12 w v P n h hi hn x dx hx hd hnm hw j y ⟨hg, h12, hj, hj12, hy⟩
    by_cases h13 : x.kind = 13
    · exact rapply_13 w v P n h hi hn x dx hx hd hnm hw j y ⟨hg, h13, hj, hj12, hy⟩
    exact rapply_b w v P n h hi hn x dx hx hd hnm hw j y ⟨hg, by omega, hj, hj12, hy⟩
end Go.Proofs.YtchnejfdompfpaaGreat
namespace Go.Proofs.YtchnejfdompfpaaGreat
open Go.RowKit Go.Sort

set_option maxRecDepth 100000 in
set_option maxHeartbeats 1000000 in
theorem told_any (w : World) (c : Cmd) (A : Option Addr) (n m : Nat) : Calls Tryz.prog 21 #[cmdVal c (.slice A n m)] w fun e w' => e = .returned (cmdVal c (.slice A n m)) ∧ Ext w w' := by
  unfold cmdVal
  go_enter Tryz.func21, Tryz.ntmps21
  go_wp2_with fail
  exact bodyPost_ret (v := .agg #[.int .i64 c.kind, .int .i64 c.client, .int .i64 c.seq, .string c.name, .int .u64 (c.blob : Int), .int .i64 c.size, .int .u32 (c.sum : Int), .slice A n m, .int .i64 c.pool, .int .i64 c.vol, .int .i64 c.at_]) (by simp [results, Tryz.results21, go_sem]) rfl ⟨rfl, ((Ext.refl w).alloc _).alloc _⟩

set_option maxRecDepth 100000 in
set_option maxHeartbeats 1000000 in
theorem same02_any (w : World) (av bv : Value) (l : List ByteArray) (hS : Sl w av (l.map Value.string)) (hT : Sl w bv (l.map Value.string)) (hl : l.length ≤ 1000000000000) :
    Calls Tryz.prog 22 #[av, bv] w fun e w' => e = .returned (.int .i64 0) ∧ Ext w w' := by
  obtain ⟨A, c, rfl, hx⟩ := hS
  obtain ⟨B, d, rfl, hy⟩ := hT
  rw [List.length_map]
  go_enter Tryz.func22, Tryz.ntmps22
  have HS : Hid (Sl w (.slice A l.length c) (l.map Value.string)) := Lib.hid ⟨A, c, by rw [List.length_map], hx⟩
  have HT : Hid (Sl w (.slice B l.length d) (l.map Value.string)) := Lib.hid ⟨B, d, by rw [List.length_map], hy⟩
  clear hx hy
  go_wp2_with fail
  go_loopw [13] (fun iv wr => ∃ k : Nat, k ≤ l.length ∧ iv = .int .i64 (k : Int) ∧ Ext w wr) (fun iv _ => l.length - (intOf iv).toNat)
  case atStart => exact ⟨0, by omega, rfl, Ext.refl _⟩
  case round =>
    obtain ⟨k, hk, rfl, hE⟩ := hrel
    by_cases hlt : k < l.length
    · obtain ⟨s, hs⟩ : ∃ s, l[k]? = some s := ⟨_, List.getElem?_eq_getElem hlt⟩
      obtain ⟨A', c', ha, hc⟩ := HS.out.ext hE
      obtain ⟨B', d', hb, hd⟩ := HT.out.ext hE
      have hne : l.map Value.string ≠ [] := fun e => by rw [List.map_eq_nil_iff.1 e] at hlt; simp at hlt
      obtain ⟨b, o, rfl, hcc⟩ := hc hne
      obtain ⟨b2, o2, rfl, hdd⟩ := hd hne
      injection ha with ha q1 q2
      injection hb with hb q3 q4
      clear q1 q2 q3 q4
      subst ha hb
      have c1 := hcc k (.string s) (by rw [List.getElem?_map, hs]; rfl)
      have d1 := hdd k (.string s) (by rw [List.getElem?_map, hs]; rfl)
      clear hc hd hcc hdd hs hne
      have rg : ∀ {p : Addr} {u : Value}, wr.cell? p = some u → ∀ d os, (grow (redrawn wr d) os).cell? p = some u := fun h d os => (Ext.cell (ext_regrown wr d os) (cell_lt h)).trans h
      have r1 := rg c1
      have r2 := rg d1
      clear rg
      go_wp2_with fail
      refine wp_region_quiet_ext (by kernel_rfl) (by kernel_rfl) ?_
      repeat (go_big_quiet_step (fail))
      refine wpQuiet_nil ?_
      intro W8 hE8
      go_wp2_with fail
      exact ⟨⟨k + 1, by omega, by simp, hE.trans hE8⟩, by simp only [intOf, Int.toNat_natCast]; omega⟩
    · obtain rfl : k = l.length := by omega
      go_wp2_with fail
      go_ret
      exact ⟨rfl, hE⟩
end Go.Proofs.YtchnejfdompfpaaGreat
namespace Go.Proofs.YtchnejfdompfpaaGreat
open Go.RowKit Go.Sort

theorem results_ct {P : Program} {fn : Func} {p q : Tmp} {ty : TypeId} (h : fn.results = #[.cell p ty, .tmp q]) (tmps : Array Value) {b o : Nat} (ha : tmps.getD p undef = .pointer (some ⟨b, o, none⟩)) {v : Value} {w : World}
    (hl : (loadVar ty ⟨b, o, none⟩).run P w = .ok v w) : (results fn tmps).run P w = .ok (.tuple #[v, tmps.getD q undef]) w := by
  unfold results
  rw [h]
  simp at ha
  simp [ha, asAddr, hl]
/-- a block is stored anew -/
theorem At.cells_all {w : World} {g : Nat} {t : TypeId} {Z cs : Array Value} (h : At w g t Z) (hz : Z.size = cs.size) : At (w.setCells g 0 cs.toList) g t cs := by
  obtain ⟨Z', h1, h2⟩ := At.cells_sz (m := Z.size) cs.toList 0 w ⟨Z, h, rfl⟩
  exact At.of_range h1 (by rw [h2, hz]) (World.rangeAt_setCells_same w g 0 _ (by rw [Array.length_toList, ← hz]; exact h.there))
theorem RfIn.chgT {w w' : World} {v : Value} {P : Pm} {g : Nat} {t : TypeId} {Z : Array Value} (h : RfIn w v P) (ha : At w g t Z) (h1 : 80 ≠ t) (h2 : 3 ≠ t) (hc : Chg (· = g) w w') : RfIn w' v P := by
  obtain ⟨lv, DV, e1, e2, h3⟩ := h
  exact ⟨lv, DV, e1, e2, ⟨own_keep h3.own hc fun k hk e => own_apart' h3.own ha h1 k hk e, fun p hp => own_keep (h3.dks p hp) hc fun k hk e => own_apart' (h3.dks p hp) ha h2 k hk e⟩⟩

/-! ### operations with a guard -/
section
variable {P : Program} {ops : Array Oper} {Q : Exit → Act → World → Prop} {a0 : Act} {sp : List Sg} {G : (Nat → Value) → (Nat → Bool) → World → Prop} {j : Nat} {o : Oper}
theorem wanted_of {a : Act} {on t : Nat} {b b' : Bool} (hg : o.guard = some (on, b)) (ht : dstOf ops on = some t) (hv : a.tmps.getD t undef = .bool b') : Region.wanted o (yielded ops a.tmps) = (b' == b) := by
  unfold Region.wanted
  rw [hg]
  simp only
  unfold dstOf at ht
  have h1 : a.tmps[t]? = some (.bool b') := by
    rw [Array.getD_eq_getD_getElem?] at hv
    cases h2 : a.tmps[t]? with
    | none => rw [h2] at hv; cases hv
    | some u => rw [h2] at hv; exact congrArg some hv
  unfold yielded
  rw [ht]
  simp only [Option.bind_some, h1]
  cases b <;> cases b' <;> rfl
theorem wpOp_value_on {a : Act} {w w' : World} {x : Value} {K : Act → World → Prop} (ho : ops[j]? = some o) (hw : Region.wanted o (yielded ops a.tmps) = true) (h : (execOp a.eval o).run P w = .ok (.value x) w') (hK : K (a.put (dstOf ops j) x) w') : wpOp P ops Q j K a w := by
  unfold wpOp
  rw [ho]
  simp only [hw, if_true]
  refine .inl ?_
  unfold Oper.wp
  rw [h]
  have : dstOf ops j = o.dst := by unfold dstOf; rw [ho]; rfl
  rw [this] at hK
  exact hK
theorem wpOp_calls_on {a : Act} {w w' : World} {f : FuncId} {args : Array Value} {K : Act → World → Prop} (ho : ops[j]? = some o) (hw : Region.wanted o (yielded ops a.tmps) = true) (h : (execOp a.eval o).run P w = .ok (.enter f args) w')
    (hK : Calls P f args w' fun e w'' => ∃ x, e = .returned x ∧ K (a.put (dstOf ops j) x) w'') : wpOp P ops Q j K a w := by
  unfold wpOp
  rw [ho]
  simp only [hw, if_true]
  refine .inl ?_
  unfold Oper.wp
  rw [h]
  have hd : dstOf ops j = o.dst := by unfold dstOf; rw [ho]; rfl
  rw [hd] at hK
  refine Calls.mono hK ?_
  rintro e w'' ⟨x, rfl, hx⟩
  exact hx
theorem wpOp_off {a : Act} {w : World} {K : Act → World → Prop} (ho : ops[j]? = some o) (hw : Region.wanted o (yielded ops a.tmps) = false) (hK : K (a.put (dstOf ops j) undef) w) : wpOp P ops Q j K a w := by
  unfold wpOp
  rw [ho]
  simp only [hw, Bool.false_eq_true, if_false]
  have : dstOf ops j = o.dst := by unfold dstOf; rw [ho]; rfl
  rw [this] at hK
  exact hK
theorem StIn.guard {γ : Nat → Value} {L : Nat → Bool} {v : Nat → Value} {a : Act} {w : World} (st : StIn ops a0 sp G j γ L v a w) {on t : Nat} {b b' : Bool} (hg : o.guard = some (on, b)) (hn : needs ops j on = true) (ht : dstOf ops on = some t) (hv : sp.getD on .any = .val (.bool b')) : Region.wanted o (yielded ops a.tmps) = (b' == b) := by
  refine wanted_of hg ht ?_
  rw [st.val on t ht hn]
  have := st.φ on hn
  unfold sgφ at this
  rw [hv] at this
  exact this
theorem sg_val_on {x : Value} {on t : Nat} {b : Bool} (ho : ops[j]? = some o) (hg : o.guard = some (on, b)) (hn : needs ops j on = true) (ht : dstOf ops on = some t) (hgv : sp.getD on .any = .val (.bool b)) (hs : sp.getD j .any = .val x) (hG : ∀ γ L w, G γ L w → L j = false → G γ (fun i => i == j || L i) w)
    (h : ∀ γ L v a w, StIn ops a0 sp G j γ L v a w → (execOp a.eval o).run P w = .ok (.value x) w) : StepAt P ops Q a0 (sgφ sp) G j := by
  intro γ L v a w hdown hLj hneed hGw hφ hval h0
  have st := StIn.mk' hdown hLj hneed hGw hφ hval h0
  refine wpOp_value_on ho (by rw [st.guard hg hn ht hgv]; cases b <;> rfl) (h γ L v a w st) ⟨x, γ, rfl, ?_, fun d _ _ hh => hh, hG γ L w hGw hLj⟩
  unfold sgφ
  rw [hs]
theorem sg_callv_on {x : Value} {f : FuncId} {on t : Nat} {b : Bool} (ho : ops[j]? = some o) (hg : o.guard = some (on, b)) (hn : needs ops j on = true) (ht : dstOf ops on = some t) (hgv : sp.getD on .any = .val (.bool b)) (hs : sp.getD j .any = .val x)
    (h : ∀ γ L v a w, StIn ops a0 sp G j γ L v a w → ∃ args, (execOp a.eval o).run P w = .ok (.enter f args) w ∧ Calls P f args w fun r w' => r = .returned x ∧ G γ (fun i => i == j || L i) w') : StepAt P ops Q a0 (sgφ sp) G j := by
  intro γ L v a w hdown hLj hneed hGw hφ hval h0
  have st := StIn.mk' hdown hLj hneed hGw hφ hval h0
  obtain ⟨args, hrun, hcall⟩ := h γ L v a w st
  refine wpOp_calls_on ho (by rw [st.guard hg hn ht hgv]; cases b <;> rfl) hrun (hcall.mono ?_)
  rintro r w' ⟨rfl, hG'⟩
  refine ⟨x, rfl, x, γ, rfl, ?_, fun d _ _ hh => hh, hG'⟩
  unfold sgφ
  rw [hs]
theorem sg_off {on t : Nat} {b : Bool} (ho : ops[j]? = some o) (hg : o.guard = some (on, b)) (hn : needs ops j on = true) (ht : dstOf ops on = some t) (hgv : sp.getD on .any = .val (.bool !b)) (hs : sp.getD j .any = .val undef) (hG : ∀ γ L w, G γ L w → L j = false → G γ (fun i => i == j || L i) w) : StepAt P ops Q a0 (sgφ sp) G j := by
  intro γ L v a w hdown hLj hneed hGw hφ hval h0
  have st := StIn.mk' hdown hLj hneed hGw hφ hval h0
  refine wpOp_off ho (by rw [st.guard hg hn ht hgv]; cases b <;> rfl) ⟨undef, γ, rfl, ?_, fun d _ _ hh => hh, hG γ L w hGw hLj⟩
  unfold sgφ
  rw [hs]
end

/-! ### a whole block is stored by such a region, the rest is as it was -/
structure GSt (W0 : World) (c : Nat) (T : TypeId) (js : Nat) (X : Array Value) (_γ : Nat → Value) (L : Nat → Bool) (w : World) : Prop where
  chg : Chg (· = c) W0 w
  at_ : ∃ Z : Array Value, At w c T Z ∧ Z.size = X.size
  st : L js = true → At w c T X
section
variable {W0 w w' : World} {c : Nat} {T : TypeId} {js : Nat} {X : Array Value} {γ : Nat → Value} {L : Nat → Bool}
theorem GSt.keep {j : Nat} (h1 : js ≠ j) : ∀ γ L w, GSt W0 c T js X γ L w → L j = false → GSt W0 c T js X γ (fun i => i == j || L i) w := by
  intro γ L w h _
  have e1 : (js == j) = false := by simp [h1]
  exact ⟨h.chg, h.at_, fun hh => h.st (by simpa [e1] using hh)⟩
theorem GSt.on {j : Nat} (h : GSt W0 c T js X γ L w) (hE : Ext w w') (h1 : js ≠ j) : GSt W0 c T js X γ (fun i => i == j || L i) w' := by
  have e1 : (js == j) = false := by simp [h1]
  obtain ⟨Z, z1, z2⟩ := h.at_
  exact ⟨h.chg.trans hE (fun _ _ e => e.elim), ⟨Z, z1.ext hE, z2⟩, fun hh => (h.st (by simpa [e1] using hh)).ext hE⟩
theorem GSt.stored (h : GSt W0 c T js X γ L w) : GSt W0 c T js X γ (fun i => i == js || L i) (w.setCells c 0 X.toList) := by
  obtain ⟨Z, z1, z2⟩ := h.at_
  have := At.cells_all z1 z2
  exact ⟨h.chg.trans (chg_setCells _ _) (fun _ _ e => e), ⟨X, this, rfl⟩, fun _ => this⟩
end

/-! ### a command is told, and done: a catalog and a result, in new blocks -/
def tupAt (v : Value) (k : Nat) : Value := match v with
  | .tuple vs => vs.getD k undef
  | _ => undef
structure GDo (W0 : World) (R : Pm × Rs) (γ : Nat → Value) (L : Nat → Bool) (w : World) : Prop where
  ext : Ext W0 w
  call : L 3 = true → ∃ X A c, γ 0 = .tuple #[.agg X, .agg #[.int .i64 R.2.err, .int .u64 (R.2.blob : Int), .int .i64 R.2.size, .int .u32 (R.2.sum : Int), .slice A R.2.names.length c]] ∧ RfIn w (.agg X) R.1 ∧ X.size = 37 ∧ X.all (·.oneCell') = true ∧ w.ownsRow 0 9 1 (.slice A R.2.names.length c) R.2.names.length (R.2.names.map Value.string)
  mv : L 4 = true → γ 3 = γ 0
  e1 : L 5 = true → γ 2 = tupAt (γ 0) 0
  e2 : L 6 = true → γ 4 = tupAt (γ 0) 1
  n1 : L 7 = true → ∃ g, γ 1 = .pointer (some ⟨g, 0, none⟩) ∧ W0.heap.size ≤ g ∧ (∃ Z : Array Value, At w g 31 Z ∧ Z.size = 37) ∧ (L 9 = true → At w g 31 (aggArr (tupAt (γ 0) 0)))
  n2 : L 8 = true → ∃ g, γ 5 = .pointer (some ⟨g, 0, none⟩) ∧ W0.heap.size ≤ g ∧ (∃ Z : Array Value, At w g 72 Z ∧ Z.size = 5) ∧ (L 10 = true → At w g 72 (aggArr (tupAt (γ 0) 1)))
section
variable {W0 w w' : World} {R : Pm × Rs} {γ : Nat → Value} {L : Nat → Bool}
theorem GDo.on (h : GDo W0 R γ L w) (hE : Ext w w') : GDo W0 R γ L w' := by
  refine ⟨h.ext.trans hE, fun hh => ?_, h.mv, h.e1, h.e2, fun hh => ?_, fun hh => ?_⟩
  · obtain ⟨X, A, c, a1, a2, a3, a4, a5⟩ := h.call hh
    exact ⟨X, A, c, a1, a2.ext hE, a3, a4, own_keep a5 hE (fun _ _ hh => hh)⟩
  · obtain ⟨g, a1, a2, ⟨Z, a3, a4⟩, a5⟩ := h.n1 hh
    exact ⟨g, a1, a2, ⟨Z, a3.ext hE, a4⟩, fun hh => (a5 hh).ext hE⟩
  · obtain ⟨g, a1, a2, ⟨Z, a3, a4⟩, a5⟩ := h.n2 hh
    exact ⟨g, a1, a2, ⟨Z, a3.ext hE, a4⟩, fun hh => (a5 hh).ext hE⟩
/-- operations 0, 1, 2 leave nothing but their value -/
theorem GDo.keep {j : Nat} (hj : j < 3) : ∀ γ L w, GDo W0 R γ L w → L j = false → GDo W0 R γ (fun i => i == j || L i) w := by
  intro γ L w h _
  have k : ∀ i, 3 ≤ i → (i == j || L i) = L i := fun i hi => by rw [show (i == j) = false by simp; omega, Bool.false_or]
  have k3 := k 3 (by omega); have k4 := k 4 (by omega); have k5 := k 5 (by omega); have k6 := k 6 (by omega); have k7 := k 7 (by omega); have k8 := k 8 (by omega); have k9 := k 9 (by omega); have k10 := k 10 (by omega)
  exact ⟨h.ext, fun hh => h.call (k3 ▸ hh), fun hh => h.mv (k4 ▸ hh), fun hh => h.e1 (k5 ▸ hh), fun hh => h.e2 (k6 ▸ hh), fun hh => by rw [k9]; exact h.n1 (k7 ▸ hh), fun hh => by rw [k10]; exact h.n2 (k8 ▸ hh)⟩
theorem GDo.called (h : GDo W0 R γ L w) {X : Array Value} {A : Option Addr} {c : Nat} (hE : Ext w w') (h4 : L 4 = false) (h5 : L 5 = false) (h6 : L 6 = false) (h9 : L 9 = false) (h10 : L 10 = false) (a2 : RfIn w' (.agg X) R.1) (a3 : X.size = 37) (a4 : X.all (·.oneCell') = true)
    (a5 : w'.ownsRow 0 9 1 (.slice A R.2.names.length c) R.2.names.length (R.2.names.map Value.string)) :
    GDo W0 R (upd γ 0 (.tuple #[.agg X, .agg #[.int .i64 R.2.err, .int .u64 (R.2.blob : Int), .int .i64 R.2.size, .int .u32 (R.2.sum : Int), .slice A R.2.names.length c]])) (fun i => i == 3 || L i) w' := by
  have h' := h.on hE
  refine ⟨h'.ext, fun _ => ⟨X, A, c, by simp [upd], a2, a3, a4, a5⟩, fun hh => ?_, fun hh => ?_, fun hh => ?_, fun hh => ?_, fun hh => ?_⟩
  · simp [h4] at hh
  · simp [h5] at hh
  · simp [h6] at hh
  · obtain ⟨g, b1, b2, b3, _⟩ := h'.n1 (by simpa using hh)
    exact ⟨g, by simpa [upd] using b1, b2, b3, fun hh => by simp [h9] at hh⟩
  · obtain ⟨g, b1, b2, b3, _⟩ := h'.n2 (by simpa using hh)
    exact ⟨g, by simpa [upd] using b1, b2, b3, fun hh => by simp [h10] at hh⟩
theorem GDo.moved (h : GDo W0 R γ L w) : GDo W0 R (upd γ 3 (γ 0)) (fun i => i == 4 || L i) w := by
  refine ⟨h.ext, fun hh => ?_, fun _ => by simp [upd], fun hh => ?_, fun hh => ?_, fun hh => ?_, fun hh => ?_⟩
  · simpa [upd] using h.call (by simpa using hh)
  · simpa [upd] using h.e1 (by simpa using hh)
  · simpa [upd] using h.e2 (by simpa using hh)
  · simpa [upd] using h.n1 (by simpa using hh)
  · simpa [upd] using h.n2 (by simpa using hh)
theorem GDo.got1 (h : GDo W0 R γ L w) : GDo W0 R (upd γ 2 (tupAt (γ 0) 0)) (fun i => i == 5 || L i) w := by
  refine ⟨h.ext, fun hh => ?_, fun hh => ?_, fun _ => by simp [upd], fun hh => ?_, fun hh => ?_, fun hh => ?_⟩
  · simpa [upd] using h.call (by simpa using hh)
  · simpa [upd] using h.mv (by simpa using hh)
  · simpa [upd] using h.e2 (by simpa using hh)
  · simpa [upd] using h.n1 (by simpa using hh)
  · simpa [upd] using h.n2 (by simpa using hh)
theorem GDo.got2 (h : GDo W0 R γ L w) : GDo W0 R (upd γ 4 (tupAt (γ 0) 1)) (fun i => i == 6 || L i) w := by
  refine ⟨h.ext, fun hh => ?_, fun hh => ?_, fun hh => ?_, fun _ => by simp [upd], fun hh => ?_, fun hh => ?_⟩
  · simpa [upd] using h.call (by simpa using hh)
  · simpa [upd] using h.mv (by simpa using hh)
  · simpa [upd] using h.e1 (by simpa using hh)
  · simpa [upd] using h.n1 (by simpa using hh)
  · simpa [upd] using h.n2 (by simpa using hh)
theorem GDo.new1 (h : GDo W0 R γ L w) (h9 : L 9 = false) {Z : Array Value} (hz : Z.size = 37) : GDo W0 R (upd γ 1 (.pointer (some ⟨w.heap.size, 0, none⟩))) (fun i => i == 7 || L i) (w.alloc (.cells Z 31)) := by
  have h' := h.on ((Ext.refl w).alloc (.cells Z 31))
  refine ⟨h'.ext, fun hh => ?_, fun hh => ?_, fun hh => ?_, fun hh => ?_, fun _ => ⟨w.heap.size, by simp [upd], h.ext.size, ⟨Z, At.new _ _ _, hz⟩, fun hh => by simp [h9] at hh⟩, fun hh => ?_⟩
  · simpa [upd] using h'.call (by simpa using hh)
  · simpa [upd] using h'.mv (by simpa using hh)
  · simpa [upd] using h'.e1 (by simpa using hh)
  · simpa [upd] using h'.e2 (by simpa using hh)
  · simpa [upd] using h'.n2 (by simpa using hh)
theorem GDo.new2 (h : GDo W0 R γ L w) (h10 : L 10 = false) {Z : Array Value} (hz : Z.size = 5) : GDo W0 R (upd γ 5 (.pointer (some ⟨w.heap.size, 0, none⟩))) (fun i => i == 8 || L i) (w.alloc (.cells Z 72)) := by
  have h' := h.on ((Ext.refl w).alloc (.cells Z 72))
  refine ⟨h'.ext, fun hh => ?_, fun hh => ?_, fun hh => ?_, fun hh => ?_, fun hh => ?_, fun _ => ⟨w.heap.size, by simp [upd], h.ext.size, ⟨Z, At.new _ _ _, hz⟩, fun hh => by simp [h10] at hh⟩⟩
  · simpa [upd] using h'.call (by simpa using hh)
  · simpa [upd] using h'.mv (by simpa using hh)
  · simpa [upd] using h'.e1 (by simpa using hh)
  · simpa [upd] using h'.e2 (by simpa using hh)
  · simpa [upd] using h'.n1 (by simpa using hh)
theorem GDo.st1 (h : GDo W0 R γ L w) (h3 : L 3 = true) (h7 : L 7 = true) {g : Nat} (hg : γ 1 = .pointer (some ⟨g, 0, none⟩)) : GDo W0 R γ (fun i => i == 9 || L i) (w.setCells g 0 (aggArr (tupAt (γ 0) 0)).toList) := by
  obtain ⟨X, A, c, a1, a2, a3, a4, a5⟩ := h.call h3
  obtain ⟨g', b1, b2, ⟨Z, b3, b4⟩, _⟩ := h.n1 h7
  rw [hg] at b1
  obtain rfl : g = g' := by injection b1 with b1; injection b1 with b1; injection b1
  have hE : Chg (· = g) w (w.setCells g 0 (aggArr (tupAt (γ 0) 0)).toList) := chg_setCells _ _
  have hx : (aggArr (tupAt (γ 0) 0)).size = 37 := by rw [a1]; exact a3
  refine ⟨h.ext.setCells b2 _ _, fun _ => ⟨X, A, c, a1, a2.chgT b3 (by decide) (by decide) hE, a3, a4, own_keep a5 hE fun k hk e => own_apart' a5 b3 (by decide) k hk e⟩, fun hh => h.mv (by simpa using hh), fun hh => h.e1 (by simpa using hh), fun hh => h.e2 (by simpa using hh), fun _ => ⟨g, hg, b2, ⟨_, At.cells_all b3 (by rw [b4, hx]), hx⟩, fun _ => At.cells_all b3 (by rw [b4, hx])⟩, fun hh => ?_⟩
  obtain ⟨q, c1, c2, ⟨Y, c3, c4⟩, c5⟩ := h.n2 (by simpa using hh)
  have hne : ¬ q = g := fun e => At.ne c3 b3 (by decide) e
  exact ⟨q, c1, c2, ⟨Y, c3.chg hE hne, c4⟩, fun hh => (c5 (by simpa using hh)).chg hE hne⟩
theorem GDo.st2 (h : GDo W0 R γ L w) (h3 : L 3 = true) (h8 : L 8 = true) {g : Nat} (hg : γ 5 = .pointer (some ⟨g, 0, none⟩)) : GDo W0 R γ (fun i => i == 10 || L i) (w.setCells g 0 (aggArr (tupAt (γ 0) 1)).toList) := by
  obtain ⟨X, A, c, a1, a2, a3, a4, a5⟩ := h.call h3
  obtain ⟨g', b1, b2, ⟨Z, b3, b4⟩, _⟩ := h.n2 h8
  rw [hg] at b1
  obtain rfl : g = g' := by injection b1 with b1; injection b1 with b1; injection b1
  have hE : Chg (· = g) w (w.setCells g 0 (aggArr (tupAt (γ 0) 1)).toList) := chg_setCells _ _
  have hx : (aggArr (tupAt (γ 0) 1)).size = 5 := by rw [a1]; rfl
  refine ⟨h.ext.setCells b2 _ _, fun _ => ⟨X, A, c, a1, a2.chgT b3 (by decide) (by decide) hE, a3, a4, own_keep a5 hE fun k hk e => own_apart' a5 b3 (by decide) k hk e⟩, fun hh => h.mv (by simpa using hh), fun hh => h.e1 (by simpa using hh), fun hh => h.e2 (by simpa using hh), fun hh => ?_, fun _ => ⟨g, hg, b2, ⟨_, At.cells_all b3 (by rw [b4, hx]), hx⟩, fun _ => At.cells_all b3 (by rw [b4, hx])⟩⟩
  obtain ⟨q, c1, c2, ⟨Y, c3, c4⟩, c5⟩ := h.n1 (by simpa using hh)
  have hne : ¬ q = g := fun e => At.ne c3 b3 (by decide) e
  exact ⟨q, c1, c2, ⟨Y, c3.chg hE hne, c4⟩, fun hh => (c5 (by simpa using hh)).chg hE hne⟩
end
end Go.Proofs.YtchnejfdompfpaaGreat
