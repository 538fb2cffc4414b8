/-
  Layer 18: prepare: the names.
-/
import Derived.Test.YtlodaffiamegpaaHsTab
import Derived.Test.YtlodaffiamegpaaRegG
import Derived.Deep.Cut
import Derived.Deep.CutRange
import Derived.Deep.CutBlock
import Derived.Laws.MakeOwn
import Derived.Laws.OwnMore
import Derived.Deep.RegionWith
namespace Go.Proofs.Ytlodaffiamegpaa
open Go.RowKit Go.Sort

theorem u64s_info : (Try.prog.info? 81).map (fun i => (i.zero, i.size, i.bytes)) = some (some (.slice none 0 0), 1, 24) := by kernel_rfl
theorem made_one (z : Value) (n : Nat) : madeCells #[z] n = Array.replicate n z := by
  unfold madeCells
  apply Array.ext'
  apply List.ext_getElem?
  intro i
  by_cases h : i < n
  · simp [h, Nat.mod_one]
  · simp [h]
theorem make_one {t e : TypeId} {z : Value} {b : Nat} (ht : Try.prog.underlying t = some (.slice e)) (hi : (Try.prog.info? e).map (fun i => (i.zero, i.size, i.bytes)) = some (some z, 1, b)) (hz : z.cells = #[z]) (hb : b ≤ 24) (n : Nat) (hn : n ≤ 20) (W : World) :
    (Instr.makeSlice t (.int .i64 (n : Int)) (.int .i64 (n : Int))).run Try.prog W = .ok (.slice (some ⟨W.heap.size, 0, none⟩) n n) (W.alloc (.cells (Array.replicate n z) e)) := by
  obtain ⟨i0, hi0, hz0, hz1, hz2⟩ := info_parts hi
  have := run_makeSlice (P := Try.prog) W t e i0 z ht hi0 hz0 .i64 .i64 (n : Int) (n : Int) (by omega) (Int.le_refl _) (by rw [hz1]; simp; omega) (by
    rw [hz2]
    have h1 : b * n ≤ 24 * 20 := Nat.mul_le_mul hb hn
    have h2 : ((b * n : Nat) : Int) = (b : Int) * (n : Int) := by simp
    omega) (by omega)
  rw [this, hz1, hz]
  simp [made_one]
def putN (ops : List HOp) (k : Nat) : List ByteArray := ((ops.take k).filter fun x => decide (x.kind = 1)).map HOp.name
theorem putN_next {l : List HRow} {k : Nat} (h : k < l.length) : putN (opsOf l) (k + 1) = putN (opsOf l) k ++ (if (rowAt l k).1.kind = 1 then [(rowAt l k).1.name] else []) := by
  unfold putN
  have hk : k < (opsOf l).length := by rw [opsOf_len]; exact h
  have e : (opsOf l)[k] = (rowAt l k).1 := by
    have := rowAt_op h
    rw [this]
    have h2 := opAt_get hk
    rw [List.getElem?_eq_getElem hk] at h2
    exact Option.some.inj h2
  rw [List.take_succ_eq_append_getElem hk, e, List.filter_append, List.map_append]
  by_cases h1 : (rowAt l k).1.kind = 1
  · rw [if_pos h1, List.filter_cons_of_pos (by simpa using h1)]; rfl
  · rw [if_neg h1, List.filter_cons_of_neg (by simpa using h1)]; rfl
theorem putN_len (ops : List HOp) (k : Nat) : (putN ops k).length ≤ k := by
  unfold putN
  rw [List.length_map]
  have h1 := List.length_filter_le (fun x : HOp => decide (x.kind = 1)) (ops.take k)
  have h2 := List.length_take_le k ops
  omega

theorem valRows_set {svs : List Value} {vals : List (List Nat)} {n : Nat} {v : Value} {xs : List Nat} : (valRows svs vals).set n ⟨34, v, u64s xs⟩ = valRows (svs.set n v) (vals.set n xs) := by
  unfold valRows
  apply List.ext_getElem?
  intro i
  rw [List.getElem?_set, List.getElem?_zipWith, List.getElem?_zipWith, List.getElem?_set, List.getElem?_set, List.length_zipWith]
  by_cases h : n = i
  · subst h
    simp only [if_true]
    by_cases ha : n < svs.length <;> by_cases hb : n < vals.length <;> simp [ha, hb, Nat.lt_min]
  · rw [if_neg h, if_neg h, if_neg h]
theorem RowsAt.nils {w : World} {B : Nat} {rs : List Row} (h : ∀ r ∈ rs, r.v = nilS ∧ r.xs = []) : RowsAt w B rs := by
  refine ⟨fun r hr => ?_, ?_⟩
  · obtain ⟨h1, h2⟩ := h r hr
    rw [h1, h2]
    exact ⟨rfl, .inl ⟨rfl, rfl⟩⟩
  · refine List.pairwise_iff_getElem.2 fun i j hi hj _ k h1 h2 => ?_
    rw [(h _ (List.getElem_mem hi)).1] at h1
    cases h1
theorem u32_info : (Try.prog.info? 50).map (fun i => (i.zero, i.size, i.bytes)) = some (some (.int .u32 0), 1, 4) := by kernel_rfl
theorem opsOf_take {l : List HRow} {k : Nat} (h : k < l.length) : (opsOf l).take (k + 1) = (opsOf l).take k ++ [opAt (opsOf l) k] := by
  have hk : k < (opsOf l).length := by rw [opsOf_len]; exact h
  rw [List.take_succ_eq_append_getElem hk]
  have h2 := opAt_get hk
  rw [List.getElem?_eq_getElem hk] at h2
  rw [Option.some.inj h2]
theorem grown_all {w2 w' : World} {g vb B : Nat} {T Tv : TypeId} {cs csv : Array Value} {rs : List Row} {i : Nat} {r : Row} {v' : Value} {xs' : List Value} {ob : Obj} {n : Nat} (hB : At w2 g T cs) (hV : At w2 vb Tv csv) (hR : RowsAt w2 B rs) (hr : rs[i]? = some r) (hgB : g < B) (hvB : vb < B) (_hBw : B ≤ w2.heap.size)
    (ho : w'.ownsRow B r.t 1 v' n xs') (hn : xs'.length = n) (hg : (w2.alloc ob).grownBy w' r.v.ownBlock) (hb : v'.ownBlock = r.v.ownBlock ∨ v'.ownBlock = some (w2.heap.size + 1)) {xb : Nat} {Tx : TypeId} {csx : Array Value} (hA : At w2 xb Tx csx) (hTx : r.t ≠ Tx) :
    At w' g T cs ∧ At w' vb Tv csv ∧ At w' xb Tx csx ∧ RowsAt w' B (rs.set i ⟨r.t, v', xs'⟩) ∧ Chg (fun j => B ≤ j) w2 w' := by
  have hX := (Ext.refl w2).alloc ob
  have hge := own_ge (hR.get hr)
  have hap : ∀ k, some k = r.v.ownBlock → k ≠ xb := by
    intro k hk
    rcases (hR.get hr).2 with ⟨h0, _⟩ | ⟨g', cap, cur, h0, _, hg', _⟩
    · rw [h0] at hk; cases hk
    · rw [h0] at hk; cases hk
      exact At.ne (t := r.t) (cs := cur) hg' hA hTx
  subst hn
  refine ⟨(hB.ext hX).chg (Chg.of_grown hg) (fun h => by have := hge g h; omega), (hV.ext hX).chg (Chg.of_grown hg) (fun h => by have := hge vb h; omega), (hA.ext hX).chg (Chg.of_grown hg) (fun h => hap xb h rfl), (hR.ext hX).put hr ho hg (hb.elim .inl fun h => .inr ⟨_, h, by simp⟩), (hX.chg_trans (Chg.of_grown hg)).mono fun k _ h => hge k h⟩
theorem stored_all {w' : World} {g vb B f : Nat} {T Tv : TypeId} {cs csv : Array Value} {rs : List Row} (u : Value) (hB : At w' g T cs) (hV : At w' vb Tv csv) (hR : RowsAt w' B rs) (hgB : g < B) (hne : g ≠ vb) :
    At (w'.setCell ⟨g, f, none⟩ u) g T (cs.setIfInBounds f u) ∧ At (w'.setCell ⟨g, f, none⟩ u) vb Tv csv ∧ RowsAt (w'.setCell ⟨g, f, none⟩ u) B rs ∧ Chg (· = g) w' (w'.setCell ⟨g, f, none⟩ u) := by
  have hC := (Chg.refl (· = g) w').setCell (p := ⟨g, f, none⟩) (.inl rfl) u
  exact ⟨hB.set f u, hV.far (p := ⟨g, f, none⟩) hne.symm u, hR.chg hC (fun k h => by have h' : k = g := h; omega), hC⟩
section
variable {P : Program} {ops : Array Oper} {Q : Exit → Act → World → Prop} {a0 : Act} {sp : List Sg} {G : (Nat → Value) → (Nat → Bool) → World → Prop} {j : Nat} {o : Oper}
theorem sg_callv {x : Value} {f : FuncId} (ho : ops[j]? = some o) (hg : o.guard = none) (hs : sp.getD j .any = .val x)
    (h : ∀ γ L v a w, StIn ops a0 sp G j γ L v a w → ∃ args, (execOp a.eval o).run P w = .ok (.enter f args) w ∧ Calls P f args w fun r w' => r = .returned x ∧ G γ (fun i => i == j || L i) w') : StepAt P ops Q a0 (sgφ sp) G j := by
  intro γ L v a w hdown hLj hneed hGw hφ hval h0
  obtain ⟨args, hrun, hcall⟩ := h γ L v a w (StIn.mk' hdown hLj hneed hGw hφ hval h0)
  refine wpOp_calls ho hg hrun (hcall.mono ?_)
  rintro r w' ⟨rfl, hG'⟩
  refine ⟨x, rfl, x, γ, rfl, ?_, fun d _ _ hh => hh, hG'⟩
  unfold sgφ
  rw [hs]
end
/-- what a Put's number leaves -/
structure R19V (B g vb xb : Nat) (W7 : World) (cells csx : Array Value) (svs : List Value) (rs' : Value → List Row) (ix : Nat) (w : World) : Prop where
  out : ∃ sv' : Value, At w vb 81 (svs.set ix sv').toArray ∧ RowsAt w B (rs' sv')
  blk : At w g 53 cells
  op : At w xb 37 csx
  chg : Chg (fun j => j = vb ∨ B ≤ j) W7 w
def G19 (B g vb xb : Nat) (W7 : World) (cells csx : Array Value) (svs : List Value) (rs1 rs2 : Value → List Row) (ix : Nat) (_γ : Nat → Value) (L : Nat → Bool) (w : World) : Prop :=
  if L 13 = true then R19V B g vb xb W7 cells csx svs rs2 ix w else if L 10 = true then R19V B g vb xb W7 cells csx svs rs1 ix w else Ext W7 w
theorem G19.keep {B g vb xb : Nat} {W7 : World} {cells csx : Array Value} {svs : List Value} {rs1 rs2 : Value → List Row} {ix j : Nat} (h1 : j ≠ 13) (h2 : j ≠ 10) : ∀ γ L w, G19 B g vb xb W7 cells csx svs rs1 rs2 ix γ L w → L j = false → G19 B g vb xb W7 cells csx svs rs1 rs2 ix γ (fun i => i == j || L i) w := by
  intro γ L w h _
  unfold G19 at *
  have e1 : ((13 : Nat) == j) = false := by simp; omega
  have e2 : ((10 : Nat) == j) = false := by simp; omega
  simpa [e1, e2] using h
theorem G19.blk {B g vb xb : Nat} {W7 : World} {cells csx : Array Value} {svs : List Value} {rs1 rs2 : Value → List Row} {ix : Nat} {γ : Nat → Value} {L : Nat → Bool} {w : World} (h : G19 B g vb xb W7 cells csx svs rs1 rs2 ix γ L w) (hB : At W7 g 53 cells) : At w g 53 cells := by
  unfold G19 at h
  split at h
  · exact h.blk
  · split at h
    · exact h.blk
    · exact hB.ext h
theorem RowsAt.store {w : World} {B : Nat} {rs : List Row} (h : RowsAt w B rs) {i : Nat} {r : Row} (hi : rs[i]? = some r) {gb n c : Nat} (hv : r.v = .slice (some ⟨gb, 0, none⟩) n c) (j : Nat) (u : Value) :
    RowsAt (w.setCell ⟨gb, j, none⟩ u) B (rs.set i ⟨r.t, r.v, r.xs.set j u⟩) := by
  have ho := h.get hi
  rw [hv] at ho
  have hn : n = r.xs.length := by
    rcases ho.2 with ⟨h0, _⟩ | ⟨g', cap, cur, h0, _⟩
    · cases h0
    · injection h0 with _ h1 _
  subst hn
  obtain ⟨h1, h2⟩ := ho.stored j u
  refine h.put hi (v' := r.v) (xs' := r.xs.set j u) (by rw [List.length_set, hv]; exact h1) (by rw [hv]; exact h2) (.inl rfl)
theorem own_apart {w : World} {base : Nat} {e t : TypeId} {size : Nat} {v : Value} {n : Nat} {xs : List Value} {g : Nat} {cs : Array Value} (h : w.ownsRow base e size v n xs) (ha : At w g t cs) (hne : e ≠ t) : ∀ k, some k = v.ownBlock → k ≠ g := by
  intro k hk
  rcases h.2 with ⟨rfl, _⟩ | ⟨g', cap, cur, rfl, hb, hg, h3⟩
  · cases hk
  · cases hk
    exact At.ne (t := e) (cs := cur) hg ha hne
theorem own_at' {w : World} {base : Nat} {e : TypeId} {size : Nat} {v : Value} {n : Nat} {xs : List Value} (h : w.ownsRow base e size v n xs) (hn : 0 < n) : ∃ g c, v = .slice (some ⟨g, 0, none⟩) n c ∧ base ≤ g ∧ ∀ i, w.frozen? ⟨g, i, none⟩ = false := by
  rcases h.2 with ⟨rfl, h0⟩ | ⟨g, cap, cur, rfl, hb, hg, _⟩
  · omega
  · exact ⟨g, cap, rfl, hb, fun i => At.frozen (t := e) (cs := cur) hg i⟩
structure PrepOut (l : List HRow) (g : Nat) (w : World) (e : Ending) (w' : World) : Prop where
  out : ∃ (ns : List ByteArray) (b : Bool) (vals : List (List Nat)) (put : List Nat) (T : HTab) (X : HLoc), ns = namesOf (putN (opsOf l) l.length) ∧ tabOf (opsOf l) ns vals put = T ∧ e = .returned (.bool b) ∧ ValsOk (opsOf l) ns l.length vals put ∧
    (b = true ↔ ∀ i, i < l.length → (opAt (opsOf l) i).ans = true → Poss T (opAt (opsOf l) i)) ∧ WalkIn l T X g (List.replicate ns.length 0) [] w' ∧ w.heap.size ≤ X.st ∧ w.heap.size ≤ X.sn
  chg : Chg (· = g) w w'

set_option maxRecDepth 100000 in
set_option maxHeartbeats 2000000 in
theorem prepare_any (w : World) (g : Nat) (l : List HRow) (ov : Value) (hI : PrepIn w g l ov) :
    Calls Try.prog 19 #[.pointer (some ⟨g, 0, none⟩)] w fun e w' => PrepOut l g w e w' := by
  obtain ⟨i0, hi, hz0, hz1, hz2⟩ := info_parts str_info
  obtain ⟨LA, lc, hov⟩ := sln_slice hI.ops
  rw [List.length_map] at hov
  subst hov
  have h20 := hI.n20
  have c0 := hI.blk.cell 0
  simp at c0
  go_enter Try.func19, Try.ntmps19
  go_wp2_with fail
  go_loopw [18] (fun iv wr => ∃ (k : Nat) (nv : Value), k ≤ l.length ∧ iv = .int .i64 (k : Int) ∧ At wr g 53 #[.slice LA l.length lc, nv, nilS, nilS, nilS, nilS, .int .u32 0, nilS, .map none] ∧ wr.ownsRow w.heap.size 9 1 nv (putN (opsOf l) k).length ((putN (opsOf l) k).map Value.string) ∧ Chg (· = g) w wr) (fun iv _ => l.length - (intOf iv).toNat)
  case atStart => exact ⟨0, nilS, Nat.zero_le _, rfl, hI.blk, ⟨rfl, .inl ⟨rfl, rfl⟩⟩, Chg.refl _ _⟩
  case round =>
    obtain ⟨k, nv, hk, rfl, hB, hown, hC⟩ := hrel
    by_cases hlt : k < l.length
    · have hS := hI.ops.chg hC (fun b o n c hv _ h => hI.far b o n c hv h)
      obtain ⟨b, o, rfl⟩ := sln_some hS (fun e => by have := List.map_eq_nil_iff.1 e; subst this; simp at hlt)
      obtain ⟨r0, r1, r2, r3, r4, r5, r6, r7⟩ := row_cells hS hlt
      have HN := Lib.hid (putN_next hlt)
      have hpl := putN_len (opsOf l) k
      generalize putN (opsOf l) k = pn at hown HN hpl
      generalize rowAt l k = x at *
      have hXb := At.new wr 37 #[.int .i64 x.1.kind, .string x.1.name, .int .u64 x.1.value, .int .i64 x.1.start, .int .i64 x.1.fin, .int .i64 x.1.err, .int .u64 x.1.got, .slice x.2.1 x.1.names.length x.2.2]
      have hXe := (Ext.refl wr).alloc (.cells #[.int .i64 x.1.kind, .string x.1.name, .int .u64 x.1.value, .int .i64 x.1.start, .int .i64 x.1.fin, .int .i64 x.1.err, .int .u64 x.1.got, .slice x.2.1 x.1.names.length x.2.2] 37)
      have hB2 := hB.ext hXe
      have hown2 := own_chg hown hXe.chg (S := fun _ => False) (fun _ h => h.elim)
      have hC2 := hC.ext_trans hXe
      have hsz2 := hC2.size
      have hglt := hI.blk.lt
      clear hB hown hC hXe hS
      cases hk1 : x.1.kind == 1
      · have hkk : ¬ x.1.kind = 1 := by simpa using hk1
        have HK := Lib.hid hkk
        clear hkk
        go_wp2_with fail
        refine ⟨⟨k + 1, nv, by omega, by go_num, hB2, ?_, hC2⟩, by simp [intOf]; omega⟩
        rw [HN.out, if_neg HK.out, List.append_nil]; exact hown2
      · have hkk : x.1.kind = 1 := by simpa using hk1
        have HK := Lib.hid hkk
        clear hkk
        go_wp2_with fail
        clear r0 r1 r2 r3 r4 r5 r6 r7
        have d1 := hXb.cell 1
        have hxlt := hXb.lt
        generalize wr.alloc (.cells #[.int .i64 x.1.kind, .string x.1.name, .int .u64 x.1.value, .int .i64 x.1.start, .int .i64 x.1.fin, .int .i64 x.1.err, .int .u64 x.1.got, .slice x.2.1 x.1.names.length x.2.2] 37) = W at *
        simp at d1
        have g1 := hB2.cell 1
        simp at g1
        have hXa := (Ext.refl W).alloc (.cells #[.string x.1.name] 9)
        have a1 := (Ext.cell (p := ⟨g, 1, none⟩) hXa (cell_lt g1)).trans g1
        obtain ⟨nA, nc, rfl⟩ := own_slice' hown2
        go_region_law (refine step_append_own2 rfl (.tmp 29) (.tmp 32) _ rfl w.heap.size 9 i0 _ 16 Try.underlying35 hi hz0 hz1 hz2 rfl (.slice nA pn.length nc) pn.length (pn.map Value.string) (by simp [Act.eval]) (own_chg hown2 ((Ext.refl W).drew.alloc _) (fun _ h => h.elim)) ⟨W.heap.size, 0, none⟩ 1 1 [.string x.1.name] (by simp [Act.eval]) rfl (cell_one (w := W)) (by simp [Value.oneCell']) (by unfold maxLen; omega) (by omega) (by simp; omega) ?_; intro v1 w2 hown1 hgrow1 hb1; obtain ⟨A1, c1', rfl⟩ := own_slice' hown1; have hB3 : At w2 g 53 _ := At.chg (by first | exact hB2.drew.alloc _ | exact (hB2.alloc _).drew) (Chg.of_grown hgrow1) (fun h => by have := own_ge hown2 g h; omega); have e0 := hB3.cell 1; simp at e0; have e1 := hB3.frozen 1)
        all_goals
          have hW2 : Chg (· = g) w w2 := hC2.trans ((((Ext.refl W).alloc (.cells #[.string x.1.name] 9)).drew).chg_trans (Chg.of_grown hgrow1)) fun k hk h => by have := own_ge hown2 k h; omega
          have hC5 := hW2.setCell (p := ⟨g, 1, none⟩) (.inl rfl) (.slice A1 (pn.length + 1) c1')
          have hB5 := hB3.set 1 (.slice A1 (pn.length + 1) c1')
          have hO5 := own_far hown1 ((Chg.refl (· = g) w2).setCell (p := ⟨g, 1, none⟩) (.inl rfl) (.slice A1 (pn.length + 1) c1')) (fun k hk h => by have := own_ge hown1 k hk; have h' : k = g := h; omega)
          simp at hB5
          clear hW2 hB3 hown1 hgrow1 hb1 hown2 hB2 hC2 e0 e1 a1 g1 d1 hXb
          generalize World.setCell _ _ _ = W3 at hB5 hC5 hO5 ⊢
          go_wp2_with fail
          refine ⟨⟨k + 1, _, by omega, by go_num, hB5, ?_, hC5⟩, by simp [intOf]; omega⟩
          rw [HN.out, if_pos HK.out, List.map_append]
          simpa using hO5
    · obtain rfl : k = l.length := by omega
      have hpl := putN_len (opsOf l) l.length
      generalize hpn : putN (opsOf l) l.length = pn at hown hpl
      have HPN := Lib.hid hpn
      clear hpn
      have c1 := hB.cell 1
      simp at c1
      obtain ⟨nA, nc, rfl⟩ := own_slice' hown
      have hglt := hI.blk.lt
      have hsz := hC.size
      go_wp2_with fail
      refine (sortS_own hown (by omega)).mono ?_
      rintro e w2 ⟨rfl, hown2, hC2⟩
      have hge2 := own_ge hown
      have hB2 := hB.chg hC2 (fun h => by have := hge2 g h; omega)
      have hC3 := hC.trans hC2 (fun k hk h => by have := hge2 k h; omega)
      have c12 := hB2.cell 1
      simp at c12
      clear hB hown hC hC2 hge2 c1
      go_wp2_with fail
      refine (compactS_own hown2 (by omega)).mono ?_
      rintro e w3 ⟨nv3, rfl, hown3, hb3, hC4⟩
      have hge3 := own_ge hown2
      have hB3 := hB2.chg hC4 (fun h => by have := hge3 g h; omega)
      have hC5 := hC3.trans hC4 (fun k hk h => by have := hge3 k h; omega)
      have c13 := hB3.cell 1
      have f13 := hB3.frozen 1
      simp at c13
      obtain ⟨nA3, nc3, rfl⟩ := own_slice' hown3
      have hnl := namesOf_len pn
      have hnr := namesOf_rise pn
      clear hB2 hown2 hC3 hC4 hge3 c12 hb3
      generalize hns : namesOf pn = ns at hown3 hnl hnr
      have HNS := Lib.hid hns
      have HNR := Lib.hid hnr
      clear hns hnr
      have hB4 := hB3.set 1 (.slice nA3 ns.length nc3)
      have hC6 := hC5.setCell (p := ⟨g, 1, none⟩) (.inl rfl) (.slice nA3 ns.length nc3)
      have hO4 := own_far hown3 ((Chg.refl (· = g) w3).setCell (p := ⟨g, 1, none⟩) (.inl rfl) (.slice nA3 ns.length nc3)) (fun k hk h => by have := own_ge hown3 k hk; have h' : k = g := h; omega)
      simp at hB4
      go_upto_region 9 with fail
      clear c13 f13 hB3 hown3 hC5
      generalize World.setCell _ _ _ = W4 at hB4 hC6 hO4 ⊢
      have mk1 := make_one Try.underlying47 u64s_info rfl (Nat.le_refl _) ns.length (by omega)
      have mk2 := make_one Try.underlying48 int_info rfl (by omega) ns.length (by omega)
      have hB5 := hB4.ext ((Ext.refl W4).alloc (.cells (Array.replicate ns.length nilS) 81))
      have c1 := hB4.cell 1
      have c2 := hB5.cell 2
      have f2 := hB5.frozen 2
      simp at c1 c2
      have mk1' := mk1 W4
      have hg4 := hB4.lt
      have hgv : g ≠ W4.heap.size := by omega
      have hOsz := hC6.size
      have hvbw0 : w.heap.size ≤ W4.heap.size := hOsz
      have HNVB := Lib.hid (fun (k' : Nat) (h : (Value.slice nA3 ns.length nc3).ownBlock = some k') => (⟨own_ge hO4 k' h.symm, own_lt hO4 k' h⟩ : w.heap.size ≤ k' ∧ k' < W4.heap.size))
      have hB6 := (hB4.set 2 (.slice (some ⟨W4.heap.size, 0, none⟩) ns.length ns.length)).alloc (.cells (Array.replicate ns.length nilS) 81)
      simp at hB6
      have hV6 := At.new_eq (w := W4.setCell ⟨g, 2, none⟩ (.slice (some ⟨W4.heap.size, 0, none⟩) ns.length ns.length)) (g := W4.heap.size) (by simp [World.setCell]) 81 (Array.replicate ns.length nilS)
      have hC8 := (hC6.setCell (p := ⟨g, 2, none⟩) (.inl rfl) (.slice (some ⟨W4.heap.size, 0, none⟩) ns.length ns.length)).alloc (.cells (Array.replicate ns.length nilS) 81)
      have hO6 := (own_far hO4 ((Chg.refl (· = g) _).setCell (p := ⟨g, 2, none⟩) (.inl rfl) (.slice (some ⟨W4.heap.size, 0, none⟩) ns.length ns.length)) (fun k hk h => by have := own_ge hO4 k hk; have h' : k = g := h; omega)).alloc (.cells (Array.replicate ns.length nilS) 81)
      clear hB5 mk1 hB4 hC6 hO4
      go_upto_region 10 with fail
      clear c1 c2 f2 mk1'
      generalize World.alloc _ _ = W6 at hB6 hV6 hC8 hO6 ⊢
      have hvlt := hV6.lt
      generalize W4.heap.size = vb at *
      -- the states
      have hB7 := hB6.ext ((Ext.refl W6).alloc (.cells (Array.replicate ns.length (.int .i64 0)) 3))
      have c1 := hB6.cell 1
      have c7 := hB7.cell 7
      have f7 := hB7.frozen 7
      simp at c1 c7
      have mk2' := mk2 W6
      have hg6 := hB6.lt
      have hgs : g ≠ W6.heap.size := by omega
      have hB8 := (hB6.set 7 (.slice (some ⟨W6.heap.size, 0, none⟩) ns.length ns.length)).alloc (.cells (Array.replicate ns.length (.int .i64 0)) 3)
      simp at hB8
      have hS8 := At.new_eq (w := W6.setCell ⟨g, 7, none⟩ (.slice (some ⟨W6.heap.size, 0, none⟩) ns.length ns.length)) (g := W6.heap.size) (by simp [World.setCell]) 3 (Array.replicate ns.length (.int .i64 0))
      have hV8 := (hV6.far (p := ⟨g, 7, none⟩) hgv.symm (.slice (some ⟨W6.heap.size, 0, none⟩) ns.length ns.length)).alloc (.cells (Array.replicate ns.length (.int .i64 0)) 3)
      have hC10 := (hC8.setCell (p := ⟨g, 7, none⟩) (.inl rfl) (.slice (some ⟨W6.heap.size, 0, none⟩) ns.length ns.length)).alloc (.cells (Array.replicate ns.length (.int .i64 0)) 3)
      have hO8 := (own_far hO6 ((Chg.refl (· = g) _).setCell (p := ⟨g, 7, none⟩) (.inl rfl) (.slice (some ⟨W6.heap.size, 0, none⟩) ns.length ns.length)) (fun k hk h => by have := own_ge hO6 k hk; have h' : k = g := h; omega)).alloc (.cells (Array.replicate ns.length (.int .i64 0)) 3)
      clear mk2 hB7 hB6 hV6 hC8 hO6
      go_upto_region 11 with fail
      clear c1 c7 f7 mk2'
      generalize World.alloc _ _ = W8 at hB8 hS8 hV8 hC10 hO8 ⊢
      have hslt := hS8.lt
      generalize W6.heap.size = st at *
      -- what was seen
      have hB9 := hB8.ext ((Ext.refl W8).alloc (.map #[] 0))
      have c8 := hB9.cell 8
      have f8 := hB9.frozen 8
      simp at c8
      have hg8 := hB8.lt
      have hgm : g ≠ W8.heap.size := by omega
      have hmm := @run_makeMap Try.prog
      have hB10 := (hB8.set 8 (.map (some W8.heap.size))).alloc (.map #[] 0)
      simp at hB10
      have hM10 := MapAt.new u64Way unitV (W8.setCell ⟨g, 8, none⟩ (.map (some W8.heap.size)))
      rw [show (W8.setCell ⟨g, 8, none⟩ (.map (some W8.heap.size))).heap.size = W8.heap.size by simp [World.setCell]] at hM10
      have hS10 := (hS8.far (p := ⟨g, 8, none⟩) hgs.symm (.map (some W8.heap.size))).alloc (.map #[] 0)
      have hV10 := (hV8.far (p := ⟨g, 8, none⟩) hgv.symm (.map (some W8.heap.size))).alloc (.map #[] 0)
      have hC12 := (hC10.setCell (p := ⟨g, 8, none⟩) (.inl rfl) (.map (some W8.heap.size))).alloc (.map #[] 0)
      have hO10 := (own_far hO8 ((Chg.refl (· = g) _).setCell (p := ⟨g, 8, none⟩) (.inl rfl) (.map (some W8.heap.size))) (fun k hk h => by have := own_ge hO8 k hk; have h' : k = g := h; omega)).alloc (.map #[] 0)
      have hB8lt := hB8.lt
      have c0' := hB10.cell 0
      simp at c0'
      clear hB9 hB8 hS8 hV8 hC10 hO8
      go_upto_block 2 with fail
      clear c8 f8 hmm
      generalize World.alloc _ _ = W at hB10 hM10 hS10 hV10 hC12 hO10 c0' ⊢
      have hmlt := hM10.lt
      generalize W8.heap.size = sn at *
      have hgW := hB10.lt
      have hvW := hV10.lt
      have hsW := hS10.lt
      have hwW := hC12.size
      have hne1 : g ≠ vb := hgv
      have HLT := Lib.hid (show w.heap.size ≤ vb ∧ vb < st ∧ st < sn ∧ sn < W.heap.size from ⟨hvbw0, hvlt, hslt, hmlt⟩)
      have hne2 : st ≠ vb := fun e => by subst e; exact absurd (hS10.symm.trans hV10) (by simp)
      have hne3 : sn ≠ g := hM10.ne_at hB10
      have hne4 : sn ≠ vb := hM10.ne_at hV10
      have hne5 : sn ≠ st := hM10.ne_at hS10
      clear hglt hsz hOsz hg4 hvlt hg6 hslt hg8 hB8lt hgv hgs hgm hmlt c0 hk hlt
      obtain ⟨iI, hiI, hzI0, hzI1, hzI2⟩ := info_parts int_info
      obtain ⟨iU, hiU, hzU0, hzU1, hzU2⟩ := info_parts u32_info
      have HB10 := Lib.hid hB10
      have hSl : ∀ Wx, Chg (fun j => j = g ∨ j = vb ∨ W.heap.size ≤ j) W Wx → Sln Wx (.slice LA l.length lc) 8 (l.map hrow) := fun Wx hc =>
        (hI.ops.chg hC12 (fun b o n c hv _ h => hI.far b o n c hv h)).chg hc (fun b o n c hv hne h => by
          have hb := hI.ops_lt b o n c hv (by intro e; exact hne (by rw [e]; rfl))
          have := hI.far b o n c hv
          rcases h with h | h | h <;> omega)
      have HSL := Lib.hid hSl
      have hvbw : w.heap.size ≤ vb := hvbw0
      clear hSl
      go_wp2_with fail
      go_loopw [77] (fun iv wr => ∃ (k : Nat) (vals : List (List Nat)) (put : List Nat) (svs : List Value) (mv pv bv : Value), k ≤ l.length ∧ iv = .int .i64 (k : Int) ∧
        At wr g 53 #[.slice LA l.length lc, .slice nA3 ns.length nc3, .slice (some ⟨vb, 0, none⟩) ns.length ns.length, mv, pv, bv, .int .u32 (needB (opsOf l) k : Nat), .slice (some ⟨st, 0, none⟩) ns.length ns.length, .map (some sn)] ∧
        At wr vb 81 svs.toArray ∧ svs.length = ns.length ∧
        RowsAt wr W.heap.size (tabRows mv pv bv (((opsOf l).take k).map fun x => idxV ns x.name) put (((opsOf l).take k).map fun x => befB (opsOf l) x (opsOf l).length) svs vals) ∧
        ValsOk (opsOf l) ns k vals put ∧ Chg (fun j => j = g ∨ j = vb ∨ W.heap.size ≤ j) W wr) (fun iv _ => l.length - (intOf iv).toNat)
      case atStart =>
        refine ⟨0, List.replicate ns.length [], [], List.replicate ns.length nilS, nilS, nilS, nilS, Nat.zero_le _, rfl, HB10.out, ?_, by simp, ?_, ValsOk.zero _ _, Chg.refl _ _⟩
        · simpa using hV10
        · exact RowsAt.nils fun r hr => by
            unfold tabRows valRows at hr
            rw [List.mem_cons, List.mem_cons, List.mem_cons] at hr
            rcases hr with rfl | rfl | rfl | hr
            · exact ⟨rfl, rfl⟩
            · exact ⟨rfl, rfl⟩
            · exact ⟨rfl, rfl⟩
            · rw [List.zipWith_replicate] at hr
              rw [List.eq_of_mem_replicate hr]
              exact ⟨rfl, rfl⟩
      case round =>
        obtain ⟨k, vals, put, svs, mv, pv, bv, hk, rfl, hB, hV, hsl, hR, hVO, hC⟩ := hrel
        by_cases hlt : k < l.length
        · have hS := HSL.out _ hC
          obtain ⟨b, o, rfl⟩ := sln_some hS (fun e => by have := List.map_eq_nil_iff.1 e; subst this; simp at hlt)
          obtain ⟨r0, r1, r2, r3, r4, r5, r6, r7⟩ := row_cells hS hlt
          have HOP := Lib.hid (rowAt_op hlt)
          have HTK := Lib.hid (opsOf_take hlt)
          have hns20 : ns.length ≤ 20 := by omega
          generalize rowAt l k = x at *
          have hXb := At.new wr 37 #[.int .i64 x.1.kind, .string x.1.name, .int .u64 x.1.value, .int .i64 x.1.start, .int .i64 x.1.fin, .int .i64 x.1.err, .int .u64 x.1.got, .slice x.2.1 x.1.names.length x.2.2]
          have hXe := (Ext.refl wr).alloc (.cells #[.int .i64 x.1.kind, .string x.1.name, .int .u64 x.1.value, .int .i64 x.1.start, .int .i64 x.1.fin, .int .i64 x.1.err, .int .u64 x.1.got, .slice x.2.1 x.1.names.length x.2.2] 37)
          have hB2 := hB.ext hXe
          have hV2 := hV.ext hXe
          have hR2 := hR.ext hXe
          have hC2 := hC.ext_trans hXe
          have hsz1 := hC.size
          clear hB hV hR hC hXe hS
          go_upto_region 15 with fail
          clear r0 r1 r2 r3 r4 r5 r6 r7
          have hXsz : W.heap.size ≤ wr.heap.size := hsz1
          generalize hxb : wr.heap.size = xb at *
          generalize wr.alloc (.cells #[.int .i64 x.1.kind, .string x.1.name, .int .u64 x.1.value, .int .i64 x.1.start, .int .i64 x.1.fin, .int .i64 x.1.err, .int .u64 x.1.got, .slice x.2.1 x.1.names.length x.2.2] 37) = W1 at *
          -- where the name is
          have c1 := hB2.cell 1
          have d1 := hXb.cell 1
          simp at c1 d1
          have hNS : Sl W1 (.slice nA3 ns.length nc3) (ns.map Value.string) := (Sl.of_own hO10).chg hC2 (fun b o n c hv hne h => by
            have h1 := own_ge hO10 b (by rw [hv]; rfl)
            have h2 := own_lt hO10 b (by rw [hv]; rfl)
            have h3 := hI.blk.lt
            rcases h with h | h | h
            · omega
            · have h5 := (HNVB.out b (by rw [hv]; rfl)).2
              omega
            · omega)
          have rg : ∀ {p : Addr} {u : Value}, W1.cell? p = some u → ∀ d os, (grow (redrawn W1 d) os).cell? p = some u := fun h d os => (Ext.cell (ext_regrown W1 d os) (cell_lt h)).trans h
          have y1 := rg c1
          have z1 := rg d1
          have cw : ∀ d os, Calls Try.prog 27 #[.slice nA3 ns.length nc3, .string x.1.name] (grow (redrawn W1 d) os) fun e w'' => e = .returned (.int .i64 (idxV ns x.1.name)) ∧ ∃ p : Regrown, w'' = grow (redrawn W1 p.d) p.os := fun d os =>
            (idx_str _ _ ns x.1.name (hNS.ext (ext_regrown W1 d os)) (by omega)).mono (by rintro e w' ⟨rfl, rfl⟩; exact ⟨rfl, ⟨⟨d, os⟩, rfl⟩⟩)
          clear rg c1 d1 hNS
          refine wp_region_quiet_ext (by kernel_rfl) (by kernel_rfl) ?_
          repeat (go_big_quiet_step (first | with_reducible exact cw _ _))
          refine wpQuiet_nil ?_
          intro W2 hE2
          have hB3 := hB2.ext hE2
          have hV3 := hV2.ext hE2
          have hR3 := hR2.ext hE2
          have hX3 := hXb.ext hE2
          have hC3 := hC2.ext_trans hE2
          have hsz2 := hC3.size
          have hxlt := hX3.lt
          clear hB2 hV2 hR2 hXb hC2 hE2 y1 z1 cw
          -- its name's place
          have htl : ((opsOf l).take k).length = k := by rw [List.length_take, opsOf_len]; omega
          have hnl0 : (((opsOf l).take k).map fun x => idxV ns x.name).length = k := by rw [List.length_map, htl]
          have hbl0 : (((opsOf l).take k).map fun x => befB (opsOf l) x (opsOf l).length).length = k := by rw [List.length_map, htl]
          have hpl0 := hVO.plen
          generalize hnle : (((opsOf l).take k).map fun x => idxV ns x.name) = nl at hR3 hnl0
          generalize hble : (((opsOf l).take k).map fun x => befB (opsOf l) x (opsOf l).length) = bl at hR3 hbl0
          have HNL := Lib.hid hnle
          have HBL := Lib.hid hble
          have hi0 : (i64s nl).length = k := by simp [i64s, hnl0]
          have hi1 : (nat64s put).length = k := by simp [nat64s, hpl0]
          have hi2 : (u32s bl).length = k := by simp [u32s, hbl0]
          have HI0 := Lib.hid hi0
          have HI1 := Lib.hid hi1
          have HI2 := Lib.hid hi2
          have hr0 : W2.ownsRow W.heap.size 3 1 mv (i64s nl).length (i64s nl) := hR3.get (i := 0) rfl
          rw [hi0] at hr0
          clear htl hnl0 hbl0 hpl0 hnle hble hi0 hi1 hi2
          obtain ⟨mA, mc, rfl⟩ := own_slice' hr0
          have c3 := hB3.cell 3
          simp at c3
          go_upto_region 17 with (at_builtin; refine wpList_append_own2 rfl _ _ 48 rfl W.heap.size 3 iI (.int .i64 0) 8 Try.underlying48 hiI hzI0 hzI1 hzI2 rfl _ _ _ rfl (hr0.alloc _) ⟨W2.heap.size, 0, none⟩ 1 1 [.int .i64 (idxV ns x.1.name)] rfl rfl ?c1 ?c2 ?c3 ?c4 ?c5 ?_)
          case c1 => exact cell_one
          case c2 => simp [Value.oneCell']
          case c3 => unfold maxLen; omega
          case c4 => omega
          case c5 => simp; omega
          intro v3 W3 hown3 hgrow3 hb3
          obtain ⟨hB4, hV4, hX4, hR4, hC4⟩ := grown_all (i := 0) (r := ⟨3, .slice mA k mc, i64s nl⟩) (xs' := i64s (nl ++ [idxV ns x.1.name])) hB3 hV3 hR3 rfl hgW hvW (by omega) (by simpa [i64s] using hown3) (by have := HI0.out; simp [i64s] at this ⊢; exact this) hgrow3 hb3 hX3 (by show 3 ≠ 37; decide)
          have hC4' := hC3.trans hC4 (fun _ _ h => .inr (.inr h))
          obtain ⟨mA2, mc2, rfl⟩ := own_slice' hown3
          have e0 := hB4.cell 3
          have e1 := hB4.frozen 3
          simp at e0
          clear hB3 hV3 hR3 hX3 hC3 hC4 c3 hr0 hgrow3 hb3 hown3
          go_upto_region 17 with fail
          obtain ⟨hB5, hV5, hR5, hC5⟩ := stored_all (f := 3) (.slice mA2 (k + 1) mc2) hB4 hV4 hR4 hgW hne1
          have hR5' : RowsAt _ W.heap.size (tabRows (.slice mA2 (k + 1) mc2) pv bv (nl ++ [idxV ns x.1.name]) put bl svs vals) := hR5
          have hX5 := hX4.chg hC5 (fun h => by have h' : xb = g := h; omega)
          have hC5' := hC4'.trans hC5 (fun _ _ h => .inl h)
          simp at hB5
          clear hB4 hV4 hR4 hX4 hC4' hC5 hR5 e0 e1
          generalize World.setCell _ _ _ = W5 at hB5 hV5 hR5' hX5 hC5' ⊢
          have hsz5 := hC5'.size
          -- its state's number, for now
          have hr1 : W5.ownsRow W.heap.size 3 1 pv (nat64s put).length (nat64s put) := hR5'.get (i := 1) rfl
          rw [HI1.out] at hr1
          obtain ⟨pA, pc, rfl⟩ := own_slice' hr1
          have c4 := hB5.cell 4
          simp at c4
          go_upto_region 18 with (at_builtin; refine wpList_append_own2 rfl _ _ 48 rfl W.heap.size 3 iI (.int .i64 0) 8 Try.underlying48 hiI hzI0 hzI1 hzI2 rfl _ _ _ rfl (hr1.alloc _) ⟨W5.heap.size, 0, none⟩ 1 1 [.int .i64 0] rfl rfl ?c1 ?c2 ?c3 ?c4 ?c5 ?_)
          case c1 => exact cell_one
          case c2 => simp [Value.oneCell']
          case c3 => unfold maxLen; omega
          case c4 => omega
          case c5 => simp; omega
          intro v6 W6x hown6 hgrow6 hb6
          obtain ⟨hB6, hV6, hX6, hR6, hC6⟩ := grown_all (i := 1) (r := ⟨3, .slice pA k pc, nat64s put⟩) (xs' := nat64s (put ++ [0])) hB5 hV5 hR5' rfl hgW hvW (by omega) (by simpa [nat64s] using hown6) (by have := HI1.out; simp [nat64s] at this ⊢; exact this) hgrow6 hb6 hX5 (by show 3 ≠ 37; decide)
          have hC6' := hC5'.trans hC6 (fun _ _ h => .inr (.inr h))
          obtain ⟨pA2, pc2, rfl⟩ := own_slice' hown6
          have e0 := hB6.cell 4
          have e1 := hB6.frozen 4
          simp at e0
          clear hB5 hV5 hR5' hX5 hC5' hC6 c4 hr1 hgrow6 hb6 hown6
          go_upto_region 18 with fail
          obtain ⟨hB7, hV7, hR7, hC7⟩ := stored_all (f := 4) (.slice pA2 (k + 1) pc2) hB6 hV6 hR6 hgW hne1
          have hR7' : RowsAt _ W.heap.size (tabRows (.slice mA2 (k + 1) mc2) (.slice pA2 (k + 1) pc2) bv (nl ++ [idxV ns x.1.name]) (put ++ [0]) bl svs vals) := hR7
          have hX7 := hX6.chg hC7 (fun h => by have h' : xb = g := h; omega)
          have hC7' := hC6'.trans hC7 (fun _ _ h => .inl h)
          simp at hB7
          clear hB6 hV6 hR6 hX6 hC6' hC7 hR7 e0 e1
          generalize World.setCell _ _ _ = W7 at hB7 hV7 hR7' hX7 hC7' ⊢
          have d0 := hX7.cell 0
          simp at d0
          go_upto_if 110 with fail
          go_cut [] from 89 to 168 (fun wx => ∃ (vals' : List (List Nat)) (put' : List Nat) (svs' : List Value), At wx g 53 #[.slice (some ⟨b, o, none⟩) l.length lc, .slice nA3 ns.length nc3, .slice (some ⟨vb, 0, none⟩) ns.length ns.length, .slice mA2 (k + 1) mc2, .slice pA2 (k + 1) pc2, bv, .int .u32 (needB (opsOf l) k : Nat), .slice (some ⟨st, 0, none⟩) ns.length ns.length, .map (some sn)] ∧
            At wx vb 81 svs'.toArray ∧ svs'.length = ns.length ∧ RowsAt wx W.heap.size (tabRows (.slice mA2 (k + 1) mc2) (.slice pA2 (k + 1) pc2) bv (nl ++ [idxV ns x.1.name]) put' bl svs' vals') ∧ ValsOk (opsOf l) ns (k + 1) vals' put' ∧
            At wx xb 37 #[.int .i64 x.1.kind, .string x.1.name, .int .u64 x.1.value, .int .i64 x.1.start, .int .i64 x.1.fin, .int .i64 x.1.err, .int .u64 x.1.got, .slice x.2.1 x.1.names.length x.2.2] ∧ Chg (fun j => j = g ∨ j = vb ∨ W.heap.size ≤ j) W wx)
          case first =>
            have hop : x.1 = opAt (opsOf l) k := HOP.out
            cases hk1 : x.1.kind == 1
            · have hkk : ¬ x.1.kind = 1 := by simpa using hk1
              have hvo := hVO.none (by rw [← hop]; exact hkk)
              have HVO := Lib.hid hvo
              clear hvo hop hkk
              go_wp2_with fail
              go_meet
              case rel => exact ⟨vals, put ++ [0], svs, hB7, hV7, hsl, hR7', HVO.out, hX7, hC7'⟩
            · have hkk : x.1.kind = 1 := by simpa using hk1
              have hhas : hasL ns x.1.name = true := by
                refine hasL_iff.2 ?_
                rw [← HNS.out, namesOf_mem, ← HPN.out]
                unfold putN
                rw [List.take_of_length_le (by rw [opsOf_len]; exact Nat.le_refl _), List.mem_map]
                refine ⟨x.1, List.mem_filter.2 ⟨?_, by simpa using hkk⟩, rfl⟩
                rw [hop]
                exact List.mem_of_getElem? (opAt_get (by rw [opsOf_len]; exact hlt))
              have hix : idxV ns x.1.name = ((ixOf ns x.1.name : Nat) : Int) := by rw [idxV_eq, if_pos hhas]
              have hixl := ixOf_lt hhas
              have hpk : 0 < k + 1 := by omega
              have hrow1 : W7.ownsRow W.heap.size 3 1 (.slice pA2 (k + 1) pc2) (nat64s (put ++ [0])).length (nat64s (put ++ [0])) := hR7'.get (i := 1) rfl
              have hl1 : (nat64s (put ++ [0])).length = k + 1 := by have := HI1.out; simp [nat64s] at this ⊢; exact this
              rw [hl1] at hrow1
              obtain ⟨pb, pc3, hpv, hpge, hpf⟩ := own_at' hrow1 hpk
              injection hpv with hpv1 _ hpv3
              subst hpv1 hpv3
              obtain ⟨sv, hsv⟩ : ∃ sv, svs[ixOf ns x.1.name]? = some sv := ⟨_, List.getElem?_eq_getElem (by omega)⟩
              have hvl : ixOf ns x.1.name < vals.length := by rw [hVO.vlen]; exact hixl
              have hvsg : vals[ixOf ns x.1.name]? = some (vals.getD (ixOf ns x.1.name) []) := by rw [List.getD_eq_getElem?_getD, List.getElem?_eq_getElem hvl]; rfl
              have hv20 : (vals.getD (ixOf ns x.1.name) []).length ≤ 20 := by have := len_le_sum vals (ixOf ns x.1.name); have := hVO.sum; omega
              have hS7 := HSL.out _ hC7'
              have c0 := hB7.cell 0
              have c4 := hB7.cell 4
              simp at c0 c4
              have q1 := hX7.cell 1
              have q2 := hX7.cell 2
              have q3 := hX7.cell 3
              have q4 := hX7.cell 4
              have q5 := hX7.cell 5
              have q6 := hX7.cell 6
              have q7 := hX7.cell 7
              simp at q1 q2 q3 q4 q5 q6 q7
              have hsz7 := hC7'.size
              have HSV := Lib.hid hsv
              have HVG := Lib.hid hvsg
              have HROP := Lib.hid hop
              have HHAS := Lib.hid hhas
              have HIX := Lib.hid hix
              have HKK := Lib.hid hkk
              rw [hix] at *
              have hvp : vb ≠ pb := by omega
              have hgp : g ≠ pb := by omega
              have HL1 := Lib.hid hl1
              have hrowg : (tabRows (.slice mA2 (k + 1) mc2) (.slice (some ⟨pb, 0, none⟩) (k + 1) pc2) bv (nl ++ [((ixOf ns x.1.name : Nat) : Int)]) (put ++ [0]) bl svs vals)[3 + ixOf ns x.1.name]? = some ⟨34, sv, u64s (vals.getD (ixOf ns x.1.name) [])⟩ := by
                rw [show 3 + ixOf ns x.1.name = ixOf ns x.1.name + 1 + 1 + 1 by omega]
                exact valRows_get hsv hvsg
              have HROW := Lib.hid hrowg
              have hvix : valIx (vals.getD (ixOf ns x.1.name) []) (alikeV (opsOf l) x.1) ≤ 20 := Nat.le_trans (valIx_le _ _) hv20
              clear hsv hvsg hop hhas hkk hrow1 hl1 hix hrowg
              generalize hixe : ixOf ns x.1.name = ix at *
              have HIXE := Lib.hid hixe
              clear hixe
              generalize hvs0 : vals.getD ix [] = vs0 at *
              have HVS0 := Lib.hid hvs0
              clear hvs0
              go_upto_region 19 with fail
              refine wp_region_phi (Γ := Nat → Value) (sgφ [.val (.pointer (some ⟨g, 0, none⟩)), .val (.pointer (some ⟨g, 0, none⟩)), .val (.pointer (some ⟨g, 4, none⟩)), .val (.slice (some ⟨pb, 0, none⟩) (k + 1) pc2), .val (.int .i64 (k : Int)), .val (.pointer (some ⟨g, 0, none⟩)), .val (.int .i64 (ix : Int)), .val (.pointer (some ⟨g, 0, none⟩)), .val (hagg x), .val (.int .u64 (alikeV (opsOf l) x.1 : Nat)), .val (.int .i64 (valIx vs0 (alikeV (opsOf l) x.1) : Nat)), .val (.int .i64 (1 + (valIx vs0 (alikeV (opsOf l) x.1) : Nat))), .val (.pointer (some ⟨pb, k, none⟩)), .any])
                (G19 W.heap.size g vb xb W7 #[.slice (some ⟨b, o, none⟩) l.length lc, .slice nA3 ns.length nc3, .slice (some ⟨vb, 0, none⟩) ns.length ns.length, .slice mA2 (k + 1) mc2, .slice (some ⟨pb, 0, none⟩) (k + 1) pc2, bv, .int .u32 (needB (opsOf l) k : Nat), .slice (some ⟨st, 0, none⟩) ns.length ns.length, .map (some sn)]
                  #[.int .i64 x.1.kind, .string x.1.name, .int .u64 x.1.value, .int .i64 x.1.start, .int .i64 x.1.fin, .int .i64 x.1.err, .int .u64 x.1.got, .slice x.2.1 x.1.names.length x.2.2] svs
                  (fun sv' => (tabRows (.slice mA2 (k + 1) mc2) (.slice (some ⟨pb, 0, none⟩) (k + 1) pc2) bv (nl ++ [(ix : Int)]) (put ++ [0]) bl svs vals).set (3 + ix) ⟨34, sv', u64s (valTo vs0 (alikeV (opsOf l) x.1))⟩)
                  (fun sv' => ((tabRows (.slice mA2 (k + 1) mc2) (.slice (some ⟨pb, 0, none⟩) (k + 1) pc2) bv (nl ++ [(ix : Int)]) (put ++ [0]) bl svs vals).set (3 + ix) ⟨34, sv', u64s (valTo vs0 (alikeV (opsOf l) x.1))⟩).set 1 ⟨3, .slice (some ⟨pb, 0, none⟩) (k + 1) pc2, (nat64s (put ++ [0])).set k (.int .i64 (1 + (valIx vs0 (alikeV (opsOf l) x.1) : Nat)))⟩) ix)
                (by kernel_rfl) (by kernel_rfl) (by kernel_rfl) (fun _ => undef) ((Ext.refl W7).drew) ?steps ?fin
              case steps =>
                show StepsTo _ _ _ _ _ _ 14
                refine ⟨⟨⟨⟨⟨⟨⟨⟨⟨⟨⟨⟨⟨⟨trivial, ?s0⟩, ?s1⟩, ?s2⟩, ?s3⟩, ?s4⟩, ?s5⟩, ?s6⟩, ?s7⟩, ?s8⟩, ?s9⟩, ?s10⟩, ?s11⟩, ?s12⟩, ?s13⟩
                case s0 =>
                  refine sg_val (x := .pointer (some ⟨g, 0, none⟩)) rfl rfl rfl (G19.keep (j := 0) (by decide) (by decide)) fun γ L v a w st => ?_
                  have e0 := st.far 0 (by kernel_rfl)
                  simp at e0
                  go_simp
                case s1 =>
                  refine sg_val (x := .pointer (some ⟨g, 0, none⟩)) rfl rfl rfl (G19.keep (j := 1) (by decide) (by decide)) fun γ L v a w st => ?_
                  have e0 := st.val 0 111 rfl (by kernel_rfl)
                  rw [show v 0 = _ from st.φ 0 (by kernel_rfl)] at e0
                  simp at e0
                  go_simp
                case s2 =>
                  refine sg_val (x := .pointer (some ⟨g, 4, none⟩)) rfl rfl rfl (G19.keep (j := 2) (by decide) (by decide)) fun γ L v a w st => ?_
                  have e1 := st.val 1 112 rfl (by kernel_rfl)
                  rw [show v 1 = _ from st.φ 1 (by kernel_rfl)] at e1
                  simp at e1
                  go_simp
                case s3 =>
                  refine sg_val (x := .slice (some ⟨pb, 0, none⟩) (k + 1) pc2) rfl rfl rfl (G19.keep (j := 3) (by decide) (by decide)) fun γ L v a w st => ?_
                  have e2 := st.val 2 113 rfl (by kernel_rfl)
                  rw [show v 2 = _ from st.φ 2 (by kernel_rfl)] at e2
                  simp at e2
                  have hc := (st.inv.blk hB7).cell 4
                  simp at hc
                  go_simp
                case s4 =>
                  refine sg_val (x := .int .i64 (k : Int)) rfl rfl rfl (G19.keep (j := 4) (by decide) (by decide)) fun γ L v a w st => ?_
                  have e5 := st.far 5 (by kernel_rfl)
                  simp at e5
                  go_simp
                case s5 =>
                  refine sg_val (x := .pointer (some ⟨g, 0, none⟩)) rfl rfl rfl (G19.keep (j := 5) (by decide) (by decide)) fun γ L v a w st => ?_
                  have e0 := st.far 0 (by kernel_rfl)
                  simp at e0
                  go_simp
                case s6 =>
                  refine sg_val (x := .int .i64 (ix : Int)) rfl rfl rfl (G19.keep (j := 6) (by decide) (by decide)) fun γ L v a w st => ?_
                  have e7 := st.far 7 (by kernel_rfl)
                  simp at e7
                  go_simp
                case s7 =>
                  refine sg_val (x := .pointer (some ⟨g, 0, none⟩)) rfl rfl rfl (G19.keep (j := 7) (by decide) (by decide)) fun γ L v a w st => ?_
                  have e0 := st.far 0 (by kernel_rfl)
                  simp at e0
                  go_simp
                case s8 =>
                  refine sg_val (x := hagg x) rfl rfl rfl (G19.keep (j := 8) (by decide) (by decide)) fun γ L v a w st => ?_
                  have h13 : L 13 = false := by
                    cases hq : L 13 with
                    | false => rfl
                    | true =>
                      have q11 := st.down 13 11 hq (by kernel_rfl)
                      have q10 := st.down 11 10 q11 (by kernel_rfl)
                      have q9 := st.down 10 9 q10 (by kernel_rfl)
                      have q8 := st.down 9 8 q9 (by kernel_rfl)
                      have q99 := st.off; rw [q8] at q99; cases q99
                  have h10 : L 10 = false := by
                    cases hq : L 10 with
                    | false => rfl
                    | true =>
                      have q9 := st.down 10 9 hq (by kernel_rfl)
                      have q8 := st.down 9 8 q9 (by kernel_rfl)
                      have q99 := st.off; rw [q8] at q99; cases q99
                  have hinv := st.inv
                  unfold G19 at hinv
                  rw [if_neg (by rw [h13]; simp), if_neg (by rw [h10]; simp)] at hinv
                  have k0 := (Ext.cell (p := ⟨xb, 0, none⟩) hinv (cell_lt d0)).trans d0
                  have k1 := (Ext.cell (p := ⟨xb, 1, none⟩) hinv (cell_lt q1)).trans q1
                  have k2 := (Ext.cell (p := ⟨xb, 2, none⟩) hinv (cell_lt q2)).trans q2
                  have k3 := (Ext.cell (p := ⟨xb, 3, none⟩) hinv (cell_lt q3)).trans q3
                  have k4 := (Ext.cell (p := ⟨xb, 4, none⟩) hinv (cell_lt q4)).trans q4
                  have k5 := (Ext.cell (p := ⟨xb, 5, none⟩) hinv (cell_lt q5)).trans q5
                  have k6 := (Ext.cell (p := ⟨xb, 6, none⟩) hinv (cell_lt q6)).trans q6
                  have k7 := (Ext.cell (p := ⟨xb, 7, none⟩) hinv (cell_lt q7)).trans q7
                  have e6 := st.far 6 (by kernel_rfl)
                  simp at e6
                  go_simp
                case s9 =>
                  refine sg_callv (x := .int .u64 (alikeV (opsOf l) x.1 : Nat)) (f := 29) rfl rfl rfl fun γ L v a w st => ?_
                  have e7 := st.val 7 118 rfl (by kernel_rfl)
                  rw [show v 7 = _ from st.φ 7 (by kernel_rfl)] at e7
                  simp at e7
                  have e8 := st.val 8 119 rfl (by kernel_rfl)
                  rw [show v 8 = _ from st.φ 8 (by kernel_rfl)] at e8
                  simp at e8
                  have h13 : L 13 = false := by
                    cases hq : L 13 with
                    | false => rfl
                    | true =>
                      have q11 := st.down 13 11 hq (by kernel_rfl)
                      have q10 := st.down 11 10 q11 (by kernel_rfl)
                      have q9 := st.down 10 9 q10 (by kernel_rfl)
                      have q99 := st.off; rw [q9] at q99; cases q99
                  have h10 : L 10 = false := by
                    cases hq : L 10 with
                    | false => rfl
                    | true =>
                      have q9 := st.down 10 9 hq (by kernel_rfl)
                      have q99 := st.off; rw [q9] at q99; cases q99
                  have hinv := st.inv
                  unfold G19 at hinv
                  rw [if_neg (by rw [h13]; simp), if_neg (by rw [h10]; simp)] at hinv
                  refine ⟨#[.pointer (some ⟨g, 0, none⟩), hagg x], by go_simp, ?_⟩
                  refine (alike_any w g _ l x ((Ext.cell (p := ⟨g, 0, none⟩) hinv (cell_lt c0)).trans c0) (hS7.ext hinv) h20).mono ?_
                  rintro r w' ⟨rfl, hEA⟩
                  refine ⟨rfl, ?_⟩
                  unfold G19
                  rw [if_neg (by simp [h13]), if_neg (by simp [h10])]
                  exact hinv.trans hEA
                case s10 =>
                  refine sg_callv (x := .int .i64 (valIx vs0 (alikeV (opsOf l) x.1) : Nat)) (f := 28) rfl rfl rfl fun γ L v a w st => ?_
                  have e5 := st.val 5 116 rfl (by kernel_rfl)
                  rw [show v 5 = _ from st.φ 5 (by kernel_rfl)] at e5
                  simp at e5
                  have e6 := st.val 6 117 rfl (by kernel_rfl)
                  rw [show v 6 = _ from st.φ 6 (by kernel_rfl)] at e6
                  simp at e6
                  have e9 := st.val 9 120 rfl (by kernel_rfl)
                  rw [show v 9 = _ from st.φ 9 (by kernel_rfl)] at e9
                  simp at e9
                  have h13 : L 13 = false := by
                    cases hq : L 13 with
                    | false => rfl
                    | true =>
                      have q11 := st.down 13 11 hq (by kernel_rfl)
                      have q10 := st.down 11 10 q11 (by kernel_rfl)
                      have q99 := st.off; rw [q10] at q99; cases q99
                  have h10 : L 10 = false := st.off
                  have hinv := st.inv
                  unfold G19 at hinv
                  rw [if_neg (by rw [h13]; simp), if_neg (by rw [h10]; simp)] at hinv
                  refine ⟨#[.pointer (some ⟨g, 0, none⟩), .int .i64 (ix : Int), .int .u64 (alikeV (opsOf l) x.1 : Nat)], by go_simp, ?_⟩
                  have hB8 := hB7.ext hinv
                  have k2 := hB8.cell 2
                  simp at k2
                  refine (value_any w g vb W.heap.size ns.length ix (3 + ix) (alikeV (opsOf l) x.1) svs _ sv vs0 k2 (hV7.ext hinv) hsl hns20 HSV.out (hR7'.ext hinv) HROW.out hv20 hvW hgW hne1 (Nat.le_trans hsz7 (Ext.size hinv))).mono ?_
                  rintro r w' ⟨⟨sv', rfl, hVA, hRA⟩, hCA⟩
                  refine ⟨rfl, ?_⟩
                  unfold G19
                  rw [if_neg (by simp [h13]), if_pos (by simp)]
                  have hrw : w.ownsRow W.heap.size 34 1 sv _ _ := (hR7'.ext hinv).get HROW.out
                  refine ⟨⟨sv', hVA, hRA⟩, hB8.chg hCA (fun h => ?_), (hX7.ext hinv).chg hCA (fun h => ?_), (hinv.chg_trans hCA).mono fun q _ h => ?_⟩
                  · rcases h with h | h
                    · exact hne1 h
                    · have := own_ge hrw g h; omega
                  · rcases h with h | h
                    · omega
                    · exact own_apart hrw (hX7.ext hinv) (by decide) xb h rfl
                  · rcases h with h | h
                    · exact .inl h
                    · exact .inr (own_ge hrw q h)
                case s11 =>
                  refine sg_val (x := .int .i64 (1 + (valIx vs0 (alikeV (opsOf l) x.1) : Nat))) rfl rfl rfl (G19.keep (j := 11) (by decide) (by decide)) fun γ L v a w st => ?_
                  have e10 := st.val 10 121 rfl (by kernel_rfl)
                  rw [show v 10 = _ from st.φ 10 (by kernel_rfl)] at e10
                  simp at e10
                  have hw : IntKind.i64.wrap (1 + ((valIx vs0 (alikeV (opsOf l) x.1) : Nat) : Int)) = 1 + ((valIx vs0 (alikeV (opsOf l) x.1) : Nat) : Int) := by rw [IntKind.wrap_i64]; omega
                  go_simp
                case s12 =>
                  refine sg_val (x := .pointer (some ⟨pb, k, none⟩)) rfl rfl rfl (G19.keep (j := 12) (by decide) (by decide)) fun γ L v a w st => ?_
                  have e3 := st.val 3 114 rfl (by kernel_rfl)
                  rw [show v 3 = _ from st.φ 3 (by kernel_rfl)] at e3
                  simp at e3
                  have e4 := st.val 4 115 rfl (by kernel_rfl)
                  rw [show v 4 = _ from st.φ 4 (by kernel_rfl)] at e4
                  simp at e4
                  have hkk1 : ¬ ((k : Int) + 1 ≤ (k : Int)) := by omega
                  go_simp
                case s13 =>
                  refine sg_skip rfl rfl rfl fun γ L v a w st => ?_
                  have e12 := st.val 12 123 rfl (by kernel_rfl)
                  rw [show v 12 = _ from st.φ 12 (by kernel_rfl)] at e12
                  simp at e12
                  have e11 := st.val 11 122 rfl (by kernel_rfl)
                  rw [show v 11 = _ from st.φ 11 (by kernel_rfl)] at e11
                  simp at e11
                  have h13 : L 13 = false := st.off
                  have h11 := st.dep 11 (by kernel_rfl)
                  have h10 := st.down 11 10 h11 (by kernel_rfl)
                  have hinv := st.inv
                  unfold G19 at hinv
                  rw [if_neg (by rw [h13]; simp), if_pos h10] at hinv
                  obtain ⟨⟨sv', hVA, hRA⟩, hBA, hXA, hCA⟩ := hinv
                  have hp1 : w.ownsRow W.heap.size 3 1 (.slice (some ⟨pb, 0, none⟩) (k + 1) pc2) (nat64s (put ++ [0])).length (nat64s (put ++ [0])) := hRA.get (i := 1) (by rw [List.getElem?_set_ne (by omega)]; rfl)
                  rw [HL1.out] at hp1
                  have hpc : w.cell? ⟨pb, k, none⟩ = some (.int .i64 0) := by
                    have := hp1.cellAt k (by omega)
                    rw [this]
                    unfold nat64s
                    simp [hVO.plen]
                  obtain ⟨pb2, pc4, hpv2, _, hpf2⟩ := own_at' hp1 hpk
                  injection hpv2 with hpv3 _ _
                  injection hpv3 with hpv3
                  injection hpv3 with hpv3 _ _
                  subst hpv3
                  have hpf := hpf2 k
                  refine ⟨w.setCell ⟨pb, k, none⟩ (.int .i64 (1 + (valIx vs0 (alikeV (opsOf l) x.1) : Nat))), by go_simp, ?_⟩
                  unfold G19
                  rw [if_pos (by simp)]
                  have hxp : xb ≠ pb := fun e => own_apart hp1 hXA (by decide) pb rfl e.symm
                  exact ⟨⟨sv', hVA.far (p := ⟨pb, k, none⟩) hvp _, hRA.store (i := 1) (r := ⟨3, .slice (some ⟨pb, 0, none⟩) (k + 1) pc2, nat64s (put ++ [0])⟩) (by rw [List.getElem?_set_ne (by omega)]; rfl) rfl k _⟩, hBA.far (p := ⟨pb, k, none⟩) hgp _, hXA.far (p := ⟨pb, k, none⟩) hxp _, hCA.setCell (p := ⟨pb, k, none⟩) (.inl (.inr hpge)) _⟩
              case fin =>
                intro γ L v wx hall hG hφ
                unfold G19 at hG
                rw [if_pos (hall 13 (by decide))] at hG
                obtain ⟨⟨sv', hVA, hRA⟩, hBA, hXA, hCA⟩ := hG
                have hpe : (nat64s (put ++ [0])).set k (.int .i64 (1 + (valIx vs0 (alikeV (opsOf l) x.1) : Nat))) = nat64s (put ++ [1 + valIx vs0 (alikeV (opsOf l) x.1)]) := by
                  unfold nat64s
                  rw [List.map_append, List.map_append, List.set_append_right _ _ (by simp [hVO.plen])]
                  simp [hVO.plen]
                have hre : ((tabRows (.slice mA2 (k + 1) mc2) (.slice (some ⟨pb, 0, none⟩) (k + 1) pc2) bv (nl ++ [(ix : Int)]) (put ++ [0]) bl svs vals).set (3 + ix) ⟨34, sv', u64s (valTo vs0 (alikeV (opsOf l) x.1))⟩).set 1 ⟨3, .slice (some ⟨pb, 0, none⟩) (k + 1) pc2, (nat64s (put ++ [0])).set k (.int .i64 (1 + (valIx vs0 (alikeV (opsOf l) x.1) : Nat)))⟩ =
                    tabRows (.slice mA2 (k + 1) mc2) (.slice (some ⟨pb, 0, none⟩) (k + 1) pc2) bv (nl ++ [(ix : Int)]) (put ++ [1 + valIx vs0 (alikeV (opsOf l) x.1)]) bl (svs.set ix sv') (vals.set ix (valTo vs0 (alikeV (opsOf l) x.1))) := by
                  rw [hpe, show 3 + ix = ix + 1 + 1 + 1 by omega]
                  unfold tabRows
                  simp only [List.set_cons_succ, List.set_cons_zero]
                  rw [valRows_set]
                rw [hre] at hRA
                have hvo : ValsOk (opsOf l) ns (k + 1) (vals.set ix (valTo vs0 (alikeV (opsOf l) x.1))) (put ++ [1 + valIx vs0 (alikeV (opsOf l) x.1)]) := by
                  have := hVO.put_ (idx := valIx vs0 (alikeV (opsOf l) x.1)) (vs' := valTo vs0 (alikeV (opsOf l) x.1)) (by rw [← HROP.out]; exact HKK.out) (by rw [← HROP.out]; exact HHAS.out)
                    (by rw [← HROP.out, HIXE.out, HVS0.out]; rfl) (by rw [← HROP.out]; exact valIx_get _ _)
                  rw [← HROP.out, HIXE.out] at this
                  exact this
                have hCX := hC7'.trans hCA fun j _ h => (h.elim (fun h => .inr (.inl h)) (fun h => .inr (.inr h)) : j = g ∨ j = vb ∨ W.heap.size ≤ j)
                clear hall hφ hpe hre hVO hB7 hV7 hR7' hX7 hC7' c0 c4 d0 q1 q2 q3 q4 q5 q6 q7 hS7 hCA
                change Exit.then _ _ _ (putAll _ v _ 14) wx
                simp only [putAll, dstOf, Act.put]
                simp only [List.getElem?_toArray, List.getElem?_cons_zero, List.getElem?_cons_succ, Option.bind_some, List.setIfInBounds_toArray, List.set_cons_zero, List.set_cons_succ]
                go_wp2_with fail
                go_meet
                case rel => exact ⟨_, _, svs.set ix sv', hBA, hVA, by rw [List.length_set]; exact hsl, hRA, hvo, hXA, hCX⟩
          case rest =>
            clear d0 hB7 hV7 hR7' hX7 hC7' hVO hsz5 hsz1 hsz2 hXsz
            obtain ⟨vals', put', svs', hB7, hV7, hsl', hR7, hVO, hX7, hC7⟩ := hcut
            have HVO := Lib.hid hVO
            clear hVO
            have c0 := hB7.cell 0
            simp at c0
            have hxg : xb ≠ g := hX7.ne hB7 (by decide)
            have hxv : xb ≠ vb := hX7.ne hV7 (by decide)
            go_wp2_with fail
            go_loopw [8, 129] (fun bu jv wx => ∃ (j : Nat), j ≤ l.length ∧ jv = .int .i64 (j : Int) ∧ bu = .int .u32 (befB (opsOf l) x.1 j : Nat) ∧ Ext wc wx) (fun _ jv _ => l.length - (intOf jv).toNat)
            case atStart => exact ⟨0, Nat.zero_le _, rfl, rfl, Ext.refl _⟩
            case round =>
              obtain ⟨j, hj, rfl, rfl, hE⟩ := hrel
              by_cases hlt2 : j < l.length
              · have hS2 := (HSL.out _ hC7).ext hE
                obtain ⟨r0, r1, r2, r3, r4, r5, r6, r7⟩ := row_cells hS2 hlt2
                have hpre : preB (opsOf l) x.1 j = ((rowAt l j).1.ans && decide ((rowAt l j).1.fin < x.1.start)) := by unfold preB; rw [← rowAt_op hlt2]
                have hbs : befB (opsOf l) x.1 (j + 1) = if preB (opsOf l) x.1 j = true then befB (opsOf l) x.1 j ||| 2 ^ j else befB (opsOf l) x.1 j := rfl
                have hbl : befB (opsOf l) x.1 j < 2 ^ j := bitsB_lt _ _
                have hj20 : j < 20 := by omega
                have hor : bits .or .u32 (befB (opsOf l) x.1 j : Int) ((2 : Int) ^ j % 4294967296) = ((befB (opsOf l) x.1 j ||| 2 ^ j : Nat) : Int) := by
                  have h2 : 2 ^ j < 2 ^ 20 := Nat.pow_lt_pow_right (by omega) hj20
                  rw [shl_u32 hj20, bits_or_u32 (by omega) (by omega)]
                generalize rowAt l j = y at *
                rw [hpre] at hbs
                have HBS := Lib.hid hbs
                clear hbs hpre hbl
                have hYb := At.new wr 37 #[.int .i64 y.1.kind, .string y.1.name, .int .u64 y.1.value, .int .i64 y.1.start, .int .i64 y.1.fin, .int .i64 y.1.err, .int .u64 y.1.got, .slice y.2.1 y.1.names.length y.2.2]
                have hXe := (Ext.refl wr).alloc (.cells #[.int .i64 y.1.kind, .string y.1.name, .int .u64 y.1.value, .int .i64 y.1.start, .int .i64 y.1.fin, .int .i64 y.1.err, .int .u64 y.1.got, .slice y.2.1 y.1.names.length y.2.2] 37)
                go_wp2_with fail
                refine (answered_any _ y).mono ?_
                rintro e w3 ⟨rfl, hE3⟩
                have d4 := (hYb.ext hE3).cell 4
                have hE4 := (hE.trans hXe).trans hE3
                have d3 := (hX7.ext hE4).cell 3
                simp at d4 d3
                cases hans : y.1.ans
                · go_wp2_with fail
                  refine ⟨⟨j + 1, by omega, by go_num, ?_, hE4⟩, by simp [intOf]; omega⟩
                  rw [HBS.out, hans]; rfl
                · by_cases hlt3 : y.1.fin < x.1.start
                  · go_wp2_with fail
                    refine ⟨⟨j + 1, by omega, by go_num, ?_, hE4⟩, by simp [intOf]; omega⟩
                    rw [HBS.out, hans]; simp [hlt3]
                  · go_wp2_with fail
                    refine ⟨⟨j + 1, by omega, by go_num, ?_, hE4⟩, by simp [intOf]; omega⟩
                    rw [HBS.out, hans, decide_eq_false (Int.not_lt.2 hlt3)]; rfl
              · obtain rfl : j = l.length := by omega
                have gB := hB7.ext hE
                have gV := hV7.ext hE
                have gX := hX7.ext hE
                have gR := hR7.ext hE
                have gC := hC7.ext_trans hE
                have gsz := gC.size
                have gxw := gX.lt
                clear hB7 hV7 hX7 hR7 hC7 hE c0 hj
                have hr2 : wr.ownsRow W.heap.size 50 1 bv (u32s bl).length (u32s bl) := gR.get (i := 2) rfl
                rw [HI2.out] at hr2
                obtain ⟨bA, bc, rfl⟩ := own_slice' hr2
                have c5 := gB.cell 5
                simp at c5
                generalize hbf : befB (opsOf l) x.1 l.length = bf
                have HBF := Lib.hid hbf
                clear hbf
                go_upto_region 28 with (at_builtin; refine wpList_append_own2 rfl _ _ 49 rfl W.heap.size 50 iU (.int .u32 0) 4 Try.underlying49 hiU hzU0 hzU1 hzU2 rfl _ _ _ rfl (hr2.alloc _) ⟨wr.heap.size, 0, none⟩ 1 1 [.int .u32 (bf : Nat)] rfl rfl ?c1 ?c2 ?c3 ?c4 ?c5 ?_)
                case c1 => exact cell_one
                case c2 => simp [Value.oneCell']
                case c3 => unfold maxLen; omega
                case c4 => omega
                case c5 => simp; omega
                intro v8 W8x hown8 hgrow8 hb8
                obtain ⟨fB, fV, fX, fR, fC⟩ := grown_all (i := 2) (r := ⟨50, .slice bA k bc, u32s bl⟩) (xs' := u32s (bl ++ [bf])) gB gV gR rfl hgW hvW (by omega) (by simpa [u32s] using hown8) (by have := HI2.out; simp [u32s] at this ⊢; exact this) hgrow8 hb8 gX (by show 50 ≠ 37; decide)
                have fC' := gC.trans fC (fun _ _ h => .inr (.inr h))
                obtain ⟨bA2, bc2, rfl⟩ := own_slice' hown8
                have e0 := fB.cell 5
                have e1 := fB.frozen 5
                simp at e0
                clear gB gV gX gR gC c5 hr2 hgrow8 hb8 hown8 fC
                go_upto_region 28 with fail
                obtain ⟨gB, gV, gR, gC0⟩ := stored_all (f := 5) (.slice bA2 (k + 1) bc2) fB fV fR hgW hne1
                have gR' : RowsAt _ W.heap.size (tabRows (.slice mA2 (k + 1) mc2) (.slice pA2 (k + 1) pc2) (.slice bA2 (k + 1) bc2) (nl ++ [idxV ns x.1.name]) put' (bl ++ [bf]) svs' vals') := gR
                have gX := fX.chg gC0 (fun h => hxg h)
                have gC := fC'.trans gC0 (fun _ _ h => .inl h)
                simp at gB
                clear fB fV fR fX fC' gC0 gR e0 e1
                generalize World.setCell _ _ _ = W9 at gB gV gR' gX gC ⊢
                have hnl2 : (((opsOf l).take (k + 1)).map fun x => idxV ns x.name) = nl ++ [idxV ns x.1.name] := by
                  rw [HTK.out, List.map_append, HNL.out, HOP.out]; rfl
                have hbl2 : (((opsOf l).take (k + 1)).map fun x => befB (opsOf l) x (opsOf l).length) = bl ++ [bf] := by
                  rw [HTK.out, List.map_append, HBL.out, ← HBF.out, HOP.out, opsOf_len]; rfl
                rw [← hnl2, ← hbl2] at gR'
                have hnd : needB (opsOf l) (k + 1) = if x.1.ans = true then needB (opsOf l) k ||| 2 ^ k else needB (opsOf l) k := by rw [HOP.out]; rfl
                have hnb : needB (opsOf l) k < 2 ^ k := bitsB_lt _ _
                have hk20 : k < 20 := by omega
                have hor : bits .or .u32 (needB (opsOf l) k : Int) ((2 : Int) ^ k % 4294967296) = ((needB (opsOf l) k ||| 2 ^ k : Nat) : Int) := by
                  have h2 : 2 ^ k < 2 ^ 20 := Nat.pow_lt_pow_right (by omega) hk20
                  rw [shl_u32 hk20, bits_or_u32 (by omega) (by omega)]
                have HND := Lib.hid hnd
                clear hnl2 hbl2 hnd hnb
                have q0 := gX.cell 0
                have q1 := gX.cell 1
                have q2 := gX.cell 2
                have q3 := gX.cell 3
                have q4 := gX.cell 4
                have q5 := gX.cell 5
                have q6 := gX.cell 6
                have q7 := gX.cell 7
                simp at q0 q1 q2 q3 q4 q5 q6 q7
                go_wp2_with fail
                refine (answered_any _ x).mono ?_
                rintro e W10 ⟨rfl, hE10⟩
                have kB := gB.ext hE10
                have kV := gV.ext hE10
                have kR := gR'.ext hE10
                have kC := gC.ext_trans hE10
                have c6 := kB.cell 6
                have f6 := kB.frozen 6
                simp at c6
                clear q0 q1 q2 q3 q4 q5 q6 q7 gB gV gR' gC gX hE10
                cases hans : x.1.ans
                · go_wp2_with fail
                  refine ⟨⟨k + 1, vals', put', svs', _, _, _, by omega, by go_num, ?_, kV, hsl', kR, HVO.out, kC⟩, by simp [intOf]; omega⟩
                  rw [HND.out, hans]; exact kB
                · obtain ⟨nB, nV, nR, nC0⟩ := stored_all (f := 6) (.int .u32 ((needB (opsOf l) k ||| 2 ^ k : Nat) : Int)) kB kV kR hgW hne1
                  have nC := kC.trans nC0 (fun _ _ h => .inl h)
                  simp at nB
                  go_wp2_with fail
                  go_region
                  go_wp2_with fail
                  refine ⟨⟨k + 1, vals', put', svs', _, _, _, by omega, by go_num, ?_, nV.ext (Ext.refl _).drew, hsl', nR.ext (Ext.refl _).drew, HVO.out, nC.ext_trans (Ext.refl _).drew⟩, by simp [intOf]; omega⟩
                  rw [HND.out, hans]; exact nB.ext (Ext.refl _).drew
        · obtain rfl : k = l.length := by omega
          rw [List.take_of_length_le (by rw [opsOf_len]; exact Nat.le_refl _)] at hR
          have hW := WalkIn.start hI HLT.out HNVB.out (Sl.of_own hO10) hS10 hM10 hC12 hC hB hV hsl hR hVO
          have hRC : Chg (· = g) w wr := hC12.trans hC (fun j hj h => (by rcases h with h | h | h <;> omega : j = g))
          have HRC := Lib.hid hRC
          have HVO := Lib.hid hVO
          have hv20 : ∀ n, (vals.getD n []).length ≤ 20 := fun n => by have := len_le_sum vals n; have := hVO.sum; omega
          have HV20 := Lib.hid hv20
          have HVL := Lib.hid hVO.vlen
          have hns20 : ns.length ≤ 20 := by omega
          generalize hTe : tabOf (opsOf l) ns vals put = T at hW
          have hTn : T.names = ns := by rw [← hTe]; rfl
          have hTv : T.vals = vals := by rw [← hTe]; rfl
          have hTm : T.name = (opsOf l).map fun x => idxV ns x.name := by rw [← hTe]; rfl
          have HTE := Lib.hid hTe
          have HTN := Lib.hid hTn
          have HTV := Lib.hid hTv
          have HTM := Lib.hid hTm
          have c0 := hW.tab.blk.cell 0
          simp at c0
          clear hRC hVO hv20 hTe hTn hTv hTm hB hV hsl hR hC HSL hO10 hS10 hM10 hC12 HB10 hV10
          generalize hXe : (⟨.slice LA l.length lc, .slice nA3 ns.length nc3, .slice (some ⟨vb, 0, none⟩) ns.length ns.length, svs, mv, pv, bv, st, sn⟩ : HLoc) = X at hW
          have hXo : X.ov = .slice LA l.length lc := by rw [← hXe]
          have HXS : Hid (w.heap.size ≤ X.st ∧ w.heap.size ≤ X.sn) := Lib.hid (by
            rw [← hXe]
            have := HLT.out
            show w.heap.size ≤ st ∧ w.heap.size ≤ sn
            exact ⟨by omega, by omega⟩)
          clear hXe
          obtain ⟨wz, hwz⟩ : ∃ wz, wz = wr := ⟨_, rfl⟩
          subst hwz
          go_wp2_with fail
          go_loopw [175] (fun jv wx => ∃ j : Nat, j ≤ l.length ∧ jv = .int .i64 (j : Int) ∧ Ext wz wx ∧ Hid (∀ i, i < j → (opAt (opsOf l) i).ans = true → Poss T (opAt (opsOf l) i))) (fun jv _ => l.length - (intOf jv).toNat)
          case atStart => exact ⟨0, Nat.zero_le _, rfl, Ext.refl _, Lib.hid (fun i h => by omega)⟩
          case round =>
            obtain ⟨j, hj, rfl, hE, HPP⟩ := hrel
            by_cases hlt2 : j < l.length
            · have hW2 := hW.ext hE
              have hS2 := hW2.tab.ops
              rw [hXo] at hS2
              obtain ⟨b, o, rfl⟩ := sln_some hS2 (fun e => by have := List.map_eq_nil_iff.1 e; subst this; simp at hlt2)
              obtain ⟨r0, r1, r2, r3, r4, r5, r6, r7⟩ := row_cells hS2 hlt2
              have hxm : rowAt l j ∈ l := List.mem_of_getElem? (rowAt_get hlt2)
              have HK := Lib.hid (hI.kinds _ hxm)
              have HXN := Lib.hid (hI.xn _ hxm)
              have hxr := (hW2.tab.rows _ hxm).1
              have HOP := Lib.hid (rowAt_op hlt2)
              have HNM := Lib.hid (show T.name[j]? = some (idxV T.names (rowAt l j).1.name) by
                rw [HTM.out, HTN.out, List.getElem?_map, opAt_get (by rw [opsOf_len]; exact hlt2), ← rowAt_op hlt2]; rfl)
              have HNL := Lib.hid (show T.name.length ≤ 20 by rw [HTM.out, List.length_map, opsOf_len]; exact h20)
              clear hxm
              generalize rowAt l j = x at *
              have hYb := At.new wr 37 #[.int .i64 x.1.kind, .string x.1.name, .int .u64 x.1.value, .int .i64 x.1.start, .int .i64 x.1.fin, .int .i64 x.1.err, .int .u64 x.1.got, .slice x.2.1 x.1.names.length x.2.2]
              have hXe := (Ext.refl wr).alloc (.cells #[.int .i64 x.1.kind, .string x.1.name, .int .u64 x.1.value, .int .i64 x.1.start, .int .i64 x.1.fin, .int .i64 x.1.err, .int .u64 x.1.got, .slice x.2.1 x.1.names.length x.2.2] 37)
              go_wp2_with fail
              refine (answered_any _ x).mono ?_
              rintro e w3 ⟨rfl, hE3⟩
              have hE4 := (hE.trans hXe).trans hE3
              have hT4 := (hW.ext hE4).tab
              have hx4 := (hxr.ext hXe).ext hE3
              have hY3 := hYb.ext hE3
              have q0 := hY3.cell 0
              have q1 := hY3.cell 1
              have q2 := hY3.cell 2
              have q3 := hY3.cell 3
              have q4 := hY3.cell 4
              have q5 := hY3.cell 5
              have q6 := hY3.cell 6
              have q7 := hY3.cell 7
              simp at q0 q1 q2 q3 q4 q5 q6 q7
              clear r0 r1 r2 r3 r4 r5 r6 r7 hYb hY3 hXe hxr hS2 hW2 hE
              cases hans : x.1.ans
              · go_wp2_with fail
                refine ⟨⟨j + 1, by omega, by go_num, hE4, Lib.hid fun i hi ha => ?_⟩, by simp [intOf]; omega⟩
                by_cases e : i = j
                · subst e; rw [← HOP.out, hans] at ha; cases ha
                · exact HPP.out i (by omega) ha
              · have HANS := Lib.hid hans
                clear hans
                go_wp2_with fail
                refine (possible_any w3 g l T X hT4 j HNL.out (by rw [HTN.out]; exact hns20) (by rw [HTV.out, HTN.out]; exact HVL.out) (by rw [HTV.out]; exact HV20.out) x HNM.out hx4 HXN.out HK.out).mono ?_
                rintro e w4 ⟨⟨bb, rfl, hb⟩, hE5⟩
                have hE6 := hE4.trans hE5
                rw [HOP.out] at hb
                have HBB := Lib.hid hb
                clear hb
                cases bb
                · go_wp2_with fail
                  go_ret
                  refine ⟨⟨ns, false, vals, put, T, X, (by rw [HPN.out, HNS.out]), HTE.out, rfl, HVO.out, ⟨fun h => (by cases h), fun h => ?_⟩, hW.ext hE6, HXS.out⟩, HRC.out.ext_trans hE6⟩
                  exact HBB.out.2 (h j hlt2 (by rw [← HOP.out]; exact HANS.out))
                · go_wp2_with fail
                  refine ⟨⟨j + 1, by omega, by go_num, hE6, Lib.hid fun i hi ha => ?_⟩, by simp [intOf]; omega⟩
                  by_cases e : i = j
                  · subst e; exact HBB.out.1 (by simp)
                  · exact HPP.out i (by omega) ha
            · obtain rfl : j = l.length := by omega
              go_wp2_with fail
              go_ret
              exact ⟨⟨ns, true, vals, put, T, X, (by rw [HPN.out, HNS.out]), HTE.out, rfl, HVO.out, ⟨fun _ => HPP.out, fun _ => rfl⟩, hW.ext hE, HXS.out⟩, HRC.out.ext_trans hE⟩
end Go.Proofs.Ytlodaffiamegpaa
