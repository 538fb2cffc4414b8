/-
  Layer 18: rows of the call's own, apart from each other; value.
-/
import Derived.Test.YtlodaffiamegpaaHs9
import Derived.Test.YtlodaffiamegpaaSortS
import Derived.Deep.RegionLaw
namespace Go.Proofs.Ytlodaffiamegpaa
open Go.RowKit Go.Sort

/-! ### append as one step, and where the row lies then -/
section
variable {P : Program} {ops : Array Oper} {o : Oper} {a : Act} {w : World} {K : Act → World → Prop} {Q : Exit → Act → World → Prop} {E : Prop}
theorem step_append_own2 (hgd : o.guard = none) (s x : Operand) (t : TypeId) (ho : o.op = .call { callee := .builtin .append, args := #[s, x], argTypes := #[t, t] })
    (base : Nat) (e : TypeId) (i : TypeInfo) (z : Value) (bytes : Nat) (ht : P.underlying t = some (.slice e)) (hi : P.info? e = some i) (hz : i.zero = some z)
    (hsize : i.size = 1) (hby : i.bytes = bytes) (hzs : z.cells.size = 1)
    (v : Value) (n : Nat) (xs : List Value) (hs : a.eval s = v) (hown : w.ownsRow base e 1 v n xs)
    (A : Addr) (m c : Nat) (news : List Value) (hx : a.eval x = .slice (some A) m c) (hl : news.length = m) (hnews : ∀ j u, news[j]? = some u → w.cell? (A.add j) = some u) (h1 : ∀ u ∈ news, u.oneCell' = true)
    (h63 : n + m ≤ maxLen) (hbytes : (n + m) * bytes ≤ 140737488355328) (hbase : base ≤ w.heap.size)
    (h : ∀ v' w', w'.ownsRow base e 1 v' (n + m) (xs ++ news) → w.grownBy w' v.ownBlock → (v'.ownBlock = v.ownBlock ∨ v'.ownBlock = some w.heap.size) → K (a.put o.dst v') w') :
    if Region.wanted o (yielded ops a.tmps) = true then Oper.wp P o a w K Q else E := by
  have hw : Region.wanted o (yielded ops a.tmps) = true := by simp [Region.wanted, hgd]
  rw [if_pos hw]
  obtain ⟨v', w', hrun, h2, h3, _, h5⟩ := run_append_own_at (P := P) w base t o.type e i z 1 bytes ht hi hz hsize hby hzs (by omega) v n xs hown A m c news (by omega) hnews h1 h63 hbytes hbase
  unfold Oper.wp execOp
  simp only [ho, resolve, invoke, builtin, Sem.run_bind, Sem.run_pure, Result.andThen_ok, List.map_toArray, List.map_cons, List.map_nil, hs, hx, hrun]
  exact h v' w' h2 h3 h5
theorem wpList_append_own2 {rest : List Oper} (hgd : o.guard = none) (s x : Operand) (t : TypeId) (ho : o.op = .call { callee := .builtin .append, args := #[s, x], argTypes := #[t, t] })
    (base : Nat) (e : TypeId) (i : TypeInfo) (z : Value) (bytes : Nat) (ht : P.underlying t = some (.slice e)) (hi : P.info? e = some i) (hz : i.zero = some z)
    (hsize : i.size = 1) (hby : i.bytes = bytes) (hzs : z.cells.size = 1)
    (v : Value) (n : Nat) (xs : List Value) (hs : a.eval s = v) (hown : w.ownsRow base e 1 v n xs)
    (A : Addr) (m c : Nat) (news : List Value) (hx : a.eval x = .slice (some A) m c) (hl : news.length = m) (hnews : ∀ j u, news[j]? = some u → w.cell? (A.add j) = some u) (h1 : ∀ u ∈ news, u.oneCell' = true)
    (h63 : n + m ≤ maxLen) (hbytes : (n + m) * bytes ≤ 140737488355328) (hbase : base ≤ w.heap.size)
    (h : ∀ v' w', w'.ownsRow base e 1 v' (n + m) (xs ++ news) → w.grownBy w' v.ownBlock → (v'.ownBlock = v.ownBlock ∨ v'.ownBlock = some w.heap.size) → wpList P ops Q rest (a.put o.dst v') w') : wpList P ops Q (o :: rest) a w :=
  wpList_plain hgd fun _ hK => by
    obtain ⟨v', w', hrun, h2, h3, _, h5⟩ := run_append_own_at (P := P) w base t o.type e i z 1 bytes ht hi hz hsize hby hzs (by omega) v n xs hown A m c news (by omega) hnews h1 h63 hbytes hbase
    unfold Oper.wp execOp
    simp only [ho, resolve, invoke, builtin, Sem.run_bind, Sem.run_pure, Result.andThen_ok, List.map_toArray, List.map_cons, List.map_nil, hs, hx, hrun]
    exact hK _ _ (h v' w' h2 h3 h5)
end

/-! ### rows apart -/
theorem List.set_getElem?_self' {α : Type} {l : List α} {i : Nat} {x : α} (h : l[i]? = some x) : l.set i x = l := by
  obtain ⟨h1, h2⟩ := List.getElem?_eq_some_iff.1 h
  rw [← h2]; exact List.set_getElem_self h1
theorem own_far {w w' : World} {base : Nat} {e : TypeId} {size : Nat} {v : Value} {n : Nat} {xs : List Value} {S : Nat → Prop} (h : w.ownsRow base e size v n xs) (hc : Chg S w w') (hS : ∀ k, some k = v.ownBlock → ¬ S k) : w'.ownsRow base e size v n xs := by
  obtain ⟨h1, h2⟩ := h
  refine ⟨h1, ?_⟩
  rcases h2 with h2 | ⟨g, cap, cur, rfl, hb, hg, h3⟩
  · exact .inl h2
  · exact .inr ⟨g, cap, cur, rfl, hb, (hc.block g (lt_of_block hg) (hS g rfl)).trans hg, h3⟩
structure Row where
  t : TypeId
  v : Value
  xs : List Value
def RApart (a b : Row) : Prop := ∀ k, a.v.ownBlock = some k → b.v.ownBlock ≠ some k
structure RowsAt (w : World) (B : Nat) (rs : List Row) : Prop where
  own : ∀ r ∈ rs, w.ownsRow B r.t 1 r.v r.xs.length r.xs
  apart : rs.Pairwise RApart
theorem RApart.symm {a b : Row} (h : RApart a b) : RApart b a := fun k h1 h2 => h k h2 h1
section
variable {w w' : World} {B : Nat} {rs : List Row}
theorem RowsAt.chg {S : Nat → Prop} (h : RowsAt w B rs) (hc : Chg S w w') (hS : ∀ k, S k → k < B) : RowsAt w' B rs := ⟨fun r hr => own_chg (h.own r hr) hc hS, h.apart⟩
theorem RowsAt.ext (h : RowsAt w B rs) (hc : Ext w w') : RowsAt w' B rs := h.chg (S := fun _ => False) hc (fun _ h => h.elim)
theorem RowsAt.nil (w : World) (B : Nat) : RowsAt w B [] := ⟨(fun _ h => by cases h), List.Pairwise.nil⟩
theorem RowsAt.get (h : RowsAt w B rs) {i : Nat} {r : Row} (hi : rs[i]? = some r) : w.ownsRow B r.t 1 r.v r.xs.length r.xs := h.own r (List.mem_of_getElem? hi)
theorem own_lt {base : Nat} {e : TypeId} {size : Nat} {v : Value} {n : Nat} {xs : List Value} (h : w.ownsRow base e size v n xs) : ∀ k, v.ownBlock = some k → k < w.heap.size := fun k hk => (h.lt k hk).2
theorem pair_set {α : Type} {R : α → α → Prop} (sym : ∀ a b, R a b → R b a) {l : List α} {i : Nat} {y : α} (h : l.Pairwise R) (hy : ∀ j x, j ≠ i → l[j]? = some x → R x y) : (l.set i y).Pairwise R := by
  rw [List.pairwise_iff_getElem] at h ⊢
  intro a b ha hb hab
  rw [List.length_set] at ha hb
  rw [List.getElem_set, List.getElem_set]
  by_cases h1 : i = a
  · rw [if_pos h1, if_neg (by omega)]
    exact sym _ _ (hy b _ (by omega) (List.getElem?_eq_getElem hb))
  · rw [if_neg h1]
    by_cases h2 : i = b
    · rw [if_pos h2]
      exact hy a _ (by omega) (List.getElem?_eq_getElem ha)
    · rw [if_neg h2]; exact h a b ha hb hab
/-- row i is a new one -/
theorem RowsAt.put (h : RowsAt w B rs) {i : Nat} {r : Row} (hi : rs[i]? = some r) {v' : Value} {xs' : List Value} (ho : w'.ownsRow B r.t 1 v' xs'.length xs') (hg : w.grownBy w' r.v.ownBlock) (hb : v'.ownBlock = r.v.ownBlock ∨ ∃ k, v'.ownBlock = some k ∧ w.heap.size ≤ k) : RowsAt w' B (rs.set i ⟨r.t, v', xs'⟩) := by
  have hne : ∀ j x, j ≠ i → rs[j]? = some x → RApart x r := fun j x hj hx => by
    have hjl := (List.getElem?_eq_some_iff.1 hx)
    have hil := (List.getElem?_eq_some_iff.1 hi)
    have hp := List.pairwise_iff_getElem.1 h.apart
    rcases Nat.lt_or_gt_of_ne hj with hh | hh
    · have := hp j i hjl.1 hil.1 hh
      rw [hjl.2, hil.2] at this; exact this
    · have := hp i j hil.1 hjl.1 hh
      rw [hjl.2, hil.2] at this; exact this.symm
  have hf : ∀ j x, j ≠ i → rs[j]? = some x → w'.ownsRow B x.t 1 x.v x.xs.length x.xs := fun j x hj hx =>
    own_far (h.get hx) (Chg.of_grown hg) fun k hk hk2 => hne j x hj hx k hk.symm hk2.symm
  constructor
  · intro x hx
    obtain ⟨j, hj⟩ := List.mem_iff_getElem?.1 hx
    rw [List.getElem?_set] at hj
    split at hj
    · rename_i e
      split at hj
      · cases hj; exact ho
      · cases hj
    · rename_i e; exact hf j x (fun e' => e e'.symm) hj
  · refine pair_set (fun _ _ => RApart.symm) h.apart fun j x hj hx k hk hk2 => ?_
    have h1 := own_lt (h.get hx) k hk
    show False
    rcases hb with hb | ⟨q, hb, hq⟩
    · exact hne j x hj hx k hk (hb ▸ hk2)
    · have : some q = some k := hb.symm.trans hk2
      cases this; omega
end


theorem u64_info : (Try.prog.info? 34).map (fun i => (i.zero, i.size, i.bytes)) = some (some (.int .u64 0), 1, 8) := by kernel_rfl
theorem own_slice' {w : World} {base : Nat} {v : Value} {xs : List Value} {n : Nat} {e : TypeId} {s : Nat} (h : w.ownsRow base e s v n xs) : ∃ A c, v = .slice A n c := by
  rcases h.2 with ⟨rfl, h0⟩ | ⟨g, cap, cur, rfl, hb, _, h1, h2, _⟩
  · exact ⟨none, 0, by rw [h0]⟩
  · exact ⟨_, _, rfl⟩

def valIx (vs : List Nat) (v : Nat) : Nat := if hasL vs v then ixOf vs v else vs.length
def valTo (vs : List Nat) (v : Nat) : List Nat := if hasL vs v then vs else vs ++ [v]
theorem valIx_get (vs : List Nat) (v : Nat) : (valTo vs v)[valIx vs v]? = some v := by
  unfold valTo valIx
  by_cases h : hasL vs v = true
  · rw [if_pos h, if_pos h]; exact ixOf_get h
  · rw [if_neg h, if_neg h]; simp
theorem valIx_le (vs : List Nat) (v : Nat) : valIx vs v ≤ vs.length := by
  unfold valIx
  split
  · rename_i h; have := ixOf_lt h; omega
  · omega
structure ValOut (w : World) (vb B : Nat) (svs : List Value) (rs : List Row) (n m : Nat) (sv : Value) (vs : List Nat) (v : Nat) (e : Ending) (w' : World) : Prop where
  out : ∃ sv' : Value, e = .returned (.int .i64 (valIx vs v : Nat)) ∧ At w' vb 81 (svs.set n sv').toArray ∧ RowsAt w' B (rs.set m ⟨34, sv', u64s (valTo vs v)⟩)
  chg : Chg (fun k => k = vb ∨ some k = sv.ownBlock) w w'

set_option maxHeartbeats 1000000 in
theorem value_any (w : World) (g vb B N n m v : Nat) (svs : List Value) (rs : List Row) (sv : Value) (vs : List Nat) (hc2 : w.cell? ⟨g, 2, none⟩ = some (.slice (some ⟨vb, 0, none⟩) N N)) (hvb : At w vb 81 svs.toArray) (hN : svs.length = N) (_hN20 : N ≤ 20) (hn : svs[n]? = some sv)
    (hR : RowsAt w B rs) (hm : rs[m]? = some ⟨34, sv, u64s vs⟩) (hvs : vs.length ≤ 20) (hB : vb < B) (hgB : g < B) (hgv : g ≠ vb) (hBw : B ≤ w.heap.size) :
    Calls Try.prog 28 #[.pointer (some ⟨g, 0, none⟩), .int .i64 (n : Int), .int .u64 (v : Int)] w fun e w' => ValOut w vb B svs rs n m sv vs v e w' := by
  obtain ⟨i0, hi, hz0, hz1, hz2⟩ := info_parts u64_info
  have hown := hR.get hm
  have hxl : (u64s vs).length = vs.length := by simp [u64s]
  have hnl : n < N := by have := (List.getElem?_eq_some_iff.1 hn).1; omega
  have c0 := hvb.cell n
  rw [List.getElem?_toArray, hn] at c0
  have f0 := hvb.frozen n
  have hS := Sl.of_own hown
  simp only [hxl] at hown
  go_enter Try.func28, Try.ntmps28
  go_wp2_with fail
  refine (idx_u64 w sv vs v hS (by omega)).mono ?_
  rintro e w1 ⟨rfl, rfl⟩
  have hix := idxV_eq vs v
  by_cases hh : hasL vs v = true
  · rw [if_pos hh] at hix
    rw [hix]
    have hg := ixOf_get hh
    have HH := Lib.hid hh
    have HG := Lib.hid hg
    clear hh hix hg
    have hri : Ending.returned (.int .i64 ((ixOf vs v : Nat) : Int)) = .returned (.int .i64 ((valIx vs v : Nat) : Int)) := by unfold valIx; rw [if_pos HH.out]
    have hto : valTo vs v = vs := by unfold valTo; rw [if_pos HH.out]
    have HRI := Lib.hid hri
    have HTO := Lib.hid hto
    clear hri hto
    generalize ixOf vs v = ix at HG HRI ⊢
    go_wp2_with fail
    go_ret
    refine ⟨⟨sv, HRI.out, ?_, ?_⟩, Chg.refl _ _⟩
    · rw [List.set_getElem?_self' hn]; exact hvb
    · rw [HTO.out, List.set_getElem?_self' hm]; exact hR
  · rw [if_neg hh] at hix
    rw [hix]
    have HH := Lib.hid hh
    clear hh hix
    obtain ⟨sA, sc, rfl⟩ := own_slice' hown
    go_wp2_with fail
    have hlt := hvb.lt
    have hown0 := hown
    have hsn : (svs.toArray)[n]? = some (.slice sA vs.length sc) := by rw [List.getElem?_toArray]; exact hn
    have hXa := (Ext.refl w1).alloc (.cells #[.int .u64 (v : Int)] 34)
    have a2 := (Ext.cell (p := ⟨g, 2, none⟩) hXa (cell_lt hc2)).trans hc2
    have an := (Ext.cell (p := ⟨vb, n, none⟩) hXa (cell_lt c0)).trans c0
    go_region_law (refine step_append_own2 rfl (.tmp 31) (.tmp 33) _ rfl B 34 i0 _ 8 Try.underlying81 hi hz0 hz1 hz2 rfl (.slice sA vs.length sc) vs.length (u64s vs) (by simp [Act.eval]) (own_chg hown ((Ext.refl w1).drew.alloc _) (fun _ h => h.elim)) ⟨w1.heap.size, 0, none⟩ 1 1 [.int .u64 (v : Int)] (by simp [Act.eval]) rfl (cell_one (w := w1)) (by simp [Value.oneCell']) (by unfold maxLen; omega) (by omega) (by simp; omega) ?_; intro v1 w2 hown1 hgrow1 hb1; obtain ⟨A1, c1', rfl⟩ := own_slice' hown1; have hvb1 : At w2 vb 81 svs.toArray := At.chg (by first | exact hvb.drew.alloc _ | exact (hvb.alloc _).drew) (Chg.of_grown hgrow1) (fun h => by have := own_ge hown vb h; omega); have e0 := hvb1.cell n; rw [hsn] at e0; have e1 := hvb1.frozen n; have e2 : w2.cell? ⟨g, 2, none⟩ = some (.slice (some ⟨vb, 0, none⟩) N N) := ((Chg.of_grown hgrow1).cell (p := ⟨g, 2, none⟩) (cell_lt a2) (fun h => by have := own_ge hown g h; omega)).trans a2)
    all_goals
      have hRi := hR.ext (((Ext.refl w1).alloc (.cells #[.int .u64 (v : Int)] 34)).drew)
      have hux : (u64s (vs ++ [v])).length = vs.length + 1 := by simp [u64s]
      have hue : u64s vs ++ [.int .u64 (v : Int)] = u64s (vs ++ [v]) := by simp [u64s]
      have hput := hRi.put hm (v' := .slice A1 (vs.length + 1) c1') (xs' := u64s (vs ++ [v])) (w' := w2) (by rw [hux, ← hue]; exact hown1) hgrow1 (hb1.elim .inl fun h => .inr ⟨_, h, Nat.le_refl _⟩)
      have hC2 : Chg (fun k => k = vb ∨ some k = (Value.slice sA vs.length sc).ownBlock) w1 w2 := Chg.mono ((((Ext.refl w1).alloc (.cells #[.int .u64 (v : Int)] 34)).drew).chg_trans (Chg.of_grown hgrow1)) fun k _ h => .inr h
      have hput2 := hput.chg ((Chg.refl (· = vb) w2).setCell (p := ⟨vb, n, none⟩) (.inl rfl) (.slice A1 (vs.length + 1) c1')) (fun k h => by have h' : k = vb := h; omega)
      have hC3 := hC2.setCell (p := ⟨vb, n, none⟩) (.inl (.inl rfl)) (.slice A1 (vs.length + 1) c1')
      have hvb2 := hvb1.set n (.slice A1 (vs.length + 1) c1')
      have hse : svs.toArray.setIfInBounds n (.slice A1 (vs.length + 1) c1') = (svs.set n (.slice A1 (vs.length + 1) c1')).toArray := by
        apply Array.ext'; simp
      rw [hse] at hvb2
      have y0 := hvb2.cell n
      rw [List.getElem?_toArray, List.getElem?_set, if_pos rfl, if_pos (by omega)] at y0
      have y2 := ((Chg.refl (· = vb) w2).setCell (p := ⟨vb, n, none⟩) (.inl rfl) (.slice A1 (vs.length + 1) c1')).cell (p := ⟨g, 2, none⟩) (cell_lt e2) hgv
      rw [e2] at y2
      generalize World.setCell _ _ _ = W3 at hput2 hC3 hvb2 y0 y2 ⊢
      clear e0 e1 e2 a2 an c0 f0 hC2 hput hRi hR hown1 hgrow1 hb1 hvb1 hsn hse hux hue hown hown0 hvb hc2
      go_wp2_with fail
      go_ret
      refine ⟨⟨_, ?_, hvb2, ?_⟩, hC3⟩
      · unfold valIx; rw [if_neg HH.out]; rfl
      · unfold valTo; rw [if_neg HH.out]; exact hput2
end Go.Proofs.Ytlodaffiamegpaa
