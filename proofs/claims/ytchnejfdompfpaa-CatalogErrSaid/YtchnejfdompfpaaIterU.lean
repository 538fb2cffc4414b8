/-
  The numbers of a map's keys (uint64), collected and sorted: maps.Keys, slices.Collect, slices.Sorted.
  (AppendSeq after the kit's worked text GgCollectAtTheDump, turned to uint64.)
  slices.AppendSeq, Collect at uint64: the kit's worked text of the same functions at strings, turned to this program's numbers (by gen_iteru.py).
  slices.Sort, slices.Sorted at uint64; the catalog's numbers.
-/
import Derived.Test.YtchnejfdompfpaaSortU8
import Derived.Test.YtchnejfdompfpaaRange
import Derived.Test.YtchnejfdompfpaaCat
import Derived.Shelf.SlIter.Nil
import Derived.Sort.LoopGhostIn
import Derived.Test.YtchnejfdompfpaaCatW
namespace Go.Proofs.Ytchnejfdompfpaa
open Go.RowKit Go.Sort

theorem Chg.grown {w w' : World} {r : Nat} (h : Chg (· = r) w w') : w.grownBy w' (some r) := ⟨h.os, h.tape, h.output, h.size, fun k hk hn => h.block k hk (fun e => hn (by have e' : k = r := e; rw [e']))⟩
theorem Ext.grown {w w' : World} (h : Ext w w') : w.grownBy w' none := ⟨h.os, h.tape, h.output, h.size, fun _ hk _ => Ext.block h hk⟩
section
variable {ν : Type} {vv : ν → Value}
theorem RangeAt.walks {K : KeyWay Int} {w w' : World} {b r : Nat} {L left : List (Int × ν)} (h : RangeAt K vv w b r L left) (hk : KeepsWalks w w') : RangeAt K vv w' b r L left := by
  obtain ⟨es, clk, seen, h1, h2, h3, h4, h5⟩ := h
  exact ⟨es, clk, seen, hk.same b _ h1 rfl, h2, h3, hk.same r _ h4 rfl, h5⟩
theorem RangeAt.iter_walk {K : KeyWay Int} {w : World} {b r : Nat} {L left : List (Int × ν)} (h : RangeAt K vv w b r L left) : ∃ o : Obj, w.heap[r]? = some o ∧ o.isWalk = true := by
  obtain ⟨es, clk, seen, h1, h2, h3, h4, h5⟩ := h
  exact ⟨_, h4, rfl⟩
end
set_option maxRecDepth 100000 in
set_option maxHeartbeats 2000000 in
theorem keys1_in (F : Fence) (n : Nat) (hfn : F.fn 53) (hro : F.round = none) (hn : 1 ≤ n) (l Bm b : Nat) (L : List (Int × Nat)) (J : List Int → World → Prop)
    (hY : ∀ pre x W, J pre W → pre.length < L.length → YieldAt F (n - 1) Try.prog l #[eU x] W fun e W' => e = .returned (.bool true) ∧ J (pre ++ [x]) W' ∧ KeepsWalks W W')
    (W : World) (hJ : AbidesFrom W.heap.size J) (hm : W.cell? ⟨Bm, 0, none⟩ = some (.map (some b))) (hM : MapAt u64Way ptrV W b L) (h0 : J [] W) :
    CallsIn F n Try.prog 53 #[.func (.yield l) #[] #[], .pointer (some ⟨Bm, 0, none⟩)] W fun e W' => (∃ v, e = .returned v) ∧ ∃ ss : List Int, ss.Perm (L.map (·.1)) ∧ J ss W' := by
  obtain ⟨w0, hrun, hR, hE⟩ := hM.range map_blobs
  have HY := Lib.hid hY
  have HJ := Lib.hid hJ
  clear hY hJ
  refine callsIn_of_wp Try.func53 rfl hfn ?_ hro
  simp only [Try.ntmps53, List.size_toArray, List.length_cons, List.length_nil, Nat.reduceAdd, Nat.reduceSub, Array.replicate_succ, Array.replicate_zero, List.push_toArray, List.append_toArray, List.nil_append, List.cons_append]
  gi_wp2
  have hJ0 : J [] w0 := HJ.out [] W w0 none h0 hE.grown (fun r e => by cases e)
  clear hrun h0 hm hM
  obtain ⟨r, hr⟩ : ∃ r, r = W.heap.size := ⟨_, rfl⟩
  rw [← hr] at hR ⊢
  have hrg : W.heap.size ≤ r := by omega
  clear hr hE
  gi_loopg [3] L.length (fun k _ wr => ∃ left ss, left.length = k ∧ (L.map (·.1)).Perm (ss ++ left.map (·.1)) ∧ RangeAt u64Way ptrV wr b r L left ∧ J ss wr)
  case atStart => exact ⟨L, [], rfl, List.Perm.refl _, hR, hJ0⟩
  case round =>
    obtain ⟨left, ss, rfl, hp, hRk, hJs⟩ := hrel
    clear hR hJ0
    have HP := Lib.hid hp
    clear hp
    rcases hRk.next (P := Try.prog) 0 with ⟨rfl, hrun⟩ | ⟨p, left', w1, hperm, hrun, hR1, hC1, hent⟩
    · have hrun' : ∀ ty, (Instr.next (.pointer (some ⟨r, 0, none⟩)) false ty).run Try.prog wr = .ok (.tuple #[.bool false]) wr := fun _ => hrun
      clear hrun
      gi_wp2
      go_end0
      exact ⟨⟨_, rfl⟩, ss, by have := HP.out; simpa using this.symm, hJs⟩
    · have hrun' : ∀ ty, (Instr.next (.pointer (some ⟨r, 0, none⟩)) false ty).run Try.prog wr = .ok (.tuple #[.bool true, .int .u64 p.1, .pointer (some ⟨p.2, 0, none⟩)]) w1 := fun _ => hrun
      have hent' : (Instr.entry (.pointer (some ⟨r, 0, none⟩))).run Try.prog w1 = .ok (.tuple #[.int .u64 p.1, .pointer (some ⟨p.2, 0, none⟩)]) w1 := hent
      clear hrun hent
      have hlen : left'.length < left.length := by have := hperm.length_eq; simp at this; omega
      have hp2 : (L.map (·.1)).Perm ((ss ++ [p.1]) ++ left'.map (·.1)) := by
        refine HP.out.trans ?_
        rw [List.append_assoc]
        exact (hperm.map _).append_left ss
      have hsl : ss.length < L.length := by have := hp2.length_eq; simp at this; omega
      have HP2 := Lib.hid hp2
      clear hp2 hperm HP
      have hJ2 : J ss w1 := HJ.out ss wr w1 (some r) hJs hC1.grown (fun r' e => by cases e; exact ⟨hrg, hRk.iter_walk⟩)
      obtain ⟨fn, tmps, assign, body, hy, hRd⟩ := HY.out ss p.1 w1 hJ2 hsl
      clear hJs hRk hC1
      unfold eU at hy
      gi_wp2
      refine hRd.mono ?_
      rintro e W3 ⟨rfl, hJ3, hk3⟩
      gi_wp2
      gi_roundg left'.length
      case measure => exact hlen
      case rel => exact ⟨left', ss ++ [p.1], rfl, HP2.out, hR1.walks hk3, hJ3⟩
theorem keys_gives (F : Fence) (n : Nat) (hfn : F.fn 53) (hro : F.round = none) (hn : 1 ≤ n) (Bm b : Nat) (L : List (Int × Nat)) (w : World) (hBm : Bm < w.heap.size)
    (hm : w.cell? ⟨Bm, 0, none⟩ = some (.map (some b))) (hM : MapAt u64Way ptrV w b L) :
    SeqGives F n Try.prog 53 #[.pointer (some ⟨Bm, 0, none⟩)] eU (fun ss => ss.Perm (L.map (·.1))) L.length w := fun l J W hW hJ hY h0 => by
  have hE : Ext w W := Ext.of_below hW
  exact keys1_in F n hfn hro hn l Bm b L J hY W hJ ((Ext.cell hE hBm).trans hm) (hM.ext hE) h0
set_option maxHeartbeats 1000000 in
theorem keysU_in (F : Fence) (n : Nat) (h7 : F.fn 45) (hro : F.round = none) (mb : Option Nat) (w : World) :
    CallsIn F n Try.prog 45 #[.map mb] w fun e w' => e = .returned (.func (.func 53) #[] #[.pointer (some ⟨w.heap.size, 0, none⟩)]) ∧ w' = w.alloc (.cells #[.map mb] 60) := by
  refine callsIn_of_wp Try.func45 rfl h7 ?_ hro
  simp only [Try.ntmps45, List.size_toArray, List.length_cons, List.length_nil, Nat.reduceAdd, Nat.reduceSub, Array.replicate_succ, Array.replicate_zero, List.push_toArray, List.append_toArray, List.nil_append, List.cons_append]
  gi_wp2
  go_ret
  exact ⟨rfl, rfl⟩
end Go.Proofs.Ytchnejfdompfpaa
namespace Go.Proofs.Ytchnejfdompfpaa
open Go.RowKit Go.Maps Go.Sort Go.Shelf

theorem u64_info : (Try.prog.info? 27).map (fun i => (i.zero, i.size, i.bytes)) = some (some (.int .u64 0), 1, 8) := by kernel_rfl
def uapAssign : Code := (Code.region 2 #[{ dst := some 5, op := Op.assign (Operand.tmp 7), type := 27, pos := "iter.go:51", after := #[], guard := none }] false)
def uapBody : Code := (Code.block 1 (Code.region 3 #[{ dst := some 8, op := Op.load 74 (Operand.tmp 2), type := 74, pos := "iter.go:52", after := #[], guard := none }, { dst := some 9, op := Op.move (Operand.tmp 5), type := 27, pos := "iter.go:52", after := #[], guard := none }, { dst := some 10, op := Op.buildSlice 74 1 #[(0, Operand.tmp 9)], type := 74, pos := "iter.go:52", after := #[{ on := 1, ground := Ground.data }], guard := none }, { dst := some 11, op := Op.call { callee := Callee.builtin Builtin.append, args := #[Operand.tmp 8, Operand.tmp 10], argTypes := #[74, 74] }, type := 74, pos := "iter.go:52", after := #[{ on := 0, ground := Ground.data }, { on := 2, ground := Ground.data }], guard := none }, { dst := none, op := Op.store 74 (Operand.tmp 2) (Operand.tmp 11), type := 0, pos := "iter.go:52", after := #[{ on := 3, ground := Ground.data }, { on := 3, ground := Ground.chain }, { on := 0, ground := Ground.phase }, { on := 1, ground := Ground.phase }, { on := 2, ground := Ground.phase }, { on := 3, ground := Ground.phase }], guard := none }] false))
def uapRec (fn : FuncId) (sv : Value) (Bs D : Nat) (st : LoopState) (pend : Option Code) : Loop :=
  { state := st, pending := pend, fn, tmps := #[.slice none 0 0, sv, .pointer (some ⟨Bs, 0, none⟩), undef, .slice none 0 0, undef, sv, undef, undef, undef, undef, undef, undef], params := #[7], assign := uapAssign, body := uapBody, defers := D }

structure uApAt (w0 : World) (fn : FuncId) (sv : Value) (Bs l D : Nat) (ss : List Int) (W : World) : Prop where
  box : ∃ v, W.heap[Bs]? = some (.cells #[v] 74 (0, 0)) ∧ W.ownsRow w0.heap.size 27 1 v ss.length (ss.map (Value.int .u64)) ∧ (v = .slice none 0 0 ↔ ss = [])
  L : W.heap[l]? = some (.loop (uapRec fn sv Bs D .ready none))
  K : W.heap[D]? = some (.deferred (some []))
  below : Below w0.heap.size w0 W

theorem uap_abides (w0 : World) (fn : FuncId) (sv : Value) (Bs l D B : Nat) (hB : w0.heap.size ≤ B) : AbidesFrom B (uApAt w0 fn sv Bs l D) := fun s W W' row h hg hrow => by
  have hrow' : ∀ r, row = some r → ∃ o : Obj, W.heap[r]? = some o ∧ o.isWalk = true := fun r e => (hrow r e).2
  obtain ⟨v, hv, hr, hn⟩ := h.box
  exact ⟨⟨v, (grownBy_keeps hg hrow' hv rfl).trans hv, ownsRow_abides_a hr hg hrow', hn⟩, (grownBy_keeps hg hrow' h.L rfl).trans h.L, (grownBy_keeps hg hrow' h.K rfl).trans h.K,
    h.below.grown hg h.below.size (fun k e => Nat.le_trans hB (hrow k e).1)⟩

set_option maxRecDepth 100000 in
set_option maxHeartbeats 2000000 in
theorem uapYield (F : Fence) (m : Nat) (w0 : World) (fn : FuncId) (hfn : F.fn fn) (sv : Value) (Bs l D : Nat) (hBl : Bs ≠ l) (hDl : D ≠ l) (hDB : D ≠ Bs) (h0B : w0.heap.size ≤ Bs) (h0l : w0.heap.size ≤ l)
    (N : Nat) (hN : N ≤ maxLen) (hNb : N * 8 ≤ 140737488355328) (ss : List Int) (x : Int) (W : World) (h : uApAt w0 fn sv Bs l D ss W) (hlen : ss.length < N) :
    YieldAt F m Try.prog l #[Value.int .u64 x] W fun e W' => e = .returned (.bool true) ∧ uApAt w0 fn sv Bs l D (ss ++ [x]) W' ∧ KeepsWalks W W' := by
  obtain ⟨i0, hi, hz0, hz1, hz2⟩ := info_parts u64_info
  obtain ⟨v, hv, hrow, _⟩ := h.box
  refine ⟨fn, #[.slice none 0 0, sv, .pointer (some ⟨Bs, 0, none⟩), undef, .slice none 0 0, undef, sv, Value.int .u64 x, undef, undef, undef, undef, undef], uapAssign, uapBody, by simpa [uapRec] using run_yield (P := Try.prog) (args := #[Value.int .u64 x]) h.L rfl, roundIn_of_wpIn hfn ?_⟩
  have hl : l < W.heap.size := (Array.getElem?_eq_some_iff.1 h.L).1
  have hbr := run_beginRound (P := Try.prog) h.L rfl
  obtain ⟨W2, hW2⟩ : ∃ W2, W.putObj l (.loop { uapRec fn sv Bs D .ready none with state := .busy }) = W2 := ⟨_, rfl⟩
  rw [hW2] at hbr
  have hg2 : W.grownBy W2 (some l) := by rw [← hW2]; exact grownBy_putObj_a _ _ _
  have hk2 : KeepsWalks W W2 := by rw [← hW2]; exact KeepsWalks.putObj _ h.L rfl
  have hv2 : W2.heap[Bs]? = some (.cells #[v] 74 (0, 0)) := by rw [← hW2]; exact (World.putObj_heap_other hBl).trans hv
  have hK2 : W2.heap[D]? = some (.deferred (some [])) := by rw [← hW2]; exact (World.putObj_heap_other hDl).trans h.K
  have hL2 : W2.heap[l]? = some (.loop { uapRec fn sv Bs D .ready none with state := .busy }) := by rw [← hW2]; exact World.putObj_heap_same hl
  have hrow2 : W2.ownsRow w0.heap.size 27 1 v ss.length (ss.map (Value.int .u64)) := hrow.kept hg2 (ownsRow_ne_a hrow h.L (fun cur e => by first | cases e | exact absurd (Obj.cells.inj e).2.1 (by decide)))
  have hb2 : Below w0.heap.size w0 W2 := h.below.grown hg2 h.below.size (fun k e => by cases e; exact h0l)
  obtain ⟨hc2, hf2⟩ := cell_of_box_a hv2
  have hBlt : Bs < W2.heap.size := (Array.getElem?_eq_some_iff.1 hv2).1
  have hl2 : l < W2.heap.size := (Array.getElem?_eq_some_iff.1 hL2).1
  have hDlt : D < W2.heap.size := (Array.getElem?_eq_some_iff.1 hK2).1
  have ne_of : ∀ {j : Nat} {o : Obj}, W2.heap[j]? = some o → (∀ cur, o ≠ .cells cur 27 (0, 0)) → some j ≠ v.ownBlock := fun hj hno => by
    rcases ownsRow_ne_a hrow2 hj hno with e | e
    · rw [e]; simp
    · exact fun e' => e e'.symm
  clear hW2
  unfold uapAssign
  gi_wp2_with gi_round_op_a
  unfold uapBody
  gi_wp2_with (first
    | (gi_at_builtin; refine wpListIn_append_own _ rfl _ _ 74 rfl w0.heap.size 27 i0 (.int .u64 0) 1 8 Try.underlying74 hi hz0 hz1 hz2 rfl (by decide) _ _ _ rfl (hrow2.alloc _) ⟨W2.heap.size, 0, none⟩ 1 1 [Value.int .u64 x] rfl rfl (cell_one_new _ _ _) (by simp [Value.oneCell']) (by omega) (by omega) (by have := hb2.size; simp; omega) ?_; intro v' w3 hown' hg3 hnil3
       have hv3 : w3.heap[Bs]? = some (.cells #[v] 74 (0, 0)) := (hg3.block Bs (by simp; omega) (ne_of hv2 (fun cur e => by first | cases e | exact absurd (Obj.cells.inj e).2.1 (by decide)))).trans ((Below.heap_alloc _ _ Bs hBlt).trans hv2)
       obtain ⟨hc3, hf3⟩ := cell_of_box_a hv3
       obtain ⟨g', cap', cur', rfl, hbase', hgb', hr1, hr2, hr3, hr4⟩ : ∃ g' cap' cur', v' = .slice (some ⟨g', 0, none⟩) (ss.length + 1) cap' ∧ w0.heap.size ≤ g' ∧ w3.heap[g']? = some (.cells cur' 27 (0, 0)) ∧ ss.length + 1 ≤ cap' ∧ cap' ≤ maxLen ∧ cur'.size = cap' * 1 ∧ cur'.toList.take ((ss.length + 1) * 1) = ss.map (Value.int .u64) ++ [Value.int .u64 x] := by
         rcases hown'.2 with ⟨_, h0⟩ | h'
         · exact absurd h0 (by omega)
         · exact h'
       go_frame)
    | gi_round_op_a)
  have hg3' : (W2.alloc (.cells #[Value.int .u64 x] 27)).grownBy w3 v.ownBlock := hg3
  have hL3 : w3.heap[l]? = some (.loop { uapRec fn sv Bs D .ready none with state := .busy }) := (hg3'.block l (by simp; omega) (ne_of hL2 (fun cur e => by first | cases e | exact absurd (Obj.cells.inj e).2.1 (by decide)))).trans ((Below.heap_alloc _ _ l hl2).trans hL2)
  have hK3 : w3.heap[D]? = some (.deferred (some [])) := (hg3'.block D (by simp; omega) (ne_of hK2 (fun cur e => by first | cases e | exact absurd (Obj.cells.inj e).2.1 (by decide)))).trans ((Below.heap_alloc _ _ D hDlt).trans hK2)
  obtain ⟨w4, hw4⟩ : ∃ w4, w3.setCell ⟨Bs, 0, none⟩ (.slice (some ⟨g', 0, none⟩) (ss.length + 1) cap') = w4 := ⟨_, rfl⟩
  rw [hw4]
  have hg4 : w3.grownBy w4 (some Bs) := by rw [← hw4]; exact grownBy_setCell0_a _ _ _
  have hv4 : w4.heap[Bs]? = some (.cells #[.slice (some ⟨g', 0, none⟩) (ss.length + 1) cap'] 74 (0, 0)) := by rw [← hw4]; exact heap_setCell_box_a _ hv3
  have hL4 : w4.heap[l]? = some (.loop { uapRec fn sv Bs D .ready none with state := .busy }) := (hg4.block l (Array.getElem?_eq_some_iff.1 hL3).1 (fun e => hBl (by cases e; rfl))).trans hL3
  have hK4 : w4.heap[D]? = some (.deferred (some [])) := (hg4.block D (Array.getElem?_eq_some_iff.1 hK3).1 (fun e => hDB (by cases e; rfl))).trans hK3
  have hrow4 := hown'.kept hg4 (ownsRow_ne_a hown' hv3 (fun cur e => by first | cases e | exact absurd (Obj.cells.inj e).2.1 (by decide)))
  have hl4 : l < w4.heap.size := (Array.getElem?_eq_some_iff.1 hL4).1
  have hb3 : Below w0.heap.size w0 w3 := (hb2.alloc hb2.size _).grown hg3' (by have := hb2.size; simp; omega) (fun k e => (hrow2.lt k e).1)
  have hb4 : Below w0.heap.size w0 w4 := hb3.grown hg4 hb3.size (fun k e => by cases e; exact h0B)
  have hk4 : KeepsWalks W w4 := ((hk2.trans (KeepsWalks.alloc _ _)).trans (KeepsWalks.of_grownBy hg3' (ownsRow_not_walk_a (hrow2.alloc _)))).trans (by rw [← hw4]; exact KeepsWalks.setCell _ _ _)
  clear hw4
  refine ⟨_, _, run_endRound none hL4, rfl, ⟨⟨_, (World.putObj_heap_other hBl).trans hv4, ?_, by simp⟩, World.putObj_heap_same hl4, (World.putObj_heap_other hDl).trans hK4, hb4.grown (grownBy_putObj_a _ _ _) hb4.size (fun k e => by cases e; exact h0l)⟩, hk4.trans (KeepsWalks.putObj _ hL4 rfl)⟩
  have := hrow4.kept (grownBy_putObj_a w4 l (.loop { { uapRec fn sv Bs D .ready none with state := .busy } with state := if (none : Option Code).isNone then .ready else .done, pending := none })) (ownsRow_ne_a hrow4 hL4 (fun cur e => by first | cases e | exact absurd (Obj.cells.inj e).2.1 (by decide)))
  simpa using this


set_option maxRecDepth 100000 in
set_option maxHeartbeats 2000000 in
theorem uappendSeq_in (F : Fence) (n : Nat) (h11 : F.fn 73) (hro : F.round = none) (hn : 2 ≤ n) (g : Nat) (lb : Array Value) (hFg : F.fn g) (eg : ∀ args w, (callFunc g args).run Try.prog w = .ok (.enter g args) w)
    (S : List Int → Prop) (N : Nat) (hN : N ≤ maxLen) (hNb : N * 8 ≤ 140737488355328) (w : World) (hseq : SeqGives F (n - 1) Try.prog g lb (Value.int .u64) S N w) :
    CallsIn F n Try.prog 73 #[.slice none 0 0, .func (.func g) #[] lb] w fun e w' => ∃ (v : Value) (ss : List Int), e = .returned v ∧ S ss ∧ w'.ownsRow w.heap.size 27 1 v ss.length (ss.map (Value.int .u64)) ∧ (v = .slice none 0 0 ↔ ss = []) ∧ Below w.heap.size w w' := by
  have h1 : 1 ≤ n := by omega
  refine callsIn_of_wp_marks Try.func73 rfl h11 ?_ hro
  simp only [Try.ntmps73, List.size_toArray, List.length_cons, List.length_nil, Nat.reduceAdd, Nat.reduceSub, Array.replicate_succ, Array.replicate_zero, List.push_toArray, List.append_toArray, List.nil_append, List.cons_append]
  gi_wp2
  refine wpIn_rangeFunc ?_
  intro fn hfn
  rw [hro]
  obtain ⟨W0, hW0⟩ : ∃ W0, w.alloc (.cells #[.slice none 0 0] 74) = W0 := ⟨_, rfl⟩
  have hs0 : W0.heap.size = w.heap.size + 1 := by rw [← hW0]; simp
  have hv0 : W0.heap[w.heap.size]? = some (.cells #[.slice none 0 0] 74 (0, 0)) := by rw [← hW0]; exact World.alloc_heap_new w _
  have hb0 : Below w.heap.size w W0 := by rw [← hW0]; exact (Below.refl _ w).alloc (Nat.le_refl _) _
  rw [hW0]
  obtain ⟨W1, hW1⟩ : ∃ W1, (W0.alloc (.deferred (some []))).alloc (.loop (uapRec fn (.func (.func g) #[] lb) w.heap.size W0.heap.size .ready none)) = W1 := ⟨_, rfl⟩
  have hold : ∀ k, k < W0.heap.size → W1.heap[k]? = W0.heap[k]? := fun k hk => by
    rw [← hW1]; exact (Below.heap_alloc _ _ k (by simp; omega)).trans (Below.heap_alloc _ _ k hk)
  have hb1 : Below w.heap.size w W1 := by rw [← hW1]; exact (hb0.alloc hb0.size _).alloc (by have := hb0.size; simp; omega) _
  have hs1 : W1.heap.size = W0.heap.size + 2 := by rw [← hW1]; simp
  have hM : uApAt w fn (.func (.func g) #[] lb) w.heap.size (W0.heap.size + 1) W0.heap.size [] W1 :=
    ⟨⟨_, (hold w.heap.size (by omega)).trans hv0, ⟨rfl, .inl ⟨rfl, rfl⟩⟩, by simp⟩,
     by rw [← hW1]; have := World.alloc_heap_new (W0.alloc (.deferred (some []))) (.loop (uapRec fn (.func (.func g) #[] lb) w.heap.size W0.heap.size .ready none)); rwa [World.size_alloc] at this,
     by rw [← hW1]; exact (Below.heap_alloc _ _ _ (by simp)).trans (World.alloc_heap_new W0 _), hb1⟩
  refine ⟨W0.heap.size + 1, [{ target := .collected W0.heap.size, args := #[] }], W1, { target := .fn (.func g) lb, args := #[.func (.yield (W0.heap.size + 1)) #[] #[]] }, W1, g,
    #[.func (.yield (W0.heap.size + 1)) #[] #[]] ++ lb, W1, ?_, ?_, ?_, ?_, fun _ => h1, ?_⟩
  · rw [← hW1]; exact run_enterLoop_outer _ _ _ _ _
  · simp [resolve, go_sem]
  · intro f' hf'; simp [Target.leads] at hf'; subst hf'; exact hFg
  · simp [invoke, go_sem, eg]
  · refine (hseq (W0.heap.size + 1) (uApAt w fn (.func (.func g) #[] lb) w.heap.size (W0.heap.size + 1) W0.heap.size) W1 hb1 (uap_abides _ _ _ _ _ _ _ hb1.size)
      (fun pre x W hJ hl => uapYield F (n - 1 - 1) w fn hfn _ w.heap.size (W0.heap.size + 1) W0.heap.size (by omega) (by omega) (by omega) (Nat.le_refl _) (by omega) N hN hNb pre x W hJ hl) hM).mono ?_
    rintro e W2 ⟨⟨v0, rfl⟩, ss, hS, h2⟩
    obtain ⟨v, hv, hrow, hnil⟩ := h2.box
    have hend := run_endLoop (P := Try.prog) h2.L (by simp [uapRec])
    obtain ⟨W3, hW3⟩ : ∃ W3, W2.putObj (W0.heap.size + 1) (.loop { uapRec fn (.func (.func g) #[] lb) w.heap.size W0.heap.size .ready none with state := .exhausted }) = W3 := ⟨_, rfl⟩
    rw [hW3] at hend
    have hg3 : W2.grownBy W3 (some (W0.heap.size + 1)) := by rw [← hW3]; exact grownBy_putObj_a _ _ _
    have hv3 : W3.heap[w.heap.size]? = some (.cells #[v] 74 (0, 0)) := by rw [← hW3]; exact (World.putObj_heap_other (by omega)).trans hv
    have hK3 : W3.heap[W0.heap.size]? = some (.deferred (some [])) := by rw [← hW3]; exact (World.putObj_heap_other (by omega)).trans h2.K
    have hrow3 := hrow.kept hg3 (ownsRow_ne_a hrow h2.L (fun cur e => by first | cases e | exact absurd (Obj.cells.inj e).2.1 (by decide)))
    have hb3 : Below w.heap.size w W3 := h2.below.grown hg3 h2.below.size (fun k e => by cases e; omega)
    obtain ⟨hc3, hf3⟩ := cell_of_box_a hv3
    clear hW3
    refine ⟨none, W3, hend, ?_⟩
    gi_wp2
    rw [← hs0]
    refine ⟨by simp, .inl ⟨_, _, rfl, run_takeDeferred hK3, ?_⟩⟩
    exact ⟨_, results_tmp rfl _ _ _, v, ss, rfl, hS, hrow3.kept (grownBy_putObj_a _ _ _) (ownsRow_ne_a hrow3 hK3 (fun cur e => by first | cases e | exact absurd (Obj.cells.inj e).2.1 (by decide))), hnil, hb3.grown (grownBy_putObj_a _ _ _) hb3.size (fun k e => by cases e; omega)⟩


set_option maxHeartbeats 1000000 in
theorem ucollect_in (F : Fence) (n : Nat) (h8 : F.fn 51) (h11 : F.fn 73) (hro : F.round = none) (hn : 3 ≤ n) (g : Nat) (lb : Array Value) (hFg : F.fn g) (eg : ∀ args w, (callFunc g args).run Try.prog w = .ok (.enter g args) w)
    (S : List Int → Prop) (N : Nat) (hN : N ≤ maxLen) (hNb : N * 8 ≤ 140737488355328) (w : World) (hseq : SeqGives F (n - 1 - 1) Try.prog g lb (Value.int .u64) S N w) :
    CallsIn F n Try.prog 51 #[.func (.func g) #[] lb] w fun e w' => ∃ (v : Value) (ss : List Int), e = .returned v ∧ S ss ∧ w'.ownsRow w.heap.size 27 1 v ss.length (ss.map (Value.int .u64)) ∧ (v = .slice none 0 0 ↔ ss = []) ∧ Below w.heap.size w w' := by
  have h1 : 1 ≤ n := by omega
  refine callsIn_of_wp Try.func51 rfl h8 ?_ hro
  simp only [Try.ntmps51, List.size_toArray, List.length_cons, List.length_nil, Nat.reduceAdd, Nat.reduceSub, Array.replicate_succ, Array.replicate_zero, List.push_toArray, List.append_toArray, List.nil_append, List.cons_append]
  gi_wp2_with (gi_at_call 73; refine (uappendSeq_in F (n - 1) h11 hro (by omega) g lb hFg eg S N hN hNb _ hseq).mono ?_; rintro e w' ⟨v, ss, rfl, hS, hrow, hnil, hb⟩)
  go_ret
  exact ⟨v, ss, rfl, hS, hrow, hnil, hb⟩


end Go.Proofs.Ytchnejfdompfpaa
namespace Go.Proofs.Ytchnejfdompfpaa
open Go.RowKit Go.Sort

theorem sorted_list {d d' : Array Int} {ids : List Int} (hp : PermIn 0 d.size d d') (hs : SortedIn ltInt 0 d.size d') (hi : ids.Pairwise (· < ·)) (hq : ids.Perm d.toList) : d'.toList = ids := by
  have hsz := hp.1
  have h1 : d'.toList.Perm d.toList := by
    have := hp.2.2
    rw [Array.extract_size] at this
    rw [show d'.extract 0 d.size = d' by rw [← hsz, Array.extract_size]] at this
    exact this
  have h2 : d'.toList.Pairwise (fun x y => x ≤ y) := by
    rw [List.pairwise_iff_getElem]
    intro i j hi' hj hij
    have := hs i j (Nat.zero_le _) hij (by rw [← hsz]; simpa using hj)
    rw [getElem!_pos d' i (by simpa using hi'), getElem!_pos d' j (by simpa using hj)] at this
    unfold ltInt at this
    simp only [decide_eq_false_iff_not] at this
    simp only [Array.getElem_toList]
    omega
  exact List.Perm.eq_of_pairwise (le := fun x y => x ≤ y) (fun a b _ _ h h' => by omega) h2 (hi.imp fun h => by omega) (h1.trans hq.symm)
set_option maxHeartbeats 1000000 in
theorem insu_nil (p : Option Addr) (cap : Nat) (w : World) : Calls Try.prog 85 #[.slice p 0 cap, .int .i64 0, .int .i64 0] w fun e w' => e = .returned (.tuple #[]) ∧ w' = w := by
  go_enter Try.func85, Try.ntmps85
  go_wp2_with fail
  refine wp_loop_rounds 1 ?_
  rw [rounds_succ]
  go_wp2_with fail
  go_end0
  exact ⟨rfl, rfl⟩
set_option maxHeartbeats 1000000 in
theorem pdq_nil (p : Option Addr) (cap : Nat) (w : World) : Calls Try.prog 74 #[.slice p 0 cap, .int .i64 0, .int .i64 0, .int .i64 0] w fun e w' => e = .returned (.tuple #[]) ∧ w' = w := by
  go_enter Try.func74, Try.ntmps74
  go_wp2_with fail
  refine wp_loop_rounds 1 ?_
  rw [rounds_succ]
  go_wp2_with fail
  refine (insu_nil p cap w).mono ?_
  rintro e w' ⟨rfl, rfl⟩
  go_wp2_with fail
  exact bodyPost_ret (v := .tuple #[]) (by simp [results, Try.results74, go_sem]) rfl ⟨rfl, rfl⟩
set_option maxHeartbeats 1000000 in
theorem sortu_nil (p : Option Addr) (cap : Nat) (w : World) : Calls Try.prog 52 #[.slice p 0 cap] w fun e w' => e = .returned (.tuple #[]) ∧ w' = w := by
  have HL := Lib.hid (Try.bits_Len 0 w (by omega) (by omega))
  rw [show Lib.bitLen (0 : Int).toNat = 0 by decide +kernel] at HL
  go_enter Try.func52, Try.ntmps52
  go_wp2_with fail
  refine HL.out.mono ?_
  rintro e w' ⟨rfl, rfl⟩
  go_wp2_with fail
  refine (pdq_nil p cap _).mono ?_
  rintro e w' ⟨rfl, rfl⟩
  go_wp2_with fail
  go_end0
  exact ⟨rfl, rfl⟩
theorem own_baseU {w : World} {b1 b2 : Nat} {e : TypeId} {s : Nat} {v : Value} {n : Nat} {xs : List Value} (h : w.ownsRow b1 e s v n xs) (hb : b2 ≤ b1) : w.ownsRow b2 e s v n xs := by
  refine ⟨h.1, ?_⟩
  rcases h.2 with hn | ⟨g, cap, cur, hv, hbg, rest⟩
  · exact .inl hn
  · exact .inr ⟨g, cap, cur, hv, Nat.le_trans hb hbg, rest⟩
theorem bitLen_lt {n : Nat} (h : n < 50) : Lib.bitLen n < 100 := by
  have := Lib.bitLen_le n 6 (by omega) (by omega)
  omega
set_option maxHeartbeats 1000000 in
theorem sortu_any (blk cap : Nat) (d : Array Int) (w : World) (h : RU w blk 0 cap d) (h50 : d.size < 50) : Calls Try.prog 52 #[.slice (some ⟨blk, 0, none⟩) d.size cap] w fun e w' =>
    e = .returned (.tuple #[]) ∧ ∃ d', PermIn 0 d.size d d' ∧ SortedIn ltInt 0 d.size d' ∧ RU w' blk 0 cap d' ∧ Chg (· = blk) w w' := by
  have HL := Lib.hid (Try.bits_Len (d.size : Int) w (by omega) (by omega))
  rw [Int.toNat_natCast] at HL
  have HP := Lib.hid (pdq_all d.size blk 0 cap 0 d.size (Lib.bitLen d.size) d w h (by omega) (by omega) (Nat.zero_le _) (Nat.le_refl _) (by omega) (bitLen_lt h50) (.inl rfl))
  generalize Lib.bitLen d.size = bl at *
  go_enter Try.func52, Try.ntmps52
  clear h
  go_wp2_with fail
  refine HL.out.mono ?_
  rintro e w' ⟨rfl, rfl⟩
  go_wp2_with fail
  refine HP.out.mono ?_
  rintro e w2 ⟨rfl, d', h1, h2, h3, h4⟩
  have H := Lib.hid (show _ ∧ _ ∧ _ ∧ _ from ⟨h1, h2, h3, h4⟩)
  clear h1 h2 h3 h4
  go_wp2_with fail
  go_end0
  exact ⟨rfl, d', H.out⟩
set_option maxHeartbeats 1000000 in
/-- slices.Sorted of the numbers of a map -/
theorem sortedu_any (Bm b : Nat) (L : List (Int × Nat)) (ids : List Int) (w : World) (hm : w.cell? ⟨Bm, 0, none⟩ = some (.map (some b))) (hM : MapAt u64Way ptrV w b L) (hi : ids.Pairwise (· < ·)) (hp : ids.Perm (L.map (·.1))) (h50 : ids.length < 50) :
    Calls Try.prog 44 #[.func (.func 53) #[] #[.pointer (some ⟨Bm, 0, none⟩)]] w fun e w' => ∃ v, e = .returned v ∧
      w'.ownsRow w.heap.size 27 1 v ids.length (ids.map (Value.int .u64)) ∧ Ext w w' := by
  have hlL : L.length < 50 := by have := hp.length_eq; simp at this; omega
  have hseq : SeqGives Fence.wide (3 - 1 - 1) Try.prog 53 #[.pointer (some ⟨Bm, 0, none⟩)] (Value.int .u64) (fun ss : List Int => ss.Perm (L.map (fun p : Int × Nat => p.1))) L.length w := keys_gives Fence.wide 1 trivial rfl (Nat.le_refl _) Bm b L w (cell_lt hm) hm hM
  have HC := Lib.hid (callsIn_wide.1 (ucollect_in Fence.wide 3 trivial trivial rfl (Nat.le_refl _) _ #[.pointer (some ⟨Bm, 0, none⟩)] trivial (enters_of Try.func53 (by kernel_rfl) rfl) (fun ss : List Int => ss.Perm (L.map (fun p : Int × Nat => p.1))) L.length (by unfold maxLen; omega) (by omega) w hseq))
  clear hm hM hseq
  go_enter Try.func44, Try.ntmps44
  go_wp2_with fail
  refine HC.out.mono ?_
  rintro e w1 ⟨v, ss, rfl, hS, hO, hnil, hb⟩
  have hE := Ext.of_below hb
  have HS := Lib.hid hS
  have hsl : ss.length = ids.length := by rw [hS.length_eq, hp.length_eq]
  have HSL := Lib.hid hsl
  have HNIL := Lib.hid hnil
  clear hS hb hsl HC hnil
  rcases hO.2 with ⟨rfl, hz⟩ | ⟨gb, cap, cur, rfl, hbase, hgb, r1, r2, r3, r4⟩
  · have hss : ss = [] := List.eq_nil_of_length_eq_zero hz
    subst hss
    have hid : ids = [] := List.eq_nil_of_length_eq_zero HSL.out.symm
    subst hid
    go_wp2_with fail
    refine (sortu_nil none 0 w1).mono ?_
    rintro e w' ⟨rfl, rfl⟩
    go_wp2_with fail
    go_ret
    exact ⟨_, rfl, hO, hE⟩
  · have hR : RU w1 gb 0 cap ss.toArray := by
      refine ⟨rfl, ?_⟩
      have e1 : ss.toArray.size = ss.length := by simp
      have e2 : ss.toArray.toList.map eU = ss.map (Value.int .u64) := rfl
      rw [e1, e2]
      have hO' := hO
      refine ⟨hO'.1, ?_⟩
      exact .inr ⟨gb, cap, cur, rfl, Nat.zero_le _, hgb, r1, r2, r3, r4⟩
    have HP := Lib.hid (sortu_any gb cap ss.toArray w1 hR (by have := HSL.out; simp; omega))
    rw [show ss.toArray.size = ss.length by simp] at HP
    clear r1 r2 r3 r4 hgb hR hO
    go_wp2_with fail
    refine HP.out.mono ?_
    rintro e w2 ⟨rfl, d', h1, h2, h3, h4⟩
    have hfin : d'.toList = ids := sorted_list (d := ss.toArray) (by simpa using h1) (by simpa using h2) hi (hp.trans HS.out.symm)
    have hsz : d'.size = ids.length := by rw [← hfin]; simp
    have hown := h3.own
    rw [hfin, hsz] at hown
    have hE2 : Ext w w2 := Chg.mono (hE.chg_trans h4) (fun k hk e => by have e' : k = gb := e; omega)
    have hsl := HSL.out
    have HO : Hid (w2.ownsRow w.heap.size 27 1 (.slice (some ⟨gb, 0, none⟩) ss.length cap) ids.length (ids.map (Value.int .u64))) := Lib.hid (by
      rw [hsl]
      refine ⟨hown.1, ?_⟩
      rcases hown.2 with ⟨h0, _⟩ | ⟨g', c', cur', e', _, q⟩
      · cases h0
      · injection e' with e1 e2 e3
        injection e1 with e1
        injection e1 with e1 _ _
        subst e1
        subst e3
        exact .inr ⟨gb, cap, cur', rfl, hbase, q⟩)
    clear hfin hsz hown h1 h2 h3 h4 hsl HP
    go_wp2_with fail
    go_ret
    exact ⟨_, rfl, HO.out, hE2⟩
/-- the numbers of a catalog's blobs -/
theorem ids_any (w : World) (B c mb mn : Nat) (C : Ct) (h : CtAt w B c mb mn C) (ids : List Int) (hi : ids.Pairwise (· < ·)) (hp : ids.Perm (C.idx.map (·.1))) (h50 : ids.length < 50) :
    Calls Try.prog 28 #[.pointer (some ⟨c, 0, none⟩)] w fun e w' => ∃ v, e = .returned v ∧ w'.ownsRow w.heap.size 27 1 v ids.length (ids.map (Value.int .u64)) ∧ Ext w w' := by
  obtain ⟨c0, c1⟩ := h.c0
  have HK := Lib.hid (callsIn_wide.1 (keysU_in Fence.wide 1 trivial rfl (some mb) w))
  have hX := At.new w 60 #[.map (some mb)]
  have hE := (Ext.refl w).alloc (.cells #[.map (some mb)] 60)
  have HS := Lib.hid (sortedu_any w.heap.size mb C.idx ids (w.alloc (.cells #[.map (some mb)] 60)) (hX.cell 0) (h.bm.ext hE) hi hp h50)
  go_enter Try.func28, Try.ntmps28
  clear hi hp h50 h
  go_wp2_with fail
  refine HK.out.mono ?_
  rintro e w1 ⟨rfl, rfl⟩
  go_wp2_with fail
  refine HS.out.mono ?_
  rintro e w2 ⟨v, rfl, hO, hE2⟩
  have HO := Lib.hid (own_baseU hO (show w.heap.size ≤ _ by simp))
  have hE3 := hE.trans hE2
  clear hO hE2 hE hX
  go_wp2_with fail
  go_ret
  exact ⟨v, rfl, HO.out, hE3⟩
end Go.Proofs.Ytchnejfdompfpaa
