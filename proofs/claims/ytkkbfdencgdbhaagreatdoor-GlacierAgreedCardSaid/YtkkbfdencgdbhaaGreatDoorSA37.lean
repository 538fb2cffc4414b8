/-
  Part 37 of what the law leans on.
-/
import Derived.Test.YtkkbfdencgdbhaaGreatDoorSA25
import Derived.Test.YtkkbfdencgdbhaaGreatDoorSA27
set_option linter.unusedVariables false
set_option linter.unusedSimpArgs false
set_option linter.unusedSectionVars false
namespace Go.Proofs.YtkkbfdencgdbhaaGreatDoor
open Go.RowKit Go.Sort
def eI:Int→Value:=Value.int .i64
theorem sortI_ids{ss ids:List Int}(h:ss.Perm ids)(hi:ids.Pairwise (· < ·)):sortI ss=ids:=by
 have h1:(sortI ss).Perm ids:=(List.mergeSort_perm _ _).trans h
 have h2:(sortI ss).Pairwise (fun x y=>x≤y):=by
  have:=List.pairwise_mergeSort (le:=fun x y:Int=>decide (x≤y)) (fun a b c h h'=>by simp at *;omega) (fun a b=>by simp;omega) ss
  exact this.imp fun h=>by simpa using h
 exact List.Perm.eq_of_pairwise (le:=fun x y=>x≤y) (fun a b _ _ h h'=>by omega) h2 (hi.imp fun h=>by omega) h1
set_option maxRecDepth 100000 in
set_option maxHeartbeats 2000000 in
theorem ikeys1_in(F:Fence)(n:Nat)(hfn:F.fn 91)(hro:F.round=none)(hn:1≤n)(l Bm b:Nat)(L:List (Int×(Last×Value)))(J:List Int→World→Prop)
 (hY:∀pre x W,J pre W→pre.length<L.length→YieldAt F (n - 1) Tryz.prog l #[eI x] W fun e W'=>e=.returned (.bool true)∧J (pre++[x]) W'∧KeepsWalks W W')
 (W:World) (hJ:AbidesFrom W.heap.size J) (hm:W.cell? ⟨Bm,0,none⟩=some (.map (some b))) (hM:MapAt i64Way lastV W b L) (h0:J [] W) :
 CallsIn F n Tryz.prog 91 #[.func (.yield l) #[] #[],.pointer (some ⟨Bm,0,none⟩)] W fun e W'=>(∃v,e=.returned v)∧∃ss:List Int,ss.Perm (L.map (·.1))∧J ss W':=by
 obtain⟨w0,hrun,hR,hE⟩:=hM.range map_lasts
 have HY:=Lib.hid hY
 have HJ:=Lib.hid hJ
 clear hY hJ
 refine callsIn_of_wp Tryz.func91 rfl hfn ?_ hro
 simp only[Tryz.ntmps91,List.size_toArray,List.length_cons,List.length_nil,Nat.reduceAdd,Nat.reduceSub,Array.replicate_succ,Array.replicate_zero,List.push_toArray,List.append_toArray,List.nil_append,List.cons_append]
 gi_wp2
 have hJ0:J [] w0:=HJ.out [] W w0 none h0 hE.grown (fun r e=>by cases e)
 clear hrun h0 hm hM
 obtain⟨r,hr⟩:∃r,r=W.heap.size:=⟨_,rfl⟩
 rw[←hr]at hR⊢
 have hrg:W.heap.size≤r:=by omega
 clear hr hE
 gi_loopg [3] L.length (fun k _ wr=>∃left ss,left.length=k∧(L.map (·.1)).Perm (ss++left.map (·.1))∧RangeAt i64Way lastV wr b r L left∧J ss wr)
 case atStart=>exact⟨L,[],rfl,List.Perm.refl _,hR,hJ0⟩
 case round =>
  obtain⟨left,ss,rfl,hp,hRk,hJs⟩:=hrel
  clear hR hJ0
  have HP:=Lib.hid hp
  clear hp
  rcases hRk.next (P:=Tryz.prog) 0 with⟨rfl,hrun⟩|⟨p,left',w1,hperm,hrun,hR1,hC1,hent⟩
  ·have hrun':∀ty,(Instr.next (.pointer (some ⟨r,0,none⟩)) false ty).run Tryz.prog wr=.ok (.tuple #[.bool false]) wr:=fun _=>hrun
   clear hrun
   gi_wp2
   go_end0
   exact⟨⟨_,rfl⟩,ss,by have:=HP.out;simpa using this.symm,hJs⟩
  ·have hrun':∀ty,(Instr.next (.pointer (some ⟨r,0,none⟩)) false ty).run Tryz.prog wr=.ok (.tuple #[.bool true,.int .i64 p.1,lastV p.2]) w1:=fun _=>hrun
   have hent':(Instr.entry (.pointer (some ⟨r,0,none⟩))).run Tryz.prog w1=.ok (.tuple #[.int .i64 p.1,lastV p.2]) w1:=hent
   clear hrun hent
   have hlen:left'.length<left.length:=by have:=hperm.length_eq;simp at this;omega
   have hp2:(L.map (·.1)).Perm ((ss++[p.1])++left'.map (·.1)):=by
    refine HP.out.trans ?_
    rw[List.append_assoc]
    exact(hperm.map _).append_left ss
   have hsl:ss.length<L.length:=by have:=hp2.length_eq;simp at this;omega
   have HP2:=Lib.hid hp2
   clear hp2 hperm HP
   have hJ2:J ss w1:=HJ.out ss wr w1 (some r) hJs hC1.grown (fun r' e=>by cases e;exact⟨hrg,hRk.iter_walk⟩)
   obtain⟨fn,tmps,assign,body,hy,hRd⟩:=HY.out ss p.1 w1 hJ2 hsl
   clear hJs hRk hC1
   unfold eI at hy
   gi_wp2
   refine hRd.mono ?_
   rintro e W3 ⟨rfl,hJ3,hk3⟩
   gi_wp2
   gi_roundg left'.length
   case measure=>exact hlen
   case rel=>exact⟨left',ss++[p.1],rfl,HP2.out,hR1.walks hk3,hJ3⟩
theorem ikeys_gives(F:Fence)(n:Nat)(hfn:F.fn 91)(hro:F.round=none)(hn:1≤n)(Bm b:Nat)(L:List (Int×(Last×Value)))(w:World)(hBm:Bm<w.heap.size)
 (hm:w.cell? ⟨Bm,0,none⟩=some (.map (some b))) (hM:MapAt i64Way lastV w b L) :
 SeqGives F n Tryz.prog 91 #[.pointer (some ⟨Bm,0,none⟩)] eI (fun ss=>ss.Perm (L.map (·.1))) L.length w:=fun l J W hW hJ hY h0=>by
 have hE:Ext w W:=Ext.of_below hW
 exact ikeys1_in F n hfn hro hn l Bm b L J hY W hJ ((Ext.cell hE hBm).trans hm) (hM.ext hE) h0
set_option maxHeartbeats 1000000 in
theorem ikeysU_in(F:Fence)(n:Nat)(h7:F.fn 48)(hro:F.round=none)(mb:Option Nat)(w:World) :
 CallsIn F n Tryz.prog 48 #[.map mb] w fun e w'=>e=.returned (.func (.func 91) #[] #[.pointer (some ⟨w.heap.size,0,none⟩)])∧w'=w.alloc (.cells #[.map mb] 79):=by
 refine callsIn_of_wp Tryz.func48 rfl h7 ?_ hro
 simp only[Tryz.ntmps48,List.size_toArray,List.length_cons,List.length_nil,Nat.reduceAdd,Nat.reduceSub,Array.replicate_succ,Array.replicate_zero,List.push_toArray,List.append_toArray,List.nil_append,List.cons_append]
 gi_wp2
 go_ret
 exact⟨rfl,rfl⟩
end Go.Proofs.YtkkbfdencgdbhaaGreatDoor
namespace Go.Proofs.YtkkbfdencgdbhaaGreatDoor
open Go.RowKit Go.Maps Go.Sort Go.Shelf
def iuapAssign:Code:=(Code.region 2 #[{ dst:=some 5,op:=Op.assign (Operand.tmp 7),type:=3,pos := "iter.go:51",after:=#[],guard:=none }] false)
def iuapBody:Code:=(Code.block 1 (Code.region 3 #[{ dst:=some 8,op:=Op.load 37 (Operand.tmp 2),type:=37,pos := "iter.go:52",after:=#[],guard:=none }, { dst:=some 9,op:=Op.move (Operand.tmp 5),type:=3,pos := "iter.go:52",after:=#[],guard:=none }, { dst:=some 10,op:=Op.buildSlice 37 1 #[(0,Operand.tmp 9)],type:=37,pos := "iter.go:52",after:=#[{ on:=1,ground:=Ground.data }],guard:=none }, { dst:=some 11,op:=Op.call { callee:=Callee.builtin Builtin.append,args:=#[Operand.tmp 8,Operand.tmp 10],argTypes:=#[37,37] },type:=37,pos := "iter.go:52",after:=#[{ on:=0,ground:=Ground.data }, { on:=2,ground:=Ground.data }],guard:=none }, { dst:=none,op:=Op.store 37 (Operand.tmp 2) (Operand.tmp 11),type:=0,pos := "iter.go:52",after:=#[{ on:=3,ground:=Ground.data }, { on:=3,ground:=Ground.chain }, { on:=0,ground:=Ground.phase }, { on:=1,ground:=Ground.phase }, { on:=2,ground:=Ground.phase }, { on:=3,ground:=Ground.phase }],guard:=none }] false))
def iuapRec(fn:FuncId)(sv:Value)(Bs D:Nat)(st:LoopState)(pend:Option Code):Loop :=
 { state:=st,pending:=pend,fn,tmps:=#[.slice none 0 0,sv,.pointer (some ⟨Bs,0,none⟩),undef,.slice none 0 0,undef,sv,undef,undef,undef,undef,undef,undef],params:=#[7],assign:=iuapAssign,body:=iuapBody,defers:=D }
structure iuApAt (w0:World) (fn:FuncId) (sv:Value) (Bs l D:Nat) (ss:List Int) (W:World):Prop where
 box:∃v,W.heap[Bs]? = some (.cells #[v] 37 (0,0))∧W.ownsRow w0.heap.size 3 1 v ss.length (ss.map (Value.int .i64))∧(v=.slice none 0 0↔ss=[])
 L:W.heap[l]? = some (.loop (iuapRec fn sv Bs D .ready none))
 K:W.heap[D]? = some (.deferred (some []))
 below:Below w0.heap.size w0 W
theorem iuap_abides(w0:World)(fn:FuncId)(sv:Value)(Bs l D B:Nat)(hB:w0.heap.size≤B):AbidesFrom B (iuApAt w0 fn sv Bs l D):=fun s W W' row h hg hrow=>by
 have hrow':∀r,row=some r→∃o:Obj,W.heap[r]? = some o∧o.isWalk=true:=fun r e=>(hrow r e).2
 obtain⟨v,hv,hr,hn⟩:=h.box
 exact⟨⟨v,(grownBy_keeps hg hrow' hv rfl).trans hv,ownsRow_abides_a hr hg hrow',hn⟩,(grownBy_keeps hg hrow' h.L rfl).trans h.L,(grownBy_keeps hg hrow' h.K rfl).trans h.K,
  h.below.grown hg h.below.size (fun k e=>Nat.le_trans hB (hrow k e).1)⟩
set_option maxRecDepth 100000 in
set_option maxHeartbeats 2000000 in
theorem iuapYield(F:Fence)(m:Nat)(w0:World)(fn:FuncId)(hfn:F.fn fn)(sv:Value)(Bs l D:Nat)(hBl:Bs≠l)(hDl:D≠l)(hDB:D≠Bs)(h0B:w0.heap.size≤Bs)(h0l:w0.heap.size≤l)
 (N:Nat) (hN:N≤maxLen) (hNb:N * 8≤140737488355328) (ss:List Int) (x:Int) (W:World) (h:iuApAt w0 fn sv Bs l D ss W) (hlen:ss.length<N) :
 YieldAt F m Tryz.prog l #[Value.int .i64 x] W fun e W'=>e=.returned (.bool true)∧iuApAt w0 fn sv Bs l D (ss++[x]) W'∧KeepsWalks W W':=by
 obtain⟨i0,hi,hz0,hz1,hz2⟩:=info_parts int_info
 obtain⟨v,hv,hrow,_⟩:=h.box
 refine⟨fn,#[.slice none 0 0,sv,.pointer (some ⟨Bs,0,none⟩),undef,.slice none 0 0,undef,sv,Value.int .i64 x,undef,undef,undef,undef,undef],iuapAssign,iuapBody,by simpa[iuapRec]using run_yield (P:=Tryz.prog) (args:=#[Value.int .i64 x]) h.L rfl,roundIn_of_wpIn hfn ?_⟩
 have hl:l<W.heap.size:=(Array.getElem?_eq_some_iff.1 h.L).1
 have hbr:=run_beginRound (P:=Tryz.prog) h.L rfl
 obtain⟨W2,hW2⟩:∃W2,W.putObj l (.loop { iuapRec fn sv Bs D .ready none with state:=.busy })=W2:=⟨_,rfl⟩
 rw[hW2]at hbr
 have hg2:W.grownBy W2 (some l):=by rw[←hW2];exact grownBy_putObj_a _ _ _
 have hk2:KeepsWalks W W2:=by rw[←hW2];exact KeepsWalks.putObj _ h.L rfl
 have hv2:W2.heap[Bs]? = some (.cells #[v] 37 (0,0)):=by rw[←hW2];exact(World.putObj_heap_other hBl).trans hv
 have hK2:W2.heap[D]? = some (.deferred (some [])):=by rw[←hW2];exact(World.putObj_heap_other hDl).trans h.K
 have hL2:W2.heap[l]? = some (.loop { iuapRec fn sv Bs D .ready none with state:=.busy }):=by rw[←hW2];exact World.putObj_heap_same hl
 have hrow2:W2.ownsRow w0.heap.size 3 1 v ss.length (ss.map (Value.int .i64)):=hrow.kept hg2 (ownsRow_ne_a hrow h.L (fun cur e=>by first|cases e|exact absurd (Obj.cells.inj e).2.1 (by decide)))
 have hb2:Below w0.heap.size w0 W2:=h.below.grown hg2 h.below.size (fun k e=>by cases e;exact h0l)
 obtain⟨hc2,hf2⟩:=cell_of_box_a hv2
 have hBlt:Bs<W2.heap.size:=(Array.getElem?_eq_some_iff.1 hv2).1
 have hl2:l<W2.heap.size:=(Array.getElem?_eq_some_iff.1 hL2).1
 have hDlt:D<W2.heap.size:=(Array.getElem?_eq_some_iff.1 hK2).1
 have ne_of:∀ {j:Nat} {o:Obj},W2.heap[j]? = some o→(∀cur,o≠.cells cur 3 (0,0))→some j≠v.ownBlock:=fun hj hno=>by
  rcases ownsRow_ne_a hrow2 hj hno with e|e
  ·rw[e];simp
  ·exact fun e'=>e e'.symm
 clear hW2
 unfold iuapAssign
 gi_wp2_with gi_round_op_a
 unfold iuapBody
 gi_wp2_with (first
  | (gi_at_builtin;refine wpListIn_append_own _ rfl _ _ 37 rfl w0.heap.size 3 i0 (.int .i64 0) 1 8 Tryz.underlying37 hi hz0 hz1 hz2 rfl (by decide) _ _ _ rfl (hrow2.alloc _) ⟨W2.heap.size,0,none⟩ 1 1 [Value.int .i64 x] rfl rfl (cell_one_new _ _ _) (by simp[Value.oneCell']) (by omega) (by omega) (by have:=hb2.size;simp;omega) ?_;intro v' w3 hown' hg3 hnil3
     have hv3:w3.heap[Bs]? = some (.cells #[v] 37 (0,0)):=(hg3.block Bs (by simp;omega) (ne_of hv2 (fun cur e=>by first|cases e|exact absurd (Obj.cells.inj e).2.1 (by decide)))).trans ((Below.heap_alloc _ _ Bs hBlt).trans hv2)
     obtain⟨hc3,hf3⟩:=cell_of_box_a hv3
     obtain⟨g',cap',cur',rfl,hbase',hgb',hr1,hr2,hr3,hr4⟩:∃g' cap' cur',v'=.slice (some ⟨g',0,none⟩) (ss.length+1) cap'∧w0.heap.size≤g'∧w3.heap[g']? = some (.cells cur' 3 (0,0))∧ss.length+1≤cap'∧cap'≤maxLen∧cur'.size=cap' * 1∧cur'.toList.take ((ss.length+1) * 1)=ss.map (Value.int .i64)++[Value.int .i64 x]:=by
      rcases hown'.2 with⟨_,h0⟩|h'
      ·exact absurd h0 (by omega)
      ·exact h'
     go_frame)
  | gi_round_op_a)
 have hg3':(W2.alloc (.cells #[Value.int .i64 x] 3)).grownBy w3 v.ownBlock:=hg3
 have hL3:w3.heap[l]? = some (.loop { iuapRec fn sv Bs D .ready none with state:=.busy }):=(hg3'.block l (by simp;omega) (ne_of hL2 (fun cur e=>by first|cases e|exact absurd (Obj.cells.inj e).2.1 (by decide)))).trans ((Below.heap_alloc _ _ l hl2).trans hL2)
 have hK3:w3.heap[D]? = some (.deferred (some [])):=(hg3'.block D (by simp;omega) (ne_of hK2 (fun cur e=>by first|cases e|exact absurd (Obj.cells.inj e).2.1 (by decide)))).trans ((Below.heap_alloc _ _ D hDlt).trans hK2)
 obtain⟨w4,hw4⟩:∃w4,w3.setCell ⟨Bs,0,none⟩ (.slice (some ⟨g',0,none⟩) (ss.length+1) cap')=w4:=⟨_,rfl⟩
 rw[hw4]
 have hg4:w3.grownBy w4 (some Bs):=by rw[←hw4];exact grownBy_setCell0_a _ _ _
 have hv4:w4.heap[Bs]? = some (.cells #[.slice (some ⟨g',0,none⟩) (ss.length+1) cap'] 37 (0,0)):=by rw[←hw4];exact heap_setCell_box_a _ hv3
 have hL4:w4.heap[l]? = some (.loop { iuapRec fn sv Bs D .ready none with state:=.busy }):=(hg4.block l (Array.getElem?_eq_some_iff.1 hL3).1 (fun e=>hBl (by cases e;rfl))).trans hL3
 have hK4:w4.heap[D]? = some (.deferred (some [])):=(hg4.block D (Array.getElem?_eq_some_iff.1 hK3).1 (fun e=>hDB (by cases e;rfl))).trans hK3
 have hrow4:=hown'.kept hg4 (ownsRow_ne_a hown' hv3 (fun cur e=>by first|cases e|exact absurd (Obj.cells.inj e).2.1 (by decide)))
 have hl4:l<w4.heap.size:=(Array.getElem?_eq_some_iff.1 hL4).1
 have hb3:Below w0.heap.size w0 w3:=(hb2.alloc hb2.size _).grown hg3' (by have:=hb2.size;simp;omega) (fun k e=>(hrow2.lt k e).1)
 have hb4:Below w0.heap.size w0 w4:=hb3.grown hg4 hb3.size (fun k e=>by cases e;exact h0B)
 have hk4:KeepsWalks W w4:=((hk2.trans (KeepsWalks.alloc _ _)).trans (KeepsWalks.of_grownBy hg3' (ownsRow_not_walk_a (hrow2.alloc _)))).trans (by rw[←hw4];exact KeepsWalks.setCell _ _ _)
 clear hw4
 refine⟨_,_,run_endRound none hL4,rfl,⟨⟨_,(World.putObj_heap_other hBl).trans hv4,?_,by simp⟩,World.putObj_heap_same hl4,(World.putObj_heap_other hDl).trans hK4,hb4.grown (grownBy_putObj_a _ _ _) hb4.size (fun k e=>by cases e;exact h0l)⟩,hk4.trans (KeepsWalks.putObj _ hL4 rfl)⟩
 have:=hrow4.kept (grownBy_putObj_a w4 l (.loop { { iuapRec fn sv Bs D .ready none with state:=.busy } with state:=if(none:Option Code).isNone then .ready else .done,pending:=none })) (ownsRow_ne_a hrow4 hL4 (fun cur e=>by first|cases e|exact absurd (Obj.cells.inj e).2.1 (by decide)))
 simpa using this
set_option maxRecDepth 100000 in
set_option maxHeartbeats 2000000 in
theorem iuappendSeq_in(F:Fence)(n:Nat)(h11:F.fn 135)(hro:F.round=none)(hn:2≤n)(g:Nat)(lb:Array Value)(hFg:F.fn g)(eg:∀args w,(callFunc g args).run Tryz.prog w=.ok (.enter g args) w)
 (S:List Int→Prop) (N:Nat) (hN:N≤maxLen) (hNb:N * 8≤140737488355328) (w:World) (hseq:SeqGives F (n - 1) Tryz.prog g lb (Value.int .i64) S N w) :
 CallsIn F n Tryz.prog 135 #[.slice none 0 0,.func (.func g) #[] lb] w fun e w'=>∃(v:Value) (ss:List Int),e=.returned v∧S ss∧w'.ownsRow w.heap.size 3 1 v ss.length (ss.map (Value.int .i64))∧(v=.slice none 0 0↔ss=[])∧Below w.heap.size w w':=by
 have h1:1≤n:=by omega
 refine callsIn_of_wp_marks Tryz.func135 rfl h11 ?_ hro
 simp only[Tryz.ntmps135,List.size_toArray,List.length_cons,List.length_nil,Nat.reduceAdd,Nat.reduceSub,Array.replicate_succ,Array.replicate_zero,List.push_toArray,List.append_toArray,List.nil_append,List.cons_append]
 gi_wp2
 refine wpIn_rangeFunc ?_
 intro fn hfn
 rw[hro]
 obtain⟨W0,hW0⟩:∃W0,w.alloc (.cells #[.slice none 0 0] 37)=W0:=⟨_,rfl⟩
 have hs0:W0.heap.size=w.heap.size+1:=by rw[←hW0];simp
 have hv0:W0.heap[w.heap.size]? = some (.cells #[.slice none 0 0] 37 (0,0)):=by rw[←hW0];exact World.alloc_heap_new w _
 have hb0:Below w.heap.size w W0:=by rw[←hW0];exact(Below.refl _ w).alloc (Nat.le_refl _) _
 rw[hW0]
 obtain⟨W1,hW1⟩:∃W1,(W0.alloc (.deferred (some []))).alloc (.loop (iuapRec fn (.func (.func g) #[] lb) w.heap.size W0.heap.size .ready none))=W1:=⟨_,rfl⟩
 have hold:∀k,k<W0.heap.size→W1.heap[k]? = W0.heap[k]? := fun k hk=>by
  rw[←hW1];exact(Below.heap_alloc _ _ k (by simp;omega)).trans (Below.heap_alloc _ _ k hk)
 have hb1:Below w.heap.size w W1:=by rw[←hW1];exact(hb0.alloc hb0.size _).alloc (by have:=hb0.size;simp;omega) _
 have hs1:W1.heap.size=W0.heap.size+2:=by rw[←hW1];simp
 have hM:iuApAt w fn (.func (.func g) #[] lb) w.heap.size (W0.heap.size+1) W0.heap.size [] W1 :=
  ⟨⟨_,(hold w.heap.size (by omega)).trans hv0,⟨rfl,.inl ⟨rfl,rfl⟩⟩,by simp⟩,
   by rw[←hW1];have:=World.alloc_heap_new (W0.alloc (.deferred (some []))) (.loop (iuapRec fn (.func (.func g) #[] lb) w.heap.size W0.heap.size .ready none));rwa[World.size_alloc]at this,
   by rw[←hW1];exact(Below.heap_alloc _ _ _ (by simp)).trans (World.alloc_heap_new W0 _),hb1⟩
 refine⟨W0.heap.size+1,[{ target:=.collected W0.heap.size,args:=#[] }],W1, { target:=.fn (.func g) lb,args:=#[.func (.yield (W0.heap.size+1)) #[] #[]] },W1,g,
  #[.func (.yield (W0.heap.size+1)) #[] #[]]++lb,W1,?_,?_,?_,?_,fun _=>h1,?_⟩
 ·rw[←hW1];exact run_enterLoop_outer _ _ _ _ _
 ·simp[resolve,go_sem]
 ·intro f' hf';simp[Target.leads]at hf';subst hf';exact hFg
 ·simp[invoke,go_sem,eg]
 ·refine(hseq (W0.heap.size+1) (iuApAt w fn (.func (.func g) #[] lb) w.heap.size (W0.heap.size+1) W0.heap.size) W1 hb1 (iuap_abides _ _ _ _ _ _ _ hb1.size)
   (fun pre x W hJ hl=>iuapYield F (n - 1 - 1) w fn hfn _ w.heap.size (W0.heap.size+1) W0.heap.size (by omega) (by omega) (by omega) (Nat.le_refl _) (by omega) N hN hNb pre x W hJ hl) hM).mono ?_
  rintro e W2 ⟨⟨v0,rfl⟩,ss,hS,h2⟩
  obtain⟨v,hv,hrow,hnil⟩:=h2.box
  have hend:=run_endLoop (P:=Tryz.prog) h2.L (by simp[iuapRec])
  obtain⟨W3,hW3⟩:∃W3,W2.putObj (W0.heap.size+1) (.loop { iuapRec fn (.func (.func g) #[] lb) w.heap.size W0.heap.size .ready none with state:=.exhausted })=W3:=⟨_,rfl⟩
  rw[hW3]at hend
  have hg3:W2.grownBy W3 (some (W0.heap.size+1)):=by rw[←hW3];exact grownBy_putObj_a _ _ _
  have hv3:W3.heap[w.heap.size]? = some (.cells #[v] 37 (0,0)):=by rw[←hW3];exact(World.putObj_heap_other (by omega)).trans hv
  have hK3:W3.heap[W0.heap.size]? = some (.deferred (some [])):=by rw[←hW3];exact(World.putObj_heap_other (by omega)).trans h2.K
  have hrow3:=hrow.kept hg3 (ownsRow_ne_a hrow h2.L (fun cur e=>by first|cases e|exact absurd (Obj.cells.inj e).2.1 (by decide)))
  have hb3:Below w.heap.size w W3:=h2.below.grown hg3 h2.below.size (fun k e=>by cases e;omega)
  obtain⟨hc3,hf3⟩:=cell_of_box_a hv3
  clear hW3
  refine⟨none,W3,hend,?_⟩
  gi_wp2
  rw[←hs0]
  refine⟨by simp,.inl ⟨_,_,rfl,run_takeDeferred hK3,?_⟩⟩
  exact⟨_,results_tmp rfl _ _ _,v,ss,rfl,hS,hrow3.kept (grownBy_putObj_a _ _ _) (ownsRow_ne_a hrow3 hK3 (fun cur e=>by first|cases e|exact absurd (Obj.cells.inj e).2.1 (by decide))),hnil,hb3.grown (grownBy_putObj_a _ _ _) hb3.size (fun k e=>by cases e;omega)⟩
set_option maxHeartbeats 1000000 in
theorem iucollect_in(F:Fence)(n:Nat)(h8:F.fn 90)(h11:F.fn 135)(hro:F.round=none)(hn:3≤n)(g:Nat)(lb:Array Value)(hFg:F.fn g)(eg:∀args w,(callFunc g args).run Tryz.prog w=.ok (.enter g args) w)
 (S:List Int→Prop) (N:Nat) (hN:N≤maxLen) (hNb:N * 8≤140737488355328) (w:World) (hseq:SeqGives F (n - 1 - 1) Tryz.prog g lb (Value.int .i64) S N w) :
 CallsIn F n Tryz.prog 90 #[.func (.func g) #[] lb] w fun e w'=>∃(v:Value) (ss:List Int),e=.returned v∧S ss∧w'.ownsRow w.heap.size 3 1 v ss.length (ss.map (Value.int .i64))∧(v=.slice none 0 0↔ss=[])∧Below w.heap.size w w':=by
 have h1:1≤n:=by omega
 refine callsIn_of_wp Tryz.func90 rfl h8 ?_ hro
 simp only[Tryz.ntmps90,List.size_toArray,List.length_cons,List.length_nil,Nat.reduceAdd,Nat.reduceSub,Array.replicate_succ,Array.replicate_zero,List.push_toArray,List.append_toArray,List.nil_append,List.cons_append]
 gi_wp2_with (gi_at_call 135;refine(iuappendSeq_in F (n - 1) h11 hro (by omega) g lb hFg eg S N hN hNb _ hseq).mono ?_;rintro e w' ⟨v,ss,rfl,hS,hrow,hnil,hb⟩)
 go_ret
 exact⟨v,ss,rfl,hS,hrow,hnil,hb⟩
end Go.Proofs.YtkkbfdencgdbhaaGreatDoor
namespace Go.Proofs.YtkkbfdencgdbhaaGreatDoor
open Go.RowKit Go.Sort
set_option maxHeartbeats 1000000 in
theorem isortedu_any(Bm b:Nat)(L:List (Int×(Last×Value)))(ids:List Int)(w:World)(hm:w.cell? ⟨Bm,0,none⟩=some (.map (some b)))(hM:MapAt i64Way lastV w b L)(hi:ids.Pairwise (· < ·))(hp:ids.Perm (L.map (·.1)))(h50:ids.length≤100000) :
 Calls Tryz.prog 47 #[.func (.func 91) #[] #[.pointer (some ⟨Bm,0,none⟩)]] w fun e w'=>∃v,e=.returned v ∧
  w'.ownsRow w.heap.size 3 1 v ids.length (ids.map (Value.int .i64))∧Ext w w':=by
 have hlL:L.length≤100000:=by have:=hp.length_eq;simp at this;omega
 have hseq:SeqGives Fence.wide (3 - 1 - 1) Tryz.prog 91 #[.pointer (some ⟨Bm,0,none⟩)] (Value.int .i64) (fun ss:List Int=>ss.Perm (L.map (fun p:Int×(Last×Value)=>p.1))) L.length w:=ikeys_gives Fence.wide 1 trivial rfl (Nat.le_refl _) Bm b L w (cell_lt hm) hm hM
 have HC:=Lib.hid (callsIn_wide.1 (iucollect_in Fence.wide 3 trivial trivial rfl (Nat.le_refl _) _ #[.pointer (some ⟨Bm,0,none⟩)] trivial (enters_of Tryz.func91 (by kernel_rfl) rfl) (fun ss:List Int=>ss.Perm (L.map (fun p:Int×(Last×Value)=>p.1))) L.length (by unfold maxLen;omega) (by omega) w hseq))
 clear hm hM hseq
 go_enter Tryz.func47,Tryz.ntmps47
 go_wp2_with fail
 refine HC.out.mono ?_
 rintro e w1 ⟨v,ss,rfl,hS,hO,hnil,hb⟩
 have hE:=Ext.of_below hb
 have HS:=Lib.hid hS
 have hsl:ss.length=ids.length:=by rw[hS.length_eq,hp.length_eq]
 have HSL:=Lib.hid hsl
 have HNIL:=Lib.hid hnil
 clear hS hb hsl HC hnil
 rcases hO.2 with⟨rfl,hz⟩|⟨gb,cap,cur,rfl,hbase,hgb,r1,r2,r3,r4⟩
 ·have hss:ss=[]:=List.eq_nil_of_length_eq_zero hz
  subst hss
  have hid:ids=[]:=List.eq_nil_of_length_eq_zero HSL.out.symm
  subst hid
  go_wp2_with fail
  refine(sort_own (w:=w1) (zs:=[]) hO (by decide)).mono ?_
  rintro e w' ⟨rfl,hO2,hC⟩
  have hE2:Ext w w':=Chg.mono (hE.chg_trans hC) (fun k hk e=>by cases e)
  go_wp2_with fail
  go_ret
  exact⟨_,rfl,by simpa[sortI]using hO2,hE2⟩
 ·have HP:=Lib.hid (sort_own (w:=w1) (zs:=ss) hO (by have:=HSL.out;omega))
  have hfin:sortI ss=ids:=sortI_ids (HS.out.trans hp.symm) hi
  have hids:=HSL.out
  rw[hfin,hids]at HP
  clear r1 r2 r3 r4 hgb hO
  rw[hids]
  go_wp2_with fail
  refine HP.out.mono ?_
  rintro e w2 ⟨rfl,hO2,hC⟩
  have hE2:Ext w w2:=Chg.mono (hE.chg_trans hC) (fun k hk e=>by have e2:some k=some gb:=e;injection e2 with e2;omega)
  clear HP
  go_wp2_with fail
  go_ret
  exact⟨_,rfl,hO2,hE2⟩
end Go.Proofs.YtkkbfdencgdbhaaGreatDoor
