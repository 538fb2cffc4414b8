/-
  Part 21 of what the law leans on.
-/
import Derived.Test.YtiojjokfeknhcaaGreatSC6
import Derived.Test.YtiojjokfeknhcaaGreatSC14
import Derived.Test.YtiojjokfeknhcaaGreatSC15
import Derived.Test.YtiojjokfeknhcaaGreatSC20
namespace Go.Proofs.YtiojjokfeknhcaaGreat
set_option maxRecDepth 100000
set_option maxHeartbeats 8000000
set_option linter.unusedVariables false
set_option linter.unusedSimpArgs false
set_option linter.unusedSectionVars false
open _root_.Go.Proofs.Tryz
open Go.ChangeShapes Go.WideShapes Go.ChangeAt Go.RowKit
theorem qJd{H:Type}{enc:TypeId×Value→H}{W:World}{k:Nat}{v:Value}{y:DataW H×List MemPlace}
 (hf:DataW.trod enc prog W 0 (fun _=>true) true k 23 [v]=some y) :
 ∃l:List Spot,(Sln W v 2 (l.map Spot.cells)∧∃A c,v=.slice A (l.map Spot.cells).length c∧(l.map Spot.cells).length≤c∧c≤maxLen∧(A=none→c=0))∧(∀x∈l,x.Ok)∧l.length≤maxLen:=by
 rcases Go.Deep.open_slice underlying23 hf with⟨hcs,_⟩|⟨a,len,cap,m,n,D,Pl,hcs,_,hl,hm,hmm,_,hx⟩
 ·simp only[List.cons.injEq,and_true]at hcs;rw[hcs];exact⟨[],⟨⟨none,0,rfl,fun h=>absurd rfl h⟩,none,0,rfl,Nat.le_refl _,Nat.zero_le _,fun _=>rfl⟩,by simp,Nat.zero_le _⟩
 ·simp only[List.cons.injEq,and_true]at hcs;rw[hcs];have hlm:len≤m:=by rw[hmm];split <;> omega
  have each:∀i,i<len→∃x:Spot,(∀(j:Nat) (u:Value),x.cells[j]? = some u→W.cell? (a.add (i * 2+j))=some u)∧x.Ok:=fun i hi=>by
   obtain⟨cs',h1,h2⟩:=hx i (by omega);rw[show prog.cellsOf 55=2 by kernel_rfl]at h1;obtain⟨_,hlen,hcell⟩:=World.cells?_some h1;obtain⟨x,rfl,hok⟩:=one_spot h2;refine⟨x,fun j u hj=>?_,hok⟩
   have hj7:j<2:=by
    have:=(List.getElem?_eq_some_iff.1 hj).1
    exact this
   have:=hcell j hj7
   rw[Go.Deep.add_add]at this;rw[this,hj]
  haveI:Inhabited Spot:=⟨⟨false,0⟩⟩
  obtain⟨f,hfx⟩:=Go.Deep.choose_lt each;refine⟨(List.range len).map f,⟨⟨some a,cap,by simp,fun hne=>?_⟩,some a,cap,by simp,by simp;omega,by omega,fun h=>by cases h⟩,?_,by simp;omega⟩
  ·have hpos:0<len:=by
    rcases Nat.eq_zero_or_pos len with h0|h0
    ·subst h0;exact absurd rfl hne
    ·exact h0
   obtain⟨b,off,spot⟩:=a
   have hspot:spot=none:=by
    have:=(hfx 0 hpos).1 0 _ rfl
    simpa[Addr.add]using World.cell?_spot this
   subst hspot;refine⟨b,off,rfl,fun i row hi j u hj=>?_⟩
   rw[List.map_map,List.getElem?_map]at hi
   by_cases hlt:i<len
   ·rw[List.getElem?_range hlt]at hi;simp only[Option.map_some,Option.some.injEq,Function.comp_apply]at hi;subst hi
    have:=(hfx i hlt).1 j u hj
    rw[Go.WideShapes.add_plain]at this;rw[Nat.add_assoc];exact this
   ·rw[List.getElem?_eq_none (by simpa using hlt)]at hi;cases hi
  ·intro x hx;obtain⟨i,hi,rfl⟩:=List.mem_map.1 hx;exact(hfx i (List.mem_range.1 hi)).2
theorem qJe{H:Type}{enc:TypeId×Value→H}{W:World}{k:Nat}{v:Value}{y:DataW H×List MemPlace}
 (hf:DataW.trod enc prog W 0 (fun _=>true) true k 25 [v]=some y):∃l:List Bool,SlC W v (l.map Value.bool):=by
 suffices h:∃l:List Bool,Sl W v (l.map Value.bool)∧∃A c,v=.slice A l.length c∧l.length≤c∧c≤maxLen by
  obtain⟨l,h1,h2⟩:=h;exact⟨l,h1,by rw[List.length_map];exact h2⟩
 rcases Go.Deep.open_slice underlying25 hf with⟨hcs,_⟩|⟨a,len,cap,m,n,D,Pl,hcs,_,hl,hm,hmm,_,hx⟩
 ·simp only[List.cons.injEq,and_true]at hcs;rw[hcs];exact⟨[],Sl.nil _ _,_,_,rfl,Nat.le_refl _,Nat.zero_le _⟩
 ·simp only[List.cons.injEq,and_true]at hcs;rw[hcs];have hlm:len≤m:=by rw[hmm];split <;> omega
  have each:∀i,i<len→∃x:Bool,W.cell? (a.add i)=some (.bool x):=fun i hi=>by
   obtain⟨cs',h1,h2⟩:=hx i (by omega);rw[show prog.cellsOf 4=1 by kernel_rfl]at h1;obtain⟨_,hlen,hcell⟩:=World.cells?_some h1;obtain⟨x,e0,_⟩:=DataW.trod_bool underlying4 h2
   have:=hcell 0 (by omega)
   rw[Go.Deep.add_add,Nat.mul_one,Nat.add_zero]at this;exact⟨x,by rw[this,e0];rfl⟩
  obtain⟨f,hfx⟩:=Go.Deep.choose_lt each;refine⟨(List.range len).map f,⟨some a,cap,by simp,fun hne=>?_⟩,some a,cap,by simp,by simp;omega,by omega⟩
  have hpos:0<len:=by
   rcases Nat.eq_zero_or_pos len with h0|h0
   ·subst h0;exact absurd rfl hne
   ·exact h0
  obtain⟨b,off,spot⟩:=a
  have hspot:spot=none:=by
   have:=hfx 0 hpos
   simpa[Addr.add]using World.cell?_spot this
  subst hspot;refine⟨b,off,rfl,fun i u hi=>?_⟩
  rw[List.map_map,List.getElem?_map]at hi
  by_cases hlt:i<len
  ·rw[List.getElem?_range hlt]at hi;simp only[Option.map_some,Option.some.injEq,Function.comp_apply]at hi;subst hi
   have:=hfx i hlt
   rw[Go.WideShapes.add_plain]at this;exact this
  ·rw[List.getElem?_eq_none (by simpa using hlt)]at hi;cases hi
theorem open_world{H:Type}{enc:TypeId×Value→H}{W:World}{r:Reach}{b0:Nat}{v:Value}{d:DataW H}{p:List MemPlace}
 (hv:Value.okWide prog W r b0 27 v) (h:DataW.Trod enc prog W 0 (fun _=>true) true 27 v d p) :
 ∃(dv vv iv ldv lvv:Value) (dl vl:List Spot) (il:List Int) (ldl lvl:List Bool) (cp kp pc rs:Int),v=.agg #[dv,vv,iv,ldv,lvv,.int .i64 cp,.int .i64 kp,.int .i64 pc,.int .i64 rs]∧SlnC W dv 2 (dl.map Spot.cells)∧SlnC W vv 2 (vl.map Spot.cells)∧SlC W iv (il.map (Value.int .i64))∧SlC W ldv (ldl.map Value.bool)∧SlC W lvv (lvl.map Value.bool):=by
 obtain⟨cs,rfl,hsz⟩:=okWide_struct underlying27 hv;obtain⟨fuel,hf0⟩:=h;obtain⟨xs,k,_,hx,hl,hxl,hf⟩:=DataW.trod_struct underlying27 hf0;rw[show prog.cellsOf 27=9 by kernel_rfl]at hl;obtain⟨l⟩:=cs;have hl':l.length=9:=hl
 match l,hl' with
 | [v0,v1,v2,v3,v4,v5,v6,v7,v8],_ =>
  have get:∀i:Nat,i<9→∃y,xs[i]? = some y:=fun i hi=>⟨xs[i]'(by rw[hxl];exact hi),List.getElem?_eq_getElem _⟩
  obtain⟨y0,g0⟩:=get 0 (by omega);obtain⟨y1,g1⟩:=get 1 (by omega);obtain⟨y2,g2⟩:=get 2 (by omega);obtain⟨y3,g3⟩:=get 3 (by omega);obtain⟨y4,g4⟩:=get 4 (by omega);obtain⟨y5,g5⟩:=get 5 (by omega);obtain⟨y6,g6⟩:=get 6 (by omega);obtain⟨y7,g7⟩:=get 7 (by omega);obtain⟨y8,g8⟩:=get 8 (by omega);generalize hfs:(#[_,_,_,_,_,_,_,_,_]:Array Field)=fs at hf hxl
  have key:∀(i t o:Nat),(∃f,fs[i]? = some f∧f.type=t∧f.offset=o)→prog.cellsOf t=1→DataW.trod enc prog W 0 (fun _=>true) true k t (([v0,v1,v2,v3,v4,v5,v6,v7,v8].drop o).take 1)=xs[i]? := by
   rintro i t o ⟨f,hi,rfl,rfl⟩ hc;rw[←hc];exact hf i f hi
  subst hfs;have f0:DataW.trod enc prog W 0 (fun _=>true) true k 23 [v0]=some y0:=(key 0 23 0 ⟨_,rfl,rfl,rfl⟩ (by kernel_rfl)).trans g0;have f1:DataW.trod enc prog W 0 (fun _=>true) true k 23 [v1]=some y1:=(key 1 23 1 ⟨_,rfl,rfl,rfl⟩ (by kernel_rfl)).trans g1;have f2:DataW.trod enc prog W 0 (fun _=>true) true k 24 [v2]=some y2:=(key 2 24 2 ⟨_,rfl,rfl,rfl⟩ (by kernel_rfl)).trans g2;have f3:DataW.trod enc prog W 0 (fun _=>true) true k 25 [v3]=some y3:=(key 3 25 3 ⟨_,rfl,rfl,rfl⟩ (by kernel_rfl)).trans g3;have f4:DataW.trod enc prog W 0 (fun _=>true) true k 25 [v4]=some y4:=(key 4 25 4 ⟨_,rfl,rfl,rfl⟩ (by kernel_rfl)).trans g4;have f5:DataW.trod enc prog W 0 (fun _=>true) true k 3 [v5]=some y5:=(key 5 3 5 ⟨_,rfl,rfl,rfl⟩ (by kernel_rfl)).trans g5;have f6:DataW.trod enc prog W 0 (fun _=>true) true k 3 [v6]=some y6:=(key 6 3 6 ⟨_,rfl,rfl,rfl⟩ (by kernel_rfl)).trans g6;have f7:DataW.trod enc prog W 0 (fun _=>true) true k 3 [v7]=some y7:=(key 7 3 7 ⟨_,rfl,rfl,rfl⟩ (by kernel_rfl)).trans g7;have f8:DataW.trod enc prog W 0 (fun _=>true) true k 3 [v8]=some y8:=(key 8 3 8 ⟨_,rfl,rfl,rfl⟩ (by kernel_rfl)).trans g8;obtain⟨l0,h0,_⟩:=qJd f0;obtain⟨l1,h1,_⟩:=qJd f1;obtain⟨l2,h2,_⟩:=qJq underlying24 underlying3 (by kernel_rfl) f2;obtain⟨l3,h3⟩:=qJe f3;obtain⟨l4,h4⟩:=qJe f4;obtain⟨a5,e5,_,w5⟩:=DataW.trod_int underlying3 f5;obtain⟨a6,e6,_,w6⟩:=DataW.trod_int underlying3 f6;obtain⟨a7,e7,_,w7⟩:=DataW.trod_int underlying3 f7;obtain⟨a8,e8,_,w8⟩:=DataW.trod_int underlying3 f8;simp only[List.cons.injEq,and_true]at e5 e6 e7 e8;subst e5 e6 e7 e8;exact⟨v0,v1,v2,v3,v4,l0,l1,l2,l3,l4,a5,a6,a7,a8,rfl,h0,h1,h2,h3,h4⟩
open Go.RowKit Go.Sort
section
variable{P:Program}{o:Oper}{a:Act}
end
end Go.Proofs.YtiojjokfeknhcaaGreat
