/-
  Part 28 of what the law leans on.
-/
import Derived.Test.YtkkbfdencgdbhaaGreatDoorSA1
import Derived.Test.YtkkbfdencgdbhaaGreatDoorSA2
import Derived.Test.YtkkbfdencgdbhaaGreatDoorSA15
import Derived.Test.YtkkbfdencgdbhaaGreatDoorChecked
import Derived.BigQuiet
import Derived.WalkSpells
import Derived.WalkLawsBesides
import Derived.ProofKit
import Derived.OpenShut
import Derived.SliceStrings
import Derived.Deep.Slices
import Derived.SizedLaws
set_option linter.unusedVariables false
set_option linter.unusedSimpArgs false
set_option linter.unusedSectionVars false
namespace Go.Proofs.YtkkbfdencgdbhaaGreatDoor
open Go.RowKit
def cut(s:ByteArray)(n:Nat):ByteArray:=if n<s.size then s.extract 0 n else s
theorem cut_size(s:ByteArray)(n:Nat):(cut s n).size≤n:=by
 unfold cut;split
 ·simp only[ByteArray.size_extract];omega
 ·omega
theorem cut_any(s:ByteArray)(n:Nat)(w:World)(_hs:s.size≤maxLen)(hn:n≤1000000):Calls Tryz.prog 34 #[.string s,.int .i64 n] w fun e w'=>e=.returned (.string (cut s n))∧w'=w:=by
 unfold maxLen at _hs
 by_cases h:n<s.size
 ·have e:cut s n=s.extract 0 n:=if_pos h
  go_enter Tryz.func34,Tryz.ntmps34
  go_wp2_with fail
  go_ret
  rw[e]
  exact⟨rfl,rfl⟩
 ·have e:cut s n=s:=if_neg h
  go_enter Tryz.func34,Tryz.ntmps34
  go_wp2_with fail
  go_ret
  rw[e]
  exact⟨rfl,rfl⟩
end Go.Proofs.YtkkbfdencgdbhaaGreatDoor
namespace Go.Proofs.YtkkbfdencgdbhaaGreatDoor
open Go.ChangeShapes Go.WideShapes Go.ChangeAt Go.RowKit
def SlC(w:World)(v:Value)(xs:List Value):Prop:=Sl w v xs∧∃A c,v=.slice A xs.length c∧xs.length≤c∧c≤maxLen
section
variable{H:Type}{enc:TypeId×Value→H}{P:Program}{W:World}
end
end Go.Proofs.YtkkbfdencgdbhaaGreatDoor
namespace Go.Proofs.YtkkbfdencgdbhaaGreatDoor
open Go.ChangeShapes Go.WideShapes Go.ChangeAt Go.RowKit
theorem i64s_of_trod{H:Type}{enc:TypeId×Value→H}{P:Program}{W:World}{k:Nat}{t e:TypeId}{v:Value}{y:DataW H×List MemPlace}(ht:P.underlying t=some (.slice e))(he:P.underlying e=some (.int .i64))(hc:P.cellsOf e=1)
 (h:DataW.trod enc P W 0 (fun _=>true) true k t [v]=some y) :
 ∃zs:List Int,SlC W v (zs.map (Value.int .i64))∧(∀x∈zs, -9223372036854775808≤x∧x≤9223372036854775807)∧zs.length≤maxLen∧((∀n∈y.1.weights P t,n≤reachBytes)→zs.length * P.bytesOf e≤reachBytes):=by
 rcases open_ints ht he hc h with⟨hcs,_⟩|⟨a,len,cap,zs,hcs,_,hl,hm,hz,hxy,hcell,hwz⟩
 ·simp only[List.cons.injEq,and_true]at hcs
  rw[hcs]
  exact⟨[],⟨Sl.nil _ _,_,_,rfl,Nat.le_refl _,Nat.zero_le _⟩,by simp,Nat.zero_le _,fun _=>by simp⟩
 ·simp only[List.cons.injEq,and_true]at hcs
  rw[hcs]
  simp only[if_true]at hz
  have hll:(zs.take len).length=len:=by rw[List.length_take];omega
  refine⟨zs.take len,⟨⟨some a,cap,by rw[List.length_map,hll],fun hne=>?_⟩,some a,cap,by rw[List.length_map,hll],by rw[List.length_map,hll];omega,by omega⟩,fun x hx=>bounds_i64 (hwz x (List.mem_of_mem_take hx)),by omega,fun hw=>?_⟩
  rotate_left
  ·have h1:=hw ((lits .i64 (zs.take len) (H:=H)).length * P.bytesOf e+(lits .i64 (zs.drop len) (H:=H)).length * P.bytesOf e) (by rw[hxy];simp[DataW.weights,ht,Nat.add_mul])
   have h2:(zs.take len).length * P.bytesOf e≤(lits .i64 (zs.take len) (H:=H)).length * P.bytesOf e:=by simp[lits]
   omega
  have hpos:0<zs.length:=by
   rcases Nat.eq_zero_or_pos zs.length with h0|h0
   ·exact absurd (by rw[List.eq_nil_of_length_eq_zero h0];simp) hne
   ·exact h0
  obtain⟨b,off,rfl,hat⟩:=ints_at hcell hpos
  refine⟨b,off,rfl,fun i x hi=>?_⟩
  rw[List.getElem?_map,List.getElem?_take]at hi
  split at hi
  ·rename_i hlt
   have:=hat i (by omega)
   rw[this]
   have hg:zs[i]? = some (zs.getD i 0):=by
    rw[List.getD_eq_getElem?_getD,List.getElem?_eq_getElem (by omega)];rfl
   rw[hg]at hi
   simpa using hi
  ·simp at hi
def Cmd.cells(c:Cmd)(dv:Value):List Value:=[.int .i64 c.kind,.int .i64 c.client,.int .i64 c.seq,.string c.name,.int .u64 (c.blob:Int),.int .i64 c.size,.int .u32 (c.sum:Int),dv,.int .i64 c.pool,.int .i64 c.vol,.int .i64 c.at_]
structure Cmd.In (c:Cmd) (dv:Value) (W:World):Prop where
 wf:c.Wf
 sl:SlC W dv (c.disks.map (Value.int .i64))
 nm:c.name.size≤maxLen
 dl:c.disks.length≤maxLen
set_option maxRecDepth 100000 in
theorem one_cmd{H:Type}{enc:TypeId×Value→H}{W:World}{n:Nat}{cs:List Value}{x:DataW H×List MemPlace}
 (h:DataW.trod enc Tryz.prog W 0 (fun _=>true) true n 39 cs=some x):∃(c:Cmd) (dv:Value),cs=c.cells dv∧c.In dv W∧((∀n∈x.1.weights Tryz.prog 39,n≤reachBytes)→c.disks.length≤17592186043904):=by
 obtain⟨xs,k,_,hx,hl,hxl,hf⟩:=DataW.trod_struct Tryz.underlying39 h
 rw[show Tryz.prog.cellsOf 39=11 by kernel_rfl]at hl
 match cs,hl with
 | [v0,v1,v2,v3,v4,v5,v6,v7,v8,v9,v10],_ =>
  have get:∀i:Nat,i<11→∃y,xs[i]? = some y:=fun i hi=>⟨xs[i]'(by rw[hxl];exact hi),List.getElem?_eq_getElem _⟩
  obtain⟨y0,g0⟩:=get 0 (by omega)
  obtain⟨y1,g1⟩:=get 1 (by omega)
  obtain⟨y2,g2⟩:=get 2 (by omega)
  obtain⟨y3,g3⟩:=get 3 (by omega)
  obtain⟨y4,g4⟩:=get 4 (by omega)
  obtain⟨y5,g5⟩:=get 5 (by omega)
  obtain⟨y6,g6⟩:=get 6 (by omega)
  obtain⟨y7,g7⟩:=get 7 (by omega)
  obtain⟨y8,g8⟩:=get 8 (by omega)
  obtain⟨y9,g9⟩:=get 9 (by omega)
  obtain⟨y10,g10⟩:=get 10 (by omega)
  generalize hfs:(#[_,_,_,_,_,_,_,_,_,_,_]:Array Field)=fs at hf hxl
  have key:∀(i t o:Nat),(∃f,fs[i]? = some f∧f.type=t∧f.offset=o)→Tryz.prog.cellsOf t=1→DataW.trod enc Tryz.prog W 0 (fun _=>true) true k t (([v0,v1,v2,v3,v4,v5,v6,v7,v8,v9,v10].drop o).take 1)=xs[i]? := by
   rintro i t o ⟨f,hi,rfl,rfl⟩ hc
   rw[←hc]
   exact hf i f hi
  subst hfs
  have f0:DataW.trod enc Tryz.prog W 0 (fun _=>true) true k 3 [v0]=some y0:=(key 0 3 0 ⟨_,rfl,rfl,rfl⟩ (by kernel_rfl)).trans g0
  have f1:DataW.trod enc Tryz.prog W 0 (fun _=>true) true k 3 [v1]=some y1:=(key 1 3 1 ⟨_,rfl,rfl,rfl⟩ (by kernel_rfl)).trans g1
  have f2:DataW.trod enc Tryz.prog W 0 (fun _=>true) true k 3 [v2]=some y2:=(key 2 3 2 ⟨_,rfl,rfl,rfl⟩ (by kernel_rfl)).trans g2
  have f3:DataW.trod enc Tryz.prog W 0 (fun _=>true) true k 9 [v3]=some y3:=(key 3 9 3 ⟨_,rfl,rfl,rfl⟩ (by kernel_rfl)).trans g3
  have f4:DataW.trod enc Tryz.prog W 0 (fun _=>true) true k 30 [v4]=some y4:=(key 4 30 4 ⟨_,rfl,rfl,rfl⟩ (by kernel_rfl)).trans g4
  have f5:DataW.trod enc Tryz.prog W 0 (fun _=>true) true k 3 [v5]=some y5:=(key 5 3 5 ⟨_,rfl,rfl,rfl⟩ (by kernel_rfl)).trans g5
  have f6:DataW.trod enc Tryz.prog W 0 (fun _=>true) true k 31 [v6]=some y6:=(key 6 31 6 ⟨_,rfl,rfl,rfl⟩ (by kernel_rfl)).trans g6
  have f7:DataW.trod enc Tryz.prog W 0 (fun _=>true) true k 37 [v7]=some y7:=(key 7 37 7 ⟨_,rfl,rfl,rfl⟩ (by kernel_rfl)).trans g7
  have f8:DataW.trod enc Tryz.prog W 0 (fun _=>true) true k 3 [v8]=some y8:=(key 8 3 8 ⟨_,rfl,rfl,rfl⟩ (by kernel_rfl)).trans g8
  have f9:DataW.trod enc Tryz.prog W 0 (fun _=>true) true k 3 [v9]=some y9:=(key 9 3 9 ⟨_,rfl,rfl,rfl⟩ (by kernel_rfl)).trans g9
  have f10:DataW.trod enc Tryz.prog W 0 (fun _=>true) true k 3 [v10]=some y10:=(key 10 3 10 ⟨_,rfl,rfl,rfl⟩ (by kernel_rfl)).trans g10
  obtain⟨a0,e0,_,w0⟩:=DataW.trod_int Tryz.underlying3 f0
  obtain⟨a1,e1,_,w1⟩:=DataW.trod_int Tryz.underlying3 f1
  obtain⟨a2,e2,_,w2⟩:=DataW.trod_int Tryz.underlying3 f2
  obtain⟨a3,e3,_,w3⟩:=DataW.trod_string Tryz.underlying9 f3
  obtain⟨a4,e4,_,w4⟩:=DataW.trod_int Tryz.underlying30 f4
  obtain⟨a5,e5,_,w5⟩:=DataW.trod_int Tryz.underlying3 f5
  obtain⟨a6,e6,_,w6⟩:=DataW.trod_int Tryz.underlying31 f6
  obtain⟨zs,hz1,hz2,hz3,hz4⟩:=i64s_of_trod Tryz.underlying37 Tryz.underlying3 (by kernel_rfl) f7
  obtain⟨a8,e8,_,w8⟩:=DataW.trod_int Tryz.underlying3 f8
  obtain⟨a9,e9,_,w9⟩:=DataW.trod_int Tryz.underlying3 f9
  obtain⟨a10,e10,_,w10⟩:=DataW.trod_int Tryz.underlying3 f10
  simp only[List.cons.injEq,and_true]at e0 e1 e2 e3 e4 e5 e6 e8 e9 e10
  subst e0 e1 e2 e3 e4 e5 e6 e8 e9 e10
  have b4:=bounds_u64 w4
  have b6:=bounds_u32 w6
  obtain⟨n4,rfl⟩:=Int.eq_ofNat_of_zero_le b4.1
  obtain⟨n6,rfl⟩:=Int.eq_ofNat_of_zero_le b6.1
  refine⟨⟨a0,a1,a2,a3,n4,a5,n6,zs,a8,a9,a10⟩,v7,rfl,⟨⟨bounds_i64 w0,bounds_i64 w1,bounds_i64 w2,by simp only;omega,bounds_i64 w5,by simp only;omega,bounds_i64 w8,bounds_i64 w9,bounds_i64 w10,hz2⟩,hz1,w3,hz3⟩,fun hw=>?_⟩
  have h8:Tryz.prog.bytesOf 3=8:=by kernel_rfl
  have h9:=hz4 fun n hn=>hw n (by
   rw[hx]
   simp only[DataW.weights,Tryz.underlying39]
   exact DataW.weights_mem_each (j:=7) (t:=37) (d:=y7.1) rfl (by rw[List.getElem?_map,g7];rfl) n hn)
  rw[h8]at h9
  simp only[reachBytes]at h9
  simp only
  omega
end Go.Proofs.YtkkbfdencgdbhaaGreatDoor
namespace Go.Proofs.YtkkbfdencgdbhaaGreatDoor
open Go.ChangeShapes Go.WideShapes Go.ChangeAt Go.RowKit
abbrev CRow:=Cmd×Value
def crow(x:CRow):List Value:=x.1.cells x.2
structure CmdsIn (W:World) (l:List CRow) (v:Value):Prop where
 ops:Sln W v 11 (l.map crow)
 cap:∃A c,v=.slice A l.length c∧l.length≤c∧c≤maxLen
 row:∀x∈l,x.1.In x.2 W
 len:l.length≤maxLen
end Go.Proofs.YtkkbfdencgdbhaaGreatDoor
namespace Go.Proofs.YtkkbfdencgdbhaaGreatDoor
open Go.ChangeShapes Go.WideShapes Go.ChangeAt Go.RowKit
theorem mem_weightsAll{H:Type}{P:Program}{e:TypeId}{n:Nat}{y:DataW H} : ∀ {l:List (DataW H)},y∈l→n∈y.weights P e→n∈DataW.weightsAll P e l
 | d::r,h,hn=>by
  unfold DataW.weightsAll
  rcases List.mem_cons.1 h with rfl|h
  ·exact List.mem_append_left _ hn
  ·exact List.mem_append_right _ (mem_weightsAll h hn)
set_option maxRecDepth 100000 in
theorem open_cmds_s{H:Type}{enc:TypeId×Value→H}{W:World}{r:Reach}{b0:Nat}{v:Value}{d:DataW H}{p:List MemPlace}
 (hv:Value.okWide Tryz.prog W r b0 22 v) (h:DataW.Trod enc Tryz.prog W 0 (fun _=>true) true 22 v d p) :
 ∃l:List CRow,CmdsIn W l v∧((∀n∈d.weights Tryz.prog 22,n≤reachBytes)→∀x∈l,x.1.disks.length≤17592186043904):=by
 obtain⟨a0,len0,cap0,rfl⟩:=okWide_slice Tryz.underlying22 hv
 obtain⟨fuel,hf⟩:=h
 rcases Go.Deep.open_slice Tryz.underlying22 hf with⟨hcs,_⟩|⟨a,len,cap,m,n,D,Pl,hcs,_,hl,hm,hmm,hd,hx⟩
 ·simp only[Value.cells,List.cons.injEq,and_true]at hcs
  rw[hcs]
  exact⟨[],⟨⟨none,0,rfl,fun h=>absurd rfl h⟩,⟨none,0,rfl,Nat.le_refl _,Nat.zero_le _⟩,by simp,Nat.zero_le _⟩,fun _ x hx=>by cases hx⟩
 ·simp only[Value.cells,List.cons.injEq,and_true]at hcs
  rw[hcs]
  have hlm:len≤m:=by rw[hmm];split <;> omega
  have each:∀i,i<len→∃x:CRow,(∀(j:Nat) (u:Value),(crow x)[j]? = some u→W.cell? (a.add (i * 11+j))=some u)∧x.1.In x.2 W∧((∀n∈(D i).weights Tryz.prog 39,n≤reachBytes)→x.1.disks.length≤17592186043904):=fun i hi=>by
   obtain⟨cs',h1,h2⟩:=hx i (by omega)
   rw[show Tryz.prog.cellsOf 39=11 by kernel_rfl]at h1
   obtain⟨_,hlen,hcell⟩:=World.cells?_some h1
   obtain⟨x,dv,rfl,hok,hsz⟩:=one_cmd h2
   refine⟨(x,dv),fun j u hj=>?_,hok,hsz⟩
   have hj7:j<11:=by
    have:=(List.getElem?_eq_some_iff.1 hj).1
    exact this
   have:=hcell j hj7
   rw[Go.Deep.add_add]at this
   rw[this]
   exact hj
  haveI:Inhabited CRow:=⟨(⟨0,0,0,⟨#[]⟩,0,0,0,[],0,0,0⟩,.bool true)⟩
  obtain⟨f,hfx⟩:=Go.Deep.choose_lt each
  refine⟨(List.range len).map f,⟨⟨some a,cap,by simp,fun hne=>?_⟩,⟨some a,cap,by simp,by simp;omega,by omega⟩,?_,by simp;omega⟩,?_⟩
  ·have hpos:0<len:=by
    rcases Nat.eq_zero_or_pos len with h0|h0
    ·subst h0;exact absurd rfl hne
    ·exact h0
   obtain⟨b,off,spot⟩:=a
   have hspot:spot=none:=by
    have:=(hfx 0 hpos).1 0 _ rfl
    simpa[Addr.add]using World.cell?_spot this
   subst hspot
   refine⟨b,off,rfl,fun i row hi j u hj=>?_⟩
   rw[List.map_map,List.getElem?_map]at hi
   by_cases hlt:i<len
   ·rw[List.getElem?_range hlt]at hi
    simp only[Option.map_some,Option.some.injEq,Function.comp_apply]at hi
    subst hi
    have:=(hfx i hlt).1 j u hj
    rw[Go.WideShapes.add_plain]at this
    rw[Nat.add_assoc]
    exact this
   ·rw[List.getElem?_eq_none (by simpa using hlt)]at hi
    cases hi
  ·intro x hx
   obtain⟨i,hi,rfl⟩:=List.mem_map.1 hx
   exact(hfx i (List.mem_range.1 hi)).2.1
  ·intro hw x hx
   obtain⟨i,hi,rfl⟩:=List.mem_map.1 hx
   refine(hfx i (List.mem_range.1 hi)).2.2 fun n hn=>hw n ?_
   have hd1:d=.slice ((List.range len).map D) ((List.range (m - len)).map fun j=>D (len+j)):=congrArg Prod.fst hd
   rw[hd1]
   simp only[DataW.weights,Tryz.underlying22]
   exact List.mem_cons_of_mem _ (List.mem_append_left _ (mem_weightsAll (List.mem_map.2 ⟨i,hi,rfl⟩) hn))
end Go.Proofs.YtkkbfdencgdbhaaGreatDoor
