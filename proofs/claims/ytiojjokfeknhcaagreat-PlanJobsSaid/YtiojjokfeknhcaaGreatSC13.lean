/-
  Part 13 of what the law leans on.
-/
import Derived.Test.YtiojjokfeknhcaaGreatSC2
import Derived.Test.YtiojjokfeknhcaaGreatSC6
import Derived.Test.YtiojjokfeknhcaaGreatSC12
namespace Go.Proofs.YtiojjokfeknhcaaGreat
set_option maxRecDepth 100000
set_option maxHeartbeats 8000000
set_option linter.unusedVariables false
set_option linter.unusedSimpArgs false
set_option linter.unusedSectionVars false
open _root_.Go.Proofs.Tryz
open Go.RowKit Go.Sort
theorem rapply_any(w:World)(v:Value)(P:Pm)(n:Nat)(h:qQZ w v P)(hi:PInv n P)(hn:n≤1000000)(x:Cmd)(dx:Value)(hx:w.ownsRow 0 3 1 dx x.disks.length (x.disks.map (Value.int .i64)))(hd:x.disks.length≤17592186043904)(hnm:x.name.size≤9223372036854775807)(hw:x.Wf) :
 Calls prog 49 #[v,qQd x dx] w (qXD w (P.app x)):=by
 cases hg:x.good with
 | false=>exact rapply_bad w v P n h hi hn x dx hx hd hnm hw hg
 | true =>
  obtain⟨hk,hk0,_,_,_,_,_,_,hv,_⟩:=Cmd.good_iff.1 hg
  by_cases h6:x.kind<6
  ·exact rapply_client w v P n h hi hn x dx hx hd hnm hw ⟨hg,by omega,h6⟩
  obtain⟨j,hj⟩:∃j:Nat,x.vol=(j:Int):=⟨x.vol.toNat,by omega⟩;have hj12:j<12:=by omega
  obtain⟨y,hy⟩:∃y,P.vols[j]? = some y:=⟨_,List.getElem?_eq_getElem (by rw[hi.vlen];exact hj12)⟩
  by_cases h11:x.kind=11
  ·exact rapply_11 w v P n h hi hn x dx hx hd hnm hw j y ⟨hg,h11,hj,hj12,hy⟩
  by_cases h12:x.kind=12
  ·exact rapply_12 w v P n h hi hn x dx hx hd hnm hw j y ⟨hg,h12,hj,hj12,hy⟩
  by_cases h13:x.kind=13
  ·exact rapply_13 w v P n h hi hn x dx hx hd hnm hw j y ⟨hg,h13,hj,hj12,hy⟩
  exact rapply_b w v P n h hi hn x dx hx hd hnm hw j y ⟨hg,by omega,hj,hj12,hy⟩
open Go.RowKit Go.Sort
theorem same02_any(w:World)(av bv:Value)(l:List ByteArray)(hS:Sl w av (l.map Value.string))(hT:Sl w bv (l.map Value.string))(hl:l.length≤1000000000000) :
 Calls prog 51 #[av,bv] w fun e w'=>e=.returned (.int .i64 0)∧Ext w w':=by
 obtain⟨A,c,rfl,hx⟩:=hS;obtain⟨B,d,rfl,hy⟩:=hT;rw[List.length_map]
 go_enter func51,ntmps51
 have HS:Hid (Sl w (.slice A l.length c) (l.map Value.string)):=Hh ⟨A,c,by rw[List.length_map],hx⟩;have HT:Hid (Sl w (.slice B l.length d) (l.map Value.string)):=Hh ⟨B,d,by rw[List.length_map],hy⟩;clear hx hy;go_wp2_with fail
 go_loopw [13] (fun iv wr=>∃k:Nat,k≤l.length∧iv=.int .i64 (k:Int)∧Ext w wr) (fun iv _=>l.length - (intOf iv).toNat)
 case atStart=>exact⟨0,by omega,rfl,Er _⟩
 case round =>
  obtain⟨k,hk,rfl,hE⟩:=hrel
  by_cases hlt:k<l.length
  ·obtain⟨s,hs⟩:∃s,l[k]? = some s:=⟨_,List.getElem?_eq_getElem hlt⟩;obtain⟨A',c',ha,hc⟩:=HS.out.ext hE;obtain⟨B',d',hb,hd⟩:=HT.out.ext hE;have hne:l.map Value.string≠[]:=fun e=>by rw[List.map_eq_nil_iff.1 e]at hlt;simp at hlt
   obtain⟨b,o,rfl,hcc⟩:=hc hne;obtain⟨b2,o2,rfl,hdd⟩:=hd hne;injection ha with ha q1 q2;injection hb with hb q3 q4;clear q1 q2 q3 q4;subst ha hb;have c1:=hcc k (.string s) (by rw[List.getElem?_map,hs];rfl);have d1:=hdd k (.string s) (by rw[List.getElem?_map,hs];rfl);clear hc hd hcc hdd hs hne;have rg:∀ {p:Addr} {u:Value},wr.cell? p=some u→∀d os,(grow (redrawn wr d) os).cell? p=some u:=fun h d os=>(Ext.cell (qQn wr d os) (qQv h)).trans h
   have r1:=rg c1;have r2:=rg d1;clear rg;go_wp2_with fail
   refine qQc (by kernel_rfl) (by kernel_rfl) ?_
   repeat (go_big_quiet_step (fail))
   refine wpQuiet_nil ?_;intro W8 hE8;go_wp2_with fail
   exact⟨⟨k+1,by omega,by simp,hE.trans hE8⟩,by simp only[intOf,Int.toNat_natCast];omega⟩
  ·obtain rfl:k=l.length:=by omega
   go_wp2_with fail
   go_ret
   exact⟨rfl,hE⟩
open Go.RowKit Go.Sort
theorem qQZ.chgT{w w':World}{v:Value}{P:Pm}{g:Nat}{t:TypeId}{Z:Array Value}(h:qQZ w v P)(ha:At w g t Z)(h1:89≠t)(h2:3≠t)(hc:Chg (· = g) w w'):qQZ w' v P:=by
 obtain⟨lv,DV,e1,e2,h3⟩:=h;exact⟨lv,DV,e1,e2,⟨qQb h3.own hc fun k hk e=>qQf h3.own ha h1 k hk e,fun p hp=>qQb (h3.dks p hp) hc fun k hk e=>qQf (h3.dks p hp) ha h2 k hk e⟩⟩
structure GSt (W0:World) (c:Nat) (T:TypeId) (js:Nat) (X:Array Value) (_γ : Nat→Value) (L:Nat→Bool) (w:World):Prop where
 chg:Chg (· = c) W0 w
 at_:∃Z:Array Value,At w c T Z∧Z.size=X.size
 st:L js=true→At w c T X
section
variable{W0 w w':World}{c:Nat}{T:TypeId}{js:Nat}{X:Array Value}{γ : Nat→Value}{L:Nat→Bool}
theorem GSt.keep{j:Nat}(h1:js≠j):∀γ L w,GSt W0 c T js X γ L w→L j=false→GSt W0 c T js X γ (fun i=>i == j||L i) w:=by
 intro γ L w h _;have e1:(js == j)=false:=by simp[h1]
 exact⟨h.chg,h.at_,fun hh=>h.st (by simpa[e1]using hh)⟩
theorem GSt.on{j:Nat}(h:GSt W0 c T js X γ L w)(hE:Ext w w')(h1:js≠j):GSt W0 c T js X γ (fun i=>i == j||L i) w':=by
 have e1:(js == j)=false:=by simp[h1]
 obtain⟨Z,z1,z2⟩:=h.at_;exact⟨h.chg.trans hE (fun _ _ e=>e.elim),⟨Z,z1.ext hE,z2⟩,fun hh=>(h.st (by simpa[e1]using hh)).ext hE⟩
theorem GSt.stored(h:GSt W0 c T js X γ L w):GSt W0 c T js X γ (fun i=>i == js||L i) (w.setCells c 0 X.toList):=by
 obtain⟨Z,z1,z2⟩:=h.at_
 have:=At.cells_all z1 z2
 exact⟨h.chg.trans (qQq _ _) (fun _ _ e=>e),⟨X,this,rfl⟩,fun _=>this⟩
end
def qZf(v:Value)(k:Nat):Value:=match v with
 | .tuple vs=>vs.getD k undef
 | _=>undef
structure GDo (W0:World) (R:Pm×Rs) (γ : Nat→Value) (L:Nat→Bool) (w:World):Prop where
 ext:Ext W0 w
 call:L 3=true→∃X A c, γ 0=.tuple #[.agg X,.agg #[.int .i64 R.2.err,.int .u64 (R.2.blob:Int),.int .i64 R.2.size,.int .u32 (R.2.sum:Int),.slice A R.2.names.length c]]∧qQZ w (.agg X) R.1∧X.size=37∧X.all (·.oneCell')=true∧w.ownsRow 0 9 1 (.slice A R.2.names.length c) R.2.names.length (R.2.names.map Value.string)
 mv:L 4=true → γ 3 = γ 0
 e1:L 5=true → γ 2=qZf (γ 0) 0
 e2:L 6=true → γ 4=qZf (γ 0) 1
 n1:L 7=true→∃g, γ 1=.pointer (some ⟨g,0,none⟩)∧W0.heap.size≤g∧(∃Z:Array Value,At w g 35 Z∧Z.size=37)∧(L 9=true→At w g 35 (qQB (qZf (γ 0) 0)))
 n2:L 8=true→∃g, γ 5=.pointer (some ⟨g,0,none⟩)∧W0.heap.size≤g∧(∃Z:Array Value,At w g 114 Z∧Z.size=5)∧(L 10=true→At w g 114 (qQB (qZf (γ 0) 1)))
section
variable{W0 w w':World}{R:Pm×Rs}{γ : Nat→Value}{L:Nat→Bool}
theorem GDo.on(h:GDo W0 R γ L w)(hE:Ext w w'):GDo W0 R γ L w':=by
 refine⟨h.ext.trans hE,fun hh=>?_,h.mv,h.e1,h.e2,fun hh=>?_,fun hh=>?_⟩
 ·obtain⟨X,A,c,a1,a2,a3,a4,a5⟩:=h.call hh;exact⟨X,A,c,a1,a2.ext hE,a3,a4,own_kx a5 hE⟩
 ·obtain⟨g,a1,a2,⟨Z,a3,a4⟩,a5⟩:=h.n1 hh;exact⟨g,a1,a2,⟨Z,a3.ext hE,a4⟩,fun hh=>(a5 hh).ext hE⟩
 ·obtain⟨g,a1,a2,⟨Z,a3,a4⟩,a5⟩:=h.n2 hh;exact⟨g,a1,a2,⟨Z,a3.ext hE,a4⟩,fun hh=>(a5 hh).ext hE⟩
theorem GDo.keep{j:Nat}(hj:j<3):∀γ L w,GDo W0 R γ L w→L j=false→GDo W0 R γ (fun i=>i == j||L i) w:=by
 intro γ L w h _;have k:∀i,3≤i→(i == j||L i)=L i:=fun i hi=>by rw[show(i == j)=false by simp;omega,Bool.false_or]
 have k3:=k 3 (by omega);have k4:=k 4 (by omega);have k5:=k 5 (by omega);have k6:=k 6 (by omega);have k7:=k 7 (by omega);have k8:=k 8 (by omega);have k9:=k 9 (by omega);have k10:=k 10 (by omega)
 exact⟨h.ext,fun hh=>h.call (k3 ▸ hh),fun hh=>h.mv (k4 ▸ hh),fun hh=>h.e1 (k5 ▸ hh),fun hh=>h.e2 (k6 ▸ hh),fun hh=>by rw[k9];exact h.n1 (k7 ▸ hh),fun hh=>by rw[k10];exact h.n2 (k8 ▸ hh)⟩
theorem GDo.called(h:GDo W0 R γ L w){X:Array Value}{A:Option Addr}{c:Nat}(hE:Ext w w')(h4:L 4=false)(h5:L 5=false)(h6:L 6=false)(h9:L 9=false)(h10:L 10=false)(a2:qQZ w' (.agg X) R.1)(a3:X.size=37)(a4:X.all (·.oneCell')=true)
 (a5:w'.ownsRow 0 9 1 (.slice A R.2.names.length c) R.2.names.length (R.2.names.map Value.string)) :
 GDo W0 R (upd γ 0 (.tuple #[.agg X,.agg #[.int .i64 R.2.err,.int .u64 (R.2.blob:Int),.int .i64 R.2.size,.int .u32 (R.2.sum:Int),.slice A R.2.names.length c]])) (fun i=>i == 3||L i) w':=by
 have h':=h.on hE;refine⟨h'.ext,fun _=>⟨X,A,c,by simp[upd],a2,a3,a4,a5⟩,fun hh=>?_,fun hh=>?_,fun hh=>?_,fun hh=>?_,fun hh=>?_⟩
 ·simp[h4]at hh
 ·simp[h5]at hh
 ·simp[h6]at hh
 ·obtain⟨g,b1,b2,b3,_⟩:=h'.n1 (by simpa using hh);exact⟨g,by simpa[upd]using b1,b2,b3,fun hh=>by simp[h9]at hh⟩
 ·obtain⟨g,b1,b2,b3,_⟩:=h'.n2 (by simpa using hh);exact⟨g,by simpa[upd]using b1,b2,b3,fun hh=>by simp[h10]at hh⟩
theorem GDo.moved(h:GDo W0 R γ L w):GDo W0 R (upd γ 3 (γ 0)) (fun i=>i == 4||L i) w:=by
 refine⟨h.ext,fun hh=>?_,fun _=>by simp[upd],fun hh=>?_,fun hh=>?_,fun hh=>?_,fun hh=>?_⟩
 ·simpa[upd]using h.call (by simpa using hh)
 ·simpa[upd]using h.e1 (by simpa using hh)
 ·simpa[upd]using h.e2 (by simpa using hh)
 ·simpa[upd]using h.n1 (by simpa using hh)
 ·simpa[upd]using h.n2 (by simpa using hh)
theorem GDo.got1(h:GDo W0 R γ L w):GDo W0 R (upd γ 2 (qZf (γ 0) 0)) (fun i=>i == 5||L i) w:=by
 refine⟨h.ext,fun hh=>?_,fun hh=>?_,fun _=>by simp[upd],fun hh=>?_,fun hh=>?_,fun hh=>?_⟩
 ·simpa[upd]using h.call (by simpa using hh)
 ·simpa[upd]using h.mv (by simpa using hh)
 ·simpa[upd]using h.e2 (by simpa using hh)
 ·simpa[upd]using h.n1 (by simpa using hh)
 ·simpa[upd]using h.n2 (by simpa using hh)
theorem GDo.got2(h:GDo W0 R γ L w):GDo W0 R (upd γ 4 (qZf (γ 0) 1)) (fun i=>i == 6||L i) w:=by
 refine⟨h.ext,fun hh=>?_,fun hh=>?_,fun hh=>?_,fun _=>by simp[upd],fun hh=>?_,fun hh=>?_⟩
 ·simpa[upd]using h.call (by simpa using hh)
 ·simpa[upd]using h.mv (by simpa using hh)
 ·simpa[upd]using h.e1 (by simpa using hh)
 ·simpa[upd]using h.n1 (by simpa using hh)
 ·simpa[upd]using h.n2 (by simpa using hh)
theorem GDo.new1(h:GDo W0 R γ L w)(h9:L 9=false){Z:Array Value}(hz:Z.size=37):GDo W0 R (upd γ 1 (.pointer (some ⟨w.heap.size,0,none⟩))) (fun i=>i == 7||L i) (w.alloc (.cells Z 35)):=by
 have h':=h.on ((Er w).alloc (.cells Z 35));refine⟨h'.ext,fun hh=>?_,fun hh=>?_,fun hh=>?_,fun hh=>?_,fun _=>⟨w.heap.size,by simp[upd],h.ext.size,⟨Z,At.new _ _ _,hz⟩,fun hh=>by simp[h9]at hh⟩,fun hh=>?_⟩
 ·simpa[upd]using h'.call (by simpa using hh)
 ·simpa[upd]using h'.mv (by simpa using hh)
 ·simpa[upd]using h'.e1 (by simpa using hh)
 ·simpa[upd]using h'.e2 (by simpa using hh)
 ·simpa[upd]using h'.n2 (by simpa using hh)
theorem GDo.new2(h:GDo W0 R γ L w)(h10:L 10=false){Z:Array Value}(hz:Z.size=5):GDo W0 R (upd γ 5 (.pointer (some ⟨w.heap.size,0,none⟩))) (fun i=>i == 8||L i) (w.alloc (.cells Z 114)):=by
 have h':=h.on ((Er w).alloc (.cells Z 114));refine⟨h'.ext,fun hh=>?_,fun hh=>?_,fun hh=>?_,fun hh=>?_,fun hh=>?_,fun _=>⟨w.heap.size,by simp[upd],h.ext.size,⟨Z,At.new _ _ _,hz⟩,fun hh=>by simp[h10]at hh⟩⟩
 ·simpa[upd]using h'.call (by simpa using hh)
 ·simpa[upd]using h'.mv (by simpa using hh)
 ·simpa[upd]using h'.e1 (by simpa using hh)
 ·simpa[upd]using h'.e2 (by simpa using hh)
 ·simpa[upd]using h'.n1 (by simpa using hh)
theorem GDo.st1(h:GDo W0 R γ L w)(h3:L 3=true)(h7:L 7=true){g:Nat}(hg : γ 1=.pointer (some ⟨g,0,none⟩)):GDo W0 R γ (fun i=>i == 9||L i) (w.setCells g 0 (qQB (qZf (γ 0) 0)).toList):=by
 obtain⟨X,A,c,a1,a2,a3,a4,a5⟩:=h.call h3;obtain⟨g',b1,b2,⟨Z,b3,b4⟩,_⟩:=h.n1 h7;rw[hg]at b1;obtain rfl:g=g':=by injection b1 with b1;injection b1 with b1;injection b1
 have hE:Chg (· = g) w (w.setCells g 0 (qQB (qZf (γ 0) 0)).toList):=qQq _ _;have hx:(qQB (qZf (γ 0) 0)).size=37:=by rw[a1];exact a3
 refine⟨h.ext.setCells b2 _ _,fun _=>⟨X,A,c,a1,a2.chgT b3 (by decide) (by decide) hE,a3,a4,qQb a5 hE fun k hk e=>qQf a5 b3 (by decide) k hk e⟩,fun hh=>h.mv (by simpa using hh),fun hh=>h.e1 (by simpa using hh),fun hh=>h.e2 (by simpa using hh),fun _=>⟨g,hg,b2,⟨_,At.cells_all b3 (by rw[b4,hx]),hx⟩,fun _=>At.cells_all b3 (by rw[b4,hx])⟩,fun hh=>?_⟩
 obtain⟨q,c1,c2,⟨Y,c3,c4⟩,c5⟩:=h.n2 (by simpa using hh);have hne:¬ q=g:=fun e=>At.ne c3 b3 (by decide) e
 exact⟨q,c1,c2,⟨Y,c3.chg hE hne,c4⟩,fun hh=>(c5 (by simpa using hh)).chg hE hne⟩
theorem GDo.st2(h:GDo W0 R γ L w)(h3:L 3=true)(h8:L 8=true){g:Nat}(hg : γ 5=.pointer (some ⟨g,0,none⟩)):GDo W0 R γ (fun i=>i == 10||L i) (w.setCells g 0 (qQB (qZf (γ 0) 1)).toList):=by
 obtain⟨X,A,c,a1,a2,a3,a4,a5⟩:=h.call h3;obtain⟨g',b1,b2,⟨Z,b3,b4⟩,_⟩:=h.n2 h8;rw[hg]at b1;obtain rfl:g=g':=by injection b1 with b1;injection b1 with b1;injection b1
 have hE:Chg (· = g) w (w.setCells g 0 (qQB (qZf (γ 0) 1)).toList):=qQq _ _;have hx:(qQB (qZf (γ 0) 1)).size=5:=by rw[a1];rfl
 refine⟨h.ext.setCells b2 _ _,fun _=>⟨X,A,c,a1,a2.chgT b3 (by decide) (by decide) hE,a3,a4,qQb a5 hE fun k hk e=>qQf a5 b3 (by decide) k hk e⟩,fun hh=>h.mv (by simpa using hh),fun hh=>h.e1 (by simpa using hh),fun hh=>h.e2 (by simpa using hh),fun hh=>?_,fun _=>⟨g,hg,b2,⟨_,At.cells_all b3 (by rw[b4,hx]),hx⟩,fun _=>At.cells_all b3 (by rw[b4,hx])⟩⟩
 obtain⟨q,c1,c2,⟨Y,c3,c4⟩,c5⟩:=h.n1 (by simpa using hh);have hne:¬ q=g:=fun e=>At.ne c3 b3 (by decide) e
 exact⟨q,c1,c2,⟨Y,c3.chg hE hne,c4⟩,fun hh=>(c5 (by simpa using hh)).chg hE hne⟩
end
open Go.RowKit Go.Sort
def qQw(x:Cmd):Cmd := { x with name:=cut x.name 40,disks:=x.disks.take 7 }
theorem fewC_wf{x:Cmd}(h:x.Wf):(qQw x).Wf:=by
 obtain⟨h1,h2,h3,h4,h5,h6,h7,h8,h9,h10⟩:=h;exact⟨h1,h2,h3,h4,h5,h6,h7,h8,h9,fun d hd=>h10 d (List.mem_of_mem_take hd)⟩
theorem fewC_dl(x:Cmd):(qQw x).disks.length≤7:=by
 show(x.disks.take 7).length≤7
 rw[List.length_take];omega
theorem ints_one(l:List Int):∀r∈(l.map (Value.int .i64)).map (fun x=>[x]),r.all Value.oneCell'=true:=by
 intro r hr;obtain⟨v,hv,rfl⟩:=List.mem_map.1 hr;obtain⟨n,_,rfl⟩:=List.mem_map.1 hv;rfl
theorem one_len(xs:List Value):∀r∈xs.map (fun x=>[x]),r.length=1:=by
 intro r hr;obtain⟨v,_,rfl⟩:=List.mem_map.1 hr;rfl
theorem cmd_out{W:World}{g:Nat}(h:At W g 76 #[.int .i64 0,.int .i64 0,.int .i64 0,.string ⟨#[]⟩,.int .u64 0,.int .i64 0,.int .u32 0,.slice none 0 0,.int .i64 0,.int .i64 0,.int .i64 0])(a0 a1 a2 a3 a4 a5 a6 a7 a8 a9 a10:Value) :
 At (((((((((((W.setCell ⟨g,0,none⟩ a0).setCell ⟨g,1,none⟩ a1).setCell ⟨g,2,none⟩ a2).setCell ⟨g,3,none⟩ a3).setCell ⟨g,4,none⟩ a4).setCell ⟨g,5,none⟩ a5).setCell ⟨g,6,none⟩ a6).setCell ⟨g,7,none⟩ a7).setCell ⟨g,8,none⟩ a8).setCell ⟨g,9,none⟩ a9).setCell ⟨g,10,none⟩ a10) g 76 #[a0,a1,a2,a3,a4,a5,a6,a7,a8,a9,a10]∧Chg (· = g) W (((((((((((W.setCell ⟨g,0,none⟩ a0).setCell ⟨g,1,none⟩ a1).setCell ⟨g,2,none⟩ a2).setCell ⟨g,3,none⟩ a3).setCell ⟨g,4,none⟩ a4).setCell ⟨g,5,none⟩ a5).setCell ⟨g,6,none⟩ a6).setCell ⟨g,7,none⟩ a7).setCell ⟨g,8,none⟩ a8).setCell ⟨g,9,none⟩ a9).setCell ⟨g,10,none⟩ a10):=by
 have h0:At (W.setCell ⟨g,0,none⟩ a0) g 76 #[a0,.int .i64 0,.int .i64 0,.string ⟨#[]⟩,.int .u64 0,.int .i64 0,.int .u32 0,.slice none 0 0,.int .i64 0,.int .i64 0,.int .i64 0]:=h.set 0 a0;have c0:=(Chg.refl (· = g) W).setCell (p:=⟨g,0,none⟩) (.inl rfl) a0;have h1:At ((W.setCell ⟨g,0,none⟩ a0).setCell ⟨g,1,none⟩ a1) g 76 #[a0,a1,.int .i64 0,.string ⟨#[]⟩,.int .u64 0,.int .i64 0,.int .u32 0,.slice none 0 0,.int .i64 0,.int .i64 0,.int .i64 0]:=h0.set 1 a1;have c1:=(c0).setCell (p:=⟨g,1,none⟩) (.inl rfl) a1;have h2:At (((W.setCell ⟨g,0,none⟩ a0).setCell ⟨g,1,none⟩ a1).setCell ⟨g,2,none⟩ a2) g 76 #[a0,a1,a2,.string ⟨#[]⟩,.int .u64 0,.int .i64 0,.int .u32 0,.slice none 0 0,.int .i64 0,.int .i64 0,.int .i64 0]:=h1.set 2 a2;have c2:=(c1).setCell (p:=⟨g,2,none⟩) (.inl rfl) a2;have h3:At ((((W.setCell ⟨g,0,none⟩ a0).setCell ⟨g,1,none⟩ a1).setCell ⟨g,2,none⟩ a2).setCell ⟨g,3,none⟩ a3) g 76 #[a0,a1,a2,a3,.int .u64 0,.int .i64 0,.int .u32 0,.slice none 0 0,.int .i64 0,.int .i64 0,.int .i64 0]:=h2.set 3 a3;have c3:=(c2).setCell (p:=⟨g,3,none⟩) (.inl rfl) a3;have h4:At (((((W.setCell ⟨g,0,none⟩ a0).setCell ⟨g,1,none⟩ a1).setCell ⟨g,2,none⟩ a2).setCell ⟨g,3,none⟩ a3).setCell ⟨g,4,none⟩ a4) g 76 #[a0,a1,a2,a3,a4,.int .i64 0,.int .u32 0,.slice none 0 0,.int .i64 0,.int .i64 0,.int .i64 0]:=h3.set 4 a4;have c4:=(c3).setCell (p:=⟨g,4,none⟩) (.inl rfl) a4;have h5:At ((((((W.setCell ⟨g,0,none⟩ a0).setCell ⟨g,1,none⟩ a1).setCell ⟨g,2,none⟩ a2).setCell ⟨g,3,none⟩ a3).setCell ⟨g,4,none⟩ a4).setCell ⟨g,5,none⟩ a5) g 76 #[a0,a1,a2,a3,a4,a5,.int .u32 0,.slice none 0 0,.int .i64 0,.int .i64 0,.int .i64 0]:=h4.set 5 a5;have c5:=(c4).setCell (p:=⟨g,5,none⟩) (.inl rfl) a5;have h6:At (((((((W.setCell ⟨g,0,none⟩ a0).setCell ⟨g,1,none⟩ a1).setCell ⟨g,2,none⟩ a2).setCell ⟨g,3,none⟩ a3).setCell ⟨g,4,none⟩ a4).setCell ⟨g,5,none⟩ a5).setCell ⟨g,6,none⟩ a6) g 76 #[a0,a1,a2,a3,a4,a5,a6,.slice none 0 0,.int .i64 0,.int .i64 0,.int .i64 0]:=h5.set 6 a6;have c6:=(c5).setCell (p:=⟨g,6,none⟩) (.inl rfl) a6;have h7:At ((((((((W.setCell ⟨g,0,none⟩ a0).setCell ⟨g,1,none⟩ a1).setCell ⟨g,2,none⟩ a2).setCell ⟨g,3,none⟩ a3).setCell ⟨g,4,none⟩ a4).setCell ⟨g,5,none⟩ a5).setCell ⟨g,6,none⟩ a6).setCell ⟨g,7,none⟩ a7) g 76 #[a0,a1,a2,a3,a4,a5,a6,a7,.int .i64 0,.int .i64 0,.int .i64 0]:=h6.set 7 a7;have c7:=(c6).setCell (p:=⟨g,7,none⟩) (.inl rfl) a7;have h8:At (((((((((W.setCell ⟨g,0,none⟩ a0).setCell ⟨g,1,none⟩ a1).setCell ⟨g,2,none⟩ a2).setCell ⟨g,3,none⟩ a3).setCell ⟨g,4,none⟩ a4).setCell ⟨g,5,none⟩ a5).setCell ⟨g,6,none⟩ a6).setCell ⟨g,7,none⟩ a7).setCell ⟨g,8,none⟩ a8) g 76 #[a0,a1,a2,a3,a4,a5,a6,a7,a8,.int .i64 0,.int .i64 0]:=h7.set 8 a8;have c8:=(c7).setCell (p:=⟨g,8,none⟩) (.inl rfl) a8;have h9:At ((((((((((W.setCell ⟨g,0,none⟩ a0).setCell ⟨g,1,none⟩ a1).setCell ⟨g,2,none⟩ a2).setCell ⟨g,3,none⟩ a3).setCell ⟨g,4,none⟩ a4).setCell ⟨g,5,none⟩ a5).setCell ⟨g,6,none⟩ a6).setCell ⟨g,7,none⟩ a7).setCell ⟨g,8,none⟩ a8).setCell ⟨g,9,none⟩ a9) g 76 #[a0,a1,a2,a3,a4,a5,a6,a7,a8,a9,.int .i64 0]:=h8.set 9 a9;have c9:=(c8).setCell (p:=⟨g,9,none⟩) (.inl rfl) a9;have h10:At (((((((((((W.setCell ⟨g,0,none⟩ a0).setCell ⟨g,1,none⟩ a1).setCell ⟨g,2,none⟩ a2).setCell ⟨g,3,none⟩ a3).setCell ⟨g,4,none⟩ a4).setCell ⟨g,5,none⟩ a5).setCell ⟨g,6,none⟩ a6).setCell ⟨g,7,none⟩ a7).setCell ⟨g,8,none⟩ a8).setCell ⟨g,9,none⟩ a9).setCell ⟨g,10,none⟩ a10) g 76 #[a0,a1,a2,a3,a4,a5,a6,a7,a8,a9,a10]:=h9.set 10 a10;have c10:=(c9).setCell (p:=⟨g,10,none⟩) (.inl rfl) a10;exact⟨h10,c10⟩
theorem few_any(w:World)(x:Cmd)(dv:Value)(hx:x.In dv w) :
 Calls prog 48 #[qQd x dv] w fun e w'=>∃A cp,e=.returned (qQd (qQw x) (.slice A (qQw x).disks.length cp))∧w'.ownsRow w.heap.size 3 1 (.slice A (qQw x).disks.length cp) (qQw x).disks.length ((qQw x).disks.map (Value.int .i64))∧Ext w w':=by
 obtain⟨hsl,dA,dc,rfl,hcap,hcm⟩:=hx.sl;rw[List.length_map]at hsl hcap⊢;have hxs:=hx.nm;have hxl:=hx.dl;clear hx;unfold maxLen at hxl hcm;have e40:(qQw x).name=cut x.name 40:=rfl;have e7:(qQw x).disks=x.disks.take 7:=rfl;have E40:=Hh e40;have E7:=Hh e7;clear e40 e7;have HR:Hid (∀A cp w',w'.ownsRow w.heap.size 3 1 (.slice A (qQw x).disks.length cp) (qQw x).disks.length ((qQw x).disks.map (Value.int .i64))→Ext w w'→∃A' cp',Ending.returned (.agg #[.int .i64 x.kind,.int .i64 x.client,.int .i64 x.seq,.string (cut x.name 40),.int .u64 (x.blob:Int),.int .i64 x.size,.int .u32 (x.sum:Int),.slice A (qQw x).disks.length cp,.int .i64 x.pool,.int .i64 x.vol,.int .i64 x.at_])=.returned (qQd (qQw x) (.slice A' (qQw x).disks.length cp'))∧w'.ownsRow w.heap.size 3 1 (.slice A' (qQw x).disks.length cp') (qQw x).disks.length ((qQw x).disks.map (Value.int .i64))∧Ext w w'):=Hh (fun A cp w' h1 h2=>⟨A,cp,rfl,h1,h2⟩);rw[show qQd x (.slice dA x.disks.length dc)=.agg #[.int .i64 x.kind,.int .i64 x.client,.int .i64 x.seq,.string x.name,.int .u64 (x.blob:Int),.int .i64 x.size,.int .u32 (x.sum:Int),.slice dA x.disks.length dc,.int .i64 x.pool,.int .i64 x.vol,.int .i64 x.at_]from rfl];have hY0:=At.new w 76 #[.int .i64 x.kind,.int .i64 x.client,.int .i64 x.seq,.string x.name,.int .u64 (x.blob:Int),.int .i64 x.size,.int .u32 (x.sum:Int),.slice dA x.disks.length dc,.int .i64 x.pool,.int .i64 x.vol,.int .i64 x.at_];have hE0:=(Er w).alloc (.cells #[.int .i64 x.kind,.int .i64 x.client,.int .i64 x.seq,.string x.name,.int .u64 (x.blob:Int),.int .i64 x.size,.int .u32 (x.sum:Int),.slice dA x.disks.length dc,.int .i64 x.pool,.int .i64 x.vol,.int .i64 x.at_] 76);have hZ0:=At.new (w.alloc (.cells #[.int .i64 x.kind,.int .i64 x.client,.int .i64 x.seq,.string x.name,.int .u64 (x.blob:Int),.int .i64 x.size,.int .u32 (x.sum:Int),.slice dA x.disks.length dc,.int .i64 x.pool,.int .i64 x.vol,.int .i64 x.at_] 76)) 76 #[.int .i64 0,.int .i64 0,.int .i64 0,.string ⟨#[]⟩,.int .u64 0,.int .i64 0,.int .u32 0,.slice none 0 0,.int .i64 0,.int .i64 0,.int .i64 0];have hY1:=hY0.alloc (.cells #[.int .i64 0,.int .i64 0,.int .i64 0,.string ⟨#[]⟩,.int .u64 0,.int .i64 0,.int .u32 0,.slice none 0 0,.int .i64 0,.int .i64 0,.int .i64 0] 76);have hE1:=hE0.alloc (.cells #[.int .i64 0,.int .i64 0,.int .i64 0,.string ⟨#[]⟩,.int .u64 0,.int .i64 0,.int .u32 0,.slice none 0 0,.int .i64 0,.int .i64 0,.int .i64 0] 76);have hzs:∀o,(w.alloc o).heap.size=w.heap.size+1:=fun o=>by simp
 rw[hzs]at hZ0;clear hzs
 go_enter func48,ntmps48
 go_upto_region 1 with fail
 clear hY0 hE0;generalize hyb:w.heap.size=yb at *;generalize World.alloc (World.alloc _ _) _=W1 at *;have q3:=hY1.cell 3;have f3:=hY1.frozen 3;have hy:=hY1.lt;simp at q3;go_wp2_with fail
 refine(cut_any x.name 40 W1 hxs (by omega)).mono ?_
 rintro e w3 ⟨rfl,hw3⟩;subst hw3
 go_upto_region 2 with fail
 have hY2:At (w3.setCell ⟨yb,3,none⟩ (.string (cut x.name 40))) yb 76 #[.int .i64 x.kind,.int .i64 x.client,.int .i64 x.seq,.string (cut x.name 40),.int .u64 (x.blob:Int),.int .i64 x.size,.int .u32 (x.sum:Int),.slice dA x.disks.length dc,.int .i64 x.pool,.int .i64 x.vol,.int .i64 x.at_]:=hY1.set 3 _;have hC2:=(Chg.refl (fun k=>yb≤k) w3).setCell (p:=⟨yb,3,none⟩) (.inl (Nat.le_refl _)) (.string (cut x.name 40));have hZ2:=hZ0.far (p:=⟨yb,3,none⟩) (by simp) (.string (cut x.name 40))
 have hE2:Ext w (w3.setCell ⟨yb,3,none⟩ (.string (cut x.name 40))):=Chg.mono (hE1.chg_trans hC2) fun j hj h=>by
  have h':yb≤j:=h;omega
 clear q3 f3 hy hY1 hZ0 hE1 hC2;generalize World.setCell _ _ _=W2 at hY2 hZ2 hE2⊢;obtain⟨mm,hmm⟩:∃m:Nat,m=min x.disks.length 7:=⟨_,rfl⟩;have hmi:min (x.disks.length:Int) 7=(mm:Int):=by omega
 have hcap2:mm≤dc:=by omega
 have hnO:=W2.ownsRow_made (e:=3) (size:=1) (base:=w.heap.size) #[] 0 (by have:=hE2.size;omega) (by unfold maxLen;omega) rfl;have hsl2:=(hsl.ext hE2).ext ((Er W2).alloc (.cells #[] 3));have hpre:=hsl2.sln.pre (k:=mm) (c':=dc) (by omega);rw[←List.map_take,←List.map_take]at hpre
 have htk:x.disks.take mm=(qQw x).disks:=by
  rw[E7.out,hmm]
  by_cases h4:x.disks.length≤7
  ·rw[Nat.min_eq_left h4,List.take_length,List.take_of_length_le h4]
  ·rw[Nat.min_eq_right (by omega)]
 have hfn:(qQw x).disks.length=mm:=by rw[←htk,List.length_take];omega
 have hm7:mm≤7:=by omega
 rw[htk]at hpre;have HFN:=Hh hfn;clear htk hmm hfn;have hY3:=hY2.alloc (.cells #[] 3);have hZ3:=hZ2.alloc (.cells #[] 3);have hE3:=hE2.alloc (.cells #[] 3);have q7:=hY3.cell 7;have f7:=hY3.frozen 7;have hy:=hY3.lt;simp at q7
 go_wp2_with (at_builtin;refine qZG hnO hpre (one_len _) (ints_one _) 24 underlying24 qZx rfl (by decide) (by decide) (by simp;have:=HFN.out;omega) (by have:=hE2.size;simp;omega) rfl _ _ rfl rfl rfl ?_)
 intro v1 w4 hN4 hC4
 have hN5:w4.ownsRow yb 3 1 v1 (qQw x).disks.length ((qQw x).disks.map (Value.int .i64)):=by
  have e:(List.map ((fun x=>[x]) ∘ Value.int .i64) (qQw x).disks).flatten=(qQw x).disks.map (Value.int .i64):=by
   rw[←List.map_map];exact flat_ones _
  rw[←e];simpa[hyb]using hN4
 obtain⟨vA,vc,rfl⟩:=qQa hN5
 have hE6:Ext W2 w4:=Chg.mono (((Er W2).alloc (.cells #[] 3)).chg_trans hC4) fun j hj h=>by
  have h':some j=some W2.heap.size:=h;injection h' with h';omega
 have hY6:=hY2.ext hE6;have hZ6:=hZ2.ext hE6;have hE7:=hE2.trans hE6;have hA1:=qQf hN5 hY6 (by decide);have hA2:=qQf hN5 hZ6 (by decide);have HA:=Hh (And.intro hA1 hA2);clear hA1 hA2;clear hN4 hC4 hnO hpre q7 f7 hy hY3 hZ3 hE3 hsl2 hsl hY2 hZ2;have q7:=hY6.cell 7;have f7:=hY6.frozen 7;have hy:=hY6.lt;simp at q7
 go_upto_region 3 with fail
 clear q7;have hY7:At (w4.setCell ⟨yb,7,none⟩ (.slice vA (qQw x).disks.length vc)) yb 76 #[.int .i64 x.kind,.int .i64 x.client,.int .i64 x.seq,.string (cut x.name 40),.int .u64 (x.blob:Int),.int .i64 x.size,.int .u32 (x.sum:Int),.slice vA (qQw x).disks.length vc,.int .i64 x.pool,.int .i64 x.vol,.int .i64 x.at_]:=hY6.set 7 _;have hCs:=(Chg.refl (fun k=>k=yb∨k=yb+1) w4).setCell (p:=⟨yb,7,none⟩) (.inl (.inl rfl)) (.slice vA (qQw x).disks.length vc);have hZ7:=hZ6.far (p:=⟨yb,7,none⟩) (by simp) (.slice vA (qQw x).disks.length vc);clear f7 hy hY6;generalize World.setCell _ _ _=W8 at hY7 hZ7 hCs⊢;have q0:=hY7.cell 0;have q1:=hY7.cell 1;have q2:=hY7.cell 2;have q3:=hY7.cell 3;have q4:=hY7.cell 4;have q5:=hY7.cell 5;have q6:=hY7.cell 6;have q7:=hY7.cell 7;have q8:=hY7.cell 8;have q9:=hY7.cell 9;have q10:=hY7.cell 10;simp at q0 q1 q2 q3 q4 q5 q6 q7 q8 q9 q10;have r0:=hZ7.cell 0;have r1:=hZ7.cell 1;have r2:=hZ7.cell 2;have r3:=hZ7.cell 3;have r4:=hZ7.cell 4;have r5:=hZ7.cell 5;have r6:=hZ7.cell 6;have r7:=hZ7.cell 7;have r8:=hZ7.cell 8;have r9:=hZ7.cell 9;have r10:=hZ7.cell 10;simp at r0 r1 r2 r3 r4 r5 r6 r7 r8 r9 r10;have f0:=hZ7.frozen 0;have f1:=hZ7.frozen 1;have f2:=hZ7.frozen 2;have f3:=hZ7.frozen 3;have f4:=hZ7.frozen 4;have f5:=hZ7.frozen 5;have f6:=hZ7.frozen 6;have f7:=hZ7.frozen 7;have f8:=hZ7.frozen 8;have f9:=hZ7.frozen 9;have f10:=hZ7.frozen 10;have hz:=hZ7.lt;go_wp2_with fail
 obtain⟨hZ8,hCz⟩:=cmd_out hZ7 (.int .i64 x.kind) (.int .i64 x.client) (.int .i64 x.seq) (.string (cut x.name 40)) (.int .u64 (x.blob:Int)) (.int .i64 x.size) (.int .u32 (x.sum:Int)) (.slice vA (qQw x).disks.length vc) (.int .i64 x.pool) (.int .i64 x.vol) (.int .i64 x.at_);have hC9:Chg (fun k=>k=yb∨k=yb+1) w4 _:=hCs.trans hCz (fun k _ e=>.inr e);clear hCz;generalize World.setCell _ _ _=WZ at hZ8 hC9⊢;have g0:=hZ8.cell 0;have g1:=hZ8.cell 1;have g2:=hZ8.cell 2;have g3:=hZ8.cell 3;have g4:=hZ8.cell 4;have g5:=hZ8.cell 5;have g6:=hZ8.cell 6;have g7:=hZ8.cell 7;have g8:=hZ8.cell 8;have g9:=hZ8.cell 9;have g10:=hZ8.cell 10;simp at g0 g1 g2 g3 g4 g5 g6 g7 g8 g9 g10
 have hE9:Ext w WZ:=Chg.mono (hE7.chg_trans hC9) fun j hj h=>by
  have h':j=yb∨j=yb+1:=h;omega
 have hN9:=qQb hN5 hC9 (fun k hk h=>by
  rcases h with h|h
  ·exact HA.out.1 k hk h
  ·exact HA.out.2 k hk h)
 have HF:=HR.out vA vc WZ hN9 hE9;refine bodyPost_ret (v:=.agg #[.int .i64 x.kind,.int .i64 x.client,.int .i64 x.seq,.string (cut x.name 40),.int .u64 (x.blob:Int),.int .i64 x.size,.int .u32 (x.sum:Int),.slice vA (qQw x).disks.length vc,.int .i64 x.pool,.int .i64 x.vol,.int .i64 x.at_]) (by simp[results,results48,go_sem,g0,g1,g2,g3,g4,g5,g6,g7,g8,g9,g10]) rfl ?_;rw[hyb];exact HF
open Go.RowKit Go.Sort
theorem told_any(w:World)(c:Cmd)(A:Option Addr)(n m:Nat):Calls prog 50 #[qQd c (.slice A n m)] w fun e w'=>e=.returned (qQd c (.slice A n m))∧Ext w w':=by
 unfold qQd
 go_enter func50,ntmps50
 go_wp2_with fail
 exact bodyPost_ret (v:=.agg #[.int .i64 c.kind,.int .i64 c.client,.int .i64 c.seq,.string c.name,.int .u64 (c.blob:Int),.int .i64 c.size,.int .u32 (c.sum:Int),.slice A n m,.int .i64 c.pool,.int .i64 c.vol,.int .i64 c.at_]) (by simp[results,results50,go_sem]) rfl ⟨rfl,((Er w).alloc _).alloc _⟩
end Go.Proofs.YtiojjokfeknhcaaGreat
