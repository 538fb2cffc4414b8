/-
  Part 17 of what the law leans on.
-/
import Derived.Test.YtiojjokfeknhcaaGreatSC1
import Derived.Test.YtiojjokfeknhcaaGreatSC2
import Derived.Test.YtiojjokfeknhcaaGreatSC6
import Derived.Test.YtiojjokfeknhcaaGreatSC15
import Derived.Test.YtiojjokfeknhcaaGreatSC16
namespace Go.Proofs.YtiojjokfeknhcaaGreat
set_option maxRecDepth 100000
set_option maxHeartbeats 8000000
set_option linter.unusedVariables false
set_option linter.unusedSimpArgs false
set_option linter.unusedSectionVars false
open _root_.Go.Proofs.Tryz
open Go.RowKit Go.Sort
theorem qZd{w w':World}{base:Nat}{e:TypeId}{size:Nat}{v:Value}{n:Nat}{xs:List Value}(h:w.ownsRow base e size v n xs)(hE:Ext w w'):w'.ownsRow base e size v n xs:=qQb h (Ext.chg (S:=fun _=>False) hE) (fun _ _ h=>h)
structure WdV where
 d:Value
 v:Value
 i:Value
 ld:Value
 lv:Value
def qQo(W:Wd)(V:WdV):Array Value:=#[V.d,V.v,V.i,V.ld,V.lv,.int .i64 W.copies,.int .i64 W.keep,.int .i64 W.percent,.int .i64 W.reserve]
structure WdIn (w:World) (W:Wd) (V:WdV):Prop where
 d:Sln w V.d 2 (W.disks.map Spot.cells)
 v:Sln w V.v 2 (W.vols.map Spot.cells)
 i:Sl w V.i (W.items.map (Value.int .i64))
 ld:Sl w V.ld (W.lostD.map Value.bool)
 lv:Sl w V.lv (W.lostV.map Value.bool)
theorem WdIn.ext{w w':World}{W:Wd}{V:WdV}(h:WdIn w W V)(hE:Ext w w'):WdIn w' W V:=⟨h.d.ext hE,h.v.ext hE,h.i.ext hE,h.ld.ext hE,h.lv.ext hE⟩
def Jb.cells(j:Jb):List Value:=[.int .i64 j.kind,.int .u64 (j.blob:Int),.int .i64 j.pool,.int .i64 j.vol]
def qZb(J:List Jb):List Value:=(J.map Jb.cells).flatten
theorem qXd(J:List Jb)(j:Jb):qZb (J++[j])=qZb J++j.cells:=by unfold qZb;simp
theorem job_info:(prog.info? 50).map (fun i=>(i.zero,i.size,i.bytes))=some (some (.agg #[.int .i64 0,.int .u64 0,.int .i64 0,.int .i64 0]),4,32):=by kernel_rfl
abbrev plCells(c:Nat)(W:Wd)(V:WdV)(bv vv jv:Value):Array Value:=#[.pointer (some ⟨c,0,none⟩),V.d,V.v,V.i,V.ld,V.lv,.int .i64 W.copies,.int .i64 W.keep,.int .i64 W.percent,.int .i64 W.reserve,bv,vv,jv]
theorem own_apart2{w:World}{b1 b2:Nat}{e1 e2:TypeId}{s1 s2:Nat}{v1 v2:Value}{n1 n2:Nat}{x1 x2:List Value}(h:w.ownsRow b1 e1 s1 v1 n1 x1)(h':w.ownsRow b2 e2 s2 v2 n2 x2)(hne:e1≠e2):∀k,some k=v1.ownBlock→¬ some k=v2.ownBlock:=by
 intro k hk hk';rcases h'.2 with⟨rfl,_⟩|⟨g',cap,cur,rfl,hb,hg,_⟩
 ·cases hk'
 ·cases hk'
  exact qQf h (t:=e2) (cs:=cur) hg hne _ hk rfl
structure PlIn (W0 w:World) (pb c:Nat) (W:Wd) (V:WdV) (bv vv:Value) (L:List Bl) (VL:List Vl) (J:List Jb):Prop where
 ext:Ext W0 w
 pn:W0.heap.size≤pb
 blk:∃jv,At w pb 84 (plCells c W V bv vv jv)∧w.ownsRow W0.heap.size 50 4 jv J.length (qZb J)
 bl:qXl w bv L
 vl:w.ownsRow 0 85 3 vv VL.length ((VL.map qQK).flatten)
section
variable{W0 w w':World}{pb c:Nat}{W:Wd}{V:WdV}{bv vv:Value}{L:List Bl}{VL:List Vl}{J:List Jb}
theorem qXl.ext{v:Value}(h:qXl w v L)(hE:Ext w w'):qXl w' v L:=by
 obtain⟨DV,h1,h2,h3⟩:=h;exact⟨DV,h1,qZd h2 hE,fun p hp=>qZd (h3 p hp) hE⟩
theorem PlIn.ext_(h:PlIn W0 w pb c W V bv vv L VL J)(hE:Ext w w'):PlIn W0 w' pb c W V bv vv L VL J:=by
 obtain⟨jv,h1,h2⟩:=h.blk;exact⟨h.ext.trans hE,h.pn,⟨jv,h1.ext hE,qZd h2 hE⟩,h.bl.ext hE,qZd h.vl hE⟩
end
def KpJ(w w':World):Prop:=∀(g:Nat) (t:TypeId) (cs:Array Value),t≠50→t≠84→At w g t cs→At w' g t cs
theorem KpJ.of_ext{w w':World}(h:Ext w w'):KpJ w w':=fun _ _ _ _ _ hA=>hA.ext h
theorem KpJ.refl(w:World):KpJ w w:=fun _ _ _ _ _ hA=>hA
theorem KpJ.trans{w w' w'':World}(h:KpJ w w')(h':KpJ w' w''):KpJ w w'':=fun g t cs h1 h2 hA=>h' g t cs h1 h2 (h g t cs h1 h2 hA)
theorem KpJ.own{w w':World}{base:Nat}{e:TypeId}{size:Nat}{v:Value}{n:Nat}{xs:List Value}(h:KpJ w w')(ho:w.ownsRow base e size v n xs)(h1:e≠50)(h2:e≠84):w'.ownsRow base e size v n xs:=by
 refine⟨ho.1,?_⟩
 rcases ho.2 with hn|⟨g,cap,cur,hv,hb,hg,rest⟩
 ·exact .inl hn
 ·exact .inr ⟨g,cap,cur,hv,hb,h g e cur h1 h2 hg,rest⟩
theorem qZ8{W0 w:World}{pb c:Nat}{W:Wd}{V:WdV}{bv vv:Value}{L:List Bl}{VL:List Vl}{J:List Jb}(h:PlIn W0 w pb c W V bv vv L VL J)(hJ:J.length≤100000)(j:Jb) :
 Calls prog 54 #[.pointer (some ⟨pb,0,none⟩),.int .i64 j.kind,.int .u64 (j.blob:Int),.int .i64 j.pool,.int .i64 j.vol] w fun e w'=>e=.returned (.tuple #[])∧PlIn W0 w' pb c W V bv vv L VL (J++[j])∧KpJ w w':=by
 obtain⟨jv,h1,h2⟩:=h.blk;obtain⟨JA,jc,rfl⟩:=qQa h2
 go_enter func54,ntmps54
 have c12:=h1.cell 12;have f12:=h1.frozen 12;simp at c12;have hsz:=h.ext.size
 go_wp2_with (at_builtin;refine qQp w h2 43 underlying43 job_info rfl rfl (by decide) (by decide) rfl (by omega) hsz rfl _ _ rfl rfl rfl ?_)
 intro v' w1 hown hchg;obtain⟨VA,vc,rfl⟩:=qQa hown;have hap:=qQf h2 h1 (by decide);have h3:=h1.chg hchg fun hh=>hap _ hh rfl
 have c12':=h3.cell 12;simp at c12';have f12':=h3.frozen 12;have hE1:Ext W0 w1:=Chg.own_ext h.ext hchg h2 (Nat.le_refl _)
 have keep:∀ {base size n:Nat} {e:TypeId} {v:Value} {xs:List Value},w.ownsRow base e size v n xs→e≠50→e≠84→(w1.setCell ⟨pb,12,none⟩ (.slice VA (J.length+1) vc)).ownsRow base e size v n xs:=fun ho n1 n2=>by
  have ho1:=qQb ho hchg (own_apart2 ho h2 n1);exact qQb ho1 ((Chg.refl (· = pb) w1).setCell (p:=⟨pb,12,none⟩) (.inl rfl) (.slice VA (J.length+1) vc)) fun k hk e=>qQf ho1 h3 n2 k hk e
 have HR:Hid (PlIn W0 (w1.setCell ⟨pb,12,none⟩ (.slice VA (J.length+1) vc)) pb c W V bv vv L VL (J++[j])):=Hh (by
  refine⟨hE1.setCell h.pn _,h.pn,⟨_,h3.set 12 (.slice VA (J.length+1) vc),?_⟩,?_,keep h.vl (by decide) (by decide)⟩
  ·have ho:=qQb hown ((Chg.refl (· = pb) w1).setCell (p:=⟨pb,12,none⟩) (.inl rfl) (.slice VA (J.length+1) vc)) fun k hk e=>qQf hown h3 (by decide) k hk e
   rw[qXd,List.length_append];exact ho
  ·obtain⟨DV,a1,a2,a3⟩:=h.bl;exact⟨DV,a1,keep a2 (by decide) (by decide),fun p hp=>keep (a3 p hp) (by decide) (by decide)⟩)
 have HK:Hid (KpJ w (w1.setCell ⟨pb,12,none⟩ (.slice VA (J.length+1) vc))):=Hh fun g t cs n1 n2 hA=>by
  have hg1:=hA.chg hchg fun hh=>qQf h2 hA (Ne.symm n1) _ hh rfl
  exact hg1.far (fun e=>by
   have e':g=pb:=e;subst e';exact hg1.ne h3 n2 rfl) _
 clear c12 f12 keep hE1 h1 h2 h3 hchg hown hap h;go_wp2_with fail
 go_end0
 exact⟨rfl,HR.out,HK.out⟩
open Go.RowKit Go.Sort
theorem qXx{w:World}{A:Option Addr}{n c:Nat}{xs:List Value}(h:Sl w (.slice A n c) xs)(k:Nat){x:Value}(hx:xs[k]? = some x):∃b o,A=some ⟨b,o,none⟩∧w.cell? ⟨b,o+k,none⟩=some x:=by
 obtain⟨A',c',ha,hc⟩:=h;obtain⟨b,o,rfl,hcc⟩:=hc (fun e=>by rw[e]at hx;cases hx);injection ha with ha q1 q2;exact⟨b,o,ha,hcc k _ hx⟩
theorem itemb_any(w:World)(v:Value)(l:List Bool)(hS:Sl w v (l.map Value.bool))(hl:l.length≤12)(i:Int)(hi:0≤i) :
 Calls prog 85 #[v,.int .i64 i] w fun e w'=>e=.returned (.bool (qZc l i))∧Ext w w':=by
 obtain⟨A,c,rfl,hx⟩:=hS;have hS:Sl w (.slice A l.length c) (l.map Value.bool):=⟨A,c,by rw[List.length_map],hx⟩;clear hx;obtain⟨n,rfl⟩:=Int.eq_ofNat_of_zero_le hi;rw[List.length_map];unfold qZc;rw[Int.toNat_natCast]
 go_enter func85,ntmps85
 have t0:decide ((n:Int)<0)=false:=by simp
 by_cases hlt:n<l.length
 ·have t1:decide (l.length≤n)=false:=by simp;omega
  have hg:l.getD n false=l[n]:=by rw[List.getD_eq_getElem?_getD,List.getElem?_eq_getElem hlt];rfl
  obtain⟨b,o,rfl,c1⟩:=qXx hS n (x:=.bool l[n]) (by rw[List.getElem?_map,List.getElem?_eq_getElem hlt];rfl);rw[hg];generalize l[n]=x at c1;clear hg hS;go_wp2_with fail
  go_ret
  exact⟨rfl,Er _⟩
 ·have t1:decide (l.length≤n)=true:=by simp;omega
  have hg:l.getD n false=false:=by rw[List.getD_eq_getElem?_getD,List.getElem?_eq_none (by omega)];rfl
  rw[hg];clear hg hS;go_wp2_with fail
  go_ret
  exact⟨rfl,Er _⟩
theorem itemi_any(w:World)(v:Value)(l:List Int)(hS:Sl w v (l.map (Value.int .i64)))(hl:l.length≤12)(n:Nat) :
 Calls prog 60 #[v,.int .i64 (n:Int)] w fun e w'=>e=.returned (.int .i64 (l.getD n 0))∧Ext w w':=by
 obtain⟨A,c,rfl,hx⟩:=hS;have hS:Sl w (.slice A l.length c) (l.map (Value.int .i64)):=⟨A,c,by rw[List.length_map],hx⟩;clear hx;rw[List.length_map]
 go_enter func60,ntmps60
 have t0:decide ((n:Int)<0)=false:=by simp
 by_cases hlt:n<l.length
 ·have t1:decide (l.length≤n)=false:=by simp;omega
  have hg:l.getD n 0=l[n]:=by rw[List.getD_eq_getElem?_getD,List.getElem?_eq_getElem hlt];rfl
  obtain⟨b,o,rfl,c1⟩:=qXx hS n (x:=.int .i64 l[n]) (by rw[List.getElem?_map,List.getElem?_eq_getElem hlt];rfl);rw[hg];generalize l[n]=x at c1;clear hg hS;go_wp2_with fail
  go_ret
  exact⟨rfl,Er _⟩
 ·have t1:decide (l.length≤n)=true:=by simp;omega
  have hg:l.getD n 0=0:=by rw[List.getD_eq_getElem?_getD,List.getElem?_eq_none (by omega)];rfl
  rw[hg];clear hg hS;go_wp2_with fail
  go_ret
  exact⟨rfl,Er _⟩
open Go.RowKit Go.Sort
theorem qZm{α : Type}(f : α → Bool){l:List α}{k:Nat}{x : α}(hx:l[k]? = some x):(l.take (k+1)).filter f=(l.take k).filter f++(if f x then [x]else []):=by
 rw[List.take_add_one,hx,List.filter_append]
 congr 1
 cases h:f x <;> simp[h]
theorem pgood_any{W0 w:World}{pb c:Nat}{W:Wd}{V:WdV}{bv vv:Value}{L:List Bl}{VL:List Vl}{J:List Jb}(h:PlIn W0 w pb c W V bv vv L VL J)(hW:WdIn W0 W V)(hO:W.Ok)(b:Bl)(dv:Value)(hd:w.ownsRow 0 3 1 dv b.disks.length (b.disks.map (Value.int .i64)))(hr:∀d∈b.disks,0≤d∧d≤5)(hl:b.disks.length≤6) :
 Calls prog 52 #[.pointer (some ⟨pb,0,none⟩),.agg (blCells b dv)] w fun e w'=>∃v,e=.returned v∧w'.ownsRow w.heap.size 3 1 v (qQ5 W b).length ((qQ5 W b).map (Value.int .i64))∧Ext w w':=by
 obtain⟨i0,hi,hz0,hz1,hz2⟩:=info_parts qZx;obtain⟨jv,h1,_⟩:=h.blk;obtain⟨dA,dc,rfl⟩:=qQa hd;have hld:=hW.ld.ext h.ext;have hll:=hO.ld;obtain⟨Vd,Vv,Vi,Vld,Vlv⟩:=V;simp only[]at hld h1;obtain⟨LA,lc,rfl,hlx⟩:=hld;have hld:Sl w (.slice LA W.lostD.length lc) (W.lostD.map Value.bool):=⟨LA,lc,by rw[List.length_map],hlx⟩;clear hlx;rw[List.length_map]at h1;have hsz:=h.ext.size;clear h hW hO;have hS:=Sl.of_own hd;clear hd;have hX:=At.new w 63 (blCells b (.slice dA b.disks.length dc));have hE:=(Er w).alloc (.cells (blCells b (.slice dA b.disks.length dc)) 63)
 go_enter func52,ntmps52
 go_upto_region 1 with fail
 generalize w.alloc (.cells (blCells b (.slice dA b.disks.length dc)) 63)=W1 at hX hE⊢;have x4:=hX.cell 4;simp at x4;go_wp2_with fail
 clear x4 hX
 go_loopw [5,11] (fun ov iv wr=>∃k:Nat,k≤b.disks.length∧iv=.int .i64 (k:Int)∧wr.ownsRow w.heap.size 3 1 ov ((b.disks.take k).filter fun d => !qZc W.lostD d).length (((b.disks.take k).filter fun d => !qZc W.lostD d).map (Value.int .i64))∧Ext w wr) (fun _ iv _=>b.disks.length - (intOf iv).toNat)
 case atStart=>exact⟨0,Nat.zero_le _,rfl,⟨rfl,.inl ⟨rfl,rfl⟩⟩,hE⟩
 case round =>
  clear hE;obtain⟨k,hk,rfl,hown,hE⟩:=hrel
  by_cases hlt:k<b.disks.length
  ·obtain⟨x,hx⟩:∃x,b.disks[k]? = some x:=⟨_,List.getElem?_eq_getElem hlt⟩;have hxr:=hr x (List.mem_of_getElem? hx);have hfs:=qZm (fun d => !qZc W.lostD d) hx;have hfl:((b.disks.take k).filter fun d => !qZc W.lostD d).length≤k:=Nat.le_trans (List.length_filter_le _ _) (List.length_take_le _ _);generalize (b.disks.take k).filter (fun d => !qZc W.lostD d)=os at hown hfs hfl;obtain⟨db,do_,rfl,c1⟩:=qXx (hS.ext hE) k (x:=.int .i64 x) (by rw[List.getElem?_map,hx];rfl);have c4:=(h1.ext hE).cell 4;simp at c4;have HIT:=itemb_any wr (.slice LA W.lostD.length lc) W.lostD (hld.ext hE) (by omega) x hxr.1;clear hx;go_wp2_with fail
   refine HIT.mono ?_;rintro e w2 ⟨rfl,hE2⟩;have hown2:=qZd hown hE2;have hX2:=hE.trans hE2;clear HIT hown hE hE2 c1 c4;cases hlo:qZc W.lostD x
   ·rw[hlo]at hfs;have HFS:=Hh (show(b.disks.take (k+1)).filter (fun d => !qZc W.lostD d)=os++[x]by rw[hfs];rfl);clear hfs;obtain⟨OA,oc,rfl⟩:=qQa hown2
    go_wp2_with (at_builtin;refine wpList_append_own _ rfl _ _ 24 rfl w.heap.size 3 i0 (.int .i64 0) 1 8 underlying24 hi hz0 hz1 hz2 rfl (by decide) _ _ _ rfl (hown2.alloc _) ⟨w2.heap.size,0,none⟩ 1 1 [.int .i64 x] rfl rfl ?c1 ?c2 ?c3 ?c4 ?c5 ?_)
    case c1=>exact qXh
    case c2=>simp[Value.oneCell']
    case c3=>unfold maxLen;omega
    case c4=>omega
    case c5=>have:=hX2.size;simp;omega
    intro v1 w4 hown4 hgrow4 _;have hge:=qZV (hown2.alloc (.cells #[.int .i64 x] 3));have hE4:Ext w w4:=Chg.mono ((hX2.alloc _).chg_trans (Chg.of_grown hgrow4)) fun j hj h=>by have:=hge j h;omega
    clear hgrow4 hge
    go_wp2
    go_roundw
    case rel=>exact⟨k+1,by omega,by go_num,by rw[HFS.out];simpa using hown4,hE4⟩
    case measure=>simp[intOf];omega
   ·rw[hlo]at hfs;have HFS:=Hh (show(b.disks.take (k+1)).filter (fun d => !qZc W.lostD d)=os by rw[hfs];simp);clear hfs;go_wp2_with fail
    go_roundw
    case rel=>exact⟨k+1,by omega,by go_num,by rw[HFS.out];exact hown2,hX2⟩
    case measure=>simp[intOf];omega
  ·obtain rfl:k=b.disks.length:=by omega
   rw[List.take_length]at hown;go_wp2_with fail
   go_ret
   exact⟨_,rfl,hown,hE⟩
open Go.RowKit Go.Sort
theorem bl_copy(b:Bl)(dv:Value)(p:Nat)(hp:p<2):(blCells b dv)[5+p * 3]? = some (.bool (b.copy p).there)∧(blCells b dv)[5+p * 3+1]? = some (.int .i64 (b.copy p).vol)∧(blCells b dv)[5+p * 3+2]? = some (.int .i64 (b.copy p).at_):=by
 have:p=0∨p=1:=by omega
 rcases this with rfl|rfl <;> exact⟨rfl,rfl,rfl⟩
theorem qXG{W0 w:World}{pb c:Nat}{W:Wd}{V:WdV}{bv vv:Value}{L:List Bl}{VL:List Vl}{J:List Jb}(h:PlIn W0 w pb c W V bv vv L VL J)(hW:WdIn W0 W V)(hO:W.Ok)(b:Bl)(dA:Option Addr)(dn dc:Nat)(p:Nat)(hp:p<2)(hv:0≤(b.copy p).vol) :
 Calls prog 57 #[.pointer (some ⟨pb,0,none⟩),.agg (blCells b (.slice dA dn dc)),.int .i64 (p:Int)] w fun e w'=>e=.returned (.bool (qZk W (b.copy p)))∧Ext w w':=by
 obtain⟨jv,h1,_⟩:=h.blk;have hlv:=hW.lv.ext h.ext;have hll:=hO.lv;obtain⟨Vd,Vv,Vi,Vld,Vlv⟩:=V;simp only[]at hlv h1;obtain⟨LA,lc,rfl,hlx⟩:=hlv;have hlv:Sl w (.slice LA W.lostV.length lc) (W.lostV.map Value.bool):=⟨LA,lc,by rw[List.length_map],hlx⟩;clear hlx;rw[List.length_map]at h1;clear h hW hO;obtain⟨y0,y1,y2⟩:=bl_copy b (.slice dA dn dc) p hp;obtain⟨⟨th,vo,at_⟩,hcp⟩:∃x,x=b.copy p:=⟨_,rfl⟩;rw[←hcp]at y0 y1 y2 hv;rw[←hcp];clear hcp;unfold qZk;simp only[]at y0 y1 y2 hv⊢;have HIT:=fun(w2:World) (hE:Ext w w2)=>itemb_any w2 _ W.lostV (hlv.ext hE) hll vo hv
 generalize qZc W.lostV vo=lo at HIT⊢;have hX:=At.new w 63 (blCells b (.slice dA dn dc));have hE:=(Er w).alloc (.cells (blCells b (.slice dA dn dc)) 63)
 go_enter func57,ntmps57
 go_upto_region 1 with fail
 generalize w.alloc (.cells (blCells b (.slice dA dn dc)) 63)=W1 at hX hE⊢;generalize w.heap.size=xb at hX⊢;have x0:=hX.cell (5+p * 3);have x1:=hX.cell (5+p * 3+1);have x2:=hX.cell (5+p * 3+2);rw[y0]at x0;rw[y1]at x1;rw[y2]at x2;clear y0 y1 y2 hX;have hY:=At.new W1 60 #[.bool th,.int .i64 vo,.int .i64 at_];have hE1:=hE.alloc (.cells #[.bool th,.int .i64 vo,.int .i64 at_] 60)
 go_upto_region 2 with fail
 clear x0 x1 x2 hE;generalize W1.alloc (.cells #[.bool th,.int .i64 vo,.int .i64 at_] 60)=W2 at hY hE1⊢;generalize W1.heap.size=yb at hY⊢;have y0:=hY.cell 0;have y1:=hY.cell 1;have q5:=(h1.ext hE1).cell 5;simp at y0 y1 q5;have rg:∀ {p:Addr} {v:Value},W2.cell? p=some v→∀d os,(grow (redrawn W2 d) os).cell? p=some v:=fun h d os=>(Ext.cell (qQn W2 d os) (qQv h)).trans h
 have c1:Hid (∀dd os,Calls prog 85 #[.slice LA W.lostV.length lc,.int .i64 vo] (grow (redrawn W2 dd) os) fun e w''=>e=.returned (.bool lo)∧∃p:Regrown,w''=grow (redrawn W2 p.d) p.os):=Hh fun dd os=>Calls.ext_of (HIT _ (hE1.trans (qQn W2 dd os)))
 have r0:=rg y0;have r1:=rg y1;have r5:=rg q5;clear HIT hY h1 hlv y0 y1 q5 hv rg;cases th
 ·refine qQc (by kernel_rfl) (by kernel_rfl) ?_
  repeat (go_big_quiet_step (fail))
  refine wpQuiet_nil ?_;intro W8 hE8;go_wp2_with fail
  go_ret
  exact⟨by simp,hE1.trans hE8⟩
 ·refine qQc (by kernel_rfl) (by kernel_rfl) ?_
  repeat (go_big_quiet_step (first|with_reducible exact c1.out _ _))
  refine wpQuiet_nil ?_;intro W8 hE8;go_wp2_with fail
  go_ret
  exact⟨by simp,hE1.trans hE8⟩
open Go.RowKit
def tupI:Value→Nat→Value
 | .tuple xs,i=>xs.getD i undef
 | _,_=>undef
inductive Sv
 | v (x:Value)
 | f (g:Value→Value)
 | any
def Sv.is:Sv→Value→Value→Prop
 | .v x,_,y=>y=x
 | .f g, γ,y=>y=g γ
 | .any,_,_=>True
def Sv.isF:Sv→Bool
 | .f _=>true
 | _=>false
def svφ(sp:List Sv)(γ : Value)(d:Nat)(y:Value)(_w:World):Prop:=(sp.getD d .any).is γ y
def svG(W:World)(jc:Nat)(Post:Value→World→Prop)(γ : Value)(L:Nat→Bool)(w:World):Prop:=Ext W w∧(L jc=true→Post γ w)
def svDep(ops:Array Oper)(F:List Bool)(jc:Nat):Bool:=(List.range ops.size).all fun d=>d == jc || !(F.getD d false)||(List.range d).any (fun e=>qZ1 ops d e&&(e == jc||F.getD e false))
theorem svDep_down{ops:Array Oper}{F:List Bool}{jc:Nat}(h:svDep ops F jc=true){L:Nat→Bool}(hdown:∀i d,L i=true→qZ1 ops i d=true→L d=true):∀d,F.getD d false=true→d<ops.size→L d=true→L jc=true:=by
 intro d
 induction d using Nat.strongRecOn with
 | _ d ih =>
  intro hF hd hL;have h1:=List.all_eq_true.1 h d (List.mem_range.2 hd);rw[hF]at h1
  by_cases e:d=jc
  ·rw[←e];exact hL
  ·simp only[beq_iff_eq,e,Bool.not_true,Bool.or_false,Bool.or_eq_true,false_or]at h1;obtain⟨x,hx,hq⟩:=List.any_eq_true.1 h1;rw[Bool.and_eq_true,Bool.or_eq_true]at hq;have hLx:=hdown d x hL hq.1;rcases hq.2 with hq2|hq2
   ·have:x=jc:=by simpa using hq2
    rw[←this];exact hLx
   ·exact ih x (List.mem_range.1 hx) hq2 (by have:=List.mem_range.1 hx;omega) hLx
section
variable{P:Program}{ops:Array Oper}{Q:Exit→Act→World→Prop}{a0:Act}{sp:List Sv}{W:World}{jc:Nat}{Post:Value→World→Prop}{j:Nat}{o:Oper}
structure SvIn (ops:Array Oper) (a0:Act) (sp:List Sv) (W:World) (jc:Nat) (Post:Value→World→Prop) (j:Nat) (γ : Value) (a:Act) (w:World):Prop where
 ext:Ext W w
 post:(sp.map Sv.isF).getD j false=true→j≠jc→Post γ w
 v:∀d t x,qQH ops d=some t→qZ1 ops j d=true→sp.getD d .any=.v x→a.tmps.getD t undef=x
 f:∀d t g,qQH ops d=some t→qZ1 ops j d=true→sp.getD d .any=.f g→a.tmps.getD t undef=g γ
 far:∀t,((List.range ops.size).all fun d=>qQH ops d != some t)=true→a.tmps.getD t undef=a0.tmps.getD t undef
 late:∀t,((List.range ops.size).all fun d=>qQH ops d != some t||d == j||qZ1 ops d j)=true→a.tmps.getD t undef=a0.tmps.getD t undef
theorem dstOf_lt{d:Nat}{t:Tmp}(hd:qQH ops d=some t):d<ops.size:=by
 rcases Nat.lt_or_ge d ops.size with h|h
 ·exact h
 ·unfold qQH at hd;rw[Array.getElem?_eq_none h]at hd;cases hd
theorem SvIn.mk'(hdep:svDep ops (sp.map Sv.isF) jc=true)(hj:j<ops.size){γ : Value}{L:Nat→Bool}{v:Nat→Value}{a:Act}{w:World}(hdown:∀i d,L i=true→qZ1 ops i d=true→L d=true)(hLj:L j=false)(hneed:∀d,qZ1 ops j d=true→L d=true)(hG:svG W jc Post γ L w)(hφ : ∀d,L d=true→svφ sp γ d (v d) w)
 (hval:∀d t,qQH ops d=some t→L d=true→a.tmps.getD t undef=v d) (h0:∀t,(∀d,L d=true→qQH ops d≠some t)→a.tmps.getD t undef=a0.tmps.getD t undef):SvIn ops a0 sp W jc Post j γ a w:=by
 refine⟨hG.1,fun hF hne=>?_,fun d t x hd hn hs=>?_,fun d t g hd hn hs=>?_,fun t ht=>h0 t fun d _ hd=>?_,fun t ht=>h0 t fun d hLd hd=>?_⟩
 ·have h1:=List.all_eq_true.1 hdep j (List.mem_range.2 hj);rw[hF]at h1;simp only[show(j == jc)=false by simpa using hne,Bool.not_true,Bool.or_false,Bool.false_or]at h1;obtain⟨x,hx,hq⟩:=List.any_eq_true.1 h1;rw[Bool.and_eq_true,Bool.or_eq_true]at hq;have hLx:=hneed x hq.1;refine hG.2 ?_;rcases hq.2 with hq2|hq2
  ·have:x=jc:=by simpa using hq2
   rw[←this];exact hLx
  ·exact svDep_down hdep hdown x hq2 (by have:=List.mem_range.1 hx;omega) hLx
 ·have h1:=hφ d (hneed d hn);unfold svφ at h1;rw[hs]at h1;exact(hval d t hd (hneed d hn)).trans h1
 ·have h1:=hφ d (hneed d hn);unfold svφ at h1;rw[hs]at h1;exact(hval d t hd (hneed d hn)).trans h1
 ·have:=List.all_eq_true.1 ht d (List.mem_range.2 (dstOf_lt hd))
  rw[hd]at this;simp at this
 ·have:=List.all_eq_true.1 ht d (List.mem_range.2 (dstOf_lt hd))
  rw[hd]at this;simp at this;rcases this with rfl|this
  ·rw[hLj]at hLd;cases hLd
  ·rw[hdown d j hLd this]at hLj;cases hLj
variable(hdep:svDep ops (sp.map Sv.isF) jc=true)(hP:∀γ w w',Post γ w→Ext w w'→Post γ w')
include hdep hP
theorem sv_step{y:Value→Value}(ho:ops[j]? = some o)(hg:o.guard=none)(hne:j≠jc)(hs:∀γ,(sp.getD j .any).is γ (y γ))
 (h:∀γ a w,SvIn ops a0 sp W jc Post j γ a w→∃w',(execOp a.eval o).run P w=.ok (.value (y γ)) w'∧Ext w w'):qXb P ops Q a0 (svφ sp) (svG W jc Post) j:=by
 intro γ L v a w hdown hLj hneed hGw hφ hval h0;have hj:j<ops.size:=(Array.getElem?_eq_some_iff.1 ho).1;obtain⟨w',hrun,hE⟩:=h γ a w (SvIn.mk' hdep hj hdown hLj hneed hGw hφ hval h0);refine qJh ho hg hrun ⟨y γ, γ,rfl,hs γ,fun d _ _ hh=>hh,hGw.1.trans hE,fun hL=>hP _ _ _ (hGw.2 ?_) hE⟩;simpa[Ne.symm hne]using hL
theorem qZA{x:Value}(ho:ops[j]? = some o)(hg:o.guard=none)(hne:j≠jc)(hs:sp.getD j .any=.v x)
 (h:∀γ a w,SvIn ops a0 sp W jc Post j γ a w→(execOp a.eval o).run P w=.ok (.value x) w):qXb P ops Q a0 (svφ sp) (svG W jc Post) j :=
 sv_step hdep hP (y:=fun _=>x) ho hg hne (fun γ => by rw[hs];exact rfl) fun γ a w st=>⟨w,h γ a w st,Er w⟩
theorem sv_fun{g:Value→Value}(ho:ops[j]? = some o)(hg:o.guard=none)(hne:j≠jc)(hs:sp.getD j .any=.f g)
 (h:∀γ a w,SvIn ops a0 sp W jc Post j γ a w→Post γ w→(execOp a.eval o).run P w=.ok (.value (g γ)) w):qXb P ops Q a0 (svφ sp) (svG W jc Post) j :=
 sv_step hdep hP (y:=g) ho hg hne (fun γ => by rw[hs];exact rfl) fun γ a w st=>⟨w,h γ a w st (st.post (by
  have hj:j<sp.length:=by
   rcases Nat.lt_or_ge j sp.length with h|h
   ·exact h
   ·rw[List.getD_eq_getElem?_getD,List.getElem?_eq_none h]at hs;cases hs
  rw[List.getD_eq_getElem?_getD,List.getElem?_eq_getElem hj]at hs;rw[List.getD_eq_getElem?_getD,List.getElem?_map,List.getElem?_eq_getElem hj];simp only[Option.getD_some]at hs;simp[hs,Sv.isF]) hne),Er w⟩
omit hP in
theorem sv_call{f:FuncId}(hlen:sp.length≤ops.size)(ho:ops[jc]? = some o)(hg:o.guard=none)(hs:sp.getD jc .any=.f id)
 (h:∀γ a w,SvIn ops a0 sp W jc Post jc γ a w→∃args,(execOp a.eval o).run P w=.ok (.enter f args) w∧Calls P f args w fun r w'=>∃x,r=.returned x∧Ext w w'∧Post x w'):qXb P ops Q a0 (svφ sp) (svG W jc Post) jc:=by
 intro γ L v a w hdown hLj hneed hGw hφ hval h0;have hj:jc<ops.size:=(Array.getElem?_eq_some_iff.1 ho).1;obtain⟨args,hrun,hcall⟩:=h γ a w (SvIn.mk' hdep hj hdown hLj hneed hGw hφ hval h0);refine qJi ho hg hrun (hcall.mono ?_);rintro r w' ⟨x,rfl,hE,hp⟩;refine⟨x,rfl,x,x,rfl,?_,fun d hd hL hh=>?_,hGw.1.trans hE,fun _=>hp⟩
 ·unfold svφ;rw[hs];exact rfl
 ·unfold svφ at hh⊢;cases hsd:sp.getD d .any with
  | v y=>rw[hsd]at hh;exact hh
  | any=>trivial
  | f g =>
   exfalso
   have hdl:d<sp.length:=by
    rcases Nat.lt_or_ge d sp.length with h|h
    ·exact h
    ·rw[List.getD_eq_getElem?_getD,List.getElem?_eq_none h]at hsd;cases hsd
   have hF:(sp.map Sv.isF).getD d false=true:=by
    rw[List.getD_eq_getElem?_getD,List.getElem?_eq_getElem hdl]at hsd;rw[List.getD_eq_getElem?_getD,List.getElem?_map,List.getElem?_eq_getElem hdl];simp only[Option.getD_some]at hsd;simp[hsd,Sv.isF]
   rw[svDep_down hdep hdown d hF (Nat.lt_of_lt_of_le hdl hlen) hL]at hLj;cases hLj
omit hdep hP in
theorem wp_region_call1{id:Nat}{w:World}(hm:P.follows .mixedOrders=true)(hback:backB ops=true)(hd:dstB ops a0.tmps.size=true)(steps:qQ2 P ops Q a0 (svφ sp) (svG w jc Post) ops.size)(hj:jc<ops.size)
 (fin:∀γ v w',Ext w w'→Post γ w'→(∀d,d<ops.size→(sp.getD d .any).is γ (v d))→Q .normal (qQM ops v a0 ops.size) w'):(Code.region id ops true).wp P Q a0 w :=
 qQx (Γ := Value) (svφ sp) (svG w jc Post) hm hback hd undef ⟨(Er w).drew,fun h=>by cases h⟩ steps fun γ L v w' hall hG hφ => fin γ v w' hG.1 (hG.2 (hall jc hj)) hφ
end
open Go.RowKit Go.Sort
theorem PlIn.row{W0 w:World}{pb c:Nat}{W:Wd}{V:WdV}{bA:Option Addr}{bc:Nat}{vv:Value}{L:List Bl}{VL:List Vl}{J:List Jb}(h:PlIn W0 w pb c W V (.slice bA L.length bc) vv L VL J){k:Nat}{b:Bl}(hb:L[k]? = some b) :
 ∃(bb o:Nat) (dA:Option Addr) (dc:Nat) (DV:List (Bl×Value)),bA=some ⟨bb,o,none⟩∧Sln w (.slice (some ⟨bb,o,none⟩) L.length bc) 13 (DV.map qZY)∧DV[k]? = some (b,.slice dA b.disks.length dc)∧w.ownsRow 0 3 1 (.slice dA b.disks.length dc) b.disks.length (b.disks.map (Value.int .i64)):=by
 obtain⟨DV,h1,h2,h3⟩:=bl_rows h.bl
 obtain⟨dv,hdv⟩:∃dv,DV[k]? = some (b,dv):=by
  have e:=hb;rw[←h1,List.getElem?_map]at e;obtain⟨⟨b',dv⟩,e1,e2⟩:=Option.map_eq_some_iff.1 e;have e2':b'=b:=e2;subst e2';exact⟨dv,e1⟩
 have ho:=h3 _ (List.mem_of_getElem? hdv);obtain⟨dA,dc,e⟩:∃A c,dv=.slice A b.disks.length c:=qQa ho;subst e
 obtain⟨bb,o,e⟩:=qQQ h2 (fun e=>by
  have h0:=List.map_eq_nil_iff.1 e;rw[h0]at hdv;simp at hdv)
 subst e;exact⟨bb,o,dA,dc,DV,rfl,h2,hdv,ho⟩
def qZh(n:Nat)(g:List Int):List Int:=g.filter fun d=>decide (d<(n:Int))
theorem further_eq{l:List Spot}{size copies:Int}{g r:List Int}(hc:Chosen l size (copies - ((g.length:Int) - ((qZh l.length g).length:Int))) (qZh l.length g) r)(hlt:(g.length:Int)<copies):decide (((qZh l.length g).length:Int)<(r.length:Int))=(List.range l.length).any (fun i=>mayB l size g i):=by
 have h1:=hc.len
 have e:qZi l size (qZh l.length g) l.length=qZi l size g l.length:=by
  unfold qZi;refine List.filter_congr fun i hi=>?_
  have hi':=List.mem_range.1 hi;unfold mayB
  congr 2
  rw[Bool.eq_iff_iff,List.contains_iff_mem,List.contains_iff_mem];unfold qZh;rw[List.mem_filter];exact⟨fun h=>h.1,fun h=>⟨h,by simp;omega⟩⟩
 rw[e,if_pos (by omega)]at h1
 have h2:0<(qZi l size g l.length).length↔(List.range l.length).any (fun i=>mayB l size g i)=true:=by
  rw[List.length_pos_iff_exists_mem,List.any_eq_true]
  constructor
  ·rintro⟨i,hi⟩
   have:=others_lt hi
   exact⟨i,List.mem_range.2 this.1,this.2⟩
  ·rintro⟨i,hi,hm⟩
   exact⟨i,by unfold qZi;exact List.mem_filter.2 ⟨hi,hm⟩⟩
 rw[Bool.eq_iff_iff,decide_eq_true_eq,←h2];omega
theorem further_any{W0 w:World}{pb c:Nat}{W:Wd}{V:WdV}{bv vv:Value}{L:List Bl}{VL:List Vl}{J:List Jb}(h:PlIn W0 w pb c W V bv vv L VL J)(hW:WdIn W0 W V)(hO:W.Ok)(b:Bl)(dv gv:Value)(g:List Int){gb:Nat}(hg:w.ownsRow gb 3 1 gv g.length (g.map (Value.int .i64)))(hgr:∀x∈g,0≤x∧x≤5)(hgl:g.length≤6)(hlt:(g.length:Int)<W.copies) :
 Calls prog 53 #[.pointer (some ⟨pb,0,none⟩),.agg (blCells b dv),gv] w fun e w'=>e=.returned (.bool ((List.range W.disks.length).any fun i=>mayB W.disks b.size g i))∧Ext w w':=by
 obtain⟨i0,hi,hz0,hz1,hz2⟩:=info_parts qZx;obtain⟨jv,h1,_⟩:=h.blk;obtain⟨gA,gc,rfl⟩:=qQa hg;have hd:=hW.d.ext h.ext;have hdl:=hO.d;have hcc:=hO.c;obtain⟨Vd,Vv,Vi,Vld,Vlv⟩:=V;simp only[]at hd h1;obtain⟨LA,lc,rfl,hlx⟩:=hd;have hd:Sln w (.slice LA W.disks.length lc) 2 (W.disks.map Spot.cells):=⟨LA,lc,by rw[List.length_map],hlx⟩;clear hlx;rw[List.length_map]at h1;have hsz:=h.ext.size;clear h hW hO;have hS:=Sl.of_own hg;clear hg;have hX:=At.new w 63 (blCells b dv);have hE:=(Er w).alloc (.cells (blCells b dv) 63)
 go_enter func53,ntmps53
 go_upto_region 1 with fail
 generalize w.alloc (.cells (blCells b dv) 63)=W1 at hX hE⊢;have hX2:=hX.cell 2;simp at hX2;have hXB:w.heap.size<W1.heap.size:=hX.lt;generalize w.heap.size=xb at hX2 hXB⊢;clear hX;go_wp2_with fail
 go_loopw [7,14] (fun ov iv wr=>∃k:Nat,k≤g.length∧iv=.int .i64 (k:Int)∧wr.ownsRow W1.heap.size 3 1 ov (qZh W.disks.length (g.take k)).length ((qZh W.disks.length (g.take k)).map (Value.int .i64))∧Ext W1 wr) (fun _ iv _=>g.length - (intOf iv).toNat)
 case atStart=>exact⟨0,Nat.zero_le _,rfl,⟨rfl,.inl ⟨rfl,rfl⟩⟩,Er _⟩
 case round =>
  obtain⟨k,hk,rfl,hown,hEk⟩:=hrel;have hwr:=hE.trans hEk
  by_cases hlk:k<g.length
  ·obtain⟨x,hx⟩:∃x,g[k]? = some x:=⟨_,List.getElem?_eq_getElem hlk⟩;have hfs:qZh W.disks.length (g.take (k+1))=_:=qZm (fun d=>decide (d<(W.disks.length:Int))) hx;have hfl:(qZh W.disks.length (g.take k)).length≤k:=Nat.le_trans (List.length_filter_le _ _) (List.length_take_le _ _);have hfe:(g.take k).filter (fun d=>decide (d<(W.disks.length:Int)))=qZh W.disks.length (g.take k):=rfl;rw[hfe]at hfs;clear hfe;generalize qZh W.disks.length (g.take k)=os at hown hfs hfl;obtain⟨db,do_,rfl,c1⟩:=qXx (hS.ext hwr) k (x:=.int .i64 x) (by rw[List.getElem?_map,hx];rfl);have c1':=(h1.ext hwr).cell 1;simp at c1';clear hx;have hszk:=hEk.size
   by_cases hlo:x<(W.disks.length:Int)
   ·have t1:decide (x<(W.disks.length:Int))=true:=by simpa using hlo
    rw[t1]at hfs;have HFS:=Hh (show qZh W.disks.length (g.take (k+1))=os++[x]by rw[hfs];rfl);clear hfs;obtain⟨OA,oc,rfl⟩:=qQa hown
    go_wp2_with (at_builtin;refine wpList_append_own _ rfl _ _ 24 rfl W1.heap.size 3 i0 (.int .i64 0) 1 8 underlying24 hi hz0 hz1 hz2 rfl (by decide) _ _ _ rfl (hown.alloc _) ⟨wr.heap.size,0,none⟩ 1 1 [.int .i64 x] rfl rfl ?c1 ?c2 ?c3 ?c4 ?c5 ?_)
    case c1=>exact qXh
    case c2=>simp[Value.oneCell']
    case c3=>unfold maxLen;omega
    case c4=>omega
    case c5=>simp;omega
    intro v1 w4 hown4 hgrow4 _;have hge:=qZV (hown.alloc (.cells #[.int .i64 x] 3));have hE4:Ext W1 w4:=Chg.mono ((hEk.alloc _).chg_trans (Chg.of_grown hgrow4)) fun j hj h=>by have:=hge j h;omega
    clear hgrow4 hge
    go_wp2
    go_roundw
    case rel=>exact⟨k+1,by omega,by go_num,by rw[HFS.out];simpa using hown4,hE4⟩
    case measure=>simp[intOf];omega
   ·have t1:decide (x<(W.disks.length:Int))=false:=by simpa using hlo
    rw[t1]at hfs;have HFS:=Hh (show qZh W.disks.length (g.take (k+1))=os by rw[hfs];simp);clear hfs;go_wp2_with fail
    go_roundw
    case rel=>exact⟨k+1,by omega,by go_num,by rw[HFS.out];exact hown,hEk⟩
    case measure=>simp[intOf];omega
  ·obtain rfl:k=g.length:=by omega
   rw[List.take_length]at hown;have hfl:(qZh W.disks.length g).length≤g.length:=List.length_filter_le _ _;have HEQ:=fun r hc=>Hh (further_eq (l:=W.disks) (size:=b.size) (copies:=W.copies) (g:=g) (r:=r) hc hlt)
   have HLI:=Sl.of_own hown;obtain⟨OA,oc,rfl⟩:=qQa hown;have c1':=(h1.ext hwr).cell 1;have c6:=(h1.ext hwr).cell 6;simp at c1' c6;have c2:=(Ext.cell hEk (qQv hX2)).trans hX2;have hdk:=hd.ext hwr;clear hX2 h1 hd hS hown;generalize qZh W.disks.length g=ls at HEQ HLI hfl⊢;have HCA:=fun(w2:World) (hx:Ext wr w2)=>disks_any w2 _ _ W.disks ls (hdk.ext hx) (HLI.ext hx) (by omega) (by omega) b.size (W.copies - ((g.length:Int) - (ls.length:Int))) (by omega) (by omega)
   go_wp2_with fail
   refine wp_region_call1 (sp:=[.v (.pointer (some ⟨pb,0,none⟩)),.v (.pointer (some ⟨pb,0,none⟩)),.v (.pointer (some ⟨pb,1,none⟩)),.v (.pointer (some ⟨pb,1,none⟩)),.v (.slice LA W.disks.length lc),.v (.pointer (some ⟨xb,2,none⟩)),.v (.int .i64 b.size),.v (.pointer (some ⟨pb,0,none⟩)),.v (.pointer (some ⟨pb,0,none⟩)),.v (.pointer (some ⟨pb,1,none⟩)),.v (.pointer (some ⟨pb,6,none⟩)),.v (.int .i64 W.copies),.v (.slice gA g.length gc),.v (.int .i64 (g.length:Int)),.v (.slice OA ls.length oc),.v (.int .i64 (ls.length:Int)),.v (.int .i64 ((g.length:Int) - (ls.length:Int))),.v (.int .i64 (W.copies - ((g.length:Int) - (ls.length:Int)))),.v (.slice OA ls.length oc),.f id,.f (id),.f (fun γ => tupI γ 0),.f (fun γ => tupI γ 1),.f (fun γ => tupI γ 0),.f (fun γ => tupI γ 1)]) (jc:=19) (Post:=fun γ _=>∃(rA:Option Addr) (rc:Nat) (r:List Int), γ=.tuple #[.slice rA r.length rc,.bool (decide (W.copies - ((g.length:Int) - (ls.length:Int))≤(r.length:Int)))]∧Chosen W.disks b.size (W.copies - ((g.length:Int) - (ls.length:Int))) ls r) (by kernel_rfl) (by kernel_rfl) (by kernel_rfl) ?steps (by decide) ?fin
   case steps =>
    show qQ2 _ _ _ _ _ _ 25
    refine⟨⟨⟨⟨⟨⟨⟨⟨⟨⟨⟨⟨⟨⟨⟨⟨⟨⟨⟨⟨⟨⟨⟨⟨⟨trivial,?s0⟩,?s1⟩,?s2⟩,?s3⟩,?s4⟩,?s5⟩,?s6⟩,?s7⟩,?s8⟩,?s9⟩,?s10⟩,?s11⟩,?s12⟩,?s13⟩,?s14⟩,?s15⟩,?s16⟩,?s17⟩,?s18⟩,?s19⟩,?s20⟩,?s21⟩,?s22⟩,?s23⟩,?s24⟩
    case s0 =>
     refine qZA (by kernel_rfl) (fun _ _ _ h _=>h) (x:=.pointer (some ⟨pb,0,none⟩)) rfl rfl (by decide) rfl fun γ a w1 st=>?_
     have e0:=st.far 0 (by kernel_rfl);simp at e0;go_simp
    case s1 =>
     refine qZA (by kernel_rfl) (fun _ _ _ h _=>h) (x:=.pointer (some ⟨pb,0,none⟩)) rfl rfl (by decide) rfl fun γ a w1 st=>?_
     have e32:=st.v 0 32 _ rfl (by kernel_rfl) rfl;go_simp
    case s2 =>
     refine qZA (by kernel_rfl) (fun _ _ _ h _=>h) (x:=.pointer (some ⟨pb,1,none⟩)) rfl rfl (by decide) rfl fun γ a w1 st=>?_
     have e33:=st.v 1 33 _ rfl (by kernel_rfl) rfl;go_simp
    case s3 =>
     refine qZA (by kernel_rfl) (fun _ _ _ h _=>h) (x:=.pointer (some ⟨pb,1,none⟩)) rfl rfl (by decide) rfl fun γ a w1 st=>?_
     have e34:=st.v 2 34 _ rfl (by kernel_rfl) rfl;go_simp
    case s4 =>
     refine qZA (by kernel_rfl) (fun _ _ _ h _=>h) (x:=.slice LA W.disks.length lc) rfl rfl (by decide) rfl fun γ a w1 st=>?_
     have e35:=st.v 3 35 _ rfl (by kernel_rfl) rfl;have q:=(Ext.cell st.ext (qQv c1')).trans c1';go_simp
    case s5 =>
     refine qZA (by kernel_rfl) (fun _ _ _ h _=>h) (x:=.pointer (some ⟨xb,2,none⟩)) rfl rfl (by decide) rfl fun γ a w1 st=>?_
     have e4:=st.far 4 (by kernel_rfl);simp at e4;go_simp
    case s6 =>
     refine qZA (by kernel_rfl) (fun _ _ _ h _=>h) (x:=.int .i64 b.size) rfl rfl (by decide) rfl fun γ a w1 st=>?_
     have e37:=st.v 5 37 _ rfl (by kernel_rfl) rfl;have q:=(Ext.cell st.ext (qQv c2)).trans c2;go_simp
    case s7 =>
     refine qZA (by kernel_rfl) (fun _ _ _ h _=>h) (x:=.pointer (some ⟨pb,0,none⟩)) rfl rfl (by decide) rfl fun γ a w1 st=>?_
     have e0:=st.far 0 (by kernel_rfl);simp at e0;go_simp
    case s8 =>
     refine qZA (by kernel_rfl) (fun _ _ _ h _=>h) (x:=.pointer (some ⟨pb,0,none⟩)) rfl rfl (by decide) rfl fun γ a w1 st=>?_
     have e39:=st.v 7 39 _ rfl (by kernel_rfl) rfl;go_simp
    case s9 =>
     refine qZA (by kernel_rfl) (fun _ _ _ h _=>h) (x:=.pointer (some ⟨pb,1,none⟩)) rfl rfl (by decide) rfl fun γ a w1 st=>?_
     have e40:=st.v 8 40 _ rfl (by kernel_rfl) rfl;go_simp
    case s10 =>
     refine qZA (by kernel_rfl) (fun _ _ _ h _=>h) (x:=.pointer (some ⟨pb,6,none⟩)) rfl rfl (by decide) rfl fun γ a w1 st=>?_
     have e41:=st.v 9 41 _ rfl (by kernel_rfl) rfl;go_simp
    case s11 =>
     refine qZA (by kernel_rfl) (fun _ _ _ h _=>h) (x:=.int .i64 W.copies) rfl rfl (by decide) rfl fun γ a w1 st=>?_
     have e42:=st.v 10 42 _ rfl (by kernel_rfl) rfl;have q:=(Ext.cell st.ext (qQv c6)).trans c6;go_simp
    case s12 =>
     refine qZA (by kernel_rfl) (fun _ _ _ h _=>h) (x:=.slice gA g.length gc) rfl rfl (by decide) rfl fun γ a w1 st=>?_
     have e2:=st.far 2 (by kernel_rfl);simp at e2;go_simp
    case s13 =>
     refine qZA (by kernel_rfl) (fun _ _ _ h _=>h) (x:=.int .i64 (g.length:Int)) rfl rfl (by decide) rfl fun γ a w1 st=>?_
     have e44:=st.v 12 44 _ rfl (by kernel_rfl) rfl;go_simp
    case s14 =>
     refine qZA (by kernel_rfl) (fun _ _ _ h _=>h) (x:=.slice OA ls.length oc) rfl rfl (by decide) rfl fun γ a w1 st=>?_
     have e7:=st.far 7 (by kernel_rfl);simp at e7;go_simp
    case s15 =>
     refine qZA (by kernel_rfl) (fun _ _ _ h _=>h) (x:=.int .i64 (ls.length:Int)) rfl rfl (by decide) rfl fun γ a w1 st=>?_
     have e46:=st.v 14 46 _ rfl (by kernel_rfl) rfl;go_simp
    case s16 =>
     refine qZA (by kernel_rfl) (fun _ _ _ h _=>h) (x:=.int .i64 ((g.length:Int) - (ls.length:Int))) rfl rfl (by decide) rfl fun γ a w1 st=>?_
     have e45:=st.v 13 45 _ rfl (by kernel_rfl) rfl;have e47:=st.v 15 47 _ rfl (by kernel_rfl) rfl
     (go_simp;exact IntWalk.i64_in _ (by omega))
    case s17 =>
     refine qZA (by kernel_rfl) (fun _ _ _ h _=>h) (x:=.int .i64 (W.copies - ((g.length:Int) - (ls.length:Int)))) rfl rfl (by decide) rfl fun γ a w1 st=>?_
     have e43:=st.v 11 43 _ rfl (by kernel_rfl) rfl;have e48:=st.v 16 48 _ rfl (by kernel_rfl) rfl
     (go_simp;exact IntWalk.i64_in _ (by omega))
    case s18 =>
     refine qZA (by kernel_rfl) (fun _ _ _ h _=>h) (x:=.slice OA ls.length oc) rfl rfl (by decide) rfl fun γ a w1 st=>?_
     have e7:=st.far 7 (by kernel_rfl);simp at e7;go_simp
    case s19 =>
     refine sv_call (by kernel_rfl) (f:=86) (Nat.le_refl _) rfl rfl rfl fun γ a w1 st=>?_
     have e36:=st.v 4 36 _ rfl (by kernel_rfl) rfl;have e38:=st.v 6 38 _ rfl (by kernel_rfl) rfl;have e49:=st.v 17 49 _ rfl (by kernel_rfl) rfl;have e50:=st.v 18 50 _ rfl (by kernel_rfl) rfl;refine⟨#[.slice LA W.disks.length lc,.int .i64 b.size,.int .i64 (W.copies - ((g.length:Int) - (ls.length:Int))),.slice OA ls.length oc],by go_simp,?_⟩
     refine(HCA w1 st.ext).mono ?_
     rintro e w2 ⟨rv,r,rfl,hch,hro,hE2⟩;obtain⟨rA,rc,rfl⟩:=qQa hro;exact⟨_,rfl,hE2,rA,rc,r,rfl,hch⟩
    case s20 =>
     refine sv_fun (by kernel_rfl) (fun _ _ _ h _=>h) (g:=id) rfl rfl (by decide) rfl fun γ a w1 st hpost=>?_
     obtain⟨rA,rc,r,rfl,hch⟩:=hpost;have e51:=st.f 19 51 _ rfl (by kernel_rfl) rfl;go_simp
    case s21 =>
     refine sv_fun (by kernel_rfl) (fun _ _ _ h _=>h) (g:=fun γ => tupI γ 0) rfl rfl (by decide) rfl fun γ a w1 st hpost=>?_
     obtain⟨rA,rc,r,rfl,hch⟩:=hpost;have e31:=st.f 20 31 _ rfl (by kernel_rfl) rfl;simp[tupI]at e31⊢;go_simp
    case s22 =>
     refine sv_fun (by kernel_rfl) (fun _ _ _ h _=>h) (g:=fun γ => tupI γ 1) rfl rfl (by decide) rfl fun γ a w1 st hpost=>?_
     obtain⟨rA,rc,r,rfl,hch⟩:=hpost;have e31:=st.f 20 31 _ rfl (by kernel_rfl) rfl;simp[tupI]at e31⊢;go_simp
    case s23 =>
     refine sv_fun (by kernel_rfl) (fun _ _ _ h _=>h) (g:=fun γ => tupI γ 0) rfl rfl (by decide) rfl fun γ a w1 st hpost=>?_
     obtain⟨rA,rc,r,rfl,hch⟩:=hpost;have e52:=st.f 21 52 _ rfl (by kernel_rfl) rfl;simp[tupI]at e52⊢;go_simp
    case s24 =>
     refine sv_fun (by kernel_rfl) (fun _ _ _ h _=>h) (g:=fun γ => tupI γ 1) rfl rfl (by decide) rfl fun γ a w1 st hpost=>?_
     obtain⟨rA,rc,r,rfl,hch⟩:=hpost;have e53:=st.f 22 53 _ rfl (by kernel_rfl) rfl;simp[tupI]at e53⊢;go_simp
   case fin =>
    intro γ v wz hEz hpost hφ;obtain⟨rA,rc,r,rfl,hch⟩:=hpost;have HQ:=(HEQ r hch).out;clear HEQ HCA hch;have h23:v 23=.slice rA r.length rc:=hφ 23 (by decide);have h24:v 24=.bool (decide (W.copies - ((g.length:Int) - (ls.length:Int))≤(r.length:Int))):=hφ 24 (by decide);clear hφ
    change Exit.then _ _ _ (qQM _ v _ 25) wz
    simp only[qQM,qQH,Act.put];simp only[List.getElem?_toArray,List.getElem?_cons_zero,List.getElem?_cons_succ,Option.bind_some,List.setIfInBounds_toArray,List.set_cons_zero,List.set_cons_succ];rw[h23];rw[h24];clear h23 h24;go_wp2_with fail
    go_ret
    exact⟨by rw[←HQ];simp,(hE.trans hEk).trans hEz⟩
def qZR(W:Wd)(P:Pm)(b:Bl)(kind:Int)(p:Nat):Bool :=
 if b.dead then decide (kind=5)&&decide (p=0)&&decide (b.pins=0)
 else if kind=1 then decide (p=0)&&decide (0<b.disks.length)&&decide (((qQ5 W b).length:Int)<W.copies)&&decide ((qQ5 W b).length<(qX6 (qQF W.disks b.size W.copies (qQ5 W b) W.disks.length) 12).length)
 else if kind=3 then !(b.copy p).there&&decide (0≤qQ1 P W.vols p (qQy b.size) (-1) W.vols.length)
 else if kind=9 then(b.copy p).there&&qZc W.lostV (b.copy p).vol&&(decide (0<(qQ5 W b).length)||qZk W (b.copy (1 - p)))
 else false
def qZ9(W:Wd)(P:Pm)(kind:Int)(v:Nat):Bool :=
 if kind=2 then qXQ W P v else if kind=6 then qZL W P v
 else if kind=8 then(qQk W.vols v).up&&(P.vol v).closed && !(P.vol v).erase&&decide ((P.onVol v).length=0)&&decide (v<W.items.length)&&decide (0<W.items.getD v 0)
 else false
def qQJ(W:Wd)(P:Pm)(k:Int):List Jb:=P.L.flatMap (qQD k fun b p=>qZR W P b k p)++qZB k W.vols.length (qZ9 W P k)++(if k=4 then qZD W P.L else [])++(if k=7 then qQN W P else [])
def qZw(W:Wd)(P:Pm):Nat→List Jb
 | 0=>[]
 | n+1=>qZw W P n++qQJ W P ((n:Int)+1)
theorem qXe(k:Int)(n:Nat){f:Nat→Bool}(h:∀v,f v=false):qZB k n f=[]:=by
 unfold qZB;rw[List.filter_eq_nil_iff.2 (fun v _=>by rw[h];simp)];rfl
theorem qXT{k:Int}{L:List Bl}{f:Bl→Nat→Bool}(h:∀b∈L,∀p,f b p=false):L.flatMap (qQD k f)=[]:=by
 rw[List.flatMap_eq_nil_iff];intro b hb;unfold qQD;rw[List.filter_eq_nil_iff.2 (fun p _=>by rw[h b hb];simp)];rfl
theorem qZ5{k:Int}{L:List Bl}{f g:Bl→Nat→Bool}(h:∀b∈L,∀p,p<2→f b p=g b p):L.flatMap (qQD k f)=L.flatMap (qQD k g):=by
 induction L with
 | nil=>rfl
 | cons b L ih =>
  rw[List.flatMap_cons,List.flatMap_cons,ih fun c hc=>h c (List.mem_cons_of_mem _ hc)]
  congr 1
  unfold qQD;rw[List.filter_congr fun p hp=>h b (List.mem_cons_self ..) p (by simp at hp;omega)]
theorem jVol_congr{k:Int}{n:Nat}{f g:Nat→Bool}(h:∀v,f v=g v):qZB k n f=qZB k n g:=by
 have:f=g:=funext h
 rw[this]
theorem qJr{k:Int}{L:List Bl}{f:Bl→Bool} : L.flatMap (qQD k fun b p=>decide (p=0)&&f b)=(L.filter f).map fun b=>⟨k,b.id,0, -1⟩:=by
 induction L with
 | nil=>rfl
 | cons b L ih =>
  rw[List.flatMap_cons,ih];unfold qQD;cases h:f b
  ·simp[h]
  ·simp[h]
theorem turns_pre(l:List Spot)(size copies:Int)(hv:List Int):∀t,∃m,qQF l size copies hv t=hv++m∧(1≤t→0≤qQ9 l size hv l.length→(hv.length:Int)<copies→qQ9 l size hv l.length∈m)
 | 0=>⟨[],by simp[qQF],fun h=>by omega⟩
 | t+1=>by
  obtain⟨m,h1,h2⟩:=turns_pre l size copies hv t
  by_cases ht:t=0
  ·subst ht;unfold qQF;have h0:qQF l size copies hv 0=hv:=rfl;rw[h0]
   by_cases hc:0≤qQ9 l size hv l.length∧(hv.length:Int)<copies
   ·rw[if_pos hc];exact⟨_,rfl,fun _ _ _=>List.mem_singleton_self _⟩
   ·rw[if_neg hc];exact⟨[],by simp,fun _ a b=>absurd ⟨a,b⟩ hc⟩
  ·unfold qQF;rw[h1];split
   ·exact⟨m++_,by rw[List.append_assoc],fun _ a b=>List.mem_append_left _ (h2 (by omega) a b)⟩
   ·exact⟨m,rfl,fun _ a b=>h2 (by omega) a b⟩
theorem turns_none{l:List Spot}{size copies:Int}{hv:List Int}(h:qQ9 l size hv l.length = -1):∀t,qQF l size copies hv t=hv
 | 0=>rfl
 | t+1=>by
  unfold qQF;rw[turns_none h t,h];simp
theorem outI_nodup(ch:List Int)(n:Nat):(qX6 ch n).Nodup:=(outI_asc ch n).imp fun h=>by omega
theorem more_iff{l:List Spot}{size copies:Int}{hv:List Int}(hl:l.length≤12)(hn:hv.Nodup)(hr:∀x∈hv,0≤x∧x<12)(hc:(hv.length:Int)<copies) :
 (hv.length<(qX6 (qQF l size copies hv l.length) 12).length)↔(List.range l.length).any (fun i=>mayB l size hv i)=true:=by
 rcases qXN l size hv l.length with⟨h1,h2⟩|⟨b,h1,h2,h3,_⟩
 ·rw[turns_none h1]
  have hp:(qX6 hv 12).Perm hv:=(List.perm_ext_iff_of_nodup (outI_nodup hv 12) hn).2 fun x=>by
   rw[qX7];exact⟨fun h=>h.2,fun h=>⟨hr x h,h⟩⟩
  rw[hp.length_eq]
  constructor
  ·intro h;omega
  ·intro h;rw[List.any_eq_true]at h;obtain⟨i,hi,hm⟩:=h;rw[h2 i (List.mem_range.1 hi)]at hm;cases hm
 ·constructor
  ·intro _;rw[List.any_eq_true];exact⟨b,List.mem_range.2 h2,h3⟩
  ·intro _;obtain⟨m,e1,e2⟩:=turns_pre l size copies hv l.length;have hb:=e2 (by omega) (by rw[h1];omega) hc;rw[h1]at hb
   have hnb:(b:Int) ∉ hv:=by
    unfold mayB at h3;rw[Bool.and_eq_true]at h3
    have:=h3.2
    simpa using this
   have hnd:(hv++[(b:Int)]).Nodup:=by
    rw[List.nodup_append];refine⟨hn,by simp,fun x hx y hy e=>?_⟩
    rw[List.mem_singleton.1 hy]at e;rw[e]at hx;exact hnb hx
   have:=nodup_le (s:=qX6 (qQF l size copies hv l.length) 12) hnd fun x hx=>by
    rw[qX7,e1];rcases List.mem_append.1 hx with h|h
    ·exact⟨hr x h,List.mem_append_left _ h⟩
    ·rw[List.mem_singleton.1 h];exact⟨⟨by omega,by have:((12:Nat):Int)=12:=rfl;omega⟩,List.mem_append_right _ hb⟩
   simp at this;omega
theorem good_ok{W:Wd}{n:Nat}{b:Bl}(h:BlOk n b):(qQ5 W b).Nodup∧∀x∈qQ5 W b,0≤x∧x≤5:=by
 have hr:=(risesB_iff b.disks).1 h.rises;refine⟨List.Nodup.sublist List.filter_sublist (hr.1.imp fun h=>by omega),fun x hx=>?_⟩
 exact qZy h.rises x (List.mem_filter.1 hx).1
theorem refKind1{W:Wd}{P:Pm}{n:Nat}(hW:W.Ok)(hP:PInv n P):qQJ W P 1=qZj W P.L:=by
 unfold qQJ;rw[qXe 1 _ (fun v=>by simp[qZ9])];simp only[List.append_nil,show(¬ ((1:Int)=4))by decide,show(¬ ((1:Int)=7))by decide,if_false]
 have e:P.L.flatMap (qQD 1 fun b p=>qZR W P b 1 p)=P.L.flatMap (qQD 1 fun b p=>decide (p=0)&&(!(b.dead||decide (b.disks.length=0))&&furB W b)):=by
  refine qZ5 fun b hb p _=>?_
  have ho:=good_ok (W:=W) (hP.bl b hb);unfold qZR furB;cases hd:b.dead
  ·simp only[Bool.false_eq_true,if_false,if_true,Bool.false_or]
   by_cases hp:p=0
   ·by_cases hl:b.disks.length=0
    ·simp[hp,hl]
    ·by_cases hc:((qQ5 W b).length:Int)<W.copies
     ·have hm:=more_iff (l:=W.disks) (size:=b.size) (copies:=W.copies) (hv:=qQ5 W b) (by have:=hW.d;omega) ho.1 (fun x hx=>by have:=ho.2 x hx;omega) hc;have h0:0<b.disks.length:=by omega
      rw[Bool.eq_iff_iff];simp only[hp,h0,hl,hc,decide_true,decide_false,Bool.true_and,Bool.and_true,decide_eq_true_eq,Bool.not_false];exact hm
     ·simp[hc]
   ·simp[hp]
  ·simp
 rw[e,qJr];rfl
theorem refKindV{W:Wd}{P:Pm}{k:Int}{f:Nat→Bool}(h:∀v,qZ9 W P k v=f v)(hb:∀b∈P.L,∀p,qZR W P b k p=false)(h4:¬ k=4)(h7:¬ k=7):qQJ W P k=qZB k W.vols.length f:=by
 unfold qQJ;rw[qXT hb,jVol_congr h];simp[h4,h7]
theorem qXy{W:Wd}{P:Pm}{k:Int}(h1:¬ k=1)(h3:¬ k=3)(h5:¬ k=5)(h9:¬ k=9)(b:Bl)(p:Nat):qZR W P b k p=false:=by
 unfold qZR;cases b.dead <;> simp[h1,h3,h5,h9]
theorem refKind_eq{W:Wd}{P:Pm}{n:Nat}(hW:W.Ok)(hP:PInv n P):qZw W P 9=qZg W P:=by
 have k2:qQJ W P 2=qZB 2 W.vols.length (qXQ W P):=refKindV (fun v=>by simp[qZ9]) (fun b _ p=>qXy (by decide) (by decide) (by decide) (by decide) b p) (by decide) (by decide);have k6:qQJ W P 6=qZB 6 W.vols.length (qZL W P):=refKindV (fun v=>by simp[qZ9]) (fun b _ p=>qXy (by decide) (by decide) (by decide) (by decide) b p) (by decide) (by decide)
 have k8:qQJ W P 8=qZB 8 W.vols.length (qZF W P):=refKindV (fun v=>by
  unfold qZ9 qZF;simp only[show(¬ ((8:Int)=2))by decide,show(¬ ((8:Int)=6))by decide,if_false,if_true]
  by_cases hi:v<W.items.length
  ·rw[Bool.eq_iff_iff];simp only[Bool.and_eq_true,decide_eq_true_eq]
   constructor
   ·rintro⟨⟨⟨a,o⟩,_⟩,d⟩
    exact⟨⟨a,d⟩,o⟩
   ·rintro⟨⟨a,d⟩,o⟩
    exact⟨⟨⟨a,o⟩,hi⟩,d⟩
  ·have:W.items.getD v 0=0:=by rw[List.getD_eq_getElem?_getD,List.getElem?_eq_none (by omega)];rfl
   simp[hi,this]) (fun b _ p=>qXy (by decide) (by decide) (by decide) (by decide) b p) (by decide) (by decide)
 have k3:qQJ W P 3=P.L.flatMap (qQD 3 (qZM W P)):=by
  unfold qQJ;rw[qXe 3 _ (fun v=>by simp[qZ9])];simp only[List.append_nil,show(¬ ((3:Int)=4))by decide,show(¬ ((3:Int)=7))by decide,if_false];refine qZ5 fun b _ p _=>?_
  unfold qZR qZM;cases b.dead <;> simp
 have k9:qQJ W P 9=P.L.flatMap (qQD 9 (qQS W)):=by
  unfold qQJ;rw[qXe 9 _ (fun v=>by simp[qZ9])];simp only[List.append_nil,show(¬ ((9:Int)=4))by decide,show(¬ ((9:Int)=7))by decide,if_false];refine qZ5 fun b _ p _=>?_
  unfold qZR qQS qZk;cases b.dead
  ·cases (b.copy p).there <;> cases qZc W.lostV (b.copy p).vol <;> simp
  ·simp
 have k4:qQJ W P 4=qZD W P.L:=by
  unfold qQJ;rw[qXe 4 _ (fun v=>by simp[qZ9]),qXT fun b _ p=>qXy (by decide) (by decide) (by decide) (by decide) b p];simp
 have k7:qQJ W P 7=qQN W P:=by
  unfold qQJ;rw[qXe 7 _ (fun v=>by simp[qZ9]),qXT fun b _ p=>qXy (by decide) (by decide) (by decide) (by decide) b p];simp
 have k5:qQJ W P 5=qZo P.L:=by
  unfold qQJ;rw[qXe 5 _ (fun v=>by simp[qZ9])];simp only[List.append_nil,show(¬ ((5:Int)=4))by decide,show(¬ ((5:Int)=7))by decide,if_false]
  have e:P.L.flatMap (qQD 5 fun b p=>qZR W P b 5 p)=P.L.flatMap (qQD 5 fun b p=>decide (p=0)&&(b.dead&&decide (b.pins=0))):=by
   refine qZ5 fun b _ p _=>?_
   unfold qZR;cases b.dead <;> simp
  rw[e,qJr];rfl
 show []++qQJ W P 1++qQJ W P 2++qQJ W P 3++qQJ W P 4++qQJ W P 5++qQJ W P 6++qQJ W P 7++qQJ W P 8++qQJ W P 9=qZg W P
 rw[refKind1 hW hP,k2,k3,k4,k5,k6,k7,k8,k9];rfl
open Go.RowKit Go.Sort
structure PlX (W0:World) (B:Nat→Prop) (c mb mn:Nat) (W:Wd) (V:WdV) (P:Pm) (n:Nat) (VL:List Vl):Prop where
 hW:WdIn W0 W V
 hO:W.Ok
 cat:qZC W0 B c mb mn P
 inv:PInv n P
 hn:n≤40
 vl:VL=(List.range W.vols.length).map P.vol
theorem PlIn.blc{W0 w:World}{pb c:Nat}{W:Wd}{V:WdV}{bv vv:Value}{L:List Bl}{VL:List Vl}{J:List Jb}(h:PlIn W0 w pb c W V bv vv L VL J):∃A cp,bv=.slice A L.length cp:=by
 obtain⟨DV,_,h2,_⟩:=h.bl;exact qQa h2
theorem PlIn.vlc{W0 w:World}{pb c:Nat}{W:Wd}{V:WdV}{bv vv:Value}{L:List Bl}{VL:List Vl}{J:List Jb}(h:PlIn W0 w pb c W V bv vv L VL J):∃A cp,vv=.slice A VL.length cp:=qQa h.vl
theorem qZH:(prog.info? 63).map (·.size)=some 13:=by kernel_rfl
theorem jRepair_snoc{W:Wd}{L:List Bl}{k:Nat}{b:Bl}(hb:L[k]? = some b):qZj W (L.take (k+1))=qZj W (L.take k)++(if !(b.dead||decide (b.disks.length=0))&&furB W b then [⟨1,b.id,0, -1⟩]else []):=by
 unfold qZj;rw[qZm _ hb,List.map_append]
 congr 1
 split <;> rfl
theorem jRepair_len(W:Wd)(L:List Bl)(k:Nat):(qZj W (L.take k)).length≤k:=by
 unfold qZj;rw[List.length_map];exact Nat.le_trans (List.length_filter_le _ _) (List.length_take_le _ _)
theorem repairs_any{W0 w:World}{B:Nat→Prop}{pb c mb mn:Nat}{W:Wd}{V:WdV}{bv vv:Value}{P:Pm}{n:Nat}{VL:List Vl}{J:List Jb}(h:PlIn W0 w pb c W V bv vv P.L VL J)(X:PlX W0 B c mb mn W V P n VL)(hJ:J.length≤1000) :
 Calls prog 21 #[.pointer (some ⟨pb,0,none⟩)] w fun e w'=>e=.returned (.tuple #[])∧PlIn W0 w' pb c W V bv vv P.L VL (J++qZj W P.L):=by
 obtain⟨bA,bc,rfl⟩:=h.blc;have hlen:P.L.length≤40:=Nat.le_trans X.inv.len X.hn;have HX:=Hh X;have HBI:=Hh qZH;clear X;obtain⟨jv,h1,_⟩:=h.blk;have c10:=h1.cell 10;simp at c10;clear h1
 go_enter func21,ntmps21
 go_wp2_with fail
 clear c10
 go_loopw [10] (fun iv wr=>∃k:Nat,k≤P.L.length∧iv=.int .i64 (k:Int)∧PlIn W0 wr pb c W V (.slice bA P.L.length bc) vv P.L VL (J++qZj W (P.L.take k))) (fun iv _=>P.L.length - (intOf iv).toNat)
 case atStart=>exact⟨0,Nat.zero_le _,rfl,by simpa[qZj]using h⟩
 case round =>
  clear h;obtain⟨k,hk,rfl,hp⟩:=hrel
  by_cases hlt:k<P.L.length
  ·obtain⟨b,hb⟩:∃b,P.L[k]? = some b:=⟨_,List.getElem?_eq_getElem hlt⟩;obtain⟨bb,o,dA,dc,DV,rfl,hS,hdv,hod⟩:=hp.row hb;obtain⟨r0,r1,r2,r3,r4,r5,r6,r7,r8,r9,r10,r11,r12⟩:=qQV hS hdv;have hbk:=HX.out.inv.bl b (List.mem_of_getElem? hb);have hdr:=qZy hbk.rises;have hdl:=qZl hbk.rises;have HYb:=Hh (At.new wr 63 (blCells b (.slice dA b.disks.length dc)));have HEb:=Hh ((Er wr).alloc (.cells (blCells b (.slice dA b.disks.length dc)) 63));have HP:=Hh hp;clear hp hS hdv
   go_upto_region 3 with fail
   clear r0 r1 r2 r3 r4 r5 r6 r7 r8 r9 r10 r11 r12;generalize wr.heap.size=yb at HYb⊢;generalize wr.alloc _=W1 at HYb HEb⊢;have hYb:=HYb.out;have HPW:=Hh (HP.out.ext_ HEb.out);have HDW:=Hh (qZd hod HEb.out);have HR:=Hh hYb.range;have hpl:=jRepair_snoc (W:=W) hb;have hjl:=jRepair_len W P.L k;generalize qZj W (P.L.take k)=os at HP HPW hpl hjl;have hgo:=good_ok (W:=W) hbk;have hgl:(qQ5 W b).length≤6:=Nat.le_trans (List.length_filter_le _ _) hdl;have q4:=hYb.cell 4;have q12:=hYb.cell 12;simp at q4 q12;clear hYb hbk hb;unfold furB at hpl;obtain⟨dd,hdd⟩:∃x,x=b.dead:=⟨_,rfl⟩;rw[←hdd]at q12 hpl;clear hdd;cases dd
   ·by_cases hd0:b.disks.length=0
    ·have HPL:Hid (qZj W (P.L.take (k+1))=os):=Hh (by rw[hpl];simp[hd0]);have t1:((b.disks.length:Int) == 0)=true:=by rw[hd0];rfl
     clear hpl;go_wp2_with fail
     go_roundw
     case rel=>exact⟨k+1,by omega,by go_num,by rw[HPL.out];exact HPW.out⟩
     case measure=>simp[intOf];omega
    ·have HG:=Hh (pgood_any HPW.out HX.out.hW HX.out.hO b (.slice dA b.disks.length dc) (qQ8 HDW.out) hdr hdl);have HYR:=Hh (fun w2 (hE:Ext W1 w2)=>(HYb.out.ext hE).range);have HPE:=Hh (fun w2 (hE:Ext W1 w2)=>HPW.out.ext_ hE);have hds:decide (b.disks.length=0)=false:=by simpa using hd0
     rw[hds]at hpl;simp only[Bool.or_false,Bool.not_false,Bool.true_and]at hpl;clear hds
     go_wp2_with (refine qQm rfl 63 _ rfl yb 0 rfl _ _ HR.out underlying63 rfl HBI.out ?_)
     refine HG.out.mono ?_;rintro e W2 ⟨gv,rfl,hg2,hE2⟩;generalize qQ5 W b=g at hg2 hgo hgl hpl;obtain⟨gA,gc,rfl⟩:=qQa hg2;have HR2:=Hh (HYR.out W2 hE2);have HP2:=Hh (HPE.out W2 hE2)
     have c6:W2.cell? ⟨pb,6,none⟩=some (.int .i64 W.copies):=by
      obtain⟨jv,h1,_⟩:=HP2.out.blk;exact h1.cell 6
     clear HG
     by_cases hc:(g.length:Int)<W.copies
     ·have HF:=Hh (further_any HP2.out HX.out.hW HX.out.hO b (.slice dA b.disks.length dc) (.slice gA g.length gc) g hg2 hgo.2 hgl hc);rw[decide_eq_true hc,Bool.true_and]at hpl;generalize (List.range W.disks.length).any (fun i=>mayB W.disks b.size g i)=fb at hpl HF
      go_wp2_with (refine qQm rfl 63 _ rfl yb 0 rfl _ _ HR2.out underlying63 rfl HBI.out ?_)
      refine HF.out.mono ?_;rintro e W3 ⟨rfl,hE3⟩;have HP3:=Hh (HPE.out W3 (hE2.trans hE3));have q0:W3.cell? ⟨yb,0,none⟩=some (.int .u64 (b.id:Int)):=(HYb.out.ext (hE2.trans hE3)).cell 0;clear HF;cases fb
      ·have HPL:Hid (qZj W (P.L.take (k+1))=os):=Hh (by rw[hpl];simp);clear hpl;go_wp2_with fail
       go_roundw
       case rel=>exact⟨k+1,by omega,by go_num,by rw[HPL.out];exact HP3.out⟩
       case measure=>simp[intOf];omega
      ·have HPL:Hid (qZj W (P.L.take (k+1))=os++[⟨1,b.id,0, -1⟩]):=Hh (by rw[hpl];rfl);clear hpl;have HA:=Hh (qZ8 HP3.out (by simp;omega) ⟨1,b.id,0, -1⟩);go_wp2_with fail
       refine HA.out.mono ?_;rintro e W4 ⟨rfl,hp4,_⟩;rw[List.append_assoc]at hp4;have HP4:=Hh hp4;clear hp4 HA;go_wp2_with fail
       go_roundw
       case rel=>exact⟨k+1,by omega,by go_num,by rw[HPL.out];exact HP4.out⟩
       case measure=>simp[intOf];omega
     ·have HPL:Hid (qZj W (P.L.take (k+1))=os):=Hh (by rw[hpl];simp[hc]);clear hpl;have t1:decide ((g.length:Int)<W.copies)=false:=by simpa using hc
      go_wp2_with fail
      go_roundw
      case rel=>exact⟨k+1,by omega,by go_num,by rw[HPL.out];exact HP2.out⟩
      case measure=>simp[intOf];omega
   ·have HPL:Hid (qZj W (P.L.take (k+1))=os):=Hh (by rw[hpl];simp);clear hpl;go_wp2_with fail
    go_roundw
    case rel=>exact⟨k+1,by omega,by go_num,by rw[HPL.out];exact HPW.out⟩
    case measure=>simp[intOf];omega
  ·obtain rfl:k=P.L.length:=by omega
   rw[List.take_length]at hp;go_wp2_with fail
   go_end0
   exact⟨rfl,hp⟩
open Go.RowKit Go.Sort
theorem parts_any(w:World)(n:Int)(h0:0≤n)(h1:n≤4000):Calls prog 88 #[.int .i64 n] w fun e w'=>e=.returned (.int .i64 ((max n 1 - 1) / 200+1))∧Ext w w':=by
 go_enter func88,ntmps88
 go_wp2_with fail
 go_ret
 exact⟨rfl,Er _⟩
theorem weight_any(w:World)(n:Int)(h0:0≤n)(h1:n≤4000):Calls prog 56 #[.int .i64 n] w fun e w'=>e=.returned (.int .i64 (qQy n))∧Ext w w':=by
 have HP:=fun w1=>parts_any w1 n h0 h1
 obtain⟨q,hqe⟩:∃q,q=(max n 1 - 1) / 200+1:=⟨_,rfl⟩;have hq:1≤q∧q≤20:=by omega
 have HW:qQy n=max n 0+76 * q+4:=by rw[hqe];rfl
 rw[HW];rw[←hqe]at HP;clear HW hqe
 go_enter func56,ntmps56
 go_wp2_with fail
 refine(HP _).mono ?_
 rintro e w1 ⟨rfl,hE1⟩;clear HP;go_wp2_with fail
 go_ret
 exact⟨rfl,hE1⟩
theorem rparts_any(w:World)(n:Int)(h0:0≤n)(h1:n≤4000):Calls prog 90 #[.int .i64 n] w fun e w'=>e=.returned (.int .i64 ((max n 1 - 1) / 200+1))∧Ext w w':=by
 obtain⟨q,hqe⟩:∃q,q=(max n 1 - 1) / 200+1:=⟨_,rfl⟩;rw[←hqe];have HQ:=Hh hqe;clear hqe
 go_enter func90,ntmps90
 go_wp2_with fail
 go_loopw [3,4] (fun kv sv wr=>∃k:Nat,kv=.int .i64 (k:Int)∧sv=.int .i64 (n - 200 * k)∧(200 * (k:Int)<n+200)∧Ext w wr) (fun kv _ _=>4000 - (intOf kv).toNat)
 case atStart=>exact⟨0,rfl,by simp,by omega,Er _⟩
 case round =>
  obtain⟨k,rfl,rfl,hk,hE⟩:=hrel
  by_cases hgo:0<n - 200 * (k:Int)
  ·have t1:decide (0<n - 200 * (k:Int))=true:=by simpa using hgo
   go_wp2_with fail
   go_roundw
   case rel=>exact⟨k+1,by go_num,by congr 1;omega,by omega,hE⟩
   case measure=>simp[intOf];omega
  ·have t1:decide (0<n - 200 * (k:Int))=false:=by simpa using hgo
   have hz:=HQ.out;have hq:max (k:Int) 1=q:=by omega
   clear hz;go_wp2_with fail
   go_ret
   exact⟨rfl,hE⟩
theorem rweight_any(w:World)(n:Int)(h0:0≤n)(h1:n≤4000):Calls prog 65 #[.int .i64 n] w fun e w'=>e=.returned (.int .i64 (qQy n))∧Ext w w':=by
 have HP:=fun w1=>rparts_any w1 n h0 h1
 obtain⟨q,hqe⟩:∃q,q=(max n 1 - 1) / 200+1:=⟨_,rfl⟩;have hq:1≤q∧q≤20:=by omega
 have HW:qQy n=max n 0+76 * q+4:=by rw[hqe];rfl
 rw[HW];rw[←hqe]at HP;clear HW hqe
 go_enter func65,ntmps65
 go_wp2_with fail
 refine(HP _).mono ?_
 rintro e w1 ⟨rfl,hE1⟩;clear HP;go_wp2_with fail
 go_ret
 exact⟨rfl,hE1⟩
end Go.Proofs.YtiojjokfeknhcaaGreat
