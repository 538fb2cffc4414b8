/-
  Part 20 of what the law leans on.
-/
import Derived.Test.YtiojjokfeknhcaaGreatSC6
import Derived.Test.YtiojjokfeknhcaaGreatSC15
import Derived.Test.YtiojjokfeknhcaaGreatSC16
import Derived.Test.YtiojjokfeknhcaaGreatSC19
namespace Go.Proofs.YtiojjokfeknhcaaGreat
set_option maxRecDepth 100000
set_option maxHeartbeats 8000000
set_option linter.unusedVariables false
set_option linter.unusedSimpArgs false
set_option linter.unusedSectionVars false
open _root_.Go.Proofs.Tryz
open Go.RowKit Go.Sort
theorem vl3_info:(prog.info? 85).map (fun i=>(i.zero,i.size,i.bytes))=some (some (.agg #[.bool false,.bool false,.int .i64 0]),3,16):=by kernel_rfl
structure GJb (W0:World) (c:Nat) (Wd':Wd) (V:WdV) (P:Pm) (γ : Nat→Value) (L:Nat→Bool) (w:World):Prop where
 ext:Ext W0 w
 call:L 3=true→qXl w (γ 0) P.L
 bld:L 4=true → γ 1=.agg (plCells c Wd' V (γ 0) (.slice none 0 0) (.slice none 0 0))
 bx:L 5=true→∃g, γ 2=.pointer (some ⟨g,0,none⟩)∧W0.heap.size≤g∧At w g 84 (plCells c Wd' V (γ 0) (.slice none 0 0) (.slice none 0 0))
 asg:L 6=true → γ 3 = γ 2
section
variable{W0 w w':World}{c:Nat}{W:Wd}{V:WdV}{P:Pm}{γ : Nat→Value}{L:Nat→Bool}
theorem GJb.keep{j:Nat}(h3:3≠j)(h4:4≠j)(h5:5≠j)(h6:6≠j):∀γ L w,GJb W0 c W V P γ L w→L j=false→GJb W0 c W V P γ (fun i=>i == j||L i) w:=fun γ L w h _=>by
 have e3:(3 == j)=false:=by simpa using h3
 have e4:(4 == j)=false:=by simpa using h4
 have e5:(5 == j)=false:=by simpa using h5
 have e6:(6 == j)=false:=by simpa using h6
 exact⟨h.ext,fun hh=>h.call (by simpa[e3]using hh),fun hh=>h.bld (by simpa[e4]using hh),fun hh=>h.bx (by simpa[e5]using hh),fun hh=>h.asg (by simpa[e6]using hh)⟩
end
theorem vols_fin{W0 W w1 w2:World}{pb c k:Nat}{Wd':Wd}{V:WdV}{bv vv v':Value}{L:List Bl}{VL VL':List Vl}{J:List Jb}(h:PlIn W0 W pb c Wd' V bv vv L VL J)(hvv:W.ownsRow W0.heap.size 85 3 vv k ((VL.map qQK).flatten))(hE:Ext W w1)(hC:Chg (fun b=>some b=vv.ownBlock) w1 w2)(hO:w2.ownsRow W0.heap.size 85 3 v' VL'.length ((VL'.map qQK).flatten)) :
 (∃jv,At w2 pb 84 (plCells c Wd' V bv vv jv))∧PlIn W0 (w2.setCell ⟨pb,11,none⟩ v') pb c Wd' V bv v' L VL' J∧(w2.setCell ⟨pb,11,none⟩ v').ownsRow W0.heap.size 85 3 v' VL'.length ((VL'.map qQK).flatten):=by
 have hv1:=qZd hvv hE;obtain⟨jv,hb,hj⟩:=h.blk;have hb1:=hb.ext hE;have hb2:=hb1.chg hC fun hh=>qQf hv1 hb1 (by decide) _ hh rfl
 have hE2:Ext W0 w2:=Chg.own_ext (h.ext.trans hE) hC hv1 (Nat.le_refl _)
 have keep:∀ {base size n:Nat} {e:TypeId} {v:Value} {xs:List Value},W.ownsRow base e size v n xs→e≠85→e≠84→(w2.setCell ⟨pb,11,none⟩ v').ownsRow base e size v n xs:=fun ho n1 n2=>by
  have ho0:=qZd ho hE;have ho1:=qQb ho0 hC (own_apart2 ho0 hv1 n1);exact qQb ho1 ((Chg.refl (· = pb) w2).setCell (p:=⟨pb,11,none⟩) (.inl rfl) v') fun k hk e=>qQf ho1 hb2 n2 k hk e
 have hO2:=qQb hO ((Chg.refl (· = pb) w2).setCell (p:=⟨pb,11,none⟩) (.inl rfl) v') fun k hk e=>qQf hO hb2 (by decide) k hk e
 refine⟨⟨jv,hb2⟩,⟨hE2.setCell h.pn _,h.pn,⟨jv,hb2.set 11 v',keep hj (by decide) (by decide)⟩,?_,qQ8 hO2⟩,hO2⟩
 obtain⟨DV,a1,a2,a3⟩:=h.bl;exact⟨DV,a1,keep a2 (by decide) (by decide),fun p hp=>keep (a3 p hp) (by decide) (by decide)⟩
theorem sln_new(w:World)(t:TypeId)(cs:List Value):Sln (w.alloc (.cells cs.toArray t)) (.slice (some ⟨w.heap.size,0,none⟩) 1 1) cs.length [cs]:=by
 refine⟨_,1,rfl,fun _=>⟨w.heap.size,0,rfl,fun i row hi j x hj=>?_⟩⟩
 have hA:=At.new w t cs.toArray;cases i with
 | succ i=>simp at hi
 | zero =>
  simp at hi;subst hi;rw[show 0+0 * cs.length+j=j by omega,hA.cell j];simpa using hj
structure GVl (W0 W:World) (pb k:Nat) (vv:Value) (x:Vl) (rows:List Value) (γ : Nat→Value) (L:Nat→Bool) (w:World):Prop where
 ext:L 9=false→Ext W w
 bs:L 8=true→L 9=false→Sln w (γ 0) 3 [qQK x]
 app:L 9=true→L 12=false→∃w1,Ext W w1∧Chg (fun b=>some b=vv.ownBlock) w1 w∧w.ownsRow W0.heap.size 85 3 (γ 1) (k+1) rows
 fin:L 12=true→∃w1 w2,Ext W w1∧Chg (fun b=>some b=vv.ownBlock) w1 w2∧w2.ownsRow W0.heap.size 85 3 (γ 1) (k+1) rows∧w=w2.setCell ⟨pb,11,none⟩ (γ 1)
theorem GVl.keep{W0 W:World}{pb k:Nat}{vv:Value}{x:Vl}{rows:List Value}{j:Nat}(h8:8≠j)(h9:9≠j)(h12:12≠j):∀γ L w,GVl W0 W pb k vv x rows γ L w→L j=false→GVl W0 W pb k vv x rows γ (fun i=>i == j||L i) w:=fun γ L w h _=>by
 have e8:(8 == j)=false:=by simpa using h8
 have e9:(9 == j)=false:=by simpa using h9
 have e12:(12 == j)=false:=by simpa using h12
 refine⟨fun hh=>h.ext (by simpa[e9]using hh),fun hh h2=>h.bs (by simpa[e8]using hh) (by simpa[e9]using h2),fun hh h2=>h.app (by simpa[e9]using hh) (by simpa[e12]using h2),fun hh=>h.fin (by simpa[e12]using hh)⟩
theorem jl_repair(W:Wd)(L:List Bl):(qZj W L).length≤L.length:=by have:=jRepair_len W L L.length;rwa[List.take_length]at this
theorem jl_pools(m:Int)(f:Bl→Nat→Bool)(L:List Bl):(L.flatMap (qQD m f)).length≤2 * L.length:=by have:=qZU m f L L.length;rwa[List.take_length]at this
theorem jl_forget(L:List Bl):(qZo L).length≤L.length:=by have:=jForget_len L L.length;rwa[List.take_length]at this
theorem jl_free(W:Wd)(L:List Bl):(qZD W L).length≤L.length:=by
 unfold qZD;rw[List.length_map,List.length_take]
 have:=List.length_filter_le (qX8 W) L
 omega
theorem jl_retape(W:Wd)(P:Pm):(qQN W P).length≤P.L.length:=by
 unfold qQN;split
 ·simp
 ·rw[List.length_map];exact List.length_filter_le _ _
theorem jobs_any(w:World)(B:Nat→Prop)(c mb mn:Nat)(W:Wd)(V:WdV)(P:Pm)(n:Nat)(hW:WdIn w W V)(hO:W.Ok)(hC:qZC w B c mb mn P)(hi:PInv n P)(hn:n≤40) :
 Calls prog 9 #[.pointer (some ⟨c,0,none⟩),.agg (qQo W V)] w fun e w'=>∃jv,e=.returned jv∧w'.ownsRow w.heap.size 50 4 jv (qZg W P).length (qZb (qZg W P))∧Ext w w':=by
 have hlen:P.L.length≤40:=Nat.le_trans hi.len hn;have hvn:W.vols.length≤12:=hO.v;have HX:=Hh (PlX.mk hW hO hC hi hn (VL:=(List.range W.vols.length).map P.vol) rfl);have HBL:=Hh (fun w2 (hE:Ext w w2)=>cblobs_any (hC.ext hE) hi (by omega));have HVO:=Hh (fun w2 (hE:Ext w w2) k (hk:k<12)=>cvol_any (hC.ext hE) k hk);obtain⟨LA,lc,hv',_⟩:=hW.v;rw[List.length_map]at hv';clear hW hO hC hi;have hYb:=At.new w 27 (qQo W V);have hE:=(Er w).alloc (.cells (qQo W V) 27)
 go_enter func9,ntmps9
 go_upto_region 1 with fail
 have hyb:w.heap.size<(w.alloc (.cells (qQo W V) 27)).heap.size:=hYb.lt;generalize hyb':w.heap.size=yb at hYb hyb⊢;have hyw:yb≤w.heap.size:=by omega
 generalize w.alloc _=W1 at hYb hE hyb⊢;have HYR:=Hh (fun w2 (hE2:Ext W1 w2)=>(hYb.ext hE2).range)
 have HWI:Hid ((prog.info? 27).map (·.size)=some (qQo W V).toList.length):=Hh (by
  have h9:(prog.info? 27).map (·.size)=some 9:=by kernel_rfl
  exact h9)
 have HE1:=Hh hE;have hy1':W1.cell? ⟨yb,1,none⟩=some V.v:=hYb.cell 1;clear hYb hE hyb;refine qQx (Γ := Nat→Value) (sgφ [.val (.pointer (some ⟨c,0,none⟩)),.val (.agg (qQo W V)),.val (.pointer (some ⟨c,0,none⟩)),.g 0,.g 1,.g 2,.g 3]) (GJb W1 c W V P) (by kernel_rfl) (by kernel_rfl) (by kernel_rfl) (fun _=>undef) ?inv ?steps ?fin
 case inv=>exact⟨(Er W1).drew,fun h=>(by cases h),fun h=>(by cases h),fun h=>(by cases h),fun h=>(by cases h)⟩
 case steps =>
  show qQ2 _ _ _ _ _ _ 7
  refine⟨⟨⟨⟨⟨⟨⟨trivial,?s0⟩,?s1⟩,?s2⟩,?s3⟩,?s4⟩,?s5⟩,?s6⟩
  case s0 =>
   refine qQh (x:=.pointer (some ⟨c,0,none⟩)) rfl rfl rfl (GJb.keep (j:=0) (by decide) (by decide) (by decide) (by decide)) fun γ L v a w1 st=>?_
   have e0:=st.far 0 (by kernel_rfl);simp at e0;go_simp
  case s1 =>
   refine qQh (x:=.agg (qQo W V)) rfl rfl rfl (GJb.keep (j:=1) (by decide) (by decide) (by decide) (by decide)) fun γ L v a w1 st=>?_
   have e3:=st.far 3 (by kernel_rfl);simp at e3;exact qQi rfl (b:=yb) (off:=0) (by simp[Act.eval,e3]) (HYR.out w1 st.inv.ext) underlying27 rfl HWI.out
  case s2 =>
   refine qQh (x:=.pointer (some ⟨c,0,none⟩)) rfl rfl rfl (GJb.keep (j:=2) (by decide) (by decide) (by decide) (by decide)) fun γ L v a w1 st=>?_
   have e0:=st.far 0 (by kernel_rfl);simp at e0;go_simp
  case s3 =>
   refine qZW (k:=0) (f:=11) rfl rfl rfl (by kernel_rfl) fun γ L v a w1 st=>?_
   have e9:=st.val 2 9 rfl (by kernel_rfl);rw[(st.φ 2 (by kernel_rfl):v 2=_)]at e9;simp at e9
   have h4:L 4=false:=by
    cases hq:L 4 with
    | false=>rfl
    | true =>
     have q1:=st.down 4 3 hq (by kernel_rfl);have q99:=st.off;rw[q1]at q99;cases q99
   have h5:L 5=false:=by
    cases hq:L 5 with
    | false=>rfl
    | true =>
     have q1:=st.down 5 4 hq (by kernel_rfl);rw[h4]at q1;cases q1
   have h6:L 6=false:=by
    cases hq:L 6 with
    | false=>rfl
    | true =>
     have q1:=st.down 6 5 hq (by kernel_rfl);rw[h5]at q1;cases q1
   refine⟨#[.pointer (some ⟨c,0,none⟩)],by go_simp,?_⟩
   refine(HBL.out w1 (HE1.out.trans st.inv.ext)).mono ?_
   rintro e w2 ⟨A,cp,rfl,hbl,hE2⟩;exact⟨_,rfl,st.inv.ext.trans hE2,fun _=>by simpa[upd]using hbl,fun hh=>(by simp[h4]at hh),fun hh=>(by simp[h5]at hh),fun hh=>(by simp[h6]at hh)⟩
  case s4 =>
   refine qZq (k:=1) rfl rfl rfl (by kernel_rfl) fun γ L v a w1 st=>?_
   have d3:=st.dep 3 (by kernel_rfl)
   have h5:L 5=false:=by
    cases hq:L 5 with
    | false=>rfl
    | true =>
     have q1:=st.down 5 4 hq (by kernel_rfl);have q99:=st.off;rw[q1]at q99;cases q99
   have h6:L 6=false:=by
    cases hq:L 6 with
    | false=>rfl
    | true =>
     have q1:=st.down 6 5 hq (by kernel_rfl);rw[h5]at q1;cases q1
   have e7:=st.val 0 7 rfl (by kernel_rfl);rw[(st.φ 0 (by kernel_rfl):v 0=_)]at e7;simp at e7;have e8:=st.val 1 8 rfl (by kernel_rfl);rw[(st.φ 1 (by kernel_rfl):v 1=_)]at e8;simp at e8;have e10:=st.val 3 10 rfl (by kernel_rfl);rw[(st.φ 3 (by kernel_rfl):v 3=_)]at e10;simp at e10;refine⟨.agg (plCells c W V (γ 0) (.slice none 0 0) (.slice none 0 0)),w1,?_,st.inv.ext,fun _=>by simpa[upd]using st.inv.call d3,fun _=>by simp[upd],fun hh=>(by simp[h5]at hh),fun hh=>(by simp[h6]at hh)⟩
   obtain⟨DV,_,hdo,_⟩:=st.inv.call d3;obtain⟨gA,gcp,hgs⟩:=qQa hdo;rw[hgs]at e10⊢;unfold qQo at e8;clear hdo hgs;go_simp
  case s5 =>
   refine qZq (k:=2) rfl rfl rfl (by kernel_rfl) fun γ L v a w1 st=>?_
   have d4:=st.dep 4 (by kernel_rfl);have d3:=st.down 4 3 d4 (by kernel_rfl)
   have h6:L 6=false:=by
    cases hq:L 6 with
    | false=>rfl
    | true =>
     have q1:=st.down 6 5 hq (by kernel_rfl);have q99:=st.off;rw[q1]at q99;cases q99
   have e11:=st.val 4 11 rfl (by kernel_rfl);rw[(st.φ 4 (by kernel_rfl):v 4=_)]at e11;simp at e11;rw[st.inv.bld d4]at e11;have hbl:=st.inv.call d3;have hsz:=st.inv.ext.size;have hE2:=(Er w1).alloc (.cells (plCells c W V (γ 0) (.slice none 0 0) (.slice none 0 0)) 84);refine⟨.pointer (some ⟨w1.heap.size,0,none⟩),w1.alloc (.cells (plCells c W V (γ 0) (.slice none 0 0) (.slice none 0 0)) 84),?_,st.inv.ext.trans hE2,fun _=>by simpa[upd]using hbl.ext hE2,fun _=>by simpa[upd]using st.inv.bld d4,fun _=>⟨w1.heap.size,by simp[upd],hsz,by simpa[upd]using At.new w1 84 (plCells c W V (γ 0) (.slice none 0 0) (.slice none 0 0))⟩,fun hh=>(by simp[h6]at hh)⟩
   generalize γ 0=g0 at e11⊢;go_simp
  case s6 =>
   refine qZq (k:=3) rfl rfl rfl (by kernel_rfl) fun γ L v a w1 st=>?_
   have e12:=st.val 5 12 rfl (by kernel_rfl);rw[(st.φ 5 (by kernel_rfl):v 5=_)]at e12;simp at e12;have d5:=st.dep 5 (by kernel_rfl);refine⟨γ 2,w1,by go_simp,st.inv.ext,fun hh=>?_,fun hh=>?_,fun hh=>?_,fun _=>by simp[upd]⟩
   ·simpa[upd]using st.inv.call (by simpa using hh)
   ·simpa[upd]using st.inv.bld (by simpa using hh)
   ·simpa[upd]using st.inv.bx d5
 case fin =>
  intro γ L v w2 hall hG hφ;have h6:v 6 = γ 3:=hφ 6 (by decide);rw[hG.asg (hall 6 (by decide))]at h6;have hE2:=hG.ext;have hbl:=hG.call (hall 3 (by decide));obtain⟨pb,hg2,hpb,hPb⟩:=hG.bx (hall 5 (by decide));rw[hg2]at h6;clear hφ hall hG hg2;generalize γ 0=bv at hbl hPb
  change Exit.then _ _ _ (qQM _ v _ 7) w2
  simp only[qQM,qQH,Act.put];simp only[List.getElem?_toArray,List.getElem?_cons_zero,List.getElem?_cons_succ,Option.bind_some,List.setIfInBounds_toArray,List.set_cons_zero,List.set_cons_succ];rw[h6];clear h6;subst hyb';have hEw:=HE1.out.trans hE2;have hnil:w2.ownsRow w.heap.size 85 3 (.slice none 0 0) 0 []:=⟨rfl,.inl ⟨rfl,rfl⟩⟩;have hP0:PlIn w w2 pb c W V bv (.slice none 0 0) P.L [] []:=⟨hEw,by have:=HE1.out.size;omega,⟨.slice none 0 0,hPb,⟨rfl,.inl ⟨rfl,rfl⟩⟩⟩,hbl,⟨rfl,.inl ⟨rfl,rfl⟩⟩⟩;have hy2:=(Ext.cell hE2 (qQv hy1')).trans hy1';rw[hv']at hy2;have hmin:min (W.vols.length:Int) 12=(W.vols.length:Int):=by omega
  clear hEw hy1' HYR HWI hE2;have HP0:=Hh (And.intro hP0 hnil);clear hP0 hnil hPb hbl hyw;go_wp2_with fail
  clear hy2 hmin
  go_loopw [17] (fun iv wr=>∃(k:Nat) (vv:Value),k≤W.vols.length∧iv=.int .i64 (k:Int)∧PlIn w wr pb c W V bv vv P.L ((List.range k).map P.vol) []∧wr.ownsRow w.heap.size 85 3 vv ((List.range k).map P.vol).length ((((List.range k).map P.vol).map qQK).flatten)) (fun iv _=>W.vols.length - (intOf iv).toNat)
  case atStart=>exact⟨0,.slice none 0 0,Nat.zero_le _,rfl,HP0.out.1,HP0.out.2⟩
  case round =>
   clear HP0;obtain⟨k,vv,hk,rfl,hp,hov⟩:=hrel
   by_cases hlt:k<W.vols.length
   ·have HPK:=Hh (And.intro hp hov);have hpe:=hp.ext;obtain⟨jv,hPb,hPbx⟩:=hp.blk;have HPB:=Hh hPb;have hkl:((List.range k).map P.vol).length=k:=by simp
    rw[hkl]at hov;have HOV:=Hh (fun w2 (hE:Ext wr w2)=>qZd hov hE);have HVK:=Hh (fun w2 (hE:Ext wr w2)=>HVO.out w2 (hpe.trans hE) k (by omega));have hsz:=hpe.size
    have HSU:Hid (((List.range (k+1)).map P.vol).length=k+1∧(((List.range (k+1)).map P.vol).map qQK).flatten=(((List.range k).map P.vol).map qQK).flatten++qQK (P.vol k)):=Hh (by
     constructor
     ·simp
     ·rw[List.range_succ];simp)
    clear hp hov hPb hPbx hkl hv';generalize P.vol k=x at HVK HSU⊢;obtain⟨rows,hrows⟩:∃r,r=(((List.range k).map P.vol).map qQK).flatten:=⟨_,rfl⟩;rw[←hrows]at HSU HOV
    go_upto_region 5 with fail
    refine qQx (Γ := Nat→Value) (sgφ [.val (.pointer (some ⟨pb,0,none⟩)),.val (.pointer (some ⟨pb,0,none⟩)),.val (.pointer (some ⟨pb,0,none⟩)),.val (.pointer (some ⟨pb,11,none⟩)),.val vv,.val (.pointer (some ⟨c,0,none⟩)),.val (.int .i64 (k:Int)),.val (vlAgg x),.g 0,.g 1,.val (.pointer (some ⟨pb,0,none⟩)),.val (.pointer (some ⟨pb,11,none⟩)),.any]) (GVl w wr pb k vv x (rows++qQK x)) (by kernel_rfl) (by kernel_rfl) (by kernel_rfl) (fun _=>undef) ?inv ?steps ?fin
    case inv=>exact⟨fun _=>(Er wr).drew,fun hh=>(by cases hh),fun hh=>(by cases hh),fun hh=>(by cases hh)⟩
    case steps =>
     show qQ2 _ _ _ _ _ _ 13
     refine⟨⟨⟨⟨⟨⟨⟨⟨⟨⟨⟨⟨⟨trivial,?s0⟩,?s1⟩,?s2⟩,?s3⟩,?s4⟩,?s5⟩,?s6⟩,?s7⟩,?s8⟩,?s9⟩,?s10⟩,?s11⟩,?s12⟩
     case s0 =>
      refine qQh (x:=.pointer (some ⟨pb,0,none⟩)) rfl rfl rfl (GVl.keep (j:=0) (by decide) (by decide) (by decide)) fun γ L v a w1 st=>?_
      have e5:=st.far 5 (by kernel_rfl);simp at e5;go_simp
     case s1 =>
      refine qQh (x:=.pointer (some ⟨pb,0,none⟩)) rfl rfl rfl (GVl.keep (j:=1) (by decide) (by decide) (by decide)) fun γ L v a w1 st=>?_
      have e5:=st.far 5 (by kernel_rfl);simp at e5;go_simp
     case s2 =>
      refine qQh (x:=.pointer (some ⟨pb,0,none⟩)) rfl rfl rfl (GVl.keep (j:=2) (by decide) (by decide) (by decide)) fun γ L v a w1 st=>?_
      have e21:=st.val 1 21 rfl (by kernel_rfl);rw[(st.φ 1 (by kernel_rfl):v 1=_)]at e21;simp at e21;go_simp
     case s3 =>
      refine qQh (x:=.pointer (some ⟨pb,11,none⟩)) rfl rfl rfl (GVl.keep (j:=3) (by decide) (by decide) (by decide)) fun γ L v a w1 st=>?_
      have e22:=st.val 2 22 rfl (by kernel_rfl);rw[(st.φ 2 (by kernel_rfl):v 2=_)]at e22;simp at e22;go_simp
     case s4 =>
      refine qQh (x:=vv) rfl rfl rfl (GVl.keep (j:=4) (by decide) (by decide) (by decide)) fun γ L v a w1 st=>?_
      have e23:=st.val 3 23 rfl (by kernel_rfl);rw[(st.φ 3 (by kernel_rfl):v 3=_)]at e23;simp at e23
      have h9:L 9=false:=by
       cases hq:L 9 with
       | false=>rfl
       | true =>
        have q1:=st.down 9 4 hq (by kernel_rfl);have q99:=st.off;rw[q1]at q99;cases q99
      have q:=(HPB.out.ext (st.inv.ext h9)).cell 11;simp at q;go_simp
     case s5 =>
      refine qQh (x:=.pointer (some ⟨c,0,none⟩)) rfl rfl rfl (GVl.keep (j:=5) (by decide) (by decide) (by decide)) fun γ L v a w1 st=>?_
      have e0:=st.far 0 (by kernel_rfl);simp at e0;go_simp
     case s6 =>
      refine qQh (x:=.int .i64 (k:Int)) rfl rfl rfl (GVl.keep (j:=6) (by decide) (by decide) (by decide)) fun γ L v a w1 st=>?_
      have e6:=st.far 6 (by kernel_rfl);simp at e6;go_simp
     case s7 =>
      refine sg_callv' (x:=vlAgg x) (f:=20) rfl rfl rfl fun γ L v a w1 st=>?_
      have e25:=st.val 5 25 rfl (by kernel_rfl);rw[(st.φ 5 (by kernel_rfl):v 5=_)]at e25;simp at e25;have e26:=st.val 6 26 rfl (by kernel_rfl);rw[(st.φ 6 (by kernel_rfl):v 6=_)]at e26;simp at e26
      have h8:L 8=false:=by
       cases hq:L 8 with
       | false=>rfl
       | true =>
        have q1:=st.down 8 7 hq (by kernel_rfl);have q99:=st.off;rw[q1]at q99;cases q99
      have h9:L 9=false:=by
       cases hq:L 9 with
       | false=>rfl
       | true =>
        have q1:=st.down 9 8 hq (by kernel_rfl);rw[h8]at q1;cases q1
      have h12:L 12=false:=by
       cases hq:L 12 with
       | false=>rfl
       | true =>
        have q1:=st.down 12 9 hq (by kernel_rfl);rw[h9]at q1;cases q1
      refine⟨#[.pointer (some ⟨c,0,none⟩),.int .i64 (k:Int)],by go_simp,?_⟩
      refine(HVK.out w1 (st.inv.ext h9)).mono ?_
      rintro e w2 ⟨rfl,hE2⟩;exact⟨rfl,fun _=>(st.inv.ext h9).trans hE2,fun hh=>(by simp[h8]at hh),fun hh=>(by simp[h9]at hh),fun hh=>(by simp[h12]at hh)⟩
     case s8 =>
      refine qZq (k:=0) rfl rfl rfl (by kernel_rfl) fun γ L v a w1 st=>?_
      have e27:=st.val 7 27 rfl (by kernel_rfl);rw[(st.φ 7 (by kernel_rfl):v 7=_)]at e27;simp at e27
      have h9:L 9=false:=by
       cases hq:L 9 with
       | false=>rfl
       | true =>
        have q1:=st.down 9 8 hq (by kernel_rfl);have q99:=st.off;rw[q1]at q99;cases q99
      have h12:L 12=false:=by
       cases hq:L 12 with
       | false=>rfl
       | true =>
        have q1:=st.down 12 9 hq (by kernel_rfl);rw[h9]at q1;cases q1
      have hE2:=(Er w1).alloc (.cells (qQK x).toArray 85);refine⟨.slice (some ⟨w1.heap.size,0,none⟩) 1 1,w1.alloc (.cells (qQK x).toArray 85),?_,fun _=>(st.inv.ext h9).trans hE2,fun _ _=>(by have h:=sln_new w1 85 (qQK x);rw[show(qQK x).length=3 from rfl]at h;simpa[upd]using h),fun hh=>(by simp[h9]at hh),fun hh=>(by simp[h12]at hh)⟩
      unfold vlAgg at e27;unfold qQK;go_simp
     case s9 =>
      refine qZq (k:=1) rfl rfl rfl (by kernel_rfl) fun γ L v a w1 st=>?_
      have d8:=st.dep 8 (by kernel_rfl);have h9:=st.off;have e24:=st.val 4 24 rfl (by kernel_rfl);rw[(st.φ 4 (by kernel_rfl):v 4=_)]at e24;simp at e24;have e28:=st.val 8 28 rfl (by kernel_rfl);rw[(st.φ 8 (by kernel_rfl):v 8=_)]at e28;simp at e28
      have h12:L 12=false:=by
       cases hq:L 12 with
       | false=>rfl
       | true =>
        have q1:=st.down 12 9 hq (by kernel_rfl);rw[h9]at q1;cases q1
      have hEw:=st.inv.ext h9;refine ex_append (HOV.out w1 hEw) (st.inv.bs d8 h9) (fun r hr=>by rw[List.mem_singleton.1 hr];rfl) (fun r hr=>by rw[List.mem_singleton.1 hr];rfl) 82 underlying82 vl3_info rfl (by decide) (by decide) (by simp;omega) (by have:=hEw.size;omega) _ _ rfl (by simpa[Act.eval]using e24) (by simpa[Act.eval]using e28) ?_;intro v' w' ho hC;refine⟨fun hh=>(by simp at hh),fun _ hh=>(by simp at hh),fun _ _=>⟨w1,hEw,hC,by simpa[upd]using ho⟩,fun hh=>(by simp[h12]at hh)⟩
     case s10 =>
      refine qQh (x:=.pointer (some ⟨pb,0,none⟩)) rfl rfl rfl (GVl.keep (j:=10) (by decide) (by decide) (by decide)) fun γ L v a w1 st=>?_
      have e20:=st.val 0 20 rfl (by kernel_rfl);rw[(st.φ 0 (by kernel_rfl):v 0=_)]at e20;simp at e20;go_simp
     case s11 =>
      refine qQh (x:=.pointer (some ⟨pb,11,none⟩)) rfl rfl rfl (GVl.keep (j:=11) (by decide) (by decide) (by decide)) fun γ L v a w1 st=>?_
      have e30:=st.val 10 30 rfl (by kernel_rfl);rw[(st.φ 10 (by kernel_rfl):v 10=_)]at e30;simp at e30;go_simp
     case s12 =>
      refine qQ7 rfl rfl rfl fun γ L v a w1 st=>?_
      have d9:=st.dep 9 (by kernel_rfl);have h12:=st.off;have e31:=st.val 11 31 rfl (by kernel_rfl);rw[(st.φ 11 (by kernel_rfl):v 11=_)]at e31;simp at e31;have e29:=st.val 9 29 rfl (by kernel_rfl);rw[(st.φ 9 (by kernel_rfl):v 9=_)]at e29;simp at e29;obtain⟨w0,hE0,hC0,ho0⟩:=st.inv.app d9 h12;obtain⟨⟨jv2,hpb2⟩,_,_⟩:=vols_fin HPK.out.1 HPK.out.2 hE0 hC0 (VL':=(List.range (k+1)).map P.vol) (v' := γ 1) (by rw[HSU.out.1,HSU.out.2];exact ho0);have hcell:=hpb2.cell 11;have hfz:=hpb2.frozen 11;simp at hcell;refine⟨w1.setCell ⟨pb,11,none⟩ (γ 1),?_,fun hh=>(by simp[d9]at hh),fun _ hh=>(by simp[d9]at hh),fun _ hh=>(by simp at hh),fun _=>⟨w0,w1,hE0,hC0,ho0,rfl⟩⟩
      obtain⟨vA,vcp,hvs⟩:=qQa ho0;rw[hvs]at e29⊢;go_simp
    case fin =>
     intro γ L v wz hall hG hφ;obtain⟨w1,w2,hE1,hC1,ho1,rfl⟩:=hG.fin (hall 12 (by decide));obtain⟨_,hp3,ho3⟩:=vols_fin HPK.out.1 HPK.out.2 hE1 hC1 (VL':=(List.range (k+1)).map P.vol) (v' := γ 1) (by rw[HSU.out.1,HSU.out.2];exact ho1);have HP3:=Hh (And.intro hp3 ho3);clear hφ hall hG hE1 hC1 ho1 hp3 ho3;generalize γ 1=v' at HP3⊢;generalize w2.setCell ⟨pb,11,none⟩ v'=W3 at HP3⊢
     change Exit.inBlock _ _ _ (qQM _ v _ 13) W3
     simp only[qQM,qQH,Act.put];simp only[List.getElem?_toArray,List.getElem?_cons_zero,List.getElem?_cons_succ,Option.bind_some,List.setIfInBounds_toArray,List.set_cons_zero,List.set_cons_succ];go_wp2_with fail
     go_roundw
     case rel=>exact⟨k+1,v',by omega,by go_num,HP3.out.1,HP3.out.2⟩
     case measure=>simp[intOf];omega
   ·obtain rfl:k=W.vols.length:=by omega
    have HP0:=Hh hp;clear hp hov hlt hk HVO HBL hv' hpb;have b1:=jl_repair W P.L;have b2:=qZu 2 (qXQ W P) W.vols.length;have b3:=jl_pools 3 (qZM W P) P.L;have b4:=jl_free W P.L;have b5:=jl_forget P.L;have b6:=qZu 6 (qZL W P) W.vols.length;have b7:=jl_retape W P;have b8:=qZu 8 (qZF W P) W.vols.length;have HBB:=Hh (And.intro b1 (And.intro b2 (And.intro b3 (And.intro b4 (And.intro b5 (And.intro b6 (And.intro b7 b8)))))));clear b1 b2 b3 b4 b5 b6 b7 b8;have H1:=Hh (repairs_any HP0.out HX.out (by have:=HBB.out;simp only[List.length_append,List.length_nil];omega));go_wp2_with fail
    refine H1.out.mono ?_;rintro e v1 ⟨rfl,hp1⟩;have HP1:=Hh hp1;clear H1 hp1 HP0;have H2:=Hh (wipes_any HP1.out HX.out (by have:=HBB.out;simp only[List.length_append,List.length_nil];omega));go_wp2_with fail
    refine H2.out.mono ?_;rintro e v2 ⟨rfl,hp2⟩;have HP2:=Hh hp2;clear H2 hp2 HP1;have H3:=Hh (tapes_any HP2.out HX.out (by have:=HBB.out;simp only[List.length_append,List.length_nil];omega));go_wp2_with fail
    refine H3.out.mono ?_;rintro e v3 ⟨rfl,hp3⟩;have HP3:=Hh hp3;clear H3 hp3 HP2;have H4:=Hh (frees_any HP3.out HX.out (by have:=HBB.out;simp only[List.length_append,List.length_nil];omega));go_wp2_with fail
    refine H4.out.mono ?_;rintro e v4 ⟨rfl,hp4⟩;have HP4:=Hh hp4;clear H4 hp4 HP3;have H5:=Hh (forgets_any HP4.out HX.out (by have:=HBB.out;simp only[List.length_append,List.length_nil];omega));go_wp2_with fail
    refine H5.out.mono ?_;rintro e v5 ⟨rfl,hp5⟩;have HP5:=Hh hp5;clear H5 hp5 HP4;have H6:=Hh (closes_any HP5.out HX.out (by have:=HBB.out;simp only[List.length_append,List.length_nil];omega));go_wp2_with fail
    refine H6.out.mono ?_;rintro e v6 ⟨rfl,hp6⟩;have HP6:=Hh hp6;clear H6 hp6 HP5;have H7:=Hh (retapes_any HP6.out HX.out (by have:=HBB.out;simp only[List.length_append,List.length_nil];omega));go_wp2_with fail
    refine H7.out.mono ?_;rintro e v7 ⟨rfl,hp7⟩;have HP7:=Hh hp7;clear H7 hp7 HP6;have H8:=Hh (erases_any HP7.out HX.out (by have:=HBB.out;simp only[List.length_append,List.length_nil];omega));go_wp2_with fail
    refine H8.out.mono ?_;rintro e v8 ⟨rfl,hp8⟩;have HP8:=Hh hp8;clear H8 hp8 HP7;have H9:=Hh (untapes_any HP8.out HX.out (by have:=HBB.out;simp only[List.length_append,List.length_nil];omega));go_wp2_with fail
    refine H9.out.mono ?_;rintro e v9 ⟨rfl,hp9⟩;have HP9:=Hh hp9;clear H9 hp9 HP8;obtain⟨jv,h1,h2⟩:=HP9.out.blk;have c12:=h1.cell 12;simp at c12;have hE:=HP9.out.ext
    have e:[]++qZj W P.L++qZB 2 W.vols.length (qXQ W P)++P.L.flatMap (qQD 3 (qZM W P))++qZD W P.L++qZo P.L++qZB 6 W.vols.length (qZL W P)++qQN W P++qZB 8 W.vols.length (qZF W P)++P.L.flatMap (qQD 9 (qQS W))=qZg W P:=by
     unfold qZg;rw[List.nil_append]
    rw[e]at h2;have H2:=Hh h2;obtain⟨jA,jc,rfl⟩:=qQa h2;clear HP9 h1 h2 e HBB;go_wp2_with fail
    go_ret
    exact⟨_,rfl,H2.out,hE⟩
open Go.RowKit Go.Sort
def qZQ(x:Int):Int:=min (max x 0) 1000000
theorem clampJ_range(x:Int):0≤qZQ x∧qZQ x≤1000000:=by unfold qZQ;omega
theorem clampJ_step(ks:List Int)(j:Nat)(x:Int)(hx:ks[j]? = some x):(((ks.take j).map qZQ++ks.drop j).map (Value.int .i64)).set j (.int .i64 (qZQ x))=((ks.take (j+1)).map qZQ++ks.drop (j+1)).map (Value.int .i64):=by
 have hj:j<ks.length:=(List.getElem?_eq_some_iff.1 hx).1
 have hd:ks.drop j=x::ks.drop (j+1):=by
  rw[List.drop_eq_getElem_cons hj]
  congr 1
  exact(List.getElem?_eq_some_iff.1 hx).2
 have hl:((ks.take j).map qZQ).length=j:=by simp;omega
 rw[hd,List.take_add_one,hx];simp only[List.map_append,List.map_cons,Option.toList_some,List.map_nil,List.append_assoc,List.cons_append,List.nil_append];rw[List.set_append_right _ _ (by simp;omega)];simp only[List.length_map,List.length_take,Nat.min_eq_left (Nat.le_of_lt hj),Nat.sub_self,List.set_cons_zero]
def wdOf(dl vl:List Spot)(il:List Int)(ldl lvl:List Bool)(cp kp pc rs:Int):Wd :=
 ⟨dl.take 6,vl.take 12,(il.take 12).map qZQ,ldl.take 6,lvl.take 12,min (max cp 0) 6,min (max kp 0) 100,pc,rs⟩
theorem wdOf_ok(dl vl:List Spot)(il:List Int)(ldl lvl:List Bool)(cp kp pc rs:Int):(wdOf dl vl il ldl lvl cp kp pc rs).Ok where
 d:=List.length_take_le _ _
 v:=List.length_take_le _ _
 i:=by show((il.take 12).map qZQ).length≤12;rw[List.length_map];exact List.length_take_le _ _
 ir:=fun x hx=>by
  obtain⟨y,_,rfl⟩:=List.mem_map.1 hx;exact clampJ_range y
 ld:=List.length_take_le _ _
 lv:=List.length_take_le _ _
 c:=by show 0≤min (max cp 0) 6∧min (max cp 0) 6≤6;omega
 k:=by show 0≤min (max kp 0) 100∧min (max kp 0) 100≤100;omega
theorem qXI:(prog.info? 27).map (·.size)=some 9:=by kernel_rfl
theorem qZZ:(prog.info? 40).map (·.size)=some 9:=by kernel_rfl
structure WdV.Sl (V:WdV):Prop where
 d:∃A n c,V.d=.slice A n c
 v:∃A n c,V.v=.slice A n c
 i:∃A n c,V.i=.slice A n c
 ld:∃A n c,V.ld=.slice A n c
 lv:∃A n c,V.lv=.slice A n c
theorem WdIn.sl{w:World}{W:Wd}{V:WdV}(h:WdIn w W V):V.Sl where
 d:=by obtain⟨A,c,e,_⟩:=h.d;exact⟨A,_,c,e⟩
 v:=by obtain⟨A,c,e,_⟩:=h.v;exact⟨A,_,c,e⟩
 i:=by obtain⟨A,c,e,_⟩:=h.i;exact⟨A,_,c,e⟩
 ld:=by obtain⟨A,c,e,_⟩:=h.ld;exact⟨A,_,c,e⟩
 lv:=by obtain⟨A,c,e,_⟩:=h.lv;exact⟨A,_,c,e⟩
theorem qXo{W:Wd}{V:WdV}(h:V.Sl):(qQo W V).all (·.oneCell')=true:=by
 obtain⟨⟨_,_,_,h1⟩,⟨_,_,_,h2⟩,⟨_,_,_,h3⟩,⟨_,_,_,h4⟩,⟨_,_,_,h5⟩⟩:=h;unfold qQo;rw[h1,h2,h3,h4,h5];simp[Value.oneCell']
structure GW (w0 W:World) (x2 x3:Nat) (C2 C3:Array Value) (_γ : Nat→Value) (L:Nat→Bool) (w:World):Prop where
 ext:Ext w0 w
 chg:Chg (fun k=>k=x2∨k=x3) W w
 a2:At w x2 27 (if L 13=true then C2 else #[.slice none 0 0,.slice none 0 0,.slice none 0 0,.slice none 0 0,.slice none 0 0,.int .i64 0,.int .i64 0,.int .i64 0,.int .i64 0])
 a3:At w x3 40 (if L 14=true then C3 else #[.slice none 0 0,.slice none 0 0,.slice none 0 0,.slice none 0 0,.slice none 0 0,.int .i64 0,.int .i64 0,.int .i64 0,.int .i64 0])
theorem GW.keep{w0 W:World}{x2 x3:Nat}{C2 C3:Array Value}{j:Nat}(h13:13≠j)(h14:14≠j):∀γ L w,GW w0 W x2 x3 C2 C3 γ L w→L j=false→GW w0 W x2 x3 C2 C3 γ (fun i=>i == j||L i) w:=fun γ L w h _=>by
 have e13:(13 == j)=false:=by simpa using h13
 have e14:(14 == j)=false:=by simpa using h14
 exact⟨h.ext,h.chg,by simpa[e13]using h.a2,by simpa[e14]using h.a3⟩
theorem no_bool{w:World}{x b o:Nat}{t:TypeId}{u:Bool}(hA:At w x t #[.slice none 0 0,.slice none 0 0,.slice none 0 0,.slice none 0 0,.slice none 0 0,.int .i64 0,.int .i64 0,.int .i64 0,.int .i64 0])(hc:w.cell? ⟨b,o,none⟩=some (.bool u)):b≠x:=by
 rintro rfl;rw[hA.cell o]at hc
 rcases(show o=0∨o=1∨o=2∨o=3∨o=4∨o=5∨o=6∨o=7∨o=8∨9≤o by omega)with rfl|rfl|rfl|rfl|rfl|rfl|rfl|rfl|rfl|h
 all_goals first|(simp at hc;done)|skip
 rw[Array.getElem?_eq_none (by simpa using h)]at hc;cases hc
theorem WdIn.chg2{w w':World}{x2 x3:Nat}{t2 t3:TypeId}{W:Wd}{V:WdV}(h:WdIn w W V)(hC:Chg (fun k=>k=x2∨k=x3) w w')(h2:At w x2 t2 #[.slice none 0 0,.slice none 0 0,.slice none 0 0,.slice none 0 0,.slice none 0 0,.int .i64 0,.int .i64 0,.int .i64 0,.int .i64 0])(h3:At w x3 t3 #[.slice none 0 0,.slice none 0 0,.slice none 0 0,.slice none 0 0,.slice none 0 0,.int .i64 0,.int .i64 0,.int .i64 0,.int .i64 0])(hi:∀b o n c,V.i=.slice (some ⟨b,o,none⟩) n c→W.items≠[]→b≠x2∧b≠x3):WdIn w' W V:=by
 have spots:∀ {v:Value} {l:List Spot},Sln w v 2 (l.map Spot.cells)→Sln w' v 2 (l.map Spot.cells):=fun {v l} hS=>hS.chg hC (by
  rintro b o n c rfl hne hS2;obtain⟨s,r,rfl⟩:=List.exists_cons_of_ne_nil (fun e=>hne (by rw[e];rfl):l≠[]);obtain⟨A,c',hv,hx⟩:=hS;obtain⟨b',o',e,hc⟩:=hx hne;simp only[Value.slice.injEq]at hv;rw[←hv.1]at e;injection e with e;injection e with e1 e2;subst e1 e2;have hb:=hc 0 s.cells rfl 0 (.bool s.up) rfl;rcases hS2 with rfl|rfl
  ·exact no_bool h2 hb rfl
  ·exact no_bool h3 hb rfl)
 have bools:∀ {v:Value} {l:List Bool},Go.Proofs.YtiojjokfeknhcaaGreat.Sl w v (l.map Value.bool)→Go.Proofs.YtiojjokfeknhcaaGreat.Sl w' v (l.map Value.bool):=fun {v l} hS=>hS.chg hC (by
  rintro b o n c rfl hne hS2;obtain⟨s,r,rfl⟩:=List.exists_cons_of_ne_nil (fun e=>hne (by rw[e];rfl):l≠[]);obtain⟨A,c',hv,hx⟩:=hS;obtain⟨b',o',e,hc⟩:=hx hne;simp only[Value.slice.injEq]at hv;rw[←hv.1]at e;injection e with e;injection e with e1 e2;subst e1 e2;have hb:=hc 0 (.bool s) rfl;rcases hS2 with rfl|rfl
  ·exact no_bool h2 hb rfl
  ·exact no_bool h3 hb rfl)
 exact⟨spots h.d,spots h.v,h.i.chg hC (fun b o n c e hne hS=>by
  have:=hi b o n c e (fun e=>hne (by rw[e];rfl))
  rcases hS with h|h
  ·exact this.1 h
  ·exact this.2 h),bools h.ld,bools h.lv⟩
theorem lw_any(w:World)(dv vv iv ldv lvv:Value)(dl vl:List Spot)(il:List Int)(ldl lvl:List Bool)(cp kp pc rs:Int)(hD:SlnC w dv 2 (dl.map Spot.cells))(hV:SlnC w vv 2 (vl.map Spot.cells))(hI:SlC w iv (il.map (Value.int .i64)))(hLD:SlC w ldv (ldl.map Value.bool))(hLV:SlC w lvv (lvl.map Value.bool)) :
 Calls prog 8 #[.agg #[dv,vv,iv,ldv,lvv,.int .i64 cp,.int .i64 kp,.int .i64 pc,.int .i64 rs]] w fun e w'=>∃V V2:WdV,e=.returned (.tuple #[.agg (qQo (wdOf dl vl il ldl lvl cp kp pc rs) V),.agg (qQo (wdOf dl vl il ldl lvl cp kp pc rs) V2)])∧WdIn w' (wdOf dl vl il ldl lvl cp kp pc rs) V∧WdIn w' (wdOf dl vl il ldl lvl cp kp pc rs) V2∧Ext w w':=by
 obtain⟨i0,hi,hz0,hz1,hz2⟩:=info_parts qZx;obtain⟨hDs,DA,dc,rfl,hdc,hdm,hdn⟩:=hD;obtain⟨hIs,IA,ic,rfl,hic,hicm⟩:=hI;obtain⟨hLDs,LA,lc,rfl,hlc,hlcm⟩:=hLD;obtain⟨hLVs,MA,mc,rfl,hmc,hmcm⟩:=hLV;have HVC:=Hh hV;obtain⟨_,VA,vc,rfl,_⟩:=hV;rw[List.length_map]at hdc hDs hic hIs hlc hLDs hmc hLVs;simp only[List.length_map];rw[List.length_map]at HVC;unfold maxLen at hicm hdm hlcm hmcm;obtain⟨kd,hkd⟩:∃k,k=min dl.length 6:=⟨_,rfl⟩;obtain⟨ki,hki⟩:∃k,k=min il.length 12:=⟨_,rfl⟩;obtain⟨kl,hkl⟩:∃k,k=min ldl.length 6:=⟨_,rfl⟩;obtain⟨km,hkm⟩:∃k,k=min lvl.length 12:=⟨_,rfl⟩;have hmd:min (dl.length:Int) 6=(kd:Int):=by omega
 have hmi:min (il.length:Int) 12=(ki:Int):=by omega
 have hml:min (ldl.length:Int) 6=(kl:Int):=by omega
 have hmm:min (lvl.length:Int) 12=(km:Int):=by omega
 have hkdc:(kd:Int)≤(dc:Int):=by omega
 have hkic:(ki:Int)≤(ic:Int):=by omega
 have hklc:(kl:Int)≤(lc:Int):=by omega
 have hkmc:(km:Int)≤(mc:Int):=by omega
 have hD1:SlnC w (.slice DA kd dc) 2 ((dl.take kd).map Spot.cells):=by
  refine⟨?_,DA,dc,by rw[List.length_map,List.length_take];congr 1;omega,by rw[List.length_map,List.length_take];omega,by unfold maxLen;omega,hdn⟩
  rw[List.map_take];exact hDs.pre (by omega)
 have hI1:Sln w (.slice IA ki ic) 1 (((il.take ki).map (Value.int .i64)).map fun x=>[x]):=by
  have h:=hIs.sln.pre (c':=ic) (k:=ki) (by omega);rw[←List.map_take,←List.map_take]at h;exact h
 have hL1:Sl w (.slice LA kl lc) ((ldl.take kl).map Value.bool):=by
  obtain⟨A',c',e,hx⟩:=hLDs;injection e with e1 e2 e3;subst e1 e3;refine⟨_,_,by rw[List.length_map,List.length_take];congr 1;omega,fun hne=>?_⟩
  obtain⟨b,o,e,hc⟩:=hx (fun e=>hne (by rw[List.map_eq_nil_iff]at e;rw[e];simp));refine⟨b,o,e,fun k x hx2=>hc k x ?_⟩
  rw[List.map_take,List.getElem?_take]at hx2
  split at hx2
  ·exact hx2
  ·cases hx2
 have hM1:Sl w (.slice MA km mc) ((lvl.take km).map Value.bool):=by
  obtain⟨A',c',e,hx⟩:=hLVs;injection e with e1 e2 e3;subst e1 e3;refine⟨_,_,by rw[List.length_map,List.length_take];congr 1;omega,fun hne=>?_⟩
  obtain⟨b,o,e,hc⟩:=hx (fun e=>hne (by rw[List.map_eq_nil_iff]at e;rw[e];simp));refine⟨b,o,e,fun k x hx2=>hc k x ?_⟩
  rw[List.map_take,List.getElem?_take]at hx2
  split at hx2
  ·exact hx2
  ·cases hx2
 have HWD:Hid (wdOf dl vl il ldl lvl cp kp pc rs=⟨(dl.take kd).take 12,vl.take 12,(il.take ki).map qZQ,ldl.take kl,lvl.take km,min (max cp 0) 6,min (max kp 0) 100,pc,rs⟩):=Hh (by
  have e1:dl.take 6=(dl.take kd).take 12:=by rw[List.take_take,List.take_eq_take_iff];omega
  have e2:il.take 12=il.take ki:=by rw[List.take_eq_take_iff];omega
  have e3:ldl.take 6=ldl.take kl:=by rw[List.take_eq_take_iff];omega
  have e4:lvl.take 12=lvl.take km:=by rw[List.take_eq_take_iff];omega
  unfold wdOf;rw[e1,e2,e3,e4])
 have hok:=wdOf_ok dl vl il ldl lvl cp kp pc rs;have hki12:ki≤12:=by omega
 have hkil:(il.take ki).length=ki:=by rw[List.length_take];omega
 generalize wdOf dl vl il ldl lvl cp kp pc rs=WW at HWD hok⊢;generalize dl.take kd=ds at hD1 HWD;generalize il.take ki=ks at hI1 HWD hkil;generalize ldl.take kl=lds at hL1 HWD;generalize lvl.take km=lvs at hM1 HWD;have HMI:=Hh (And.intro hmi hkic);have HML:=Hh (And.intro hml (And.intro hklc (And.intro hmm hkmc)));clear hDs hIs hLDs hLVs hkd hki hkl hkm hmi hml hmm hkic hklc hkmc hdn;have hYb:=At.new w 27 #[.slice DA dl.length dc,.slice VA vl.length vc,.slice IA il.length ic,.slice LA ldl.length lc,.slice MA lvl.length mc,.int .i64 cp,.int .i64 kp,.int .i64 pc,.int .i64 rs]
 go_enter func8,ntmps8
 go_upto_region 1 with fail
 have hYb3:=(hYb.alloc (.cells #[.slice none 0 0,.slice none 0 0,.slice none 0 0,.slice none 0 0,.slice none 0 0,.int .i64 0,.int .i64 0,.int .i64 0,.int .i64 0] 27)).alloc (.cells #[.slice none 0 0,.slice none 0 0,.slice none 0 0,.slice none 0 0,.slice none 0 0,.int .i64 0,.int .i64 0,.int .i64 0,.int .i64 0] 40);have hA2:=(At.new (w.alloc (.cells #[.slice DA dl.length dc,.slice VA vl.length vc,.slice IA il.length ic,.slice LA ldl.length lc,.slice MA lvl.length mc,.int .i64 cp,.int .i64 kp,.int .i64 pc,.int .i64 rs] 27)) 27 #[.slice none 0 0,.slice none 0 0,.slice none 0 0,.slice none 0 0,.slice none 0 0,.int .i64 0,.int .i64 0,.int .i64 0,.int .i64 0]).alloc (.cells #[.slice none 0 0,.slice none 0 0,.slice none 0 0,.slice none 0 0,.slice none 0 0,.int .i64 0,.int .i64 0,.int .i64 0,.int .i64 0] 40);have hA3:=At.new ((w.alloc (.cells #[.slice DA dl.length dc,.slice VA vl.length vc,.slice IA il.length ic,.slice LA ldl.length lc,.slice MA lvl.length mc,.int .i64 cp,.int .i64 kp,.int .i64 pc,.int .i64 rs] 27)).alloc (.cells #[.slice none 0 0,.slice none 0 0,.slice none 0 0,.slice none 0 0,.slice none 0 0,.int .i64 0,.int .i64 0,.int .i64 0,.int .i64 0] 27)) 40 #[.slice none 0 0,.slice none 0 0,.slice none 0 0,.slice none 0 0,.slice none 0 0,.int .i64 0,.int .i64 0,.int .i64 0,.int .i64 0];have hE3:=(((Er w).alloc (.cells #[.slice DA dl.length dc,.slice VA vl.length vc,.slice IA il.length ic,.slice LA ldl.length lc,.slice MA lvl.length mc,.int .i64 cp,.int .i64 kp,.int .i64 pc,.int .i64 rs] 27)).alloc (.cells #[.slice none 0 0,.slice none 0 0,.slice none 0 0,.slice none 0 0,.slice none 0 0,.int .i64 0,.int .i64 0,.int .i64 0,.int .i64 0] 27)).alloc (.cells #[.slice none 0 0,.slice none 0 0,.slice none 0 0,.slice none 0 0,.slice none 0 0,.int .i64 0,.int .i64 0,.int .i64 0,.int .i64 0] 40);have hs2:(w.alloc (.cells #[.slice DA dl.length dc,.slice VA vl.length vc,.slice IA il.length ic,.slice LA ldl.length lc,.slice MA lvl.length mc,.int .i64 cp,.int .i64 kp,.int .i64 pc,.int .i64 rs] 27)).heap.size=w.heap.size+1:=by simp
 have hs3:((w.alloc (.cells #[.slice DA dl.length dc,.slice VA vl.length vc,.slice IA il.length ic,.slice LA ldl.length lc,.slice MA lvl.length mc,.int .i64 cp,.int .i64 kp,.int .i64 pc,.int .i64 rs] 27)).alloc (.cells #[.slice none 0 0,.slice none 0 0,.slice none 0 0,.slice none 0 0,.slice none 0 0,.int .i64 0,.int .i64 0,.int .i64 0,.int .i64 0] 27)).heap.size=w.heap.size+1+1:=by simp
 rw[hs2]at hA2;rw[hs3]at hA3;clear hYb hs2 hs3;generalize ((w.alloc (.cells #[.slice DA dl.length dc,.slice VA vl.length vc,.slice IA il.length ic,.slice LA ldl.length lc,.slice MA lvl.length mc,.int .i64 cp,.int .i64 kp,.int .i64 pc,.int .i64 rs] 27)).alloc (.cells #[.slice none 0 0,.slice none 0 0,.slice none 0 0,.slice none 0 0,.slice none 0 0,.int .i64 0,.int .i64 0,.int .i64 0,.int .i64 0] 27)).alloc (.cells #[.slice none 0 0,.slice none 0 0,.slice none 0 0,.slice none 0 0,.slice none 0 0,.int .i64 0,.int .i64 0,.int .i64 0,.int .i64 0] 40)=W1 at hYb3 hA2 hA3 hE3⊢;have HB:=Hh (And.intro hYb3 (And.intro hA2 hA3));have HYC:=Hh (fun w2 (hE:Ext W1 w2)=>hYb3.ext hE);have hxb:w.heap.size≤w.heap.size:=Nat.le_refl _;generalize hxe:w.heap.size=xb at HB HYC⊢;have y0:=hYb3.cell 0;rw[hxe]at y0;simp at y0;clear hYb3 hA2 hA3;go_wp2_with fail
 refine(spots_anyR W1 _ ds ⟨hD1.1.ext hE3,hD1.2⟩).mono ?_
 rintro e W2 ⟨v1,v2,rfl,hs1,hE2,⟨SA,sc,rfl,_⟩,hs2⟩;obtain⟨RA,rc,hr2,_⟩:=id hs2;subst hr2;rw[List.length_map]at hs2;simp only[List.length_map];generalize ds.take 12=dss at hs1 hs2 HWD⊢;have HSA:=Hh (fun w2 (hE:Ext W2 w2)=>And.intro (hs1.ext hE) (hs2.ext hE));have hE02:=hE3.trans hE2;have y1:=(HYC.out W2 hE2).cell 1;simp at y1;clear hs1 hs2 y0;go_wp2_with fail
 refine(spots_anyR W2 _ vl ⟨HVC.out.1.ext hE02,by rw[List.length_map];have h:=HVC.out.2;rwa[List.length_map]at h⟩).mono ?_
 rintro e W3 ⟨v3,v4,rfl,hs3,hE3',⟨TA,tc,rfl,_⟩,hs4⟩;obtain⟨UA,uc,hr4,_⟩:=id hs4;subst hr4;rw[List.length_map]at hs4;simp only[List.length_map];generalize vl.take 12=vls at hs3 hs4 HWD⊢;have HSB:=Hh (fun w2 (hE:Ext W3 w2)=>And.intro (And.intro (HSA.out w2 (hE3'.trans hE)).1 (HSA.out w2 (hE3'.trans hE)).2) (And.intro (hs3.ext hE) (hs4.ext hE)));have hE13:=hE2.trans hE3';have hE03:=hE3.trans hE13;have y2:=(HYC.out W3 hE13).cell 2;simp at y2;have hxl:xb<W3.heap.size:=(HYC.out W3 hE13).lt;clear hs3 hs4 y1 HSA hE02 hE2 hE3';obtain⟨hmi,hkic⟩:=HMI.out;have hO:=qZt (w:=W3) (base:=W3.heap.size) (e:=3) (size:=1) (Nat.le_refl _);have hE04:=hE03.alloc (.cells #[] 3);have hE34:=(Er W3).alloc (.cells #[] 3)
 go_wp2_with (at_builtin;refine qZG hO (hI1.ext hE04) (one_len _) (ints_one _) 24 underlying24 qZx rfl (by decide) (by decide) (by simp;omega) (by simp) rfl _ _ rfl rfl rfl ?_)
 intro qv w5 hown hgrow;have hE35:Ext W3 w5:=Chg.own_ext hE34 hgrow hO (Nat.le_refl _)
 have hfl:∀q:List Int,(q.map ((fun x=>[x]) ∘ Value.int .i64)).flatten=q.map (Value.int .i64):=fun q=>by
  induction q with
  | nil=>rfl
  | cons a q ih=>simp[ih]
 simp only[List.map_map,hfl,List.length_map,Nat.zero_add,List.nil_append]at hown;clear hfl hgrow hO hE04 hE34 hmi hkic HMI hI1 y2;subst hkil;obtain⟨QA,qc,rfl⟩:=qQa hown;go_wp2_with fail
 go_loopw [43] (fun jv wr=>∃j:Nat,j≤ks.length∧jv=.int .i64 (j:Int)∧wr.ownsRow W3.heap.size 3 1 (.slice QA ks.length qc) ks.length (((ks.take j).map qZQ++ks.drop j).map (Value.int .i64))∧Ext W3 wr) (fun jv _=>ks.length - (intOf jv).toNat)
 case atStart=>exact⟨0,Nat.zero_le _,rfl,by simpa using hown,hE35⟩
 case round =>
  clear hown hE35;obtain⟨j,hj,rfl,hown,hE⟩:=hrel
  by_cases hlt:j<ks.length
  ·obtain⟨g,cap,hv2,hgb,hgl,hnc,hcm,hfz⟩:=own_some hown (by omega);injection hv2 with q1 q2 q3;subst q1;subst q3;obtain⟨x,hx⟩:∃x,ks[j]? = some x:=⟨_,List.getElem?_eq_getElem hlt⟩;have hcl:=clampJ_step ks j x hx
   have hcell:(((ks.take j).map qZQ++ks.drop j).map (Value.int .i64))[j]? = some (.int .i64 x):=by
    rw[List.getElem?_map,List.getElem?_append_right (by simp;omega)];simp only[List.length_map,List.length_take,Nat.min_eq_left hj,Nat.sub_self,List.getElem?_drop,Nat.add_zero,hx];rfl
   have c1:wr.cell? ⟨g,j,none⟩=some (.int .i64 x):=by
    obtain⟨A',c',e2,h2⟩:=Sl.of_own hown;obtain⟨b2,o2,rfl,hc2⟩:=h2 (fun e=>by rw[e]at hcell;cases hcell);simp only[Value.slice.injEq,Option.some.injEq,Addr.mk.injEq,and_true]at e2;obtain⟨⟨rfl,rfl⟩,_⟩:=e2
    have:=hc2 j _ hcell
    rwa[Nat.zero_add]at this
   have f1:=hfz j;have hset:=own_set hown (j:=j) (by omega) (.int .i64 (qZQ x));rw[hcl]at hset;have HST:=Hh hset;have HEX:=Hh hE;clear hown hE hset hcell hcl hfz;go_wp2_with fail
   exact⟨⟨j+1,by omega,by simp,HST.out,HEX.out.setCell hgb _⟩,by simp only[intOf];omega⟩
  ·obtain rfl:j=ks.length:=by omega
   rw[List.take_length,List.drop_length,List.append_nil]at hown;have hI5:=Sl.of_own hown;have hI5':Sl wr (.slice QA (ks.map qZQ).length qc) ((ks.map qZQ).map (Value.int .i64)):=by rw[List.length_map];exact hI5
   obtain⟨⟨r1,r2⟩,r3,r4⟩:=HSB.out wr hE;have hE05:=hE03.trans hE;have hL5:=hL1.ext hE05;have hM5:=hM1.ext hE05;have hY5:=HYC.out wr (hE13.trans hE);have hA2:=HB.out.2.1.ext (hE13.trans hE);have hA3:=HB.out.2.2.ext (hE13.trans hE);have y3:=hY5.cell 3;have y4:=hY5.cell 4;have y5:=hY5.cell 5;have y6:=hY5.cell 6;have y7:=hY5.cell 7;have y8:=hY5.cell 8;simp at y3 y4 y5 y6 y7 y8;obtain⟨hml,hklc,hmm,hkmc⟩:=HML.out
   have hw1:WdIn wr WW ⟨.slice SA dss.length sc,.slice TA vls.length tc,.slice QA ks.length qc,.slice LA kl lc,.slice MA km mc⟩:=by
    rw[HWD.out];exact⟨r1,r3,hI5,hL5,hM5⟩
   have hw2:WdIn wr WW ⟨.slice RA dss.length rc,.slice UA vls.length uc,.slice QA ks.length qc,.slice LA kl lc,.slice MA km mc⟩:=by
    rw[HWD.out];exact⟨r2,r4,hI5,hL5,hM5⟩
   have hcp:WW.copies=min (max cp 0) 6:=by rw[HWD.out]
   have hkp:WW.keep=min (max kp 0) 100:=by rw[HWD.out]
   have hpc:WW.percent=pc:=by rw[HWD.out]
   have hrs:WW.reserve=rs:=by rw[HWD.out]
   have hq3:xb+1+1<W3.heap.size:=(HB.out.2.2.ext hE13).lt
   have HQN:=Hh (fun(b o n c:Nat) (e:Value.slice QA ks.length qc=.slice (some ⟨b,o,none⟩) n c)=>(by
    have hge:=qZV hown b (by rw[e];rfl);omega:b≠xb+1∧b≠xb+1+1))
   have hzi:WW.items=ks.map qZQ:=by rw[HWD.out]
   clear hq3 hzi;have HC:=Hh (And.intro hcp (And.intro hkp (And.intro hpc hrs)));have HW1:=Hh (And.intro hw1 hw2);have HE5:=Hh hE05;clear hown hI5 hI5' r1 r2 r3 r4 hE05 hL5 hM5 hw1 hw2 hcp hkp hpc hrs hE hL1 hM1 HSB HML HWD hD1 HVC
   go_upto_region 13 with fail
   obtain⟨hcp,hkp,hpc,hrs⟩:=HC.out;rw[←hcp,←hkp];subst hpc;subst hrs;clear hcp hkp HC y3 y4 y5 y6;obtain⟨C1,hC1⟩:∃C,C=qQo WW ⟨.slice SA dss.length sc,.slice TA vls.length tc,.slice QA ks.length qc,.slice LA kl lc,.slice MA km mc⟩:=⟨_,rfl⟩;obtain⟨C2,hC2⟩:∃C,C=qQo WW ⟨.slice RA dss.length rc,.slice UA vls.length uc,.slice QA ks.length qc,.slice LA kl lc,.slice MA km mc⟩:=⟨_,rfl⟩;have hX0:=At.new wr 27 C1;have hEX:=(Er wr).alloc (.cells C1 27);have hone1:C1.all (·.oneCell')=true:=by rw[hC1];exact qXo HW1.out.1.sl
   have hone2:C2.all (·.oneCell')=true:=by rw[hC2];exact qXo HW1.out.2.sl
   have hsz1:C1.size=9:=by rw[hC1];rfl
   have hsz2:C2.size=9:=by rw[hC2];rfl
   have HX:Hid (∀W,W=wr.alloc (.cells C1 27)→At W wr.heap.size 27 C1∧Ext wr W):=Hh (by rintro W rfl;exact⟨hX0,hEX⟩);unfold qQo at hC1 hC2
   go_upto_region 14 with fail
   rw[←hC1];obtain⟨W6,hW6⟩:∃W,W=wr.alloc (.cells C1 27):=⟨_,rfl⟩;rw[←hW6];obtain⟨hX,hE6⟩:=HX.out W6 hW6;have hY6:=hY5.ext hE6;have hA26:=hA2.ext hE6;have hA36:=hA3.ext hE6;have hxne2:wr.heap.size≠xb+1:=by have:=hA2.lt;omega
   have hxne3:wr.heap.size≠xb+1+1:=by have:=hA3.lt;omega
   have hx2:w.heap.size≤xb+1:=by omega
   have hx3:w.heap.size≤xb+1+1:=by omega
   have HE6:=Hh (HE5.out.trans hE6);have HW6:=Hh (And.intro (HW1.out.1.ext hE6) (HW1.out.2.ext hE6));have HYX:=Hh (And.intro hY6 hX);clear hW6 hX0 hEX HX hX hE6 hY5 hY6 hA2 hA3 HB HYC HE5 HW1 y7 y8;generalize wr.heap.size=x14 at *;refine qQx (Γ := Nat→Value) (sgφ [.val (.agg C1),.val (.slice RA dss.length rc),.val (.slice UA vls.length uc),.val (.slice QA ks.length qc),.val (.slice LA kl lc),.val (.slice MA km mc),.val (.int .i64 WW.copies),.val (.int .i64 WW.keep),.val (.pointer (some ⟨xb,7,none⟩)),.val (.int .i64 WW.percent),.val (.pointer (some ⟨xb,8,none⟩)),.val (.int .i64 WW.reserve),.val (.agg C2),.any,.any]) (GW w W6 (xb+1) (xb+1+1) C1 C2) (by kernel_rfl) (by kernel_rfl) (by kernel_rfl) (fun _=>undef) ?inv ?steps ?fin
   case inv=>exact⟨HE6.out.drew,(Chg.refl _ W6).drew,by simpa using hA26.drew,by simpa using hA36.drew⟩
   case steps =>
    show qQ2 _ _ _ _ _ _ 15
    refine⟨⟨⟨⟨⟨⟨⟨⟨⟨⟨⟨⟨⟨⟨⟨trivial,?s0⟩,?s1⟩,?s2⟩,?s3⟩,?s4⟩,?s5⟩,?s6⟩,?s7⟩,?s8⟩,?s9⟩,?s10⟩,?s11⟩,?s12⟩,?s13⟩,?s14⟩
    case s0 =>
     refine qQh (x:=.agg C1) rfl rfl rfl (GW.keep (j:=0) (by decide) (by decide)) fun γ L v a w1 st=>?_
     have e14:=st.far 14 (by kernel_rfl);simp at e14;have hr:=(HYX.out.2.chg st.inv.chg (by rintro(h|h) <;> omega)).range;exact qQi rfl (b:=x14) (off:=0) (by simp[Act.eval,e14]) hr underlying27 rfl (by rw[Array.length_toList,hsz1];exact qXI)
    case s1 =>
     refine qQh (x:=.slice RA dss.length rc) rfl rfl rfl (GW.keep (j:=1) (by decide) (by decide)) fun γ L v a w1 st=>?_
     have e5:=st.far 5 (by kernel_rfl);simp at e5;go_simp
    case s2 =>
     refine qQh (x:=.slice UA vls.length uc) rfl rfl rfl (GW.keep (j:=2) (by decide) (by decide)) fun γ L v a w1 st=>?_
     have e7:=st.far 7 (by kernel_rfl);simp at e7;go_simp
    case s3 =>
     refine qQh (x:=.slice QA ks.length qc) rfl rfl rfl (GW.keep (j:=3) (by decide) (by decide)) fun γ L v a w1 st=>?_
     have e8:=st.far 8 (by kernel_rfl);simp at e8;go_simp
    case s4 =>
     refine qQh (x:=.slice LA kl lc) rfl rfl rfl (GW.keep (j:=4) (by decide) (by decide)) fun γ L v a w1 st=>?_
     have e10:=st.far 10 (by kernel_rfl);simp at e10;go_simp
    case s5 =>
     refine qQh (x:=.slice MA km mc) rfl rfl rfl (GW.keep (j:=5) (by decide) (by decide)) fun γ L v a w1 st=>?_
     have e11:=st.far 11 (by kernel_rfl);simp at e11;go_simp
    case s6 =>
     refine qQh (x:=.int .i64 WW.copies) rfl rfl rfl (GW.keep (j:=6) (by decide) (by decide)) fun γ L v a w1 st=>?_
     have e12:=st.far 12 (by kernel_rfl);simp at e12;go_simp
    case s7 =>
     refine qQh (x:=.int .i64 WW.keep) rfl rfl rfl (GW.keep (j:=7) (by decide) (by decide)) fun γ L v a w1 st=>?_
     have e13:=st.far 13 (by kernel_rfl);simp at e13;go_simp
    case s8 =>
     refine qQh (x:=.pointer (some ⟨xb,7,none⟩)) rfl rfl rfl (GW.keep (j:=8) (by decide) (by decide)) fun γ L v a w1 st=>?_
     have e1:=st.far 1 (by kernel_rfl);simp at e1;go_simp
    case s9 =>
     refine qQh (x:=.int .i64 WW.percent) rfl rfl rfl (GW.keep (j:=9) (by decide) (by decide)) fun γ L v a w1 st=>?_
     have e98:=st.val 8 98 rfl (by kernel_rfl);rw[(st.φ 8 (by kernel_rfl):v 8=_)]at e98;simp at e98;have q:=(HYX.out.1.chg st.inv.chg (by rintro(h|h) <;> omega)).cell 7;simp at q;go_simp
    case s10 =>
     refine qQh (x:=.pointer (some ⟨xb,8,none⟩)) rfl rfl rfl (GW.keep (j:=10) (by decide) (by decide)) fun γ L v a w1 st=>?_
     have e1:=st.far 1 (by kernel_rfl);simp at e1;go_simp
    case s11 =>
     refine qQh (x:=.int .i64 WW.reserve) rfl rfl rfl (GW.keep (j:=11) (by decide) (by decide)) fun γ L v a w1 st=>?_
     have e100:=st.val 10 100 rfl (by kernel_rfl);rw[(st.φ 10 (by kernel_rfl):v 10=_)]at e100;simp at e100;have q:=(HYX.out.1.chg st.inv.chg (by rintro(h|h) <;> omega)).cell 8;simp at q;go_simp
    case s12 =>
     refine qQh (x:=.agg C2) rfl rfl rfl (GW.keep (j:=12) (by decide) (by decide)) fun γ L v a w1 st=>?_
     have e91:=st.val 1 91 rfl (by kernel_rfl);rw[(st.φ 1 (by kernel_rfl):v 1=_)]at e91;simp at e91;have e92:=st.val 2 92 rfl (by kernel_rfl);rw[(st.φ 2 (by kernel_rfl):v 2=_)]at e92;simp at e92;have e93:=st.val 3 93 rfl (by kernel_rfl);rw[(st.φ 3 (by kernel_rfl):v 3=_)]at e93;simp at e93;have e94:=st.val 4 94 rfl (by kernel_rfl);rw[(st.φ 4 (by kernel_rfl):v 4=_)]at e94;simp at e94;have e95:=st.val 5 95 rfl (by kernel_rfl);rw[(st.φ 5 (by kernel_rfl):v 5=_)]at e95;simp at e95;have e96:=st.val 6 96 rfl (by kernel_rfl);rw[(st.φ 6 (by kernel_rfl):v 6=_)]at e96;simp at e96;have e97:=st.val 7 97 rfl (by kernel_rfl);rw[(st.φ 7 (by kernel_rfl):v 7=_)]at e97;simp at e97;have e99:=st.val 9 99 rfl (by kernel_rfl);rw[(st.φ 9 (by kernel_rfl):v 9=_)]at e99;simp at e99;have e101:=st.val 11 101 rfl (by kernel_rfl);rw[(st.φ 11 (by kernel_rfl):v 11=_)]at e101;simp at e101;rw[hC2];go_simp
    case s13 =>
     refine qQ7 rfl rfl rfl fun γ L v a w1 st=>?_
     have e90:=st.val 0 90 rfl (by kernel_rfl);rw[(st.φ 0 (by kernel_rfl):v 0=_)]at e90;simp at e90;have e2:=st.far 2 (by kernel_rfl);simp at e2;have h13:=st.off;have hb:=st.inv.a2;have hth:=hb.there;refine⟨_,qQr rfl (b:=xb+1) (off:=0) (cells:=C1) (by simp[Act.eval,e2]) (by simp[Act.eval,e90]) (by rw[hsz1];simpa[h13]using hth) (by rw[hsz1];exact qXI) hone1,?_⟩
     refine⟨st.inv.ext.setCells hx2 _ _,st.inv.chg.setCells (.inl rfl) _ _,?_,?_⟩
     ·rw[if_pos (by simp)];exact hb.cells_all (by rw[h13,hsz1];rfl)
     ·have:=st.inv.a3.chg (qQq (b:=xb+1) C1.toList 0) (by omega)
      simpa using this
    case s14 =>
     refine qQ7 rfl rfl rfl fun γ L v a w1 st=>?_
     have e102:=st.val 12 102 rfl (by kernel_rfl);rw[(st.φ 12 (by kernel_rfl):v 12=_)]at e102;simp at e102;have e3:=st.far 3 (by kernel_rfl);simp at e3;have h14:=st.off;have hb:=st.inv.a3;have hth:=hb.there;refine⟨_,qQr rfl (b:=xb+1+1) (off:=0) (cells:=C2) (by simp[Act.eval,e3]) (by simp[Act.eval,e102]) (by rw[hsz2];simpa[h14]using hth) (by rw[hsz2];exact qZZ) hone2,?_⟩
     refine⟨st.inv.ext.setCells hx3 _ _,st.inv.chg.setCells (.inr rfl) _ _,?_,?_⟩
     ·have:=st.inv.a2.chg (qQq (b:=xb+1+1) C2.toList 0) (by omega)
      simpa using this
     ·rw[if_pos (by simp)];exact hb.cells_all (by rw[h14,hsz2];rfl)
   case fin =>
    intro γ L v wz hall hG hφ;have hz2:=hG.a2;have hz3:=hG.a3;rw[if_pos (hall 13 (by decide))]at hz2;rw[if_pos (hall 14 (by decide))]at hz3;have hEz:=hG.ext;have hchg:=hG.chg;clear hφ hall hG
    change Exit.then _ _ _ (qQM _ v _ 15) wz
    simp only[qQM,qQH,Act.put];simp only[List.getElem?_toArray,List.getElem?_cons_zero,List.getElem?_cons_succ,Option.bind_some,List.setIfInBounds_toArray,List.set_cons_zero,List.set_cons_succ];have hw61:=HW6.out.1.chg2 hchg hA26 hA36 (fun b o n c e _=>HQN.out b o n c e);have hw62:=HW6.out.2.chg2 hchg hA26 hA36 (fun b o n c e _=>HQN.out b o n c e);have l2:(loadVar 27 ⟨xb+1,0,none⟩).run prog wz=.ok (.agg C1) wz:=run_loadVar_mid (P:=prog) wz (xb+1) 0 27 C1.toList _ hz2.range underlying27 rfl (by rw[Array.length_toList,hsz1];exact qXI);have l3:(loadVar 40 ⟨xb+1+1,0,none⟩).run prog wz=.ok (.agg C2) wz:=run_loadVar_mid (P:=prog) wz (xb+1+1) 0 40 C2.toList _ hz3.range underlying40 rfl (by rw[Array.length_toList,hsz2];exact qZZ);have HL:=Hh (And.intro l2 l3);have HF:=Hh (And.intro hw61 (And.intro hw62 hEz));clear l2 l3 hw61 hw62 hEz hz2 hz3 hchg HW6 HYX HQN;go_wp2_with fail
    refine bodyPost_ret (v:=.tuple #[.agg C1,.agg C2]) (qQs (results8) _ rfl rfl HL.out.1 HL.out.2) rfl ?_;exact⟨_,_,by rw[hC1,hC2];rfl,HF.out.1,HF.out.2.1,HF.out.2.2⟩
open Go.RowKit Go.Sort
def a17c:Cmd:=⟨1,1,1,⟨#[97]⟩,7,5,0,[0],0,0,0⟩
def a17p:Pm:=⟨[⟨7,⟨#[97]⟩,5,0,[0],Cp.none,Cp.none,0,false⟩],List.replicate 12 Vl.zero⟩
theorem a17_wf:a17c.Wf:=by
 unfold a17c;exact⟨by decide,by simp,by simp,by decide,by decide,by simp,by simp,by simp,by simp,fun x hx=>by simp at hx;omega⟩
theorem a17_app:Pm.empty.app a17c=(a17p,⟨0,0,0,0,[]⟩):=by kernel_rfl
theorem a17_inv:PInv 1 a17p:=by have:=(PInv.empty 0).app a17_wf;rw[a17_app]at this;exact this
def a17w:Wd:=⟨[⟨true,1000⟩,⟨true,1000⟩],[⟨true,1000⟩,⟨true,1000⟩],[],[],[],2,9,50,0⟩
theorem a17w_ok:a17w.Ok:=⟨by decide,by decide,by decide,fun x hx=>(by cases hx),by decide,by decide,by decide,by decide⟩
theorem a17_jobs:qZg a17w a17p=[⟨1,7,0, -1⟩,⟨3,7,0, -1⟩,⟨3,7,1, -1⟩]:=by kernel_rfl
theorem disk17_0:diskOf [0]=[0]:=by rw[diskOf_eq];decide
theorem sl17_one(w:World)(x:Int):Sl (w.alloc (.cells #[.int .i64 x] 3)) (.slice (some ⟨w.heap.size,0,none⟩) 1 1) (([x]:List Int).map (Value.int .i64)):=by
 refine⟨_,1,rfl,fun _=>⟨_,0,rfl,fun i u hi=>?_⟩⟩
 rw[(At.new w 3 #[.int .i64 x]).cell (0+i),Nat.zero_add];simpa using hi
theorem two_spots{w:World}{g:Nat}(hA:At w g 55 #[.bool true,.int .i64 1000,.bool true,.int .i64 1000]):Sln w (.slice (some ⟨g,0,none⟩) 2 2) 2 (([⟨true,1000⟩,⟨true,1000⟩]:List Spot).map Spot.cells):=by
 refine⟨_,2,rfl,fun _=>⟨g,0,rfl,fun i row hi j x hj=>?_⟩⟩
 rw[Nat.zero_add,hA.cell];have hi4:i<2:=by have:=(List.getElem?_eq_some_iff.1 hi).1;simpa using this
 rcases(show i=0∨i=1 by omega)with rfl|rfl <;>
 ·simp only[Spot.cells,List.map_cons,List.map_nil,List.getElem?_cons_zero,List.getElem?_cons_succ,Option.some.injEq]at hi;subst hi;have hj2:j<2:=by have:=(List.getElem?_eq_some_iff.1 hj).1;simpa using this
  rcases(show j=0∨j=1 by omega)with rfl|rfl <;> simpa using hj
theorem awake17_any(w:World):Calls prog 6 #[] w fun e w'=>e=.returned (.bool true)∧Ext w w':=by
 obtain⟨B,hBe⟩:∃B,w.heap.size=B:=⟨_,rfl⟩;have hwB:w.heap.size≤B:=by omega
 have hN:=cnew_any w;rw[hBe]at hN;clear hBe
 go_enter func6,ntmps6
 go_wp2_with fail
 refine hN.mono ?_;rintro e w1 ⟨c,mb,mn,rfl,hC1,hE1⟩;clear hN;go_wp2_with fail
 refine(disk_any _ _ [0] (sl17_one w1 0) (by decide)).mono ?_
 rintro e w2 ⟨v,rfl,hown,hE2⟩;rw[disk17_0]at hown;obtain⟨dA,dc,rfl⟩:=qQa hown;have X2:Ext w w2:=hE1.trans (((Er w1).alloc _).trans hE2);have hC2:=hC1.ext (((Er w1).alloc (.cells #[.int .i64 0] 3)).trans hE2);have H1:=Hh (capply_lit 0 0 hC2 (PInv.empty 0) (by decide) a17c _ (qQ8 hown) a17_wf (by decide) (by decide) (args:=.agg #[.int .i64 1,.int .i64 1,.int .i64 1,.string ⟨#[97]⟩,.int .u64 7,.int .i64 5,.int .u32 0,.slice dA 1 dc,.int .i64 0,.int .i64 0,.int .i64 0]) rfl a17_app rfl rfl);clear hE1 hC1 hE2 hown hC2;go_wp2_with fail
 refine H1.out.mono ?_;rintro e w3 ⟨A1,p1,rfl,hC3,hK3⟩;have X3:Ext w w3:=Kp.ext X2 hK3 (fun k hk=>Nat.le_trans hwB hk);clear H1 hK3 X2;have hS1:=two_spots (At.new (w3.alloc (.cells #[.bool true,.int .i64 1000] 55)) 55 #[.bool true,.int .i64 1000,.bool true,.int .i64 1000]);have hS2:=two_spots (At.new ((w3.alloc (.cells #[.bool true,.int .i64 1000] 55)).alloc (.cells #[.bool true,.int .i64 1000,.bool true,.int .i64 1000] 55)) 55 #[.bool true,.int .i64 1000,.bool true,.int .i64 1000]);have hE45:=(Er ((w3.alloc (.cells #[.bool true,.int .i64 1000] 55)).alloc (.cells #[.bool true,.int .i64 1000,.bool true,.int .i64 1000] 55))).alloc (.cells #[.bool true,.int .i64 1000,.bool true,.int .i64 1000] 55);have hE35:=(((Er w3).alloc (.cells #[.bool true,.int .i64 1000] 55)).alloc (.cells #[.bool true,.int .i64 1000,.bool true,.int .i64 1000] 55)).alloc (.cells #[.bool true,.int .i64 1000,.bool true,.int .i64 1000] 55);replace hS1:=hS1.ext hE45;have hC5:=hC3.ext hE35;have X5:=X3.trans hE35;have z1:(w3.alloc (.cells #[.bool true,.int .i64 1000] 55)).heap.size=w3.heap.size+1:=by simp
 have z2:((w3.alloc (.cells #[.bool true,.int .i64 1000] 55)).alloc (.cells #[.bool true,.int .i64 1000,.bool true,.int .i64 1000] 55)).heap.size=w3.heap.size+1+1:=by simp
 rw[z1]at hS1;rw[z2]at hS2;clear hC3 X3 hE35 hE45 z1 z2
 have HJ:Hid (∀W,W=((w3.alloc (.cells #[.bool true,.int .i64 1000] 55)).alloc (.cells #[.bool true,.int .i64 1000,.bool true,.int .i64 1000] 55)).alloc (.cells #[.bool true,.int .i64 1000,.bool true,.int .i64 1000] 55)→Ext w W∧Calls prog 9 #[.pointer (some ⟨c,0,none⟩),.agg #[.slice (some ⟨w3.heap.size+1,0,none⟩) 2 2,.slice (some ⟨w3.heap.size+1+1,0,none⟩) 2 2,.slice none 0 0,.slice none 0 0,.slice none 0 0,.int .i64 2,.int .i64 9,.int .i64 50,.int .i64 0]] W fun e w'=>∃jv,e=.returned jv∧w'.ownsRow W.heap.size 50 4 jv (qZg a17w a17p).length (qZb (qZg a17w a17p))∧Ext W w'):=Hh (by
  rintro W rfl;exact⟨X5,jobs_any _ _ c mb mn a17w ⟨.slice (some ⟨w3.heap.size+1,0,none⟩) 2 2,.slice (some ⟨w3.heap.size+1+1,0,none⟩) 2 2,.slice none 0 0,.slice none 0 0,.slice none 0 0⟩ a17p 1 ⟨hS1,hS2,Sl.nil _ 0,Sl.nil _ 0,Sl.nil _ 0⟩ a17w_ok hC5 a17_inv (by decide)⟩)
 rw[a17_jobs]at HJ;clear hS1 hS2 hC5 X5;go_wp2_with fail
 obtain⟨X5,hJ⟩:=HJ.out _ rfl;refine hJ.mono ?_;rintro e w7 ⟨jv,rfl,hj,hE7⟩;have X7:=X5.trans hE7;obtain⟨g,jc,rfl,_,_,_,_,_⟩:=own_some hj (by decide);have c0:=hj.cellAt 0 (by decide);have c1:=hj.cellAt 1 (by decide);have c2:=hj.cellAt 2 (by decide);have c3:=hj.cellAt 3 (by decide);have c8:=hj.cellAt 8 (by decide);have c9:=hj.cellAt 9 (by decide);have c10:=hj.cellAt 10 (by decide);have c11:=hj.cellAt 11 (by decide);simp[qZb,Jb.cells]at c0 c1 c2 c3 c8 c9 c10 c11;clear hj hJ HJ hE7 X5;go_wp2_with fail
 go_ret
 exact⟨by simp,X7⟩
open Go.RowKit Go.Sort Go.MapKept
theorem CmdsIn.ext{w w':World}{l:List CRow}{v:Value}(h:CmdsIn w l v)(hE:Ext w w'):CmdsIn w' l v:=⟨h.ops.ext hE,h.cap,fun x hx=>(h.row x hx).ext hE,h.len⟩
theorem planJobs_len25{W:Wd}{P:Pm}{n:Nat}(hi:PInv n P)(hO:W.Ok)(hn:n≤40:=by decide):(qZg W P).length≤1000:=by
 have h0:P.L.length≤40:=Nat.le_trans hi.len hn;have hv:=hO.v;have b1:=jl_repair W P.L;have b2:=qZu 2 (qXQ W P) W.vols.length;have b3:=jl_pools 3 (qZM W P) P.L;have b4:=jl_free W P.L;have b5:=jl_forget P.L;have b6:=qZu 6 (qZL W P) W.vols.length;have b7:=jl_retape W P;have b8:=qZu 8 (qZF W P) W.vols.length;have b9:=jl_pools 9 (qQS W) P.L;unfold qZg;simp only[List.length_append];omega
end Go.Proofs.YtiojjokfeknhcaaGreat
