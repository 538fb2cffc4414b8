/-
  Part 45 of what the law leans on.
-/
import Derived.Test.YtkkbfdencgdbhaaGreatDoorSA44
set_option linter.unusedVariables false
set_option linter.unusedSimpArgs false
set_option linter.unusedSectionVars false
namespace Go.Proofs.YtkkbfdencgdbhaaGreatDoor
open Go.RowKit Go.Sort
theorem own_ext{w w':World}{base:Nat}{e:TypeId}{size:Nat}{v:Value}{n:Nat}{xs:List Value}(h:w.ownsRow base e size v n xs)(hE:Ext w w'):w'.ownsRow base e size v n xs:=own_chg h hE (fun _ h=>h.elim)
section
variable{w:World}{K:Ka}{N:Nd}(h:NdAt w K N)
include h
set_option maxRecDepth 100000 in
set_option maxHeartbeats 2000000 in
theorem send_out(hol:N.out.length≤100000)(m:Ms)(ev:Value)(hev:w.ownsRow 0 49 3 ev m.es.length (enRows m.es))(hne:∀k,some k=ev.ownBlock→some k≠K.lv.ownBlock) :
 Calls Tryz.prog 155 #[.pointer (some ⟨K.r,0,none⟩),.agg #[.int .i64 m.kind,.int .i64 m.frm,.int .i64 m.dst,.int .i64 m.term,.int .i64 m.idx,.int .i64 m.lt,.int .i64 m.cm,.bool m.ok,ev,.string m.sn]] w fun e w' =>
  e=.returned (.tuple #[])∧∃v',NdAt w' { K with ov:=v',evs:=K.evs++[ev] } (N.send m)∧Chg K.has w w'∧(v'.ownBlock=K.ov.ownBlock∨∃k,v'.ownBlock=some k∧w.heap.size≤k):=by
 obtain⟨A,c,rfl,_⟩:=q_slc hev
 have hX:=At.new w 129 #[.int .i64 m.kind,.int .i64 m.frm,.int .i64 m.dst,.int .i64 m.term,.int .i64 m.idx,.int .i64 m.lt,.int .i64 m.cm,.bool m.ok,.slice A m.es.length c,.string m.sn]
 have hE:=(Ext.refl w).alloc (.cells #[.int .i64 m.kind,.int .i64 m.frm,.int .i64 m.dst,.int .i64 m.term,.int .i64 m.idx,.int .i64 m.lt,.int .i64 m.cm,.bool m.ok,.slice A m.es.length c,.string m.sn] 129)
 have HEV:=Lib.hid hev
 have HNE:=Lib.hid hne
 clear hev hne
 go_enter Tryz.func155,Tryz.ntmps155
 go_wp2_with fail
 have hxK:∀k,K.has k→k≠w.heap.size:=fun k hk e=>by have:=h.has_lt k hk;omega
 generalize w.alloc (.cells #[.int .i64 m.kind,.int .i64 m.frm,.int .i64 m.dst,.int .i64 m.term,.int .i64 m.idx,.int .i64 m.lt,.int .i64 m.cm,.bool m.ok,.slice A m.es.length c,.string m.sn] 129)=w1 at hX hE⊢
 obtain⟨x,hx⟩:∃x,w.heap.size=x:=⟨_,rfl⟩
 have hxw:w.heap.size≤x:=by omega
 rw[hx]at hX hxK⊢
 clear hx
 have hW0:=h.ext hE
 have c1:=hW0.nd.cell 1
 have c3:=hW0.nd.cell 3
 simp[ndCells]at c1 c3
 have x1:=hX.cell 1
 have x3:=hX.cell 3
 simp at x1 x3
 have g1:=hX.frozen 1
 have g3:=hX.frozen 3
 have hxl:=hX.lt
 have hX2:=((hX.set 1 (.int .i64 (N.id:Int))).set 3 (.int .i64 N.s.term)).drew
 simp only[List.setIfInBounds_toArray,List.set_cons_zero,List.set_cons_succ]at hX2
 have hC2:Chg (fun k=>k=x) w1 ((w1.setCell ⟨x,1,none⟩ (.int .i64 (N.id:Int))).setCell ⟨x,3,none⟩ (.int .i64 N.s.term)).drew:=(((Chg.refl (fun k=>k=x) w1).setCell (p:=⟨x,1,none⟩) (.inl rfl) _).setCell (p:=⟨x,3,none⟩) (.inl rfl) _).drew
 have hxo:some x≠K.ov.ownBlock:=fun e=>hxK x (.inr (.inr (.inr (.inr (.inr (.inr (.inr (.inl e)))))))) rfl
 have hW:=hW0.chg hC2 (fun k e hk=>hxK k hk e)
 have HE:=Lib.hid ((hE.chg_trans hC2).mono (S:=fun _=>False) fun k hk e=>by have e':k=x:=e;omega)
 go_region
 clear c1 c3 x1 x3 g1 g3 hxl hC2 hW0 hX hE h
 generalize ((w1.setCell ⟨x,1,none⟩ (.int .i64 (N.id:Int))).setCell ⟨x,3,none⟩ (.int .i64 N.s.term)).drew=W at hX2 hW HE⊢
 have hX:=hX2
 clear hX2
 go_wp2_with fail
 refine wp_region_phi (Γ := Nat→Value) (sgφ [.val (.pointer (some ⟨K.r,0,none⟩)),.val (.pointer (some ⟨K.r,0,none⟩)),.val (.pointer (some ⟨K.r,0,none⟩)),.val (.pointer (some ⟨K.r,17,none⟩)),.val (K.ov),.val (.agg #[.int .i64 m.kind,.int .i64 (N.id:Int),.int .i64 m.dst,.int .i64 N.s.term,.int .i64 m.idx,.int .i64 m.lt,.int .i64 m.cm,.bool m.ok,.slice A m.es.length c,.string m.sn]),.g 0,.g 1,.val (.pointer (some ⟨K.r,0,none⟩)),.val (.pointer (some ⟨K.r,17,none⟩)),.any])
  (GAO W K.r 96 129 (fun v=>ndCells { K with ov:=v } N) K.ov 10 N.out.length (msRows N.out K.evs) [.int .i64 m.kind,.int .i64 (N.id:Int),.int .i64 m.dst,.int .i64 N.s.term,.int .i64 m.idx,.int .i64 m.lt,.int .i64 m.cm,.bool m.ok,.slice A m.es.length c,.string m.sn] (fun w=>At w x 129 #[.int .i64 m.kind,.int .i64 (N.id:Int),.int .i64 m.dst,.int .i64 N.s.term,.int .i64 m.idx,.int .i64 m.lt,.int .i64 m.cm,.bool m.ok,.slice A m.es.length c,.string m.sn]) 6 7 10)
  (by kernel_rfl) (by kernel_rfl) (by kernel_rfl) (fun _=>undef) (GAO.start hW.nd hW.os.own hX.drew _) ?steps ?fin
 case steps =>
  show StepsTo _ _ _ _ _ _ 11
  refine⟨⟨⟨⟨⟨⟨⟨⟨⟨⟨⟨trivial,?s0⟩,?s1⟩,?s2⟩,?s3⟩,?s4⟩,?s5⟩,?s6⟩,?s7⟩,?s8⟩,?s9⟩,?s10⟩
  case s0 =>
   refine sg_val (x:=.pointer (some ⟨K.r,0,none⟩)) rfl rfl rfl (GAO.keep (by decide) (by decide) (by decide)) fun γ L v a w st=>?_
   have f0:=st.far 0 (by kernel_rfl)
   simp at f0
   go_simp
  case s1 =>
   refine sg_val (x:=.pointer (some ⟨K.r,0,none⟩)) rfl rfl rfl (GAO.keep (by decide) (by decide) (by decide)) fun γ L v a w st=>?_
   have f0:=st.far 0 (by kernel_rfl)
   simp at f0
   go_simp
  case s2 =>
   refine sg_val (x:=.pointer (some ⟨K.r,0,none⟩)) rfl rfl rfl (GAO.keep (by decide) (by decide) (by decide)) fun γ L v a w st=>?_
   have e1:=st.val 1 16 rfl (by kernel_rfl)
   rw[(st.φ 1 (by kernel_rfl):v 1=_)]at e1
   simp at e1
   go_simp
  case s3 =>
   refine sg_val (x:=.pointer (some ⟨K.r,17,none⟩)) rfl rfl rfl (GAO.keep (by decide) (by decide) (by decide)) fun γ L v a w st=>?_
   have e2:=st.val 2 17 rfl (by kernel_rfl)
   rw[(st.φ 2 (by kernel_rfl):v 2=_)]at e2
   simp at e2
   go_simp
  case s4 =>
   refine sg_val (x:=K.ov) rfl rfl rfl (GAO.keep (by decide) (by decide) (by decide)) fun γ L v a w st=>?_
   have e3:=st.val 3 18 rfl (by kernel_rfl)
   rw[(st.φ 3 (by kernel_rfl):v 3=_)]at e3
   simp at e3
   have hjs:L 10=false:=GAO.js_off (r:=[7,10]) st.down st.off (by kernel_rfl) (by simp)
   have hat:=st.inv.at_
   rw[hjs]at hat
   have hcl:=hat.cell 17
   simp[ndCells]at hcl
   go_simp
  case s5 =>
   refine sg_val (x:=.agg #[.int .i64 m.kind,.int .i64 (N.id:Int),.int .i64 m.dst,.int .i64 N.s.term,.int .i64 m.idx,.int .i64 m.lt,.int .i64 m.cm,.bool m.ok,.slice A m.es.length c,.string m.sn]) rfl rfl rfl (GAO.keep (by decide) (by decide) (by decide)) fun γ L v a w st=>?_
   have f3:=st.far 3 (by kernel_rfl)
   simp at f3
   exact exec_load_mid rfl (b:=x) (off:=0) (by simp[Act.eval,f3]) st.inv.kp.range Tryz.underlying129 rfl msg_size
  case s6 =>
   refine sg_new (k:=0) rfl rfl rfl (by kernel_rfl) fun γ L v a w st=>?_
   have e5:=st.val 5 20 rfl (by kernel_rfl)
   rw[(st.φ 5 (by kernel_rfl):v 5=_)]at e5
   simp at e5
   have hja:L 7=false:=GAO.js_off (r:=[7,10]) st.down st.off (by kernel_rfl) (by simp)
   have hjs:L 10=false:=GAO.js_off (r:=[7,10]) st.down st.off (by kernel_rfl) (by simp)
   exact⟨.slice (some ⟨w.heap.size,0,none⟩) 1 1,w.alloc (.cells #[.int .i64 m.kind,.int .i64 (N.id:Int),.int .i64 m.dst,.int .i64 N.s.term,.int .i64 m.idx,.int .i64 m.lt,.int .i64 m.cm,.bool m.ok,.slice A m.es.length c,.string m.sn] 129),by go_simp,st.inv.made (fun w w' h hE=>h.ext hE) hja hjs (by decide) (by decide)⟩
  case s7 =>
   refine sg_new (k:=1) rfl rfl rfl (by kernel_rfl) fun γ L v a w st=>?_
   have e4:=st.val 4 19 rfl (by kernel_rfl)
   rw[(st.φ 4 (by kernel_rfl):v 4=_)]at e4
   simp at e4
   have e6:=st.val 6 21 rfl (by kernel_rfl)
   rw[(st.φ 6 (by kernel_rfl):v 6=_)]at e6
   simp at e6
   have hjs:L 10=false:=GAO.js_off (r:=[10]) st.down st.off (by kernel_rfl) (by simp)
   exact st.inv.appended (by decide) (fun w w' h hO hC=>h.chg hC hxo) (st.dep 6 (by kernel_rfl)) st.off hjs (by decide) 71 Tryz.underlying71 msg_info rfl (by decide) (by decide) (by omega) rfl (by simp[Value.oneCell']) (.tmp 19) (.tmp 21) rfl (by simp[Act.eval,e4]) (by simp[Act.eval,e6])
  case s8 =>
   refine sg_val (x:=.pointer (some ⟨K.r,0,none⟩)) rfl rfl rfl (GAO.keep (by decide) (by decide) (by decide)) fun γ L v a w st=>?_
   have e0:=st.val 0 15 rfl (by kernel_rfl)
   rw[(st.φ 0 (by kernel_rfl):v 0=_)]at e0
   simp at e0
   go_simp
  case s9 =>
   refine sg_val (x:=.pointer (some ⟨K.r,17,none⟩)) rfl rfl rfl (GAO.keep (by decide) (by decide) (by decide)) fun γ L v a w st=>?_
   have e8:=st.val 8 23 rfl (by kernel_rfl)
   rw[(st.φ 8 (by kernel_rfl):v 8=_)]at e8
   simp at e8
   go_simp
  case s10 =>
   refine sg_skip rfl rfl rfl fun γ L v a w st=>?_
   have e9:=st.val 9 24 rfl (by kernel_rfl)
   rw[(st.φ 9 (by kernel_rfl):v 9=_)]at e9
   simp at e9
   have e7:=st.val 7 22 rfl (by kernel_rfl)
   rw[(st.φ 7 (by kernel_rfl):v 7=_)]at e7
   simp at e7
   have hja:=st.dep 7 (by kernel_rfl)
   have hat:=st.inv.at_
   rw[st.off]at hat
   have f0:=hat.frozen 17
   have c0:=hat.cell 17
   simp[ndCells]at c0
   have hlt:=hat.lt
   have hown:=st.inv.own
   rw[hja]at hown
   simp only[if_true]at hown
   obtain⟨oA,oc,hov,_⟩:=q_slc hown
   rw[hov]at e7
   obtain⟨oB,od,hov2,_⟩:=q_slc hW.os.own
   rw[hov2]at c0
   refine⟨w.setCell ⟨K.r,17,none⟩ (γ 1),by rw[hov];go_simp,st.inv.stored (by decide) (fun w w' h hC hx=>h.chg hC (by obtain⟨cs,hx⟩:=hx;exact h.ne hx (by decide))) hja st.off (by decide) rfl⟩
 case fin =>
  intro γ Lx v wr hall hG hφ
  have hx5:=hG.at_
  have hO5:=hG.own
  have hN5:=hG.nb (hall 7 (by decide))
  rw[hall 10 (by decide)]at hx5
  rw[hall 7 (by decide)]at hO5
  simp only[if_true]at hx5 hO5
  have hC5:=hG.chg
  have hK5:=hG.kp
  clear hall hφ hG
  change bodyPost _ _ _ Exit.normal (putAll _ v _ 11) wr
  simp only[putAll,dstOf,Act.put]
  simp only[List.getElem?_toArray,List.getElem?_cons_zero,List.getElem?_cons_succ,Option.bind_some,List.setIfInBounds_toArray,List.set_cons_zero,List.set_cons_succ]
  go_wp2_with fail
  go_end0
  have q:∀ {e:TypeId} {size:Nat} {v:Value} {n:Nat} {xs:List Value},W.ownsRow 0 e size v n xs→e≠96→e≠129→wr.ownsRow 0 e size v n xs:=fun ho h1 h2=>q_keep ho hC5 fun k hk hs=>by
   rcases hs with hs|hs
   ·rw[hs]at hk;exact q_apart ho hW.nd h1 hk
   ·exact q_apart2 ho hW.os.own h2 k hk hs
  have hdr:¬ (K.d=K.r∨some K.d=K.ov.ownBlock):=by
   rintro(e|e)
   ·exact hW.dk.1.ne hW.nd (by decide) e
   ·exact q_apart hW.os.own hW.dk.1 (by decide) e
  have hmr:¬ (K.m=K.r∨some K.m=K.ov.ownBlock):=by
   rintro(e|e)
   ·exact hW.dk.2.ne_at hW.nd e
   ·exact q_map hW.os.own hW.dk.2 e
  have hE0:Ext w W:=HE.out
  refine⟨rfl, γ 1,⟨hx5,⟨hW.dk.1.chg hC5 hdr,hW.dk.2.chg hC5 hmr⟩,q hW.lg (by decide) (by decide),q hW.vs (by decide) (by decide),q hW.ms (by decide) (by decide),q hW.ns (by decide) (by decide),⟨?_,?_,?_⟩,hW.mn,?_⟩,?_,?_⟩
  ·show wr.ownsRow 0 129 10 (γ 1) (N.out++[_]).length (msRows (N.out++[_]) (K.evs++[_]))
   rw[msRows_snoc _ _ hW.os.len,List.length_append]
   exact hO5
  ·show(K.evs++[_]).length=(N.out++[_]).length
   rw[List.length_append,List.length_append,hW.os.len];rfl
  ·intro i m' ev' hm he
   have hm':(N.out++[_])[i]? = some m':=hm
   have he':(K.evs++[_])[i]? = some ev':=he
   by_cases hi:i<N.out.length
   ·rw[List.getElem?_append_left hi]at hm'
    rw[List.getElem?_append_left (by rw[hW.os.len];exact hi)]at he'
    exact q (hW.os.es i m' ev' hm' he') (by decide) (by decide)
   ·rw[List.getElem?_append_right (by omega)]at hm'
    rw[List.getElem?_append_right (by rw[hW.os.len];omega)]at he'
    have hi0:i - N.out.length=0:=by have:=(List.getElem?_eq_some_iff.1 hm').1;simp at this;omega
    rw[hi0]at hm'
    rw[hW.os.len,hi0]at he'
    cases hm'
    cases he'
    exact q (own_ext HEV.out hE0) (by decide) (by decide)
  ·intro v' hv k hk
   have hv':v'∈K.evs++[Value.slice A m.es.length c]:=hv
   rcases List.mem_append.1 hv' with hv'|hv'
   ·exact hW.le v' hv' k hk
   ·rw[List.mem_singleton.1 hv']at hk
    exact HNE.out k hk
  ·refine hE0.chg_trans (hC5.mono fun k hk e=>?_)
   rcases e with e|e
   ·exact .inl e
   ·exact .inr (.inr (.inr (.inr (.inr (.inr (.inr (.inl e)))))))
  ·rcases hN5 with e|⟨k,e,hk⟩
   ·exact .inl e
   ·exact .inr ⟨k,e,Nat.le_trans hE0.size hk⟩
theorem send_any(hN:NdOk N)(m:Ms)(ev:Value)(hev:w.ownsRow 0 49 3 ev m.es.length (enRows m.es))(hne:∀k,some k=ev.ownBlock→some k≠K.lv.ownBlock) :
 Calls Tryz.prog 155 #[.pointer (some ⟨K.r,0,none⟩),.agg #[.int .i64 m.kind,.int .i64 m.frm,.int .i64 m.dst,.int .i64 m.term,.int .i64 m.idx,.int .i64 m.lt,.int .i64 m.cm,.bool m.ok,ev,.string m.sn]] w fun e w' =>
  e=.returned (.tuple #[])∧∃v',NdAt w' { K with ov:=v',evs:=K.evs++[ev] } (N.send m)∧Chg K.has w w'∧(v'.ownBlock=K.ov.ownBlock∨∃k,v'.ownBlock=some k∧w.heap.size≤k) :=
 send_out h hN.out m ev hev hne
end
end Go.Proofs.YtkkbfdencgdbhaaGreatDoor
namespace Go.Proofs.YtkkbfdencgdbhaaGreatDoor
open Go.RowKit Go.Sort
theorem sendTo_out(N:Nd)(i:Nat):(N.sendTo i).s=N.s∧(N.sendTo i).nx=N.nx∧(N.sendTo i).commit=N.commit∧(N.sendTo i).id=N.id∧(N.sendTo i).n=N.n∧(N.sendTo i).out.length≤N.out.length+1:=by
 unfold Nd.sendTo
 split
 ·exact⟨rfl,rfl,rfl,rfl,rfl,by omega⟩
 ·exact⟨rfl,rfl,rfl,rfl,rfl,by unfold Nd.lacks Nd.send;simp⟩
def Nd.sentK(N:Nd)(k:Nat):Nd:=(List.range k).foldl Nd.sendTo N
theorem sentK_succ(N:Nd)(k:Nat):N.sentK (k+1)=(N.sentK k).sendTo k:=by
 unfold Nd.sentK
 rw[List.range_succ,List.foldl_append];rfl
theorem sentK_out(N:Nd):∀k,(N.sentK k).s=N.s∧(N.sentK k).nx=N.nx∧(N.sentK k).commit=N.commit∧(N.sentK k).id=N.id∧(N.sentK k).n=N.n∧(N.sentK k).out.length≤N.out.length+k
 | 0=>⟨rfl,rfl,rfl,rfl,rfl,Nat.le_refl _⟩
 | k+1=>by
  obtain⟨a,b,c,d,e,f⟩:=sentK_out N k
  obtain⟨a',b',c',d',e',f'⟩:=sendTo_out (N.sentK k) k
  rw[sentK_succ]
  exact⟨a'.trans a,b'.trans b,c'.trans c,d'.trans d,e'.trans e,by omega⟩
def LackOk(K:Ka)(N:Nd):Prop:=∀(w':World) (K':Ka) (N':Nd) (i:Nat),NdAt w' K' N'→N'.s=N.s→N'.nx=N.nx→N'.commit=N.commit→N'.id=N.id→N'.n=N.n→N'.out.length≤N.out.length+N.n→i<N.n→i≠N.id→K'.r=K.r →
 Calls Tryz.prog 157 #[.pointer (some ⟨K.r,0,none⟩),.int .i64 (i:Int)] w' fun e w''=>e=.returned (.tuple #[])∧NdTo K' w' w'' (N'.lacks i)
section
variable{w:World}{K:Ka}{N:Nd}(h:NdAt w K N)(hn:N.n≤5)
include h hn
set_option maxRecDepth 100000 in
theorem sendall_any(hl:LackOk K N):Calls Tryz.prog 117 #[.pointer (some ⟨K.r,0,none⟩)] w fun e w'=>e=.returned (.tuple #[])∧NdTo K w w' N.sendAll:=by
 have c2:=h.nd.cell 2
 simp[ndCells]at c2
 have hsa:N.sendAll=N.sentK N.n:=rfl
 rw[hsa]
 have h0:NdTo K w w (N.sentK 0):=NdTo.refl h
 have HL:=Lib.hid hl
 clear hl hsa h
 go_enter Tryz.func117,Tryz.ntmps117
 go_wp2_with fail
 go_loopw [7] (fun iv wr=>∃k:Nat,k≤N.n∧iv=.int .i64 (k:Int)∧NdTo K w wr (N.sentK k)) (fun iv _=>N.n - (intOf iv).toNat)
 case atStart=>exact⟨0,Nat.zero_le _,rfl,h0⟩
 case round =>
  obtain⟨k,hk,rfl,hT⟩:=hrel
  rename World=>wr
  obtain⟨K1,r1,r2,r3,hA,hC,hKK⟩:=hT
  obtain⟨p1,p2,p3,p4,p5,p6⟩:=sentK_out N k
  have hsucc:=sentK_succ N k
  have d1:=hA.nd.cell 1
  rw[r1]at d1
  simp[ndCells]at d1
  rw[p4]at d1
  by_cases hlt:k<N.n
  ·by_cases hid:k=N.id
   ·have hst:N.sentK (k+1)=N.sentK k:=by rw[hsucc];unfold Nd.sendTo;rw[if_pos (by rw[p4];exact hid)]
    have HST:=Lib.hid hst
    have hid2:((k:Int) != (N.id:Int))=false:=by simp[hid]
    clear hsucc hst p1 p2 p3 p4 p5 p6 hid
    go_wp2_with fail
    go_roundw
    case rel=>exact⟨k+1,by omega,by go_num,by rw[HST.out];exact⟨K1,r1,r2,r3,hA,hC,hKK⟩⟩
    case measure=>simp[intOf];omega
   ·have hst:N.sentK (k+1)=(N.sentK k).lacks k:=by rw[hsucc];unfold Nd.sendTo;rw[if_neg (by rw[p4];exact hid)]
    have HST:=Lib.hid hst
    have hid2:((k:Int) != (N.id:Int))=true:=by simp;omega
    have cl:=HL.out wr K1 (N.sentK k) k hA p1 p2 p3 p4 p5 (by omega) hlt hid r1
    clear hsucc hst p1 p2 p3 p4 p5 p6 hid
    go_wp2_with fail
    refine cl.mono ?_
    rintro e w1 ⟨rfl,hT1⟩
    clear cl
    go_wp2_with fail
    go_roundw
    case rel=>exact⟨k+1,by omega,by go_num,by rw[HST.out];exact NdTo.next r1 r2 r3 hC hKK hT1⟩
    case measure=>simp[intOf];omega
  ·obtain rfl:k=N.n:=by omega
   clear hsucc p1 p2 p3 p4 p5 p6
   go_wp2_with fail
   go_end0
   exact⟨rfl,K1,r1,r2,r3,hA,hC,hKK⟩
omit h hn in
theorem advGo_last(term commit:Int)(n:Nat)(mt:List Int)(l:List En)(k:Nat){x:En}(hx:l[k]? = some x):advGo term commit n mt (l.take (k+1)).reverse=if x.t≠term∨x.i≤commit then commit else if n<2 * (mt.filter fun y=>decide (x.i≤y)).length then x.i else advGo term commit n mt (l.take k).reverse:=by
 rw[List.take_add_one,hx]
 simp only[Option.toList_some,List.reverse_append,List.reverse_cons,List.reverse_nil,List.nil_append,List.cons_append]
 rfl
include hn in
omit hn in
set_option maxRecDepth 100000 in
set_option maxHeartbeats 1000000 in
theorem advance_any(hN:NdOk N):Calls Tryz.prog 132 #[.pointer (some ⟨K.r,0,none⟩)] w fun e w'=>e=.returned (.tuple #[])∧NdAt w' K N.advance∧Chg K.has w w':=by
 have c8:=h.nd.cell 8
 simp[ndCells]at c8
 obtain⟨A,c,hlv,hcap⟩:=q_slc h.lg
 rw[hlv]at c8
 have hll:=hN.ts.len
 obtain⟨M,hM⟩:∃M,M=advGo N.s.term N.commit N.n N.mt N.s.log.reverse:=⟨_,rfl⟩
 have hadv:N.advance = { N with commit:=M } := by rw[hM];rfl
 have hst:advGo N.s.term N.commit N.n N.mt (N.s.log.take N.s.log.length).reverse=M:=by rw[List.take_length,hM]
 have hz:advGo N.s.term N.commit N.n N.mt (N.s.log.take 0).reverse=N.commit:=rfl
 rw[hadv]
 clear hM hadv
 have HST:=Lib.hid hst
 have HZ:=Lib.hid hz
 clear hst hz
 go_enter Tryz.func132,Tryz.ntmps132
 go_wp2_with fail
 go_loopw [2] (fun iv wr=>∃k:Nat,k≤N.s.log.length∧iv=.int .i64 ((k:Int) - 1)∧Hid (advGo N.s.term N.commit N.n N.mt (N.s.log.take k).reverse=M)∧Ext w wr) (fun iv _=>(intOf iv+1).toNat)
 case atStart=>exact⟨N.s.log.length,Nat.le_refl _,by go_num,HST,Ext.refl w⟩
 case round =>
  obtain⟨k,hk,rfl,HA,hE⟩:=hrel
  rename World=>wr
  have hr:=h.ext hE
  have d2:=hr.nd.cell 2
  have d3:=hr.nd.cell 3
  have d8:=hr.nd.cell 8
  have d11:=hr.nd.cell 11
  have d15:=hr.nd.cell 15
  have f11:=hr.nd.frozen 11
  have hlt:=hr.nd.lt
  simp[ndCells]at d2 d3 d8 d11 d15
  rw[hlv]at d8
  by_cases h0:k=0
  ·subst h0
   have hMc:M=N.commit:=by rw[←HA.out];exact HZ.out
   have HMC:=Lib.hid hMc
   clear hMc HA
   go_wp2_with fail
   first|go_end0|refine bodyPost_ret (results_none rfl _ _ _) rfl ?_
   refine⟨rfl,?_,hE.chg⟩
   rw[HMC.out]
   exact hr
  ·obtain⟨j,rfl⟩:∃j,k=j+1:=⟨k - 1,by omega⟩
   obtain⟨x,hx⟩:∃x,N.s.log[j]? = some x:=⟨_,List.getElem?_eq_getElem (by omega)⟩
   obtain⟨g,p,c',hv,r0,r1,r2⟩:=ens_some hr.ts.lg hx
   rw[hlv]at hv
   simp only[Value.slice.injEq]at hv
   obtain⟨rfl, -,rfl⟩:=hv
   obtain⟨hxi,hxt,hxc⟩:=hN.ts.es x (List.mem_of_getElem? hx)
   have HX:=Lib.hid hx
   clear hx
   have hcm:=hN.commit
   have hbx:=At.new wr 49 #[.int .i64 x.i,.int .i64 x.t,.string x.c]
   by_cases ht:x.t=N.s.term
   ·by_cases hi:x.i≤N.commit
    ·have hMc:M=N.commit:=by rw[←HA.out,advGo_last N.s.term N.commit N.n N.mt N.s.log j HX.out,if_pos (.inr hi)]
     have HMC:=Lib.hid hMc
     have t1:(x.t != N.s.term)=false:=by simpa using ht
     have t2:decide (x.i≤N.commit)=true:=by simpa using hi
     clear hMc ht hi
     go_wp2_with fail
     go_region
     all_goals
      go_wp2_with fail
      first|go_end0|refine bodyPost_ret (results_none rfl _ _ _) rfl ?_
      refine⟨rfl,?_,(hE.alloc _).drew.chg⟩
      rw[HMC.out]
      exact h.ext (hE.alloc _).drew
    ·have t1:(x.t != N.s.term)=false:=by simpa using ht
     have t2:decide (x.i≤N.commit)=false:=by simpa using hi
     obtain⟨mA,mc,hmv,hmcap⟩:=q_slc hr.ms
     rw[hmv]at d15
     have hml:N.mt.length≤maxLen:=by
      rcases hr.ms.2 with⟨_,h0⟩|⟨_,_,_,_,_,_,h1,h2,_⟩
      ·rw[h0];exact Nat.zero_le _
      ·exact Nat.le_trans h1 h2
     unfold maxLen at hml
     have hMS:=Sl.of_own hr.ms
     rw[hmv]at hMS
     have hmb:=hN.mt
     have hml5:=hN.ml
     have hall:advGo N.s.term N.commit N.n N.mt (N.s.log.take (j+1)).reverse=if N.n<2 * (N.mt.filter fun y=>decide (x.i≤y)).length then x.i else advGo N.s.term N.commit N.n N.mt (N.s.log.take j).reverse:=by
      rw[advGo_last N.s.term N.commit N.n N.mt N.s.log j HX.out,if_neg (by rintro(e|e);exact e ht;exact hi e)]
     have HALL:=Lib.hid hall
     clear ht hi hall
     go_wp2_with fail
     go_region
     have hEW:=(hE.alloc (.cells #[.int .i64 x.i,.int .i64 x.t,.string x.c] 49)).drew
     have hEr:=((Ext.refl wr).alloc (.cells #[.int .i64 x.i,.int .i64 x.t,.string x.c] 49)).drew
     have hbW:=hbx.drew
     have hrW:=hr.ext hEr
     have hMW:=hMS.ext hEr
     generalize (wr.alloc (.cells #[.int .i64 x.i,.int .i64 x.t,.string x.c] 49)).drew=W at hEW hbW hrW hMW⊢
     generalize wr.heap.size=xb at hbW⊢
     clear hbx hr d2 d3 d8 d11 f11 hlt hE hEr r0 r1 r2 hMS
     have b0:=hbW.cell 0
     simp at b0
     have d2:=hrW.nd.cell 2
     have d11:=hrW.nd.cell 11
     have d15:=hrW.nd.cell 15
     have f11:=hrW.nd.frozen 11
     have hlt:=hrW.nd.lt
     simp[ndCells]at d2 d11 d15
     rw[hmv]at d15
     go_wp2_with fail
     go_loopw [4,48] (fun nv iv wz=>∃q:Nat,q≤N.mt.length∧iv=.int .i64 (q:Int)∧nv=.int .i64 (((N.mt.take q).filter fun y=>decide (x.i≤y)).length:Nat)∧wz=W) (fun _ iv _=>N.mt.length - (intOf iv).toNat)
     case atStart=>exact⟨0,Nat.zero_le _,rfl,rfl,rfl⟩
     case round =>
      obtain⟨q,hq,rfl,rfl,rfl⟩:=hrel
      rename World=>wz
      have hcl:((N.mt.take q).filter fun y=>decide (x.i≤y)).length≤q:=Nat.le_trans (List.length_filter_le _ _) (by rw[List.length_take];omega)
      by_cases hql:q<N.mt.length
      ·obtain⟨y,hy⟩:∃y,N.mt[q]? = some y:=⟨_,List.getElem?_eq_getElem hql⟩
       obtain⟨mA',c1,hv1,hx1⟩:=hMW
       obtain⟨mb,mo,hA',hcell⟩:=hx1 (fun e=>by have:=List.map_eq_nil_iff.1 e;rw[this]at hql;simp at hql)
       simp only[Value.slice.injEq]at hv1
       obtain⟨rfl, -, -⟩:=hv1
       subst hA'
       have m0:=hcell q (.int .i64 y) (by rw[List.getElem?_map,hy];rfl)
       have hsn:((N.mt.take (q+1)).filter fun y=>decide (x.i≤y)).length=((N.mt.take q).filter fun y=>decide (x.i≤y)).length+if x.i≤y then 1 else 0:=by
        rw[List.take_add_one,hy]
        simp only[Option.toList_some,List.filter_append,List.length_append]
        congr 1
        by_cases hh:x.i≤y <;> simp[hh]
       obtain⟨hy0,hy1⟩:=hmb y (List.mem_of_getElem? hy)
       have HCL:=Lib.hid hcell
       clear hcell hy
       by_cases hh:x.i≤y
       ·rw[if_pos hh]at hsn
        have HSN:=Lib.hid hsn
        have t3:decide (x.i≤y)=true:=by simpa using hh
        clear hsn
        generalize ((N.mt.take q).filter fun y=>decide (x.i≤y)).length=cn at *
        go_wp2_with fail
        go_roundw
        case rel=>exact⟨q+1,by omega,by go_num,by rw[HSN.out];go_num,by first|rfl|trivial⟩
        case measure=>simp[intOf];omega
       ·rw[if_neg hh]at hsn
        have HSN:=Lib.hid hsn
        have t3:decide (x.i≤y)=false:=by simpa using hh
        clear hsn
        generalize ((N.mt.take q).filter fun y=>decide (x.i≤y)).length=cn at *
        go_wp2_with fail
        go_roundw
        case rel=>exact⟨q+1,by omega,by go_num,by rw[HSN.out];go_num,by first|rfl|trivial⟩
        case measure=>simp[intOf];omega
      ·obtain rfl:q=N.mt.length:=by omega
       rw[List.take_length]at hcl⊢
       have hA2:=HALL.out
       generalize (N.mt.filter fun y=>decide (x.i≤y)).length=cn at hA2 hcl⊢
       by_cases hh:N.n<2 * cn
       ·have t4:decide ((N.n:Int)<2 * (cn:Int))=true:=by simp;omega
        rw[if_pos hh]at hA2
        have hMx:M=x.i:=by rw[←HA.out];exact hA2
        have HMX:=Lib.hid hMx
        clear hA2 hMx
        go_wp2_with fail
        first|go_end0|refine bodyPost_ret (results_none rfl _ _ _) rfl ?_
        refine⟨rfl,?_,hEW.chg_trans (chg_r K wz 11 _)⟩
        rw[HMX.out]
        exact hrW.set rfl rfl rfl rfl rfl rfl rfl
       ·have t4:decide ((N.n:Int)<2 * (cn:Int))=false:=by simp;omega
        rw[if_neg hh]at hA2
        have hMx:advGo N.s.term N.commit N.n N.mt (N.s.log.take j).reverse=M:=by rw[←HA.out];exact hA2.symm
        have HMX:=Lib.hid hMx
        clear hA2 hMx HA HALL HX
        go_wp2_with fail
        go_roundw
        case rel=>exact⟨j,by omega,by go_num,HMX,hEW⟩
        case measure=>simp[intOf] <;> omega
   ·have hMc:M=N.commit:=by rw[←HA.out,advGo_last N.s.term N.commit N.n N.mt N.s.log j HX.out,if_pos (.inl ht)]
    have HMC:=Lib.hid hMc
    have t1:(x.t != N.s.term)=true:=by simpa using ht
    clear hMc ht
    go_wp2_with fail
    go_region
    all_goals
     go_wp2_with fail
     first|go_end0|refine bodyPost_ret (results_none rfl _ _ _) rfl ?_
     refine⟨rfl,?_,(hE.alloc _).drew.chg⟩
     rw[HMC.out]
     exact h.ext (hE.alloc _).drew
end
end Go.Proofs.YtkkbfdencgdbhaaGreatDoor
namespace Go.Proofs.YtkkbfdencgdbhaaGreatDoor
open Go.RowKit Go.Sort
theorem en_size:(Tryz.prog.info? 49).map (·.size)=some 3:=by kernel_rfl
theorem q_row{B:Nat}{b:Bool}{v:Value}{w:World}{E:En}(h:NewAt B 49 #[.int .i64 E.i,.int .i64 E.t,.string E.c] (slB 1 1) b v w):Sln w v 3 ([E].map En.row):=by
 obtain⟨g,_,rfl,hA⟩:=h
 refine⟨_,1,rfl,fun _=>⟨g,0,rfl,fun i row hi j x hj=>?_⟩⟩
 have hi0:i=0:=by have:=(List.getElem?_eq_some_iff.1 hi).1;simp at this;omega
 subst hi0
 simp only[List.map_cons,List.map_nil,List.getElem?_cons_zero,Option.some.injEq]at hi
 subst hi
 have:=hA.cell j
 simp only[Nat.zero_mul,Nat.add_zero,Nat.zero_add]
 rw[this]
 simpa[En.row]using hj
def Nd.addE(N:Nd)(E:En):Nd := { N with s:=N.s.add E,mt:=N.mt.set N.id E.i,fs:=lgAdd N.fs [E] }
theorem add_addE(N:Nd)(c:ByteArray):N.add c=N.addE (N.nextE c):=rfl
section
variable{W:World}{K:Ka}{N:Nd}(h:NdAt W K N)(hN:NdOk N)
include h
theorem NdAt.disk{w':World}{F:Fs}(hC:Chg (fun k=>k=K.d∨k=K.m) W w')(hD:DkAt w' K.d K.m F.dk):NdAt w' K { N with fs:=F } := by
 have hd:K.r≠K.d:=fun hh=>(h.dk.1.ne h.nd (by decide)) hh.symm
 have hm:K.r≠K.m:=fun hh=>(h.dk.2.ne_at h.nd) hh.symm
 have q:∀ {e:TypeId} {size:Nat} {v:Value} {n:Nat} {xs:List Value},W.ownsRow 0 e size v n xs→e≠112→w'.ownsRow 0 e size v n xs:=fun ho he=>q_keep ho hC fun k hk hs=>by
  rcases hs with hs|hs
  ·rw[hs]at hk;exact q_apart ho h.dk.1 he hk
  ·rw[hs]at hk;exact q_map ho h.dk.2 hk
 exact⟨h.nd.chg hC (by rintro(e|e);exact hd e;exact hm e),hD,q h.lg (by decide),q h.vs (by decide),q h.ms (by decide),q h.ns (by decide),⟨q h.os.own (by decide),h.os.len,fun j m ev hm he=>q (h.os.es j m ev hm he) (by decide)⟩,h.mn,h.le⟩
theorem NdAt.logged{w':World}{v':Value}{E:En}(hx:At w' K.r 96 (ndCells { K with lv:=v' } N))(hO:w'.ownsRow 0 49 3 v' (N.s.log.length+1) (enRows N.s.log++E.row))(hC:Chg (fun k=>k=K.r∨some k=K.lv.ownBlock) W w')
 (hb:v'.ownBlock=K.lv.ownBlock∨∃k,v'.ownBlock=some k∧W.heap.size≤k):NdAt w' { K with lv:=v' } { N with s:=N.s.add E } := by
 have q:∀ {e:TypeId} {size:Nat} {v:Value} {n:Nat} {xs:List Value},W.ownsRow 0 e size v n xs→e≠96→(e≠49∨∀k,some k=v.ownBlock→some k≠K.lv.ownBlock)→w'.ownsRow 0 e size v n xs:=fun ho h1 h2=>q_keep ho hC fun k hk hs=>by
  rcases hs with hs|hs
  ·rw[hs]at hk;exact q_apart ho h.nd h1 hk
  ·rcases h2 with h2|h2
   ·exact q_apart2 ho h.lg h2 k hk hs
   ·exact h2 k hk hs
 have hdr:¬ (K.d=K.r∨some K.d=K.lv.ownBlock):=by
  rintro(e|e)
  ·exact h.dk.1.ne h.nd (by decide) e
  ·exact q_apart h.lg h.dk.1 (by decide) e
 have hmr:¬ (K.m=K.r∨some K.m=K.lv.ownBlock):=by
  rintro(e|e)
  ·exact h.dk.2.ne_at h.nd e
  ·exact q_map h.lg h.dk.2 e
 refine⟨hx,⟨h.dk.1.chg hC hdr,h.dk.2.chg hC hmr⟩,?_,q h.vs (by decide) (.inl (by decide)),q h.ms (by decide) (.inl (by decide)),q h.ns (by decide) (.inl (by decide)),⟨q h.os.own (by decide) (.inl (by decide)),h.os.len,fun j m ev hm he=>q (h.os.es j m ev hm he) (by decide) (.inr (h.le ev (List.mem_of_getElem? he)))⟩,h.mn,fun v hv k hk e=>?_⟩
 ·show w'.ownsRow 0 49 3 v' (N.s.log++[E]).length (enRows (N.s.log++[E]))
  rw[List.length_append]
  have:enRows (N.s.log++[E])=enRows N.s.log++E.row:=by simp[enRows]
  rw[this]
  exact hO
 ·have e':some k=v'.ownBlock:=e
  rcases hb with hb|⟨k',hb,hk'⟩
  ·exact h.le v hv k hk (e'.trans hb)
  ·rw[hb]at e'
   have:=h.os.lt v hv k hk
   cases e'
   omega
theorem NdAt.setmt{g cap:Nat}(hmv:K.mv=.slice (some ⟨g,0,none⟩) N.mt.length cap){j:Nat}(hj:j<N.mt.length)(x:Int):NdAt (W.setCell ⟨g,j,none⟩ (.int .i64 x)) K { N with mt:=N.mt.set j x } := by
 have hc:Chg (fun k=>k=g) W (W.setCell ⟨g,j,none⟩ (.int .i64 x)):=(Chg.refl (fun k=>k=g) W).setCell (p:=⟨g,j,none⟩) (.inl rfl) _
 have hg:some g=K.mv.ownBlock:=by rw[hmv];rfl
 have q:∀ {e:TypeId} {size:Nat} {v:Value} {n:Nat} {xs:List Value},W.ownsRow 0 e size v n xs→(e≠3∨some g≠v.ownBlock)→(W.setCell ⟨g,j,none⟩ (.int .i64 x)).ownsRow 0 e size v n xs:=fun ho h1=>q_keep ho hc fun k hk hs=>by
  have hs':k=g:=hs
  subst hs'
  rcases h1 with h1|h1
  ·exact q_apart2 ho h.ms h1 k hk hg
  ·exact h1 hk
 have hr:K.r≠g:=fun e=>q_apart h.ms h.nd (by decide) (by rw[e];exact hg)
 have hd:K.d≠g:=fun e=>q_apart h.ms h.dk.1 (by decide) (by rw[e];exact hg)
 have hm:K.m≠g:=fun e=>q_map h.ms h.dk.2 (by rw[e];exact hg)
 refine⟨h.nd.chg hc hr,⟨h.dk.1.chg hc hd,h.dk.2.chg hc hm⟩,q h.lg (.inl (by decide)),q h.vs (.inl (by decide)),?_,q h.ns (.inr (h.mn g hg)),⟨q h.os.own (.inl (by decide)),h.os.len,fun i m ev hm he=>q (h.os.es i m ev hm he) (.inl (by decide))⟩,h.mn,h.le⟩
 have hms:=h.ms
 rw[hmv]at hms⊢
 have:=own_set hms (j:=j) (by omega) (.int .i64 x)
 show(W.setCell ⟨g,j,none⟩ (.int .i64 x)).ownsRow 0 3 1 _ (N.mt.set j x).length ((N.mt.set j x).map (Value.int .i64))
 rw[List.length_set,List.map_set]
 exact this
include hN
set_option maxRecDepth 100000 in
set_option maxHeartbeats 2000000 in
theorem appendE_any(E:En)(hEi:E.i=N.s.last.1+1)(hEt:E.t=N.s.term)(hEc:E.c.size≤100000)(hlast:0≤N.s.last.1∧N.s.last.1<1099511627776)(hlen:N.s.log.length<1000)(hid:N.id<N.mt.length)(hroom:N.fs.tot+osz N.fs.lg+(enFs [E]).length≤4194304)
 (hT:Tab W) (hTK:¬ K.has 0) (hl:∀K1:Ka,K1.r=K.r→LackOk K1 (N.addE E)) (hok:NdOk (N.addE E).sendAll) :
 Calls Tryz.prog 83 #[.pointer (some ⟨K.r,0,none⟩),.string E.c] W fun e w'=>e=.returned (.int .i64 E.i)∧NdTo K W w' (N.addE E).sendAll.advance:=by
 have HEI:=Lib.hid hEi
 have HET:=Lib.hid hEt
 have hE1b:∀x∈[E],(0≤x.i∧x.i≤1099511627776)∧(0≤x.t∧x.t≤1099511627776)∧x.c.size≤1000000:=fun x hx=>by
  rw[List.mem_singleton.1 hx]
  have:=hN.ts.term
  exact⟨by omega,by rw[hEt];exact this,by omega⟩
 have HL:=Lib.hid hl
 have HOK:=Lib.hid hok
 have HE1B:=Lib.hid hE1b
 clear hEi hEt hl hok hE1b
 go_enter Tryz.func83,Tryz.ntmps83
 go_wp2_with fail
 have hST:GQ.St (fun k=>W.heap.size≤k) (fun _ _=>True) [⟨10,0,fun b v w=>∃g,W.heap.size≤g∧v=ptB g∧At w g 49 (if b=true then #[.int .i64 E.i,.int .i64 E.t,.string E.c]else #[.int .i64 0,.int .i64 0,.string ⟨#[]⟩])⟩]:=⟨fun _ _ _ h _=>h,by
  intro gx hx
  rcases List.mem_cons.1 hx with rfl|hx
  ·exact fun b v w w' h hE=>by obtain⟨g,a,b,c⟩:=h;exact⟨g,a,b,c.ext hE⟩
  cases hx⟩
 refine wp_region_phi (Γ := Nat→Value) (sgφ [.val (.pointer (some ⟨K.r,0,none⟩)),.val (.int .i64 N.s.last.1),.val (.int .i64 E.i),.val (.pointer (some ⟨K.r,0,none⟩)),.val (.pointer (some ⟨K.r,0,none⟩)),.val (.pointer (some ⟨K.r,3,none⟩)),.val (.pointer (some ⟨K.r,3,none⟩)),.val (.int .i64 E.t),.val (.string E.c),.val (.agg #[.int .i64 E.i,.int .i64 E.t,.string E.c]),.g 0,.any])
  (GQ W (fun k=>W.heap.size≤k) 11 (fun _ _=>True) [⟨10,0,fun b v w=>∃g,W.heap.size≤g∧v=ptB g∧At w g 49 (if b=true then #[.int .i64 E.i,.int .i64 E.t,.string E.c]else #[.int .i64 0,.int .i64 0,.string ⟨#[]⟩])⟩])
  (by kernel_rfl) (by kernel_rfl) (by kernel_rfl) (fun _=>undef) (GQ.start _ _ _ _ _ _ (trivial)) ?steps ?fin
 case steps =>
  show StepsTo _ _ _ _ _ _ 12
  refine⟨⟨⟨⟨⟨⟨⟨⟨⟨⟨⟨⟨trivial,?s0⟩,?s1⟩,?s2⟩,?s3⟩,?s4⟩,?s5⟩,?s6⟩,?s7⟩,?s8⟩,?s9⟩,?s10⟩,?s11⟩
  case s0 =>
   refine sg_val (x:=.pointer (some ⟨K.r,0,none⟩)) rfl rfl rfl (GQ.keep (j:=0) (by decide) rfl) fun γ L v a w st=>?_
   have f0:=st.far 0 (by kernel_rfl)
   simp at f0
   go_simp
  case s1 =>
   refine sg_callv' (x:=.int .i64 N.s.last.1) (f:=129) rfl rfl rfl fun γ L v a w st=>?_
   have e0:=st.val 0 6 rfl (by kernel_rfl)
   rw[(st.φ 0 (by kernel_rfl):v 0=_)]at e0
   simp at e0
   have hcl:=nlast_any (h.chg (st.inv.chg) (fun k hk hK=>by have:=h.has_lt k hK;omega)) hN
   refine⟨#[.pointer (some ⟨K.r,0,none⟩)],by go_simp,?_⟩
   refine Calls.mono (hcl) ?_
   rintro e w' ⟨rfl,hE⟩
   exact⟨rfl,st.inv.call hST hE (by decide) rfl st.off⟩
  case s2 =>
   refine sg_val (x:=.int .i64 E.i) rfl rfl rfl (GQ.keep (j:=2) (by decide) rfl) fun γ L v a w st=>?_
   have e1:=st.val 1 7 rfl (by kernel_rfl)
   rw[(st.φ 1 (by kernel_rfl):v 1=_)]at e1
   simp at e1
   rw[HEI.out]
   go_simp
   exact IntWalk.i64_in _ (by omega)
  case s3 =>
   refine sg_val (x:=.pointer (some ⟨K.r,0,none⟩)) rfl rfl rfl (GQ.keep (j:=3) (by decide) rfl) fun γ L v a w st=>?_
   have f0:=st.far 0 (by kernel_rfl)
   simp at f0
   go_simp
  case s4 =>
   refine sg_val (x:=.pointer (some ⟨K.r,0,none⟩)) rfl rfl rfl (GQ.keep (j:=4) (by decide) rfl) fun γ L v a w st=>?_
   have e3:=st.val 3 9 rfl (by kernel_rfl)
   rw[(st.φ 3 (by kernel_rfl):v 3=_)]at e3
   simp at e3
   go_simp
  case s5 =>
   refine sg_val (x:=.pointer (some ⟨K.r,3,none⟩)) rfl rfl rfl (GQ.keep (j:=5) (by decide) rfl) fun γ L v a w st=>?_
   have e4:=st.val 4 10 rfl (by kernel_rfl)
   rw[(st.φ 4 (by kernel_rfl):v 4=_)]at e4
   simp at e4
   go_simp
  case s6 =>
   refine sg_val (x:=.pointer (some ⟨K.r,3,none⟩)) rfl rfl rfl (GQ.keep (j:=6) (by decide) rfl) fun γ L v a w st=>?_
   have e5:=st.val 5 11 rfl (by kernel_rfl)
   rw[(st.φ 5 (by kernel_rfl):v 5=_)]at e5
   simp at e5
   go_simp
  case s7 =>
   refine sg_val (x:=.int .i64 E.t) rfl rfl rfl (GQ.keep (j:=7) (by decide) rfl) fun γ L v a w st=>?_
   have e6:=st.val 6 12 rfl (by kernel_rfl)
   rw[(st.φ 6 (by kernel_rfl):v 6=_)]at e6
   simp at e6
   have hcl:=(h.chg (st.inv.chg) (fun k hk hK=>by have:=h.has_lt k hK;omega)).nd.cell 3
   simp[ndCells]at hcl
   rw[HET.out]
   go_simp
  case s8 =>
   refine sg_val (x:=.string E.c) rfl rfl rfl (GQ.keep (j:=8) (by decide) rfl) fun γ L v a w st=>?_
   have f1:=st.far 1 (by kernel_rfl)
   simp at f1
   go_simp
  case s9 =>
   refine sg_val (x:=.agg #[.int .i64 E.i,.int .i64 E.t,.string E.c]) rfl rfl rfl (GQ.keep (j:=9) (by decide) rfl) fun γ L v a w st=>?_
   have e2:=st.val 2 8 rfl (by kernel_rfl)
   rw[(st.φ 2 (by kernel_rfl):v 2=_)]at e2
   simp at e2
   have e7:=st.val 7 13 rfl (by kernel_rfl)
   rw[(st.φ 7 (by kernel_rfl):v 7=_)]at e7
   simp at e7
   have e8:=st.val 8 14 rfl (by kernel_rfl)
   rw[(st.φ 8 (by kernel_rfl):v 8=_)]at e8
   simp at e8
   go_simp
  case s10 =>
   refine sg_new (k:=0) rfl rfl rfl (by kernel_rfl) fun γ L v a w st=>?_
   have h14:L 11=false:=GAO.js_off (r:=[11]) st.down st.off (by kernel_rfl) (by simp)
   refine⟨.pointer (some ⟨w.heap.size,0,none⟩),w.alloc (.cells #[.int .i64 0,.int .i64 0,.string ⟨#[]⟩] 49),by go_simp,st.inv.new hST ((Ext.refl w).alloc _) (by decide) rfl ?_⟩
   intro gx hx hxj
   rcases List.mem_cons.1 hx with rfl|hx
   ·rw[h14];exact⟨rfl,w.heap.size,st.inv.chg.size,rfl,At.new w _ _⟩
   cases hx
  case s11 =>
   refine sg_skip rfl rfl rfl fun γ L v a w st=>?_
   have e10:=st.val 10 5 rfl (by kernel_rfl)
   rw[(st.φ 10 (by kernel_rfl):v 10=_)]at e10
   have hg10:=st.inv.gh ⟨10,0,fun b v w=>∃g,W.heap.size≤g∧v=ptB g∧At w g 49 (if b=true then #[.int .i64 E.i,.int .i64 E.t,.string E.c]else #[.int .i64 0,.int .i64 0,.string ⟨#[]⟩])⟩ (by simp) (st.dep 10 (by kernel_rfl))
   have e9:=st.val 9 15 rfl (by kernel_rfl)
   rw[(st.φ 9 (by kernel_rfl):v 9=_)]at e9
   simp at e9
   obtain⟨g,hgb,hgv,hgA⟩:=hg10
   rw[st.off]at hgA
   simp only[Bool.false_eq_true,if_false]at hgA
   rw[hgv]at e10
   refine⟨w.setCells g 0 [.int .i64 E.i,.int .i64 E.t,.string E.c],exec_store_mid (x:=.tmp 5) (y:=.tmp 15) (cells:=#[.int .i64 E.i,.int .i64 E.t,.string E.c]) rfl (show a.eval (.tmp 5)=_ by simpa[Act.eval,ptB]using e10) (show a.eval (.tmp 15)=_ by simpa[Act.eval]using e9) hgA.there en_size (by simp[Value.oneCell']),st.inv.write (Chg.setCells ((Chg.refl (fun k=>W.heap.size≤k) w)) hgb _ _) trivial (by intro x hx hn hl;rcases List.mem_cons.1 hx with rfl|hx;exact⟨g,hgb,hgv,by simp only[if_true];exact At.cells_all (cs:=#[.int .i64 E.i,.int .i64 E.t,.string E.c]) hgA rfl⟩;cases hx) rfl⟩
 case fin =>
  intro γ L v wr hall hG hφ
  have h10:v 10 = γ 0:=hφ 10 (by decide)
  obtain⟨x,hgb,hgv,hgA⟩:=hG.gh ⟨10,0,fun b v w=>∃g,W.heap.size≤g∧v=ptB g∧At w g 49 (if b=true then #[.int .i64 E.i,.int .i64 E.t,.string E.c]else #[.int .i64 0,.int .i64 0,.string ⟨#[]⟩])⟩ (by simp) (hall 10 (by decide))
  rw[hall 11 (by decide)]at hgA
  simp only[if_true]at hgA
  have hE1:Ext W wr:=hG.chg.mono (fun k hk e=>by omega)
  clear hall hφ hG
  change Exit.then _ _ _ (putAll _ v _ 12) wr
  simp only[putAll,dstOf,Act.put]
  simp only[List.getElem?_toArray,List.getElem?_cons_zero,List.getElem?_cons_succ,Option.bind_some,List.setIfInBounds_toArray,List.set_cons_zero,List.set_cons_succ]
  rw[h10]
  clear h10
  rw[hgv]
  have h1:NdAt wr K N:=h.ext hE1
  have hxK:¬ K.has x:=fun hK=>by have:=h.has_lt x hK;omega
  have hX:At wr x 49 #[.int .i64 E.i,.int .i64 E.t,.string E.c]:=hgA
  have hT1:Tab wr:=hT.ext hE1
  have HE1:=Lib.hid hE1
  clear hgA hE1 hT h
  unfold ptB
  clear hST
  generalize v 0=z0
  generalize v 1=z1
  generalize v 2=z2
  generalize v 3=z3
  generalize v 4=z4
  generalize v 5=z5
  generalize v 6=z6
  generalize v 7=z7
  generalize v 8=z8
  generalize v 9=z9
  clear v hgv L γ
  rename World=>W1
  have h:=h1
  have hT:=hT1
  clear h1 hT1
  have hE1b:=HE1B.out
  have hrd:¬ (K.r=K.d∨K.r=K.m):=by
   rintro(e|e)
   ·exact(h.dk.1.ne h.nd (by decide)) e.symm
   ·exact(h.dk.2.ne_at h.nd) e.symm
  have hxd:¬ (x=K.d∨x=K.m):=by
   rintro(e|e)
   ·exact hxK (.inr (.inl e))
   ·exact hxK (.inr (.inr (.inl e)))
  have hTd:¬ (0=K.d∨0=K.m):=by
   rintro(e|e)
   ·exact hTK (.inr (.inl e))
   ·exact hTK (.inr (.inr (.inl e)))
  have hrow:=fun {b:Bool} {v:Value} {w:World} (hq:NewAt W1.heap.size 49 #[.int .i64 E.i,.int .i64 E.t,.string E.c] (slB 1 1) b v w)=>q_row hq
  go_wp2_with fail
  have hST:GQ.St (fun k=>k=K.d∨k=K.m) (fun b w=>DkAt w K.d K.m (if b=true then lgAdd N.fs [E]else N.fs).dk) [⟨6,0,NewAt W1.heap.size 49 #[.int .i64 E.i,.int .i64 E.t,.string E.c] (slB 1 1)⟩]:=⟨fun b w w' h hE=>h.ext hE,by
   intro gx hx
   rcases List.mem_cons.1 hx with rfl|hx
   ·exact fun b _ _ _ h hE=>NewAt.ext (b:=b) h hE
   cases hx⟩
  refine wp_region_phi (Γ := Nat→Value) (sgφ [.val (.pointer (some ⟨K.r,0,none⟩)),.val (.pointer (some ⟨K.r,0,none⟩)),.val (.pointer (some ⟨K.r,0,none⟩)),.val (.pointer (some ⟨K.r,0,none⟩)),.val (.pointer (some ⟨K.d,0,none⟩)),.val (.agg #[.int .i64 E.i,.int .i64 E.t,.string E.c]),.g 0,.val (.int .i64 0),.val (.bool true),.val (.bool false)])
   (GQ W1 (fun k=>k=K.d∨k=K.m) 7 (fun b w=>DkAt w K.d K.m (if b=true then lgAdd N.fs [E]else N.fs).dk) [⟨6,0,NewAt W1.heap.size 49 #[.int .i64 E.i,.int .i64 E.t,.string E.c] (slB 1 1)⟩])
   (by kernel_rfl) (by kernel_rfl) (by kernel_rfl) (fun _=>undef) (GQ.start _ _ _ _ _ _ (h.dk.ext ((Ext.refl W1).drew))) ?steps ?fin
  case steps =>
   show StepsTo _ _ _ _ _ _ 10
   refine⟨⟨⟨⟨⟨⟨⟨⟨⟨⟨trivial,?s0⟩,?s1⟩,?s2⟩,?s3⟩,?s4⟩,?s5⟩,?s6⟩,?s7⟩,?s8⟩,?s9⟩
   case s0 =>
    refine sg_val (x:=.pointer (some ⟨K.r,0,none⟩)) rfl rfl rfl (GQ.keep (j:=0) (by decide) rfl) fun γ L v a w st=>?_
    have f0:=st.far 0 (by kernel_rfl)
    simp at f0
    go_simp
   case s1 =>
    refine sg_val (x:=.pointer (some ⟨K.r,0,none⟩)) rfl rfl rfl (GQ.keep (j:=1) (by decide) rfl) fun γ L v a w st=>?_
    have f0:=st.far 0 (by kernel_rfl)
    simp at f0
    go_simp
   case s2 =>
    refine sg_val (x:=.pointer (some ⟨K.r,0,none⟩)) rfl rfl rfl (GQ.keep (j:=2) (by decide) rfl) fun γ L v a w st=>?_
    have e1:=st.val 1 17 rfl (by kernel_rfl)
    rw[(st.φ 1 (by kernel_rfl):v 1=_)]at e1
    simp at e1
    go_simp
   case s3 =>
    refine sg_val (x:=.pointer (some ⟨K.r,0,none⟩)) rfl rfl rfl (GQ.keep (j:=3) (by decide) rfl) fun γ L v a w st=>?_
    have e2:=st.val 2 18 rfl (by kernel_rfl)
    rw[(st.φ 2 (by kernel_rfl):v 2=_)]at e2
    simp at e2
    go_simp
   case s4 =>
    refine sg_val (x:=.pointer (some ⟨K.d,0,none⟩)) rfl rfl rfl (GQ.keep (j:=4) (by decide) rfl) fun γ L v a w st=>?_
    have e3:=st.val 3 19 rfl (by kernel_rfl)
    rw[(st.φ 3 (by kernel_rfl):v 3=_)]at e3
    simp at e3
    have hcl:=(h.nd.chg st.inv.chg hrd).cell 0
    simp[ndCells]at hcl
    go_simp
   case s5 =>
    refine sg_val (x:=.agg #[.int .i64 E.i,.int .i64 E.t,.string E.c]) rfl rfl rfl (GQ.keep (j:=5) (by decide) rfl) fun γ L v a w st=>?_
    have f5:=st.far 5 (by kernel_rfl)
    simp at f5
    exact exec_load_mid rfl (b:=x) (off:=0) (by simp[Act.eval,f5]) (hX.chg st.inv.chg hxd).range Tryz.underlying49 rfl en_size
   case s6 =>
    refine sg_new (k:=0) rfl rfl rfl (by kernel_rfl) fun γ L v a w st=>?_
    have e5:=st.val 5 21 rfl (by kernel_rfl)
    rw[(st.φ 5 (by kernel_rfl):v 5=_)]at e5
    simp at e5
    refine⟨.slice (some ⟨w.heap.size,0,none⟩) 1 1,w.alloc (.cells #[.int .i64 E.i,.int .i64 E.t,.string E.c] 49),by go_simp,st.inv.new hST ((Ext.refl w).alloc _) (by decide) rfl ?_⟩
    intro gx hx hxj
    rcases List.mem_cons.1 hx with rfl|hx
    ·exact⟨rfl,w.heap.size,st.inv.chg.size,rfl,At.new w _ _⟩
    cases hx
   case s7 =>
    refine sg_callv' (x:=.int .i64 0) (f:=131) rfl rfl rfl fun γ L v a w st=>?_
    have e4:=st.val 4 20 rfl (by kernel_rfl)
    rw[(st.φ 4 (by kernel_rfl):v 4=_)]at e4
    simp at e4
    have e6:=st.val 6 22 rfl (by kernel_rfl)
    rw[(st.φ 6 (by kernel_rfl):v 6=_)]at e6
    have hg6:=st.inv.gh ⟨6,0,NewAt W1.heap.size 49 #[.int .i64 E.i,.int .i64 E.t,.string E.c] (slB 1 1)⟩ (by simp) (st.dep 6 (by kernel_rfl))
    have hpw:=st.inv.pw
    rw[st.off]at hpw
    simp only[Bool.false_eq_true,if_false]at hpw
    have hsl:Sln w (γ 0) 3 ([E].map En.row):=hrow (b:=true) hg6
    refine⟨#[.pointer (some ⟨K.d,0,none⟩), γ 0],by go_simp,?_⟩
    refine Calls.mono (tappend_any w K.d K.m N.fs hpw (γ 0) [E] hsl (by simp) hE1b (hT.chg st.inv.chg hTd) hroom) ?_
    rintro e w' ⟨rfl,hC,hd'⟩
    exact⟨rfl,st.inv.write hC (by simp only[if_true];exact hd') (by intro x hx hn hl;rcases List.mem_cons.1 hx with rfl|hx;exact NewAt.chg (b:=true) (b':=true) hg6 hC (by have:=h.has_lt;rintro k (rfl|rfl);exact this _ (.inr (.inl rfl));exact this _ (.inr (.inr (.inl rfl))));cases hx) rfl⟩
   case s8 =>
    refine sg_callv' (x:=.bool true) (f:=130) rfl rfl rfl fun γ L v a w st=>?_
    have e0:=st.val 0 16 rfl (by kernel_rfl)
    rw[(st.φ 0 (by kernel_rfl):v 0=_)]at e0
    simp at e0
    have e7:=st.val 7 23 rfl (by kernel_rfl)
    rw[(st.φ 7 (by kernel_rfl):v 7=_)]at e7
    simp at e7
    refine⟨#[.pointer (some ⟨K.r,0,none⟩),.int .i64 0],by go_simp,?_⟩
    refine Calls.mono (stored_any w K.r) ?_
    rintro e w' ⟨rfl,rfl⟩
    have hE:=Ext.refl w'
    exact⟨rfl,st.inv.call hST hE (by decide) rfl st.off⟩
   case s9 =>
    refine sg_val (x:=.bool false) rfl rfl rfl (GQ.keep (j:=9) (by decide) rfl) fun γ L v a w st=>?_
    have e8:=st.val 8 24 rfl (by kernel_rfl)
    rw[(st.φ 8 (by kernel_rfl):v 8=_)]at e8
    simp at e8
    go_simp
  case fin =>
   intro γ L v wr hall hG hφ
   have h9:v 9=(.bool false):=hφ 9 (by decide)
   have hD2:=hG.pw
   rw[hall 7 (by decide)]at hD2
   simp only[if_true]at hD2
   have hC2:=hG.chg
   clear hall hφ hG
   change Exit.then _ _ _ (putAll _ v _ 10) wr
   simp only[putAll,dstOf,Act.put]
   simp only[List.getElem?_toArray,List.getElem?_cons_zero,List.getElem?_cons_succ,Option.bind_some,List.setIfInBounds_toArray,List.set_cons_zero,List.set_cons_succ]
   rw[h9]
   clear h9
   have h3:NdAt wr K { N with fs:=lgAdd N.fs [E] } := h.disk hC2 hD2
   have hX3:=hX.chg hC2 hxd
   have hC3:Chg K.has W1 wr:=hC2.mono (fun k hk e=>e.elim (fun e=>.inr (.inl e)) (fun e=>.inr (.inr (.inl e))))
   unfold Fs.dk at hD2
   clear hST hC2 hD2 hX hrow hrd hxd hTd
   have hlvx:some x≠K.lv.ownBlock:=fun e=>hxK (.inr (.inr (.inr (.inl e))))
   have hT3:Tab wr:=hT.chg hC3 hTK
   have HC3:=Lib.hid hC3
   clear hC3 hT h
   generalize v 0=y0
   generalize v 1=y1
   generalize v 2=y2
   generalize v 3=y3
   generalize v 4=y4
   generalize v 5=y5
   generalize v 6=y6
   generalize v 7=y7
   generalize v 8=y8
   clear v L γ
   rename World=>W3
   have h:=h3
   have hX:=hX3
   have hxo:=hlvx
   clear h3 hX3 hlvx
   go_wp2_with fail
   refine wp_region_phi (Γ := Nat→Value) (sgφ [.val (.pointer (some ⟨K.r,0,none⟩)),.val (.pointer (some ⟨K.r,0,none⟩)),.val (.pointer (some ⟨K.r,0,none⟩)),.val (.pointer (some ⟨K.r,3,none⟩)),.val (.pointer (some ⟨K.r,8,none⟩)),.val (K.lv),.val (.agg #[.int .i64 E.i,.int .i64 E.t,.string E.c]),.g 0,.g 1,.val (.pointer (some ⟨K.r,0,none⟩)),.val (.pointer (some ⟨K.r,3,none⟩)),.val (.pointer (some ⟨K.r,8,none⟩)),.any])
    (GAO W3 K.r 96 49 (fun v=>ndCells { K with lv:=v } N) K.lv 3 N.s.log.length (enRows N.s.log) [.int .i64 E.i,.int .i64 E.t,.string E.c] (fun w=>At w x 49 #[.int .i64 E.i,.int .i64 E.t,.string E.c]) 7 8 12)
    (by kernel_rfl) (by kernel_rfl) (by kernel_rfl) (fun _=>undef) (GAO.start h.nd h.lg hX.drew _) ?steps ?fin
   case steps =>
    show StepsTo _ _ _ _ _ _ 13
    refine⟨⟨⟨⟨⟨⟨⟨⟨⟨⟨⟨⟨⟨trivial,?s0⟩,?s1⟩,?s2⟩,?s3⟩,?s4⟩,?s5⟩,?s6⟩,?s7⟩,?s8⟩,?s9⟩,?s10⟩,?s11⟩,?s12⟩
    case s0 =>
     refine sg_val (x:=.pointer (some ⟨K.r,0,none⟩)) rfl rfl rfl (GAO.keep (by decide) (by decide) (by decide)) fun γ L v a w st=>?_
     have f0:=st.far 0 (by kernel_rfl)
     simp at f0
     go_simp
    case s1 =>
     refine sg_val (x:=.pointer (some ⟨K.r,0,none⟩)) rfl rfl rfl (GAO.keep (by decide) (by decide) (by decide)) fun γ L v a w st=>?_
     have f0:=st.far 0 (by kernel_rfl)
     simp at f0
     go_simp
    case s2 =>
     refine sg_val (x:=.pointer (some ⟨K.r,0,none⟩)) rfl rfl rfl (GAO.keep (by decide) (by decide) (by decide)) fun γ L v a w st=>?_
     have e1:=st.val 1 27 rfl (by kernel_rfl)
     rw[(st.φ 1 (by kernel_rfl):v 1=_)]at e1
     simp at e1
     go_simp
    case s3 =>
     refine sg_val (x:=.pointer (some ⟨K.r,3,none⟩)) rfl rfl rfl (GAO.keep (by decide) (by decide) (by decide)) fun γ L v a w st=>?_
     have e2:=st.val 2 28 rfl (by kernel_rfl)
     rw[(st.φ 2 (by kernel_rfl):v 2=_)]at e2
     simp at e2
     go_simp
    case s4 =>
     refine sg_val (x:=.pointer (some ⟨K.r,8,none⟩)) rfl rfl rfl (GAO.keep (by decide) (by decide) (by decide)) fun γ L v a w st=>?_
     have e3:=st.val 3 29 rfl (by kernel_rfl)
     rw[(st.φ 3 (by kernel_rfl):v 3=_)]at e3
     simp at e3
     go_simp
    case s5 =>
     refine sg_val (x:=K.lv) rfl rfl rfl (GAO.keep (by decide) (by decide) (by decide)) fun γ L v a w st=>?_
     have e4:=st.val 4 30 rfl (by kernel_rfl)
     rw[(st.φ 4 (by kernel_rfl):v 4=_)]at e4
     simp at e4
     have hjs:L 12=false:=GAO.js_off (r:=[8,12]) st.down st.off (by kernel_rfl) (by simp)
     have hat:=st.inv.at_
     rw[hjs]at hat
     have hcl:=hat.cell 8
     simp[ndCells]at hcl
     go_simp
    case s6 =>
     refine sg_val (x:=.agg #[.int .i64 E.i,.int .i64 E.t,.string E.c]) rfl rfl rfl (GAO.keep (by decide) (by decide) (by decide)) fun γ L v a w st=>?_
     have f5:=st.far 5 (by kernel_rfl)
     simp at f5
     exact exec_load_mid rfl (b:=x) (off:=0) (by simp[Act.eval,f5]) st.inv.kp.range Tryz.underlying49 rfl en_size
    case s7 =>
     refine sg_new (k:=0) rfl rfl rfl (by kernel_rfl) fun γ L v a w st=>?_
     have e6:=st.val 6 32 rfl (by kernel_rfl)
     rw[(st.φ 6 (by kernel_rfl):v 6=_)]at e6
     simp at e6
     have hja:L 8=false:=GAO.js_off (r:=[8,12]) st.down st.off (by kernel_rfl) (by simp)
     have hjs:L 12=false:=GAO.js_off (r:=[8,12]) st.down st.off (by kernel_rfl) (by simp)
     exact⟨.slice (some ⟨w.heap.size,0,none⟩) 1 1,w.alloc (.cells #[.int .i64 E.i,.int .i64 E.t,.string E.c] 49),by go_simp,st.inv.made (fun w w' h hE=>h.ext hE) hja hjs (by decide) (by decide)⟩
    case s8 =>
     refine sg_new (k:=1) rfl rfl rfl (by kernel_rfl) fun γ L v a w st=>?_
     have e5:=st.val 5 31 rfl (by kernel_rfl)
     rw[(st.φ 5 (by kernel_rfl):v 5=_)]at e5
     simp at e5
     have e7:=st.val 7 33 rfl (by kernel_rfl)
     rw[(st.φ 7 (by kernel_rfl):v 7=_)]at e7
     simp at e7
     have hjs:L 12=false:=GAO.js_off (r:=[12]) st.down st.off (by kernel_rfl) (by simp)
     exact st.inv.appended (by decide) (fun w w' h hO hC=>h.chg hC hxo) (st.dep 7 (by kernel_rfl)) st.off hjs (by decide) 43 Tryz.underlying43 en_info rfl (by decide) (by decide) (by omega) rfl (by simp[Value.oneCell']) (.tmp 31) (.tmp 33) rfl (by simp[Act.eval,e5]) (by simp[Act.eval,e7])
    case s9 =>
     refine sg_val (x:=.pointer (some ⟨K.r,0,none⟩)) rfl rfl rfl (GAO.keep (by decide) (by decide) (by decide)) fun γ L v a w st=>?_
     have e0:=st.val 0 26 rfl (by kernel_rfl)
     rw[(st.φ 0 (by kernel_rfl):v 0=_)]at e0
     simp at e0
     go_simp
    case s10 =>
     refine sg_val (x:=.pointer (some ⟨K.r,3,none⟩)) rfl rfl rfl (GAO.keep (by decide) (by decide) (by decide)) fun γ L v a w st=>?_
     have e9:=st.val 9 35 rfl (by kernel_rfl)
     rw[(st.φ 9 (by kernel_rfl):v 9=_)]at e9
     simp at e9
     go_simp
    case s11 =>
     refine sg_val (x:=.pointer (some ⟨K.r,8,none⟩)) rfl rfl rfl (GAO.keep (by decide) (by decide) (by decide)) fun γ L v a w st=>?_
     have e10:=st.val 10 36 rfl (by kernel_rfl)
     rw[(st.φ 10 (by kernel_rfl):v 10=_)]at e10
     simp at e10
     go_simp
    case s12 =>
     refine sg_skip rfl rfl rfl fun γ L v a w st=>?_
     have e11:=st.val 11 37 rfl (by kernel_rfl)
     rw[(st.φ 11 (by kernel_rfl):v 11=_)]at e11
     simp at e11
     have e8:=st.val 8 34 rfl (by kernel_rfl)
     rw[(st.φ 8 (by kernel_rfl):v 8=_)]at e8
     simp at e8
     have hja:=st.dep 8 (by kernel_rfl)
     have hat:=st.inv.at_
     rw[st.off]at hat
     have f0:=hat.frozen 8
     have c0:=hat.cell 8
     simp[ndCells]at c0
     have hlt:=hat.lt
     have hown:=st.inv.own
     rw[hja]at hown
     simp only[if_true]at hown
     obtain⟨oA,oc,hov,_⟩:=q_slc hown
     rw[hov]at e8
     obtain⟨oB,od,hov2,_⟩:=q_slc h.lg
     rw[hov2]at c0
     refine⟨w.setCell ⟨K.r,8,none⟩ (γ 1),by rw[hov];go_simp,st.inv.stored (by decide) (fun w w' h hC hx=>h.chg hC (by obtain⟨cs,hx⟩:=hx;exact h.ne hx (by decide))) hja st.off (by decide) rfl⟩
   case fin =>
    intro γ Lx v wr hall hG hφ
    have hx5:=hG.at_
    have hO5:=hG.own
    have hN5:=hG.nb (hall 8 (by decide))
    rw[hall 12 (by decide)]at hx5
    rw[hall 8 (by decide)]at hO5
    simp only[if_true]at hx5 hO5
    have hC5:=hG.chg
    have hK5:=hG.kp
    clear hall hφ hG
    change Exit.then _ _ _ (putAll _ v _ 13) wr
    simp only[putAll,dstOf,Act.put]
    simp only[List.getElem?_toArray,List.getElem?_cons_zero,List.getElem?_cons_succ,Option.bind_some,List.setIfInBounds_toArray,List.set_cons_zero,List.set_cons_succ]
    have h5:NdAt wr { K with lv := γ 1 } { N with s:=N.s.add E,fs:=lgAdd N.fs [E] } := h.logged (E:=E) hx5 hO5 hC5 hN5
    obtain⟨g,cc,hmv,hcap,hgl,hfz,hcells⟩:=q_some h5.ms (Nat.lt_of_le_of_lt (Nat.zero_le _) hid)
    have hmv':K.mv=.slice (some ⟨g,0,none⟩) N.mt.length cc:=hmv
    have d1:=h5.nd.cell 1
    have d15:=h5.nd.cell 15
    simp[ndCells]at d1 d15
    rw[hmv']at d15
    obtain⟨y,hy⟩:∃y,N.mt[N.id]? = some y:=⟨_,List.getElem?_eq_getElem hid⟩
    have m0:wr.cell? ⟨g,N.id,none⟩=some (.int .i64 y):=by
     rw[hcells (by decide) N.id (by show N.id<N.mt.length * 1;omega)]
     show(N.mt.map (Value.int .i64))[N.id]? = _
     rw[List.getElem?_map,hy];rfl
    have hfz0:=hfz N.id
    have k0:=hK5.cell 0
    simp at k0
    have h6:NdAt (wr.setCell ⟨g,N.id,none⟩ (.int .i64 E.i)).drew { K with lv := γ 1 } (N.addE E):=(h5.setmt hmv hid E.i).ext ((Ext.refl _).drew)
    have hgK:K.has g:=.inr (.inr (.inr (.inr (.inr (.inl (by rw[hmv'];rfl))))))
    have hC6:Chg (fun k=>K.has k∨some k=K.lv.ownBlock) W3 (wr.setCell ⟨g,N.id,none⟩ (.int .i64 E.i)).drew:=(((hC5.mono (fun k hk e=>e.elim (fun e=>.inl (.inl e)) .inr))).setCell (p:=⟨g,N.id,none⟩) (.inl (.inl hgK)) _).drew
    have hxg:x≠g:=by
     rintro rfl
     exact hxK hgK
    have hK6:=(hK5.far (p:=⟨g,N.id,none⟩) hxg (.int .i64 E.i)).drew
    clear hx5 hO5 hC5 h5 hmv hcap hcells hfz hy
    unfold Nd.addE at h6
    generalize v 0=t0
    generalize v 1=t1
    generalize v 2=t2
    generalize v 3=t3
    generalize v 4=t4
    generalize v 5=t5
    generalize v 6=t6
    generalize v 7=t7
    generalize v 8=t8
    generalize v 9=t9
    generalize v 10=t10
    generalize v 11=t11
    go_wp2_with fail
    go_region
    have hx3:=hX.lt
    have hC06:Chg K.has W (wr.setCell ⟨g,N.id,none⟩ (.int .i64 E.i)).drew:=((HE1.out).chg_trans HC3.out).trans hC6 (fun k _ e=>e.elim id (fun e=>.inr (.inr (.inr (.inl e)))))
    have hs31:=(((HE1.out).chg_trans HC3.out)).size
    generalize (wr.setCell ⟨g,N.id,none⟩ (.int .i64 E.i)).drew=W6 at h6 hC6 hK6 hC06⊢
    obtain⟨K6,hK6e⟩:∃K6:Ka,K6 = { K with lv := γ 1 } := ⟨_,rfl⟩
    have r1:K6.r=K.r:=by rw[hK6e]
    have r2:K6.d=K.d:=by rw[hK6e]
    have r3:K6.m=K.m:=by rw[hK6e]
    have hKK6:∀k,K6.has k→K.has k∨W.heap.size≤k:=by
     intro k hk
     rw[hK6e]at hk
     rcases hk with e|e|e|e|e|e|e|e|e
     ·exact .inl (.inl e)
     ·exact .inl (.inr (.inl e))
     ·exact .inl (.inr (.inr (.inl e)))
     ·have e':some k=(γ 1).ownBlock:=e
      rcases hN5 with hN5|⟨k',hN5,hk'⟩
      ·exact .inl (.inr (.inr (.inr (.inl (e'.trans hN5)))))
      ·rw[hN5]at e'
       cases e'
       exact .inr (by omega)
     ·exact .inl (.inr (.inr (.inr (.inr (.inl e)))))
     ·exact .inl (.inr (.inr (.inr (.inr (.inr (.inl e))))))
     ·exact .inl (.inr (.inr (.inr (.inr (.inr (.inr (.inl e)))))))
     ·exact .inl (.inr (.inr (.inr (.inr (.inr (.inr (.inr (.inl e))))))))
     ·exact .inl (.inr (.inr (.inr (.inr (.inr (.inr (.inr (.inr e))))))))
    have hxK6:¬ K6.has x:=by
     intro hk
     rw[hK6e]at hk
     rcases hk with e|e|e|e|e|e|e|e|e
     ·exact hxK (.inl e)
     ·exact hxK (.inr (.inl e))
     ·exact hxK (.inr (.inr (.inl e)))
     ·have e':some x=(γ 1).ownBlock:=e
      rcases hN5 with hN5|⟨k',hN5,hk'⟩
      ·exact hxo (e'.trans hN5)
      ·rw[hN5]at e'
       cases e'
       omega
     ·exact hxK (.inr (.inr (.inr (.inr (.inl e)))))
     ·exact hxK (.inr (.inr (.inr (.inr (.inr (.inl e))))))
     ·exact hxK (.inr (.inr (.inr (.inr (.inr (.inr (.inl e)))))))
     ·exact hxK (.inr (.inr (.inr (.inr (.inr (.inr (.inr (.inl e))))))))
     ·exact hxK (.inr (.inr (.inr (.inr (.inr (.inr (.inr (.inr e))))))))
    have h6':NdAt W6 K6 (N.addE E):=by rw[hK6e];exact h6
    clear h6 hK6e h hX hC6 m0 hfz0 hgl d1 d15 k0 hK5 hT3 hN5 hmv' hgK hxg
    have hn5:=hN.n
    have cs:=sendall_any h6' hn5 (HL.out K6 r1)
    rw[r1]at cs
    go_wp2_with fail
    refine cs.mono ?_
    rintro e W7 ⟨rfl,K7,s1,s2,s3,h7,hC7,hKK7⟩
    clear cs
    have hK7:=hK6.chg hC7 hxK6
    have hxs:=hK6.lt
    have ca:=advance_any h7 HOK.out
    rw[s1,r1]at ca
    go_wp2_with fail
    refine ca.mono ?_
    rintro e W8 ⟨rfl,h8,hC8⟩
    clear ca
    have hK8:=hK7.chg hC8 (fun hk=>by rcases hKK7 x hk with e|e;exact hxK6 e;omega)
    have k0:=hK8.cell 0
    simp at k0
    go_wp2_with fail
    go_ret
    exact⟨rfl,NdTo.next r1 r2 r3 hC06 hKK6 (NdTo.next s1 s2 s3 hC7 hKK7 (NdTo.of h8 hC8))⟩
end
end Go.Proofs.YtkkbfdencgdbhaaGreatDoor
namespace Go.Proofs.YtkkbfdencgdbhaaGreatDoor
open Go.RowKit Go.Sort
theorem tmB_len(t v:Int):(tmB t v).size≤28:=by
 have h1:=ienc_length t
 have h2:=ienc_length v
 show(frameL _).toArray.size≤_
 rw[List.size_toArray,frameL_length]
 simp;omega
theorem append_addE(N:Nd)(c:ByteArray):N.append c=(N.addE (N.nextE c)).sendAll.advance:=by unfold Nd.append;rw[add_addE]
theorem q_put_none(a:Act)(v:Value):a.put none v=a:=rfl
theorem q_made(z:Value)(n:Nat):madeCells #[z] n=Array.replicate n z:=by
 unfold madeCells
 apply Array.ext'
 apply List.ext_getElem?
 intro i
 by_cases h:i<n
 ·simp[h,Nat.mod_one]
 ·simp[h]
theorem bool_info:(Tryz.prog.info? 4).map (fun i=>(i.zero,i.size,i.bytes))=some (some (.bool false),1,1):=by kernel_rfl
theorem q_make{t e:TypeId}{z:Value}{b:Nat}(ht:Tryz.prog.underlying t=some (.slice e))(hi:(Tryz.prog.info? e).map (fun i=>(i.zero,i.size,i.bytes))=some (some z,1,b))(hz:z.cells=#[z])(hb:b≤24)(n:Nat)(hn:n≤20)(W:World) :
 (Instr.makeSlice t (.int .i64 (n:Int)) (.int .i64 (n:Int))).run Tryz.prog W=.ok (.slice (some ⟨W.heap.size,0,none⟩) n n) (W.alloc (.cells (Array.replicate n z) e)):=by
 obtain⟨i0,hi0,hz0,hz1,hz2⟩:=info_parts hi
 have:=run_makeSlice (P:=Tryz.prog) W t e i0 z ht hi0 hz0 .i64 .i64 (n:Int) (n:Int) (by omega) (Int.le_refl _) (by rw[hz1];simp;omega) (by
  rw[hz2]
  have h1:b * n≤24 * 20:=Nat.mul_le_mul hb hn
  have h2:((b * n:Nat):Int)=(b:Int) * (n:Int):=by simp
  omega) (by omega)
 rw[this,hz1,hz]
 simp[q_made]
section
variable{w:World}{K:Ka}{N:Nd}(h:NdAt w K N)
include h
set_option maxRecDepth 100000 in
theorem keep_any(t v:Int)(ht : -9223372036854775808≤t∧t≤9223372036854775807)(hv : -9223372036854775808≤v∧v≤9223372036854775807)(hr:N.fs.tot+100≤4194304)(hT:Tab w) :
 Calls Tryz.prog 109 #[.pointer (some ⟨K.r,0,none⟩),.int .i64 t,.int .i64 v] w fun e w'=>e=.returned (.bool true)∧NdAt w' K (N.keep t v)∧Chg K.has w w':=by
 have c0:=h.nd.cell 0
 simp[ndCells]at c0
 have cs:=saveterm_any w K.d K.m N.fs h.dk t v ht hv hr hT
 go_enter Tryz.func109,Tryz.ntmps109
 go_wp2_with fail
 refine cs.mono ?_
 rintro e w1 ⟨rfl,hC1,hD1⟩
 clear cs
 have h1:=h.disk hC1 hD1
 have hC1':Chg K.has w w1:=hC1.mono (fun k hk e=>e.elim (fun e=>.inr (.inl e)) (fun e=>.inr (.inr (.inl e))))
 clear hC1 hD1
 go_wp2_with fail
 refine(stored_any w1 K.r).mono ?_
 rintro e w2 ⟨rfl,rfl⟩
 have d3:=h1.nd.cell 3
 have d4:=h1.nd.cell 4
 have f3:=h1.nd.frozen 3
 have f4:=h1.nd.frozen 4
 have hlt:=h1.nd.lt
 simp[ndCells]at d3 d4
 go_wp2_with fail
 go_ret
 have h2:NdAt (w2.setCell ⟨K.r,3,none⟩ (.int .i64 t)) K { N with s := { N.s with term:=t },fs:=N.fs.put 2 (tmB t v) } := h1.set rfl rfl rfl rfl rfl rfl rfl
 have h3:NdAt ((w2.setCell ⟨K.r,3,none⟩ (.int .i64 t)).setCell ⟨K.r,4,none⟩ (.int .i64 v)) K (N.keep t v):=h2.set rfl rfl rfl rfl rfl rfl rfl
 exact⟨rfl,h3,(hC1'.trans (chg_r K w2 3 _) (fun _ _ e=>e)).trans (chg_r K _ 4 _) (fun _ _ e=>e)⟩
def Nd.lead0(N:Nd):Nd := { N with role:=2,leader:=N.id,votes:=[],mt:=List.replicate N.n 0,nx:=List.replicate N.n 0 }
def leadW(w:World)(r n a b:Nat)(id:Int):World :=
 (((((((w.setCell ⟨r,9,none⟩ (.int .i64 2)).setCell ⟨r,10,none⟩ (.int .i64 id)).setCell ⟨r,14,none⟩ (.slice none 0 0)).setCell ⟨r,15,none⟩ (.slice (some ⟨a,0,none⟩) n n)).setCell ⟨r,16,none⟩ (.slice (some ⟨b,0,none⟩) n n)).alloc (.cells (Array.replicate n (.int .i64 0)) 3)).alloc (.cells (Array.replicate n (.int .i64 0)) 3)).drew
theorem lead_made{a b:Nat}(hab:(a=w.heap.size∧b=w.heap.size+1)∨(a=w.heap.size+1∧b=w.heap.size))(hn:N.n≤5) :
 NdAt (leadW w K.r N.n a b N.id) { K with vv:=.slice none 0 0,mv:=.slice (some ⟨a,0,none⟩) N.n N.n,nv:=.slice (some ⟨b,0,none⟩) N.n N.n } N.lead0∧Chg (fun k=>k=K.r) w (leadW w K.r N.n a b N.id):=by
 have hA:=(((((((h.nd.set 9 (.int .i64 2)).set 10 (.int .i64 (N.id:Int))).set 14 (.slice none 0 0)).set 15 (.slice (some ⟨a,0,none⟩) N.n N.n)).set 16 (.slice (some ⟨b,0,none⟩) N.n N.n)).alloc (.cells (Array.replicate N.n (.int .i64 0)) 3)).alloc (.cells (Array.replicate N.n (.int .i64 0)) 3)).drew
 have hC0:Chg (fun k=>k=K.r) w (((((w.setCell ⟨K.r,9,none⟩ (.int .i64 2)).setCell ⟨K.r,10,none⟩ (.int .i64 (N.id:Int))).setCell ⟨K.r,14,none⟩ (.slice none 0 0)).setCell ⟨K.r,15,none⟩ (.slice (some ⟨a,0,none⟩) N.n N.n)).setCell ⟨K.r,16,none⟩ (.slice (some ⟨b,0,none⟩) N.n N.n)) :=
  (((((Chg.refl (fun k=>k=K.r) w).setCell (p:=⟨K.r,9,none⟩) (.inl rfl) _).setCell (p:=⟨K.r,10,none⟩) (.inl rfl) _).setCell (p:=⟨K.r,14,none⟩) (.inl rfl) _).setCell (p:=⟨K.r,15,none⟩) (.inl rfl) _).setCell (p:=⟨K.r,16,none⟩) (.inl rfl) _
 have hs5:(((((w.setCell ⟨K.r,9,none⟩ (.int .i64 2)).setCell ⟨K.r,10,none⟩ (.int .i64 (N.id:Int))).setCell ⟨K.r,14,none⟩ (.slice none 0 0)).setCell ⟨K.r,15,none⟩ (.slice (some ⟨a,0,none⟩) N.n N.n)).setCell ⟨K.r,16,none⟩ (.slice (some ⟨b,0,none⟩) N.n N.n)).heap.size=w.heap.size:=by simp[World.setCell]
 unfold leadW
 generalize ((((w.setCell ⟨K.r,9,none⟩ (.int .i64 2)).setCell ⟨K.r,10,none⟩ (.int .i64 (N.id:Int))).setCell ⟨K.r,14,none⟩ (.slice none 0 0)).setCell ⟨K.r,15,none⟩ (.slice (some ⟨a,0,none⟩) N.n N.n)).setCell ⟨K.r,16,none⟩ (.slice (some ⟨b,0,none⟩) N.n N.n)=w5 at hA hC0 hs5⊢
 have hC:=((hC0.alloc (.cells (Array.replicate N.n (.int .i64 0)) 3)).alloc (.cells (Array.replicate N.n (.int .i64 0)) 3)).drew
 have n0:=((At.new w5 3 (Array.replicate N.n (Value.int .i64 0))).alloc (.cells (Array.replicate N.n (.int .i64 0)) 3)).drew
 have n1:=(At.new (w5.alloc (.cells (Array.replicate N.n (.int .i64 0)) 3)) 3 (Array.replicate N.n (Value.int .i64 0))).drew
 have hs6:(w5.alloc (.cells (Array.replicate N.n (.int .i64 0)) 3)).heap.size=w.heap.size+1:=by simp[hs5]
 rw[hs6]at n1
 rw[hs5]at n0
 have hrow:∀y,(y=w.heap.size∨y=w.heap.size+1)→(((w5.alloc (.cells (Array.replicate N.n (.int .i64 0)) 3)).alloc (.cells (Array.replicate N.n (.int .i64 0)) 3)).drew).ownsRow 0 3 1 (.slice (some ⟨y,0,none⟩) N.n N.n) (List.replicate N.n (0:Int)).length ((List.replicate N.n (0:Int)).map (Value.int .i64)):=fun y hy=>by
  rw[List.length_replicate,List.map_replicate]
  refine⟨by simp,.inr ⟨y,N.n,Array.replicate N.n (.int .i64 0),rfl,Nat.zero_le _,?_,Nat.le_refl _,by unfold maxLen;omega,by simp,by simp⟩⟩
  rcases hy with rfl|rfl
  ·exact n0
  ·exact n1
 have hd:K.d≠K.r:=fun hh=>(h.dk.1.ne h.nd (by decide)) hh
 have hm:K.m≠K.r:=fun hh=>(h.dk.2.ne_at h.nd) hh
 have q:∀ {e:TypeId} {size:Nat} {v:Value} {n:Nat} {xs:List Value},w.ownsRow 0 e size v n xs→e≠96→(((w5.alloc (.cells (Array.replicate N.n (.int .i64 0)) 3)).alloc (.cells (Array.replicate N.n (.int .i64 0)) 3)).drew).ownsRow 0 e size v n xs:=fun ho he=>q_keep ho hC fun k hk hs=>by
  have hs':k=K.r:=hs
  rw[hs']at hk
  exact q_apart ho h.nd he hk
 refine⟨⟨hA,⟨h.dk.1.chg hC hd,h.dk.2.chg hC hm⟩,q h.lg (by decide),World.ownsRow_nil _ _ _ _,hrow a (by omega),hrow b (by omega),⟨q h.os.own (by decide),h.os.len,fun j m ev hm he=>q (h.os.es j m ev hm he) (by decide)⟩,fun k hk e=>?_,h.le⟩,hC⟩
 have e1:k=a:=by simpa[Value.ownBlock]using hk
 have e2:k=b:=by simpa[Value.ownBlock]using e
 omega
def Nd.leadK(N:Nd)(k:Nat):Nd := { N.lead0 with nx:=List.replicate k (N.s.last.1+1)++List.replicate (N.n - k) 0 }
omit h in
theorem leadK_zero(N:Nd):N.leadK 0=N.lead0:=by unfold Nd.leadK;rw[List.replicate_zero,List.nil_append];rfl
omit h in
theorem leadK_all(N:Nd):N.leadK N.n=N.lead:=by unfold Nd.leadK;rw[Nat.sub_self,List.replicate_zero,List.append_nil];rfl
omit h in
theorem leadK_succ(N:Nd){k:Nat}(hk:k<N.n):N.leadK (k+1) = { N.leadK k with nx:=(N.leadK k).nx.set k (N.s.last.1+1) } := by
 unfold Nd.leadK
 congr 1
 simp only
 rw[List.set_append_right _ _ (by simp),List.length_replicate,Nat.sub_self]
 obtain⟨m,hm⟩:∃m,N.n - k=m+1:=⟨N.n - k - 1,by omega⟩
 have e1:(List.replicate (m+1) (0:Int)).set 0 (N.s.last.1+1)=(N.s.last.1+1)::List.replicate m 0:=rfl
 have e2:List.replicate (k+1) (N.s.last.1+1)=List.replicate k (N.s.last.1+1)++[N.s.last.1+1]:=List.replicate_succ'
 rw[hm,e1,e2,show N.n - (k+1)=m by omega,List.append_assoc]
 rfl
theorem NdAt.setnx{g cap:Nat}(hnv:K.nv=.slice (some ⟨g,0,none⟩) N.nx.length cap){j:Nat}(hj:j<N.nx.length)(x:Int):NdAt (w.setCell ⟨g,j,none⟩ (.int .i64 x)) K { N with nx:=N.nx.set j x } := by
 have hc:Chg (fun k=>k=g) w (w.setCell ⟨g,j,none⟩ (.int .i64 x)):=(Chg.refl (fun k=>k=g) w).setCell (p:=⟨g,j,none⟩) (.inl rfl) _
 have hg:some g=K.nv.ownBlock:=by rw[hnv];rfl
 have q:∀ {e:TypeId} {size:Nat} {v:Value} {n:Nat} {xs:List Value},w.ownsRow 0 e size v n xs→(e≠3∨some g≠v.ownBlock)→(w.setCell ⟨g,j,none⟩ (.int .i64 x)).ownsRow 0 e size v n xs:=fun ho h1=>q_keep ho hc fun k hk hs=>by
  have hs':k=g:=hs
  subst hs'
  rcases h1 with h1|h1
  ·exact q_apart2 ho h.ns h1 k hk hg
  ·exact h1 hk
 have hr:K.r≠g:=fun e=>q_apart h.ns h.nd (by decide) (by rw[e];exact hg)
 have hd:K.d≠g:=fun e=>q_apart h.ns h.dk.1 (by decide) (by rw[e];exact hg)
 have hm:K.m≠g:=fun e=>q_map h.ns h.dk.2 (by rw[e];exact hg)
 refine⟨h.nd.chg hc hr,⟨h.dk.1.chg hc hd,h.dk.2.chg hc hm⟩,q h.lg (.inl (by decide)),q h.vs (.inl (by decide)),q h.ms (.inr (fun e=>h.mn g e hg)),?_,⟨q h.os.own (.inl (by decide)),h.os.len,fun i m ev hm he=>q (h.os.es i m ev hm he) (.inl (by decide))⟩,h.mn,h.le⟩
 have hns:=h.ns
 rw[hnv]at hns⊢
 have:=own_set hns (j:=j) (by omega) (.int .i64 x)
 show(w.setCell ⟨g,j,none⟩ (.int .i64 x)).ownsRow 0 3 1 _ (N.nx.set j x).length ((N.nx.set j x).map (Value.int .i64))
 rw[List.length_set,List.map_set]
 exact this
set_option maxRecDepth 100000 in
set_option maxHeartbeats 4000000 in
theorem count_any(hN:NdOk N)(hlast:0≤N.s.last.1∧N.s.last.1<1099511627776)(hlen:N.s.log.length<1000)(hroom:N.fs.tot+osz N.fs.lg+100≤4194304)(hT:Tab w)(hTK:¬ K.has 0)
 (hlead:NdOk N.lead) (hl:∀K1:Ka,K1.r=K.r→LackOk K1 (N.lead.add ByteArray.empty)) (hok:NdOk (N.lead.add ByteArray.empty).sendAll):Calls Tryz.prog 112 #[.pointer (some ⟨K.r,0,none⟩)] w fun e w'=>e=.returned (.tuple #[])∧NdTo K w w' N.count:=by
 rw[add_addE]at hok
 simp only[add_addE]at hl
 obtain⟨vA,vc,hvv,hvcap⟩:=q_slc h.vs
 have c9:=h.nd.cell 14
 simp[ndCells]at c9
 rw[hvv]at c9
 have hvl:=hN.vl
 have hVS:=Sl.of_own h.vs
 rw[hvv]at hVS
 have hn5:=hN.n
 have hyes:((N.votes.take N.votes.length).filter fun b=>b).length=N.yes:=by rw[List.take_length];rfl
 have HY:=Lib.hid hyes
 have HWR:=Lib.hid (IntWalk.i64_in (N.s.last.1+1) (by omega))
 clear hyes
 go_enter Tryz.func112,Tryz.ntmps112
 go_wp2_with fail
 go_loopw [2,11] (fun nv iv wz=>∃q:Nat,q≤N.votes.length∧iv=.int .i64 (q:Int)∧nv=.int .i64 (((N.votes.take q).filter fun b=>b).length:Nat)∧wz=w) (fun _ iv _=>N.votes.length - (intOf iv).toNat)
 case atStart=>exact⟨0,Nat.zero_le _,rfl,rfl,rfl⟩
 case round =>
  obtain⟨q,hq,rfl,rfl,rfl⟩:=hrel
  rename World=>wz
  have hcl:((N.votes.take q).filter fun b=>b).length≤q:=Nat.le_trans (List.length_filter_le _ _) (by rw[List.length_take];omega)
  by_cases hql:q<N.votes.length
  ·obtain⟨y,hy⟩:∃y,N.votes[q]? = some y:=⟨_,List.getElem?_eq_getElem hql⟩
   obtain⟨vA',c1,hv1,hx1⟩:=hVS
   obtain⟨vb,vo,hA',hcell⟩:=hx1 (fun e=>by have:=List.map_eq_nil_iff.1 e;rw[this]at hql;simp at hql)
   simp only[Value.slice.injEq]at hv1
   obtain⟨rfl, -, -⟩:=hv1
   subst hA'
   have m0:=hcell q (.bool y) (by rw[List.getElem?_map,hy];rfl)
   have hsn:((N.votes.take (q+1)).filter fun b=>b).length=((N.votes.take q).filter fun b=>b).length+if y then 1 else 0:=by
    rw[List.take_add_one,hy]
    simp only[Option.toList_some,List.filter_append,List.length_append]
    congr 1
    cases y <;> rfl
   have HCL:=Lib.hid hcell
   clear hcell hy
   cases y
   ·have HSN:=Lib.hid hsn
    clear hsn
    generalize ((N.votes.take q).filter fun b=>b).length=cn at *
    go_wp2_with fail
    go_roundw
    case rel=>exact⟨q+1,by omega,by go_num,by rw[HSN.out];go_num,by first|rfl|trivial⟩
    case measure=>simp[intOf];omega
   ·have HSN:=Lib.hid hsn
    clear hsn
    generalize ((N.votes.take q).filter fun b=>b).length=cn at *
    go_wp2_with fail
    go_roundw
    case rel=>exact⟨q+1,by omega,by go_num,by rw[HSN.out];go_num,by first|rfl|trivial⟩
    case measure=>simp[intOf];omega
  ·obtain rfl:q=N.votes.length:=by omega
   rw[HY.out]at hcl⊢
   have d2:=h.nd.cell 2
   simp[ndCells]at d2
   by_cases hh:N.n<2 * N.yes
   ·have hcnt:N.count=N.lead.append ByteArray.empty:=by unfold Nd.count;rw[if_pos hh]
    have t4:decide (2 * (N.yes:Int)≤(N.n:Int))=false:=by simp;omega
    have d1:=h.nd.cell 1
    have d9:=h.nd.cell 9
    have d10:=h.nd.cell 10
    have d14:=h.nd.cell 14
    have d15:=h.nd.cell 15
    have d16:=h.nd.cell 16
    have f9:=h.nd.frozen 9
    have f10:=h.nd.frozen 10
    have f14:=h.nd.frozen 14
    have f15:=h.nd.frozen 15
    have f16:=h.nd.frozen 16
    obtain⟨A2,a2,e2,_⟩:=q_slc h.ms
    obtain⟨A3,a3,e3,_⟩:=q_slc h.ns
    simp[ndCells,hvv,e2,e3]at d1 d9 d10 d14 d15 d16
    have hlt:=h.nd.lt
    have HC:=Lib.hid hcnt
    have hmk:=fun W=>q_make (t:=37) (e:=3) Tryz.underlying37 int_info rfl (by decide) N.n (by omega) W
    clear hcnt e2 e3
    have lA:=lead_made h (a:=wz.heap.size) (b:=wz.heap.size+1) (.inl ⟨rfl,rfl⟩) hn5
    have lB:=lead_made h (a:=wz.heap.size+1) (b:=wz.heap.size) (.inr ⟨rfl,rfl⟩) hn5
    have HLA:=Lib.hid lA
    have HLB:=Lib.hid lB
    obtain⟨wo,hwo⟩:∃wo:World,wo=wz:=⟨_,rfl⟩
    have HWO:=Lib.hid hwo
    clear lA lB hwo
    go_upto_region 9 with fail
    go_cut []from 39 to 54 (fun wx=>∃pa pb:Nat,wo.heap.size≤pa∧wo.heap.size≤pb∧NdAt wx { K with vv:=.slice none 0 0,mv:=.slice (some ⟨pa,0,none⟩) N.n N.n,nv:=.slice (some ⟨pb,0,none⟩) N.n N.n } N.lead0∧Chg (fun k=>k=K.r) wo wx)
    case first =>
     go_region
     all_goals
      go_wp2_with fail
      go_meet
      case rel =>
       rw[HWO.out]
       first
       | (obtain⟨hL,hCL⟩:=HLA.out
          unfold leadW at hL hCL
          with_reducible exact⟨wz.heap.size,wz.heap.size+1,Nat.le_refl _,Nat.le_succ _,hL,hCL⟩)
       | (obtain⟨hL,hCL⟩:=HLB.out
          unfold leadW at hL hCL
          with_reducible exact⟨wz.heap.size+1,wz.heap.size,Nat.le_succ _,Nat.le_refl _,hL,hCL⟩)
    case rest =>
     obtain⟨pa,pb,hp1,hp2,hL,hCL⟩:=hcut
     rename World=>W
     rw[HWO.out]at hp1 hp2 hCL
     obtain⟨K1,hK1⟩:∃K1:Ka,K1 = { K with vv:=.slice none 0 0,mv:=.slice (some ⟨pa,0,none⟩) N.n N.n,nv:=.slice (some ⟨pb,0,none⟩) N.n N.n } := ⟨_,rfl⟩
     have r1:K1.r=K.r:=by rw[hK1]
     have r2:K1.d=K.d:=by rw[hK1]
     have r3:K1.m=K.m:=by rw[hK1]
     have hnv:K1.nv=.slice (some ⟨pb,0,none⟩) N.n N.n:=by rw[hK1]
     have hKK:∀k,K1.has k→K.has k∨wz.heap.size≤k:=by
      intro k hk
      rw[hK1]at hk
      rcases hk with e|e|e|e|e|e|e|e|e
      ·exact .inl (.inl e)
      ·exact .inl (.inr (.inl e))
      ·exact .inl (.inr (.inr (.inl e)))
      ·exact .inl (.inr (.inr (.inr (.inl e))))
      ·cases e
      ·have e':k=pa:=by simpa[Value.ownBlock]using e
       exact .inr (by omega)
      ·have e':k=pb:=by simpa[Value.ownBlock]using e
       exact .inr (by omega)
      ·exact .inl (.inr (.inr (.inr (.inr (.inr (.inr (.inr (.inl e))))))))
      ·exact .inl (.inr (.inr (.inr (.inr (.inr (.inr (.inr (.inr e))))))))
     have h0:NdAt W K1 (N.leadK 0):=by rw[hK1,leadK_zero];exact hL
     have hCK:Chg K.has wz W:=hCL.mono (fun k hk e=>.inl e)
     have HKK:=Lib.hid hKK
     have hTW:Tab W:=hT.chg hCK hTK
     have hTK1:¬ K1.has 0:=fun hk=>by
      rcases hKK _ hk with e|e
      ·exact hTK e
      ·have:=hT.lt;omega
     have HCK:=Lib.hid hCK
     obtain⟨bb,hbb⟩:∃bb,bb=pb:=⟨_,rfl⟩
     rw[←hbb]at hnv
     clear hL hCL hK1 hKK hp1 hp2 hCK hbb HLA HLB HWO
     have e2:=h0.nd.cell 2
     have e16:=h0.nd.cell 16
     rw[r1]at e2 e16
     simp[ndCells,hnv,Nd.leadK,Nd.lead0]at e2 e16
     go_wp2_with fail
     go_loopw [60] (fun iv wr=>∃k:Nat,k≤N.n∧iv=.int .i64 (k:Int)∧NdAt wr K1 (N.leadK k)∧Chg K1.has W wr) (fun iv _=>N.n - (intOf iv).toNat)
     case atStart=>exact⟨0,Nat.zero_le _,rfl,h0,Chg.refl _ _⟩
     case round =>
      obtain⟨k,hk,rfl,hA,hCk⟩:=hrel
      rename World=>wr
      have e16:=hA.nd.cell 16
      rw[r1]at e16
      simp[ndCells,hnv,Nd.leadK,Nd.lead0]at e16
      by_cases hlt:k<N.n
      ·have hnl:(N.leadK k).nx.length=N.n:=by unfold Nd.leadK;simp;omega
       obtain⟨y,hy⟩:∃y,(N.leadK k).nx[k]? = some y:=⟨_,List.getElem?_eq_getElem (by omega)⟩
       have hqs:∀w',NdAt w' K1 (N.leadK k)→w'.cell? ⟨bb,k,none⟩=some (.int .i64 y)∧w'.frozen? ⟨bb,k,none⟩=false:=fun w' h'=>by
        obtain⟨g,cc,hgv,hcap,hgl,hfz,hcells⟩:=q_some h'.ns (by omega)
        rw[hnv]at hgv
        have hgb:g=bb:=by simp only[Value.slice.injEq,Option.some.injEq,Addr.mk.injEq]at hgv;exact hgv.1.1.symm
        subst hgb
        exact⟨by rw[hcells (by decide) k (by omega),List.getElem?_map,hy];rfl,hfz k⟩
       have HM0:=Lib.hid (fun w' h'=>(hqs w' h').1)
       have HF0:=Lib.hid (fun w' h'=>(hqs w' h').2)
       have hsn:=leadK_succ N hlt
       have HNX:=Lib.hid (fun w' (h':NdAt w' K1 (N.leadK k))=>(show NdAt (w'.setCell ⟨bb,k,none⟩ (.int .i64 (N.s.last.1+1))) K1 (N.leadK (k+1))by rw[hsn];exact h'.setnx (g:=bb) (cap:=N.n) (by rw[hnl];exact hnv) (j:=k) (by omega) (N.s.last.1+1)))
       have hgK:K1.has bb:=.inr (.inr (.inr (.inr (.inr (.inr (.inl (by rw[hnv];rfl)))))))
       clear hsn hqs hy hnl
       go_wp2_with fail
       have hST:GQ.St K1.has (fun b w=>NdAt w K1 (if b=true then N.leadK (k+1)else N.leadK k)) []:=⟨fun b w w' h hE=>h.ext hE,by
        intro gx hx
        cases hx⟩
       refine wp_region_phi (Γ := Nat→Value) (sgφ [.val (.pointer (some ⟨K.r,0,none⟩)),.val (.pointer (some ⟨K.r,0,none⟩)),.val (.pointer (some ⟨K.r,16,none⟩)),.val (.slice (some ⟨bb,0,none⟩) N.n N.n),.val (.int .i64 (k:Int)),.val (.pointer (some ⟨K.r,0,none⟩)),.val (.int .i64 N.s.last.1),.val (.int .i64 (N.s.last.1+1)),.val (.pointer (some ⟨bb,k,none⟩)),.any])
        (GQ wr K1.has 9 (fun b w=>NdAt w K1 (if b=true then N.leadK (k+1)else N.leadK k)) [])
        (by kernel_rfl) (by kernel_rfl) (by kernel_rfl) (fun _=>undef) (GQ.start _ _ _ _ _ _ (hA.ext ((Ext.refl wr).drew))) ?steps ?fin
       case steps =>
        show StepsTo _ _ _ _ _ _ 10
        refine⟨⟨⟨⟨⟨⟨⟨⟨⟨⟨trivial,?s0⟩,?s1⟩,?s2⟩,?s3⟩,?s4⟩,?s5⟩,?s6⟩,?s7⟩,?s8⟩,?s9⟩
        case s0 =>
         refine sg_val (x:=.pointer (some ⟨K.r,0,none⟩)) rfl rfl rfl (GQ.keep (j:=0) (by decide) rfl) fun γ L v a w st=>?_
         have f0:=st.far 0 (by kernel_rfl)
         simp at f0
         go_simp
        case s1 =>
         refine sg_val (x:=.pointer (some ⟨K.r,0,none⟩)) rfl rfl rfl (GQ.keep (j:=1) (by decide) rfl) fun γ L v a w st=>?_
         have e0:=st.val 0 63 rfl (by kernel_rfl)
         rw[(st.φ 0 (by kernel_rfl):v 0=_)]at e0
         simp at e0
         go_simp
        case s2 =>
         refine sg_val (x:=.pointer (some ⟨K.r,16,none⟩)) rfl rfl rfl (GQ.keep (j:=2) (by decide) rfl) fun γ L v a w st=>?_
         have e1:=st.val 1 64 rfl (by kernel_rfl)
         rw[(st.φ 1 (by kernel_rfl):v 1=_)]at e1
         simp at e1
         go_simp
        case s3 =>
         refine sg_val (x:=.slice (some ⟨bb,0,none⟩) N.n N.n) rfl rfl rfl (GQ.keep (j:=3) (by decide) rfl) fun γ L v a w st=>?_
         have e2:=st.val 2 65 rfl (by kernel_rfl)
         rw[(st.φ 2 (by kernel_rfl):v 2=_)]at e2
         simp at e2
         have hpw:=st.inv.pw
         have hoff:L 9=false:=GAO.js_off (r:=[8,9]) st.down st.off (by kernel_rfl) (by simp)
         rw[hoff]at hpw
         simp only[Bool.false_eq_true,if_false]at hpw
         have hcl:=hpw.nd.cell 16
         rw[r1]at hcl
         simp[ndCells,hnv]at hcl
         go_simp
        case s4 =>
         refine sg_val (x:=.int .i64 (k:Int)) rfl rfl rfl (GQ.keep (j:=4) (by decide) rfl) fun γ L v a w st=>?_
         have f5:=st.far 5 (by kernel_rfl)
         simp at f5
         go_simp
        case s5 =>
         refine sg_val (x:=.pointer (some ⟨K.r,0,none⟩)) rfl rfl rfl (GQ.keep (j:=5) (by decide) rfl) fun γ L v a w st=>?_
         have f0:=st.far 0 (by kernel_rfl)
         simp at f0
         go_simp
        case s6 =>
         refine sg_callv' (x:=.int .i64 N.s.last.1) (f:=129) rfl rfl rfl fun γ L v a w st=>?_
         have e5:=st.val 5 68 rfl (by kernel_rfl)
         rw[(st.φ 5 (by kernel_rfl):v 5=_)]at e5
         simp at e5
         have hpw:=st.inv.pw
         have hoff:L 9=false:=GAO.js_off (r:=[7,9]) st.down st.off (by kernel_rfl) (by simp)
         rw[hoff]at hpw
         simp only[Bool.false_eq_true,if_false]at hpw
         have hcl:=nlast_dn hpw hN.ts
         rw[r1]at hcl
         refine⟨#[.pointer (some ⟨K.r,0,none⟩)],by go_simp,?_⟩
         refine Calls.mono (hcl) ?_
         rintro e w' ⟨he,nd,rfl⟩
         have hE:Ext w (w.drewN nd):=(Ext.refl w).drewN nd
         subst he
         exact⟨rfl,st.inv.call hST hE (by decide) rfl st.off⟩
        case s7 =>
         refine sg_val (x:=.int .i64 (N.s.last.1+1)) rfl rfl rfl (GQ.keep (j:=7) (by decide) rfl) fun γ L v a w st=>?_
         have e6:=st.val 6 69 rfl (by kernel_rfl)
         rw[(st.φ 6 (by kernel_rfl):v 6=_)]at e6
         simp at e6
         go_simp
         exact HWR.out
        case s8 =>
         refine sg_val (x:=.pointer (some ⟨bb,k,none⟩)) rfl rfl rfl (GQ.keep (j:=8) (by decide) rfl) fun γ L v a w st=>?_
         have e3:=st.val 3 66 rfl (by kernel_rfl)
         rw[(st.φ 3 (by kernel_rfl):v 3=_)]at e3
         simp at e3
         have e4:=st.val 4 67 rfl (by kernel_rfl)
         rw[(st.φ 4 (by kernel_rfl):v 4=_)]at e4
         simp at e4
         go_simp
        case s9 =>
         refine sg_skip rfl rfl rfl fun γ L v a w st=>?_
         have e8:=st.val 8 71 rfl (by kernel_rfl)
         rw[(st.φ 8 (by kernel_rfl):v 8=_)]at e8
         simp at e8
         have e7:=st.val 7 70 rfl (by kernel_rfl)
         rw[(st.φ 7 (by kernel_rfl):v 7=_)]at e7
         simp at e7
         have hpw:=st.inv.pw
         rw[st.off]at hpw
         simp only[Bool.false_eq_true,if_false]at hpw
         have hm0:=HM0.out w hpw
         have hf0:=HF0.out w hpw
         refine⟨w.setCell ⟨bb,k,none⟩ (.int .i64 (N.s.last.1+1)),by go_simp,st.inv.write ((Chg.refl _ w).setCell (p:=⟨bb,k,none⟩) (.inl hgK) _) (by simp only[if_true];exact HNX.out w hpw) (by intro x hx;cases hx) rfl⟩
       case fin =>
        intro γ L v wr2 hall hG hφ
        have hA1:=hG.pw
        rw[hall 9 (by decide)]at hA1
        simp only[if_true]at hA1
        have hC1:=hG.chg
        clear hall hφ hG
        change Exit.inBlock 3 (Exit.then _ _) Exit.normal (putAll _ v _ 10) wr2
        simp only[putAll,dstOf,Act.put]
        simp only[List.getElem?_toArray,List.getElem?_cons_zero,List.getElem?_cons_succ,Option.bind_some,List.setIfInBounds_toArray,List.set_cons_zero,List.set_cons_succ]
        go_wp2_with fail
        go_roundw
        case rel=>exact⟨k+1,Nat.succ_le_of_lt hlt,by go_num,hA1,hCk.trans hC1 (fun _ _ e=>e)⟩
        case measure=>simp[intOf];omega
      ·obtain rfl:k=N.n:=by omega
       rw[leadK_all]at hA
       have hE:=hlead
       have ca:=appendE_any hA hlead (N.lead.nextE ByteArray.empty) rfl rfl (Nat.zero_le _) hlast hlen (by show N.id<(List.replicate N.n (0:Int)).length;rw[List.length_replicate];exact hN.id) (by
        have h2:=frameL_length (N.lead.nextE ByteArray.empty).enc
        have h3:=(N.lead.nextE ByteArray.empty).enc_len
        have h4:(N.lead.nextE ByteArray.empty).c.size=0:=rfl
        have h5:(enFs [N.lead.nextE ByteArray.empty]).length=(frameL (N.lead.nextE ByteArray.empty).enc).length:=by simp[enFs]
        show N.fs.tot+osz N.fs.lg+_≤_
        omega) (hTW.chg hCk hTK1) hTK1 (fun K2 hK2=>hl K2 (hK2.trans r1)) hok
       rw[r1]at ca
       have ca':Calls Tryz.prog 83 #[.pointer (some ⟨K.r,0,none⟩),.string ⟨#[]⟩] wr _:=ca
       clear ca
       have HKK':=Lib.hid hCk
       clear hCk hTW
       go_wp2_with fail
       refine ca'.mono ?_
       rintro e w9 ⟨rfl,hT9⟩
       clear ca'
       go_wp2_with fail
       first|go_end0|refine bodyPost_ret (results_none rfl _ _ _) rfl ?_
       rw[HC.out,append_addE]
       exact⟨rfl,NdTo.next r1 r2 r3 HCK.out HKK.out (NdTo.next rfl rfl rfl HKK'.out (fun _ e=>.inl e) hT9)⟩
   ·have hcnt:N.count=N:=by unfold Nd.count;rw[if_neg hh]
    have t4:decide (2 * (N.yes:Int)≤(N.n:Int))=true:=by simp;omega
    have HC:=Lib.hid hcnt
    clear hcnt
    go_wp2_with fail
    first|go_end0|refine bodyPost_ret (results_none rfl _ _ _) rfl ?_
    rw[HC.out]
    exact⟨rfl,NdTo.refl h⟩
end
end Go.Proofs.YtkkbfdencgdbhaaGreatDoor
