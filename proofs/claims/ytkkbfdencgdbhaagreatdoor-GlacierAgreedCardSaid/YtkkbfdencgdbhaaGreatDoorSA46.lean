/-
  Part 46 of what the law leans on.
-/
import Derived.Test.YtkkbfdencgdbhaaGreatDoorSA13
import Derived.Test.YtkkbfdencgdbhaaGreatDoorSA45
set_option linter.unusedVariables false
set_option linter.unusedSimpArgs false
set_option linter.unusedSectionVars false
namespace Go.Proofs.YtkkbfdencgdbhaaGreatDoor
open Go.RowKit Go.Sort
def Nd.askK(N:Nd)(k:Nat):Nd:=(List.range k).foldl Nd.askTo N
theorem askK_succ(N:Nd)(k:Nat):N.askK (k+1)=(N.askK k).askTo k:=by
 unfold Nd.askK
 rw[List.range_succ,List.foldl_append];rfl
theorem askTo_out(N:Nd)(i:Nat):(N.askTo i).s=N.s∧(N.askTo i).id=N.id∧(N.askTo i).n=N.n∧(N.askTo i).out.length≤N.out.length+1:=by
 unfold Nd.askTo
 split
 ·exact⟨rfl,rfl,rfl,by omega⟩
 ·exact⟨rfl,rfl,rfl,by unfold Nd.send;simp⟩
theorem askK_out(N:Nd):∀k,(N.askK k).s=N.s∧(N.askK k).id=N.id∧(N.askK k).n=N.n∧(N.askK k).out.length≤N.out.length+k
 | 0=>⟨rfl,rfl,rfl,Nat.le_refl _⟩
 | k+1=>by
  obtain⟨a,b,c,d⟩:=askK_out N k
  obtain⟨a',b',c',d'⟩:=askTo_out (N.askK k) k
  rw[askK_succ]
  exact⟨a'.trans a,b'.trans b,c'.trans c,by omega⟩
def Nd.stand0(N:Nd):Nd := { (N.keep (N.s.term+1) ((N.id:Int)+1)).follow (-1)with role:=1,timer:=0 }
section
variable{w:World}{K:Ka}{N:Nd}(h:NdAt w K N)
include h
theorem NdAt.voted(hn:N.n≤5):NdAt ((w.setCell ⟨K.r,14,none⟩ (.slice (some ⟨w.heap.size,0,none⟩) N.n N.n)).alloc (.cells (Array.replicate N.n (.bool false)) 4)) { K with vv:=.slice (some ⟨w.heap.size,0,none⟩) N.n N.n } { N with votes:=List.replicate N.n false } ∧
 Chg (fun k=>k=K.r) w ((w.setCell ⟨K.r,14,none⟩ (.slice (some ⟨w.heap.size,0,none⟩) N.n N.n)).alloc (.cells (Array.replicate N.n (.bool false)) 4)):=by
 have hA:=(h.nd.set 14 (.slice (some ⟨w.heap.size,0,none⟩) N.n N.n)).alloc (.cells (Array.replicate N.n (.bool false)) 4)
 have hC0:Chg (fun k=>k=K.r) w (w.setCell ⟨K.r,14,none⟩ (.slice (some ⟨w.heap.size,0,none⟩) N.n N.n)):=(Chg.refl (fun k=>k=K.r) w).setCell (p:=⟨K.r,14,none⟩) (.inl rfl) _
 have hs5:(w.setCell ⟨K.r,14,none⟩ (.slice (some ⟨w.heap.size,0,none⟩) N.n N.n)).heap.size=w.heap.size:=by simp[World.setCell]
 generalize w.setCell ⟨K.r,14,none⟩ (.slice (some ⟨w.heap.size,0,none⟩) N.n N.n)=w5 at hA hC0 hs5⊢
 have hC:=hC0.alloc (.cells (Array.replicate N.n (.bool false)) 4)
 have n0:=At.new w5 4 (Array.replicate N.n (Value.bool false))
 rw[hs5]at n0
 have hd:K.d≠K.r:=fun hh=>(h.dk.1.ne h.nd (by decide)) hh
 have hm:K.m≠K.r:=fun hh=>(h.dk.2.ne_at h.nd) hh
 have q:∀ {e:TypeId} {size:Nat} {v:Value} {n:Nat} {xs:List Value},w.ownsRow 0 e size v n xs→e≠96→(w5.alloc (.cells (Array.replicate N.n (.bool false)) 4)).ownsRow 0 e size v n xs:=fun ho he=>q_keep ho hC fun k hk hs=>by
  have hs':k=K.r:=hs
  rw[hs']at hk
  exact q_apart ho h.nd he hk
 refine⟨⟨hA,⟨h.dk.1.chg hC hd,h.dk.2.chg hC hm⟩,q h.lg (by decide),?_,q h.ms (by decide),q h.ns (by decide),⟨q h.os.own (by decide),h.os.len,fun j m ev hm he=>q (h.os.es j m ev hm he) (by decide)⟩,h.mn,h.le⟩,hC⟩
 show(w5.alloc (.cells (Array.replicate N.n (.bool false)) 4)).ownsRow 0 4 1 (.slice (some ⟨w.heap.size,0,none⟩) N.n N.n) (List.replicate N.n false).length ((List.replicate N.n false).map Value.bool)
 rw[List.length_replicate,List.map_replicate]
 exact⟨by simp,.inr ⟨w.heap.size,N.n,Array.replicate N.n (.bool false),rfl,Nat.zero_le _,n0,Nat.le_refl _,by unfold maxLen;omega,by simp,by simp⟩⟩
omit h in
theorem NdAt.drew'(_h:NdAt w K N):NdAt w.drew K N:=_h.ext ((Ext.refl w).drew)
omit h in
theorem NdTo.sent{w':World}{v' ev:Value}{N':Nd}(h':NdAt w' { K with ov:=v',evs:=K.evs++[ev] } N')(hC:Chg K.has w w')(hb:v'.ownBlock=K.ov.ownBlock∨∃k,v'.ownBlock=some k∧w.heap.size≤k)(he:∀k,some k=ev.ownBlock→w.heap.size≤k):NdTo K w w' N':=by
 refine⟨{ K with ov:=v',evs:=K.evs++[ev] },rfl,rfl,rfl,h',hC,fun k hk=>?_⟩
 rcases hk with e|e|e|e|e|e|e|e|⟨v,hv,e⟩
 ·exact .inl (.inl e)
 ·exact .inl (.inr (.inl e))
 ·exact .inl (.inr (.inr (.inl e)))
 ·exact .inl (.inr (.inr (.inr (.inl e))))
 ·exact .inl (.inr (.inr (.inr (.inr (.inl e)))))
 ·exact .inl (.inr (.inr (.inr (.inr (.inr (.inl e))))))
 ·exact .inl (.inr (.inr (.inr (.inr (.inr (.inr (.inl e)))))))
 ·have e':some k=v'.ownBlock:=e
  rcases hb with hb|⟨k',hb,hk'⟩
  ·exact .inl (.inr (.inr (.inr (.inr (.inr (.inr (.inr (.inl (e'.trans hb)))))))))
  ·rw[hb]at e'
   cases e'
   exact .inr hk'
 ·have hv':v∈K.evs++[ev]:=hv
  rcases List.mem_append.1 hv' with hv'|hv'
  ·exact .inl (.inr (.inr (.inr (.inr (.inr (.inr (.inr (.inr ⟨v,hv',e⟩))))))))
  ·rw[List.mem_singleton.1 hv']at e
   exact .inr (he k e)
theorem NdAt.setvt{g cap:Nat}(hvv:K.vv=.slice (some ⟨g,0,none⟩) N.votes.length cap){j:Nat}(hj:j<N.votes.length)(x:Bool):NdAt (w.setCell ⟨g,j,none⟩ (.bool x)) K { N with votes:=N.votes.set j x } := by
 have hc:Chg (fun k=>k=g) w (w.setCell ⟨g,j,none⟩ (.bool x)):=(Chg.refl (fun k=>k=g) w).setCell (p:=⟨g,j,none⟩) (.inl rfl) _
 have hg:some g=K.vv.ownBlock:=by rw[hvv];rfl
 have q:∀ {e:TypeId} {size:Nat} {v:Value} {n:Nat} {xs:List Value},w.ownsRow 0 e size v n xs→e≠4→(w.setCell ⟨g,j,none⟩ (.bool x)).ownsRow 0 e size v n xs:=fun ho h1=>q_keep ho hc fun k hk hs=>by
  have hs':k=g:=hs
  subst hs'
  exact q_apart2 ho h.vs h1 k hk hg
 have hr:K.r≠g:=fun e=>q_apart h.vs h.nd (by decide) (by rw[e];exact hg)
 have hd:K.d≠g:=fun e=>q_apart h.vs h.dk.1 (by decide) (by rw[e];exact hg)
 have hm:K.m≠g:=fun e=>q_map h.vs h.dk.2 (by rw[e];exact hg)
 refine⟨h.nd.chg hc hr,⟨h.dk.1.chg hc hd,h.dk.2.chg hc hm⟩,q h.lg (by decide),?_,q h.ms (by decide),q h.ns (by decide),⟨q h.os.own (by decide),h.os.len,fun i m ev hm he=>q (h.os.es i m ev hm he) (by decide)⟩,h.mn,h.le⟩
 have hns:=h.vs
 rw[hvv]at hns⊢
 have:=own_set hns (j:=j) (by omega) (.bool x)
 show(w.setCell ⟨g,j,none⟩ (.bool x)).ownsRow 0 4 1 _ (N.votes.set j x).length ((N.votes.set j x).map Value.bool)
 rw[List.length_set,List.map_set]
 exact this
set_option maxRecDepth 100000 in
set_option maxHeartbeats 4000000 in
theorem elect_any(hN:NdOk N)(hroom:N.fs.tot+100≤4194304)(hT:Tab w)(hTK:¬ K.has 0)(hts:TsOk N.stand.s)(hask:∀k,k≤N.n→NdOk (N.stand.askK k))
 (hcnt:∀(w':World) (K':Ka),NdAt w' K' N.stand.ask→K'.r=K.r→Tab w'→¬ K'.has 0→Calls Tryz.prog 112 #[.pointer (some ⟨K.r,0,none⟩)] w' fun e w''=>e=.returned (.tuple #[])∧NdTo K' w' w'' N.stand.ask.count) :
 Calls Tryz.prog 118 #[.pointer (some ⟨K.r,0,none⟩)] w fun e w'=>e=.returned (.tuple #[])∧NdTo K w w' N.elect:=by
 have htm:=hN.ts.term
 have hid:=hN.id
 have hn5:=hN.n
 have HW1:=Lib.hid (IntWalk.i64_in (N.s.term+1) (by omega))
 have HW2:=Lib.hid (IntWalk.i64_in ((N.id:Int)+1) (by omega))
 have HB1:=Lib.hid (show -9223372036854775808≤N.s.term+1∧N.s.term+1≤9223372036854775807 by omega)
 have HB2:=Lib.hid (show -9223372036854775808≤(N.id:Int)+1∧(N.id:Int)+1≤9223372036854775807 by omega)
 have HTS:=Lib.hid hts
 have HASK:=Lib.hid hask
 have HCNT:=Lib.hid hcnt
 clear hts hask hcnt
 go_enter Tryz.func118,Tryz.ntmps118
 go_wp2_with fail
 have hST:GQ.St K.has (fun b w=>NdAt w K (if b=true then N.keep (N.s.term+1) ((N.id:Int)+1)else N)) []:=⟨fun b w w' h hE=>h.ext hE,by
  intro gx hx
  cases hx⟩
 refine wp_region_phi (Γ := Nat→Value) (sgφ [.val (.pointer (some ⟨K.r,0,none⟩)),.val (.pointer (some ⟨K.r,0,none⟩)),.val (.pointer (some ⟨K.r,0,none⟩)),.val (.pointer (some ⟨K.r,3,none⟩)),.val (.pointer (some ⟨K.r,3,none⟩)),.val (.int .i64 N.s.term),.val (.int .i64 (N.s.term+1)),.val (.pointer (some ⟨K.r,0,none⟩)),.val (.pointer (some ⟨K.r,0,none⟩)),.val (.pointer (some ⟨K.r,1,none⟩)),.val (.int .i64 (N.id:Int)),.val (.int .i64 ((N.id:Int)+1)),.val (.bool true),.val (.bool false)])
  (GQ w K.has 12 (fun b w=>NdAt w K (if b=true then N.keep (N.s.term+1) ((N.id:Int)+1)else N)) [])
  (by kernel_rfl) (by kernel_rfl) (by kernel_rfl) (fun _=>undef) (GQ.start _ _ _ _ _ _ (h.ext ((Ext.refl w).drew))) ?steps ?fin
 case steps =>
  show StepsTo _ _ _ _ _ _ 14
  refine⟨⟨⟨⟨⟨⟨⟨⟨⟨⟨⟨⟨⟨⟨trivial,?s0⟩,?s1⟩,?s2⟩,?s3⟩,?s4⟩,?s5⟩,?s6⟩,?s7⟩,?s8⟩,?s9⟩,?s10⟩,?s11⟩,?s12⟩,?s13⟩
  case s0 =>
   refine sg_val (x:=.pointer (some ⟨K.r,0,none⟩)) rfl rfl rfl (GQ.keep (j:=0) (by decide) rfl) fun γ L v a w st=>?_
   have f0:=st.far 0 (by kernel_rfl)
   simp at f0
   go_simp
  case s1 =>
   refine sg_val (x:=.pointer (some ⟨K.r,0,none⟩)) rfl rfl rfl (GQ.keep (j:=1) (by decide) rfl) fun γ L v a w st=>?_
   have f0:=st.far 0 (by kernel_rfl)
   simp at f0
   go_simp
  case s2 =>
   refine sg_val (x:=.pointer (some ⟨K.r,0,none⟩)) rfl rfl rfl (GQ.keep (j:=2) (by decide) rfl) fun γ L v a w st=>?_
   have e1:=st.val 1 6 rfl (by kernel_rfl)
   rw[(st.φ 1 (by kernel_rfl):v 1=_)]at e1
   simp at e1
   go_simp
  case s3 =>
   refine sg_val (x:=.pointer (some ⟨K.r,3,none⟩)) rfl rfl rfl (GQ.keep (j:=3) (by decide) rfl) fun γ L v a w st=>?_
   have e2:=st.val 2 7 rfl (by kernel_rfl)
   rw[(st.φ 2 (by kernel_rfl):v 2=_)]at e2
   simp at e2
   go_simp
  case s4 =>
   refine sg_val (x:=.pointer (some ⟨K.r,3,none⟩)) rfl rfl rfl (GQ.keep (j:=4) (by decide) rfl) fun γ L v a w st=>?_
   have e3:=st.val 3 8 rfl (by kernel_rfl)
   rw[(st.φ 3 (by kernel_rfl):v 3=_)]at e3
   simp at e3
   go_simp
  case s5 =>
   refine sg_val (x:=.int .i64 N.s.term) rfl rfl rfl (GQ.keep (j:=5) (by decide) rfl) fun γ L v a w st=>?_
   have e4:=st.val 4 9 rfl (by kernel_rfl)
   rw[(st.φ 4 (by kernel_rfl):v 4=_)]at e4
   simp at e4
   have hpw:=st.inv.pw
   have hoff:L 12=false:=GAO.js_off (r:=[6,12]) st.down st.off (by kernel_rfl) (by simp)
   rw[hoff]at hpw
   simp only[Bool.false_eq_true,if_false]at hpw
   have hcl:=hpw.nd.cell 3
   simp[ndCells]at hcl
   go_simp
  case s6 =>
   refine sg_val (x:=.int .i64 (N.s.term+1)) rfl rfl rfl (GQ.keep (j:=6) (by decide) rfl) fun γ L v a w st=>?_
   have e5:=st.val 5 10 rfl (by kernel_rfl)
   rw[(st.φ 5 (by kernel_rfl):v 5=_)]at e5
   simp at e5
   go_simp
   exact HW1.out
  case s7 =>
   refine sg_val (x:=.pointer (some ⟨K.r,0,none⟩)) rfl rfl rfl (GQ.keep (j:=7) (by decide) rfl) fun γ L v a w st=>?_
   have f0:=st.far 0 (by kernel_rfl)
   simp at f0
   go_simp
  case s8 =>
   refine sg_val (x:=.pointer (some ⟨K.r,0,none⟩)) rfl rfl rfl (GQ.keep (j:=8) (by decide) rfl) fun γ L v a w st=>?_
   have e7:=st.val 7 12 rfl (by kernel_rfl)
   rw[(st.φ 7 (by kernel_rfl):v 7=_)]at e7
   simp at e7
   go_simp
  case s9 =>
   refine sg_val (x:=.pointer (some ⟨K.r,1,none⟩)) rfl rfl rfl (GQ.keep (j:=9) (by decide) rfl) fun γ L v a w st=>?_
   have e8:=st.val 8 13 rfl (by kernel_rfl)
   rw[(st.φ 8 (by kernel_rfl):v 8=_)]at e8
   simp at e8
   go_simp
  case s10 =>
   refine sg_val (x:=.int .i64 (N.id:Int)) rfl rfl rfl (GQ.keep (j:=10) (by decide) rfl) fun γ L v a w st=>?_
   have e9:=st.val 9 14 rfl (by kernel_rfl)
   rw[(st.φ 9 (by kernel_rfl):v 9=_)]at e9
   simp at e9
   have hpw:=st.inv.pw
   have hoff:L 12=false:=GAO.js_off (r:=[11,12]) st.down st.off (by kernel_rfl) (by simp)
   rw[hoff]at hpw
   simp only[Bool.false_eq_true,if_false]at hpw
   have hcl:=hpw.nd.cell 1
   simp[ndCells]at hcl
   go_simp
  case s11 =>
   refine sg_val (x:=.int .i64 ((N.id:Int)+1)) rfl rfl rfl (GQ.keep (j:=11) (by decide) rfl) fun γ L v a w st=>?_
   have e10:=st.val 10 15 rfl (by kernel_rfl)
   rw[(st.φ 10 (by kernel_rfl):v 10=_)]at e10
   simp at e10
   go_simp
   exact HW2.out
  case s12 =>
   refine sg_callv' (x:=.bool true) (f:=109) rfl rfl rfl fun γ L v a w st=>?_
   have e0:=st.val 0 5 rfl (by kernel_rfl)
   rw[(st.φ 0 (by kernel_rfl):v 0=_)]at e0
   simp at e0
   have e6:=st.val 6 11 rfl (by kernel_rfl)
   rw[(st.φ 6 (by kernel_rfl):v 6=_)]at e6
   simp at e6
   have e11:=st.val 11 16 rfl (by kernel_rfl)
   rw[(st.φ 11 (by kernel_rfl):v 11=_)]at e11
   simp at e11
   have hpw:=st.inv.pw
   rw[st.off]at hpw
   simp only[Bool.false_eq_true,if_false]at hpw
   refine⟨#[.pointer (some ⟨K.r,0,none⟩),.int .i64 (N.s.term+1),.int .i64 ((N.id:Int)+1)],by go_simp,?_⟩
   refine Calls.mono (keep_any hpw _ _ HB1.out HB2.out hroom (hT.chg st.inv.chg hTK)) ?_
   rintro e w' ⟨rfl,hN',hC'⟩
   exact⟨rfl,st.inv.write hC' (by simp only[if_true];exact hN') (by intro x hx;cases hx) rfl⟩
  case s13 =>
   refine sg_val (x:=.bool false) rfl rfl rfl (GQ.keep (j:=13) (by decide) rfl) fun γ L v a w st=>?_
   have e12:=st.val 12 17 rfl (by kernel_rfl)
   rw[(st.φ 12 (by kernel_rfl):v 12=_)]at e12
   simp at e12
   go_simp
 case fin =>
  intro γ L v w1 hall hG hφ
  have h13:v 13=(.bool false):=hφ 13 (by decide)
  have hA1:=hG.pw
  rw[hall 12 (by decide)]at hA1
  simp only[if_true]at hA1
  have hC1:=hG.chg
  clear hall hφ hG
  change Exit.then _ _ _ (putAll _ v _ 14) w1
  simp only[putAll,dstOf,Act.put]
  simp only[List.getElem?_toArray,List.getElem?_cons_zero,List.getElem?_cons_succ,Option.bind_some,List.setIfInBounds_toArray,List.set_cons_zero,List.set_cons_succ]
  rw[h13]
  clear h13
  have hT1:=hT.chg hC1 hTK
  have HC1:=Lib.hid hC1
  clear hC1 hT h
  rename World=>w1
  generalize v 0=z0
  generalize v 1=z1
  generalize v 2=z2
  generalize v 3=z3
  generalize v 4=z4
  generalize v 5=z5
  generalize v 6=z6
  generalize v 7=z7
  generalize v 8=z8
  generalize v 9=z9
  generalize v 10=z10
  generalize v 11=z11
  generalize v 12=z12
  clear v L γ
  have cf:=follow_any hA1 (-1)
  go_wp2_with fail
  refine cf.mono ?_
  rintro e w2 ⟨rfl,hA2,hC2⟩
  clear cf
  have d9:=hA2.nd.cell 9
  have d13:=hA2.nd.cell 13
  have f9:=hA2.nd.frozen 9
  have f13:=hA2.nd.frozen 13
  have hlt:=hA2.nd.lt
  simp[ndCells]at d9 d13
  have hA3:NdAt (w2.setCell ⟨K.r,9,none⟩ (.int .i64 1)) { K with vv:=.slice none 0 0,mv:=.slice none 0 0,nv:=.slice none 0 0 } { (N.keep (N.s.term+1) ((N.id:Int)+1)).follow (-1)with role:=1 } := hA2.set rfl rfl rfl rfl rfl rfl rfl
  have hA4:NdAt ((w2.setCell ⟨K.r,9,none⟩ (.int .i64 1)).setCell ⟨K.r,13,none⟩ (.int .i64 0)) { K with vv:=.slice none 0 0,mv:=.slice none 0 0,nv:=.slice none 0 0 } N.stand0:=hA3.set rfl rfl rfl rfl rfl rfl rfl
  have hC4:Chg (fun k=>k=K.r) w1 ((w2.setCell ⟨K.r,9,none⟩ (.int .i64 1)).setCell ⟨K.r,13,none⟩ (.int .i64 0)):=(hC2.setCell (p:=⟨K.r,9,none⟩) (.inl rfl) _).setCell (p:=⟨K.r,13,none⟩) (.inl rfl) _
  go_upto_region 3 with fail
  generalize (w2.setCell ⟨K.r,9,none⟩ (.int .i64 1)).setCell ⟨K.r,13,none⟩ (.int .i64 0)=w4 at hA4 hC4⊢
  clear hA1 hA2 hA3 hC2 d9 d13 f9 f13 hlt
  have e2:=hA4.nd.cell 2
  have e14:=hA4.nd.cell 14
  have g14:=hA4.nd.frozen 14
  have hlt:=hA4.nd.lt
  simp[ndCells,Nd.stand0,Nd.keep,Nd.follow]at e2 e14
  have hmk:=fun W=>q_make (t:=94) (e:=4) Tryz.underlying94 bool_info rfl (by decide) N.n (by omega) W
  have hA5:NdAt ((w4.setCell ⟨K.r,14,none⟩ (.slice (some ⟨w4.heap.size,0,none⟩) N.n N.n)).alloc (.cells (Array.replicate N.n (.bool false)) 4)) { K with vv:=.slice (some ⟨w4.heap.size,0,none⟩) N.n N.n,mv:=.slice none 0 0,nv:=.slice none 0 0 } { N.stand0 with votes:=List.replicate N.n false } := (hA4.voted hn5).1
  have hC5:Chg (fun k=>k=K.r) w4 ((w4.setCell ⟨K.r,14,none⟩ (.slice (some ⟨w4.heap.size,0,none⟩) N.n N.n)).alloc (.cells (Array.replicate N.n (.bool false)) 4)):=(hA4.voted hn5).2
  go_upto_region 4 with fail
  have hx4:w1.heap.size≤w4.heap.size:=hC4.size
  generalize (w4.setCell ⟨K.r,14,none⟩ (.slice (some ⟨w4.heap.size,0,none⟩) N.n N.n)).alloc (.cells (Array.replicate N.n (.bool false)) 4)=w5 at hA5 hC5⊢
  have hC15:Chg (fun k=>k=K.r) w1 w5:=hC4.trans hC5 (fun _ _ e=>e)
  obtain⟨x,hx⟩:∃x,x=w4.heap.size:=⟨_,rfl⟩
  rw[←hx]at hA5 hx4⊢
  clear hx hA4 hC4 hC5 hmk e2 e14 g14 hlt
  have e1:=hA5.nd.cell 1
  have e14:=hA5.nd.cell 14
  simp[ndCells,Nd.stand0,Nd.keep,Nd.follow]at e1 e14
  obtain⟨g,cc,hgv,hcap,hgl,hfz,hcells⟩:=q_some hA5.vs (by show 0<(List.replicate N.n false).length;rw[List.length_replicate];omega)
  have hgb:g=x:=by simp only[Value.slice.injEq,Option.some.injEq,Addr.mk.injEq]at hgv;exact hgv.1.1.symm
  subst hgb
  have m0:w5.cell? ⟨g,N.id,none⟩=some (.bool false):=by
   rw[hcells (by decide) N.id (by show N.id<(List.replicate N.n false).length * 1;rw[List.length_replicate];omega)]
   show((List.replicate N.n false).map Value.bool)[N.id]? = _
   rw[List.getElem?_map,List.getElem?_replicate,if_pos hid];rfl
  have f0:=hfz N.id
  have hA6:=(hA5.setvt (g:=g) (cap:=N.n) (by show _=Value.slice (some ⟨g,0,none⟩) (List.replicate N.n false).length N.n;rw[List.length_replicate]) (j:=N.id) (by show _<(List.replicate N.n false).length;rw[List.length_replicate];exact hid) true).drew'
  clear hgv hcap hcells hfz
  go_region
  have hC16:Chg (fun k=>k=K.r∨w1.heap.size≤k) w1 (w5.setCell ⟨g,N.id,none⟩ (.bool true)).drew:=((hC15.mono (fun k hk e=>.inl e)).setCell (p:=⟨g,N.id,none⟩) (.inl (.inr hx4)) _).drew
  generalize (w5.setCell ⟨g,N.id,none⟩ (.bool true)).drew=w6 at hA6 hC16⊢
  obtain⟨K6,hK6⟩:∃K6:Ka,K6 = { K with vv:=.slice (some ⟨g,0,none⟩) N.n N.n,mv:=.slice none 0 0,nv:=.slice none 0 0 } := ⟨_,rfl⟩
  have r1:K6.r=K.r:=by rw[hK6]
  have r2:K6.d=K.d:=by rw[hK6]
  have r3:K6.m=K.m:=by rw[hK6]
  have hA:NdAt w6 K6 N.stand:=by rw[hK6];exact hA6
  have hKK:∀k,K6.has k→K.has k∨w1.heap.size≤k:=by
   intro k hk
   rw[hK6]at hk
   rcases hk with e|e|e|e|e|e|e|e|e
   ·exact .inl (.inl e)
   ·exact .inl (.inr (.inl e))
   ·exact .inl (.inr (.inr (.inl e)))
   ·exact .inl (.inr (.inr (.inr (.inl e))))
   ·have e':k=g:=by simpa[Value.ownBlock]using e
    exact .inr (by omega)
   ·cases e
   ·cases e
   ·exact .inl (.inr (.inr (.inr (.inr (.inr (.inr (.inr (.inl e))))))))
   ·exact .inl (.inr (.inr (.inr (.inr (.inr (.inr (.inr (.inr e))))))))
  have hCK:Chg K.has w1 w6:=hC16.mono (fun k hk e=>e.elim .inl (fun e=>by omega))
  have hT6:=hT1.chg hCK hTK
  have hs1:=hT1.lt
  have hTK6:¬ K6.has 0:=fun hk=>by
   rcases hKK _ hk with e|e
   ·exact hTK e
   ·omega
  have HKK:=Lib.hid hKK
  have HCK:=Lib.hid hCK
  clear hA5 hA6 hC15 hC16 hK6 hKK hCK hx4 e1 e14 m0 f0 hgl hT1 hST
  have ct:=tlast_any w6 K6.r 3 N.stand.s K6.lv hA.ts HTS.out
  rw[r1]at ct
  go_wp2_with fail
  refine ct.mono ?_
  rintro e w7 ⟨rfl,hE7⟩
  clear ct
  have hA7:=hA.ext hE7
  have hT7:=hT6.ext hE7
  have e2:=hA7.nd.cell 2
  rw[r1]at e2
  simp[ndCells,Nd.stand,Nd.keep,Nd.follow]at e2
  have h70:NdTo K6 w7 w7 (N.stand.askK 0):=NdTo.refl hA7
  have HE7:=Lib.hid hE7
  clear hA hA7 hE7 hT6
  go_wp2_with fail
  go_loopw [55] (fun iv wr=>∃k:Nat,k≤N.n∧iv=.int .i64 (k:Int)∧NdTo K6 w7 wr (N.stand.askK k)) (fun iv _=>N.n - (intOf iv).toNat)
  case atStart=>exact⟨0,Nat.zero_le _,rfl,h70⟩
  case round =>
   obtain⟨k,hk,rfl,hTo⟩:=hrel
   rename World=>wr
   obtain⟨K1,s1,s2,s3,hA,hC,hKK⟩:=hTo
   obtain⟨p1,p2,p3,p4⟩:=askK_out N.stand k
   have hsucc:=askK_succ N.stand k
   have d1:=hA.nd.cell 1
   rw[s1,r1]at d1
   simp[ndCells]at d1
   rw[p2]at d1
   by_cases hlt:k<N.n
   ·by_cases hid2:k=N.id
    ·have hst:N.stand.askK (k+1)=N.stand.askK k:=by rw[hsucc];unfold Nd.askTo;rw[if_pos (by rw[p2];exact hid2)]
     have HST:=Lib.hid hst
     have hid3:((k:Int) != (N.stand.id:Int))=false:=by rw[hid2];simp[Nd.stand,Nd.keep,Nd.follow]
     have HTO:=Lib.hid (show NdTo K6 w7 wr (N.stand.askK k)from⟨K1,s1,s2,s3,hA,hC,hKK⟩)
     clear hsucc hst p1 p2 p3 p4 hid2 hA hC hKK
     go_wp2_with fail
     go_roundw
     case rel=>exact⟨k+1,Nat.succ_le_of_lt hlt,by go_num,by rw[HST.out];exact HTO.out⟩
     case measure=>simp[intOf];omega
    ·have hst:N.stand.askK (k+1)=(N.stand.askK k).send ⟨1,0,k,0,N.stand.s.last.1,N.stand.s.last.2,0,false,[],ByteArray.empty⟩:=by rw[hsucc];unfold Nd.askTo;rw[if_neg (by rw[p2];exact hid2),p1]
     have HST:=Lib.hid hst
     have hid3:((k:Int) != (N.stand.id:Int))=true:=by
      have e:N.stand.id=N.id:=rfl
      rw[e];simp;omega
     have cs:=send_any hA (HASK.out k (Nat.le_of_lt hlt)) ⟨1,0,k,0,N.stand.s.last.1,N.stand.s.last.2,0,false,[],ByteArray.empty⟩ (.slice none 0 0) (World.ownsRow_nil _ _ _ _) (fun k hk=>by cases hk)
     rw[s1,r1]at cs
     have hss:∃y,y=NdTo K6 w7 wr (N.stand.askK k):=⟨_,rfl⟩
     clear hsucc hst p1 p2 p3 p4 hid2 hss
     have cs':Calls Tryz.prog 155 #[.pointer (some ⟨K.r,0,none⟩),.agg #[.int .i64 1,.int .i64 0,.int .i64 (k:Int),.int .i64 0,.int .i64 N.stand.s.last.1,.int .i64 N.stand.s.last.2,.int .i64 0,.bool false,.slice none 0 0,.string ⟨#[]⟩]] wr _:=cs
     clear cs
     have HHC:=Lib.hid hC
     have HHK:=Lib.hid hKK
     have HHA:=Lib.hid hA
     clear hA hC hKK
     go_wp2_with fail
     refine cs'.mono ?_
     rintro e w8 ⟨rfl,v',hA8,hC8,hb8⟩
     clear cs'
     have hTo8:NdTo K6 w7 w8 (N.stand.askK (k+1)):=by
      rw[HST.out]
      rw[show K.r=K1.r from(s1.trans r1).symm]at hA8
      exact NdTo.next s1 s2 s3 HHC.out HHK.out (NdTo.sent hA8 hC8 hb8 (fun _ hk=>by cases hk))
     have HTO:=Lib.hid hTo8
     clear hTo8 hA8 hC8 hb8
     go_wp2_with fail
     go_roundw
     case rel=>exact⟨k+1,Nat.succ_le_of_lt hlt,by go_num,HTO.out⟩
     case measure=>simp[intOf];omega
   ·obtain rfl:k=N.n:=by omega
    have hask:N.stand.askK N.n=N.stand.ask:=rfl
    rw[hask]at hA
    have hTr:Tab wr:=hT7.chg hC hTK6
    have hTK1:¬ K1.has 0:=fun hk=>by
     rcases hKK _ hk with e|e
     ·exact hTK6 e
     ·have:=hT7.lt;omega
    have cc:=HCNT.out wr K1 hA (s1.trans r1) hTr hTK1
    clear hsucc p1 p2 p3 p4 d1 hask
    have HHC:=Lib.hid hC
    have HHK:=Lib.hid hKK
    clear hC hKK hA
    go_wp2_with fail
    refine cc.mono ?_
    rintro e w9 ⟨rfl,hT9⟩
    clear cc
    go_wp2_with fail
    first|go_end0|refine bodyPost_ret (results_none rfl _ _ _) rfl ?_
    have he:N.elect=N.stand.ask.count:=rfl
    rw[he]
    exact⟨rfl,NdTo.next rfl rfl rfl HC1.out (fun _ e=>.inl e) (NdTo.next r1 r2 r3 HCK.out HKK.out (NdTo.ext_next HE7.out (NdTo.next s1 s2 s3 HHC.out HHK.out hT9)))⟩
end
end Go.Proofs.YtkkbfdencgdbhaaGreatDoor
namespace Go.Proofs.YtkkbfdencgdbhaaGreatDoor
open Go.RowKit Go.Sort
section
variable{W:World}{K:Ka}{N:Nd}(h:NdAt W K N)
include h
set_option maxRecDepth 100000 in
theorem tick_lead(hr:N.role=2)(hn:N.n≤5)(hl:LackOk K N):Calls Tryz.prog 68 #[.pointer (some ⟨K.r,0,none⟩)] W fun e w'=>e=.returned (.tuple #[])∧NdTo K W w' N.sendAll:=by
 have c18:=h.nd.cell 18
 have c9:=h.nd.cell 9
 simp[ndCells]at c18 c9
 have ht:(N.role == 2)=true:=by simpa using hr
 have cs:=sendall_any h hn hl
 clear hr hl
 go_enter Tryz.func68,Tryz.ntmps68
 go_wp2_with fail
 refine cs.mono ?_
 rintro e w1 ⟨rfl,hT⟩
 go_wp2_with fail
 first|go_end0|refine bodyPost_ret (results_none rfl _ _ _) rfl ?_
 exact⟨rfl,hT⟩
set_option maxRecDepth 100000 in
theorem tick_wait(hr:N.role≠2)(hti:0≤N.timer)(ht:N.timer+1<4+2 * (N.id:Int))(hid:N.id≤5):Calls Tryz.prog 68 #[.pointer (some ⟨K.r,0,none⟩)] W fun e w'=>e=.returned (.tuple #[])∧NdTo K W w' { N with timer:=N.timer+1 } := by
 have c18:=h.nd.cell 18
 have c9:=h.nd.cell 9
 have c13:=h.nd.cell 13
 have c1:=h.nd.cell 1
 have f13:=h.nd.frozen 13
 have hlt:=h.nd.lt
 simp[ndCells]at c18 c9 c13 c1
 have htr:(N.role == 2)=false:=by simpa using hr
 have hts:decide (4+2 * (N.id:Int)≤N.timer+1)=false:=by simp;omega
 have h1:NdAt (W.setCell ⟨K.r,13,none⟩ (.int .i64 (N.timer+1))) K { N with timer:=N.timer+1 } := h.set rfl rfl rfl rfl rfl rfl rfl
 have c1b:=h1.nd.cell 1
 have c13b:=h1.nd.cell 13
 simp[ndCells]at c1b c13b
 clear hr
 go_enter Tryz.func68,Tryz.ntmps68
 go_wp2_with fail
 go_region
 all_goals
  go_wp2_with fail
  first|go_end0|refine bodyPost_ret (results_none rfl _ _ _) rfl ?_
  exact⟨rfl,NdTo.then_ext (NdTo.of h1 (chg_r K W 13 _)) ((Ext.refl _).drew)⟩
set_option maxRecDepth 100000 in
theorem tick_elect(hr:N.role≠2)(hti:0≤N.timer∧N.timer≤1000)(ht:4+2 * (N.id:Int)≤N.timer+1)(hid:N.id≤5)
 (ce:∀w' K',NdAt w' K' { N with timer:=N.timer+1 } → K'.r=K.r→K'.has=K.has→Ext (W.setCell ⟨K.r,13,none⟩ (.int .i64 (N.timer+1))) w'→Calls Tryz.prog 118 #[.pointer (some ⟨K.r,0,none⟩)] w' fun e w''=>e=.returned (.tuple #[])∧NdTo K' w' w'' (Nd.elect { N with timer:=N.timer+1 })) :
 Calls Tryz.prog 68 #[.pointer (some ⟨K.r,0,none⟩)] W fun e w'=>e=.returned (.tuple #[])∧NdTo K W w' (Nd.elect { N with timer:=N.timer+1 }):=by
 have c18:=h.nd.cell 18
 have c9:=h.nd.cell 9
 have c13:=h.nd.cell 13
 have c1:=h.nd.cell 1
 have f13:=h.nd.frozen 13
 have hlt:=h.nd.lt
 simp[ndCells]at c18 c9 c13 c1
 have htr:(N.role == 2)=false:=by simpa using hr
 have hts:decide (4+2 * (N.id:Int)≤N.timer+1)=true:=by simp;omega
 have h1:NdAt (W.setCell ⟨K.r,13,none⟩ (.int .i64 (N.timer+1))) K { N with timer:=N.timer+1 } := h.set rfl rfl rfl rfl rfl rfl rfl
 have c1b:=h1.nd.cell 1
 have c13b:=h1.nd.cell 13
 simp[ndCells]at c1b c13b
 have h2:=h1.ext ((Ext.refl _).drew)
 have cc:=ce _ K h2 rfl rfl ((Ext.refl _).drew)
 have HT:=Lib.hid (fun w' (hh:NdTo K (W.setCell ⟨K.r,13,none⟩ (.int .i64 (N.timer+1))).drew w' (Nd.elect { N with timer:=N.timer+1 }))=>NdTo.next rfl rfl rfl ((chg_r K W 13 (.int .i64 (N.timer+1))).drew) (fun _ e=>.inl e) hh)
 clear hr h1 h2 ce
 go_enter Tryz.func68,Tryz.ntmps68
 go_wp2_with fail
 go_region
 all_goals
  go_wp2_with fail
  refine cc.mono ?_
  rintro e w1 ⟨rfl,hT⟩
  go_wp2_with fail
  first|go_end0|refine bodyPost_ret (results_none rfl _ _ _) rfl ?_
  exact⟨rfl,HT.out _ hT⟩
set_option maxRecDepth 100000 in
theorem propose_any(hN:NdOk N)(hr:N.role=2)(c:ByteArray)(hc:c.size≤100000)(hlast:0≤N.s.last.1∧N.s.last.1<1099511627776)(hlen:N.s.log.length<1000)(hid:N.id<N.mt.length)(hroom:N.fs.tot+osz N.fs.lg+100+c.size≤4194304)
 (hT:Tab W) (hTK:¬ K.has 0) (hl:∀K1:Ka,K1.r=K.r→LackOk K1 (N.add c)) (hok:NdOk (N.add c).sendAll) :
 Calls Tryz.prog 38 #[.pointer (some ⟨K.r,0,none⟩),.string c] W fun e w'=>e=.returned (.tuple #[.int .i64 (N.s.last.1+1),.int .i64 (N.append c).s.term,.int .i64 0])∧NdTo K W w' (N.append c):=by
 have c18:=h.nd.cell 18
 have c9:=h.nd.cell 9
 simp[ndCells]at c18 c9
 have ht:(N.role != 2)=false:=by simp[hr]
 have hroom':N.fs.tot+osz N.fs.lg+(enFs [N.nextE c]).length≤4194304:=by
  have h2:=frameL_length (N.nextE c).enc
  have h3:=(N.nextE c).enc_len
  have h4:(N.nextE c).c.size=c.size:=rfl
  have h5:(enFs [N.nextE c]).length=(frameL (N.nextE c).enc).length:=by simp[enFs]
  omega
 rw[add_addE]at hok
 simp only[add_addE]at hl
 have ca:Calls Tryz.prog 83 #[.pointer (some ⟨K.r,0,none⟩),.string c] W _:=appendE_any h hN (N.nextE c) rfl rfl hc hlast hlen hid hroom' hT hTK hl hok
 rw[←append_addE]at ca
 have hei:(N.nextE c).i=N.s.last.1+1:=rfl
 rw[hei]at ca
 clear hr hl hok hei hroom'
 generalize N.append c=N2 at ca⊢
 go_enter Tryz.func38,Tryz.ntmps38
 go_wp2_with fail
 refine ca.mono ?_
 rintro e w1 ⟨rfl,K1,r1,r2,r3,hA,hC,hKK⟩
 clear ca
 have d18:=hA.nd.cell 18
 have d3:=hA.nd.cell 3
 rw[r1]at d18 d3
 simp[ndCells]at d18 d3
 have HT:=Lib.hid (show NdTo K W w1 N2 from⟨K1,r1,r2,r3,hA,hC,hKK⟩)
 clear hA hC hKK
 go_wp2_with fail
 go_region
 all_goals
  go_wp2_with fail
  go_ret3
  exact⟨rfl,HT.out.then_ext ((Ext.refl _).drew)⟩
def Nd.freshE(N:Nd):List En:=N.s.from_ (N.applied+1) (N.commit - N.applied)
def Nd.fresh(N:Nd):Nd := { N with applied:=(N.freshE.getLast?.map En.i).getD N.applied }
set_option maxRecDepth 100000 in
set_option maxHeartbeats 2000000 in
theorem fresh_any(hN:NdOk N)(hap:N.s.base≤N.applied∧N.applied≤N.commit) :
 Calls Tryz.prog 14 #[.pointer (some ⟨K.r,0,none⟩)] W fun e w'=>∃v,e=.returned (.tuple #[.string ⟨#[]⟩,.bool false,v])∧w'.ownsRow W.heap.size 49 3 v N.freshE.length (enRows N.freshE)∧NdAt w' K N.fresh∧Chg (fun k=>k=K.r) W w':=by
 have c12:=h.nd.cell 12
 have c5:=h.nd.cell 5
 simp[ndCells]at c12 c5
 have hb:=hN.ts.base
 have hc:=hN.commit
 have htb:decide (N.applied<N.s.base)=false:=by simp;omega
 have HW1:=Lib.hid (IntWalk.i64_in (N.applied+1) (by omega))
 have HW2:=Lib.hid (IntWalk.i64_in (N.commit - N.applied) (by omega))
 have HB1:=Lib.hid (show -9223372036854775808≤N.applied+1∧N.applied+1≤9223372036854775807 by omega)
 have HB2:=Lib.hid (show 0≤N.commit - N.applied∧N.commit - N.applied≤9223372036854775807 by omega)
 have hfl:=Ts.from_len N.s (N.applied+1) (N.commit - N.applied)
 have hll:=hN.ts.len
 go_enter Tryz.func14,Tryz.ntmps14
 go_wp2_with fail
 go_region
 have hW:=h.ext ((Ext.refl W).drew)
 have HEW:=Lib.hid ((Ext.refl W).drew)
 clear h c12 c5
 have hsz:W.drew.heap.size=W.heap.size:=rfl
 have HSZ:=Lib.hid hsz
 clear hsz
 generalize hWd:W.drew=W1 at hW HEW HSZ⊢
 clear hWd
 have h:=hW
 clear hW
 go_wp2_with fail
 have hST:GQ.St (fun _=>False) (fun _ _=>True) [⟨17,0,fun _ v w=>w.ownsRow W1.heap.size 49 3 v (N.s.from_ (N.applied+1) (N.commit - N.applied)).length (enRows (N.s.from_ (N.applied+1) (N.commit - N.applied)))⟩,⟨18,1,fun _ v w=>w.ownsRow W1.heap.size 49 3 v (N.s.from_ (N.applied+1) (N.commit - N.applied)).length (enRows (N.s.from_ (N.applied+1) (N.commit - N.applied)))⟩]:=⟨fun _ _ _ h _=>h,by
  intro gx hx
  rcases List.mem_cons.1 hx with rfl|hx
  ·exact fun b v w w' h hE=>own_ext h hE
  rcases List.mem_cons.1 hx with rfl|hx
  ·exact fun b v w w' h hE=>own_ext h hE
  cases hx⟩
 refine wp_region_phi (Γ := Nat→Value) (sgφ [.val (.pointer (some ⟨K.r,0,none⟩)),.val (.pointer (some ⟨K.r,0,none⟩)),.val (.pointer (some ⟨K.r,3,none⟩)),.val (.pointer (some ⟨K.r,0,none⟩)),.val (.pointer (some ⟨K.r,0,none⟩)),.val (.pointer (some ⟨K.r,12,none⟩)),.val (.int .i64 N.applied),.val (.int .i64 (N.applied+1)),.val (.pointer (some ⟨K.r,0,none⟩)),.val (.pointer (some ⟨K.r,0,none⟩)),.val (.pointer (some ⟨K.r,11,none⟩)),.val (.int .i64 N.commit),.val (.pointer (some ⟨K.r,0,none⟩)),.val (.pointer (some ⟨K.r,0,none⟩)),.val (.pointer (some ⟨K.r,12,none⟩)),.val (.int .i64 N.applied),.val (.int .i64 (N.commit - N.applied)),.g 0,.g 1])
  (GQ W1 (fun _=>False) 1000 (fun _ _=>True) [⟨17,0,fun _ v w=>w.ownsRow W1.heap.size 49 3 v (N.s.from_ (N.applied+1) (N.commit - N.applied)).length (enRows (N.s.from_ (N.applied+1) (N.commit - N.applied)))⟩,⟨18,1,fun _ v w=>w.ownsRow W1.heap.size 49 3 v (N.s.from_ (N.applied+1) (N.commit - N.applied)).length (enRows (N.s.from_ (N.applied+1) (N.commit - N.applied)))⟩])
  (by kernel_rfl) (by kernel_rfl) (by kernel_rfl) (fun _=>undef) (GQ.start _ _ _ _ _ _ (trivial)) ?steps ?fin
 case steps =>
  show StepsTo _ _ _ _ _ _ 19
  refine⟨⟨⟨⟨⟨⟨⟨⟨⟨⟨⟨⟨⟨⟨⟨⟨⟨⟨⟨trivial,?s0⟩,?s1⟩,?s2⟩,?s3⟩,?s4⟩,?s5⟩,?s6⟩,?s7⟩,?s8⟩,?s9⟩,?s10⟩,?s11⟩,?s12⟩,?s13⟩,?s14⟩,?s15⟩,?s16⟩,?s17⟩,?s18⟩
  case s0 =>
   refine sg_val (x:=.pointer (some ⟨K.r,0,none⟩)) rfl rfl rfl (GQ.keep (j:=0) (by decide) rfl) fun γ L v a w st=>?_
   have f0:=st.far 0 (by kernel_rfl)
   simp at f0
   go_simp
  case s1 =>
   refine sg_val (x:=.pointer (some ⟨K.r,0,none⟩)) rfl rfl rfl (GQ.keep (j:=1) (by decide) rfl) fun γ L v a w st=>?_
   have e0:=st.val 0 30 rfl (by kernel_rfl)
   rw[(st.φ 0 (by kernel_rfl):v 0=_)]at e0
   simp at e0
   go_simp
  case s2 =>
   refine sg_val (x:=.pointer (some ⟨K.r,3,none⟩)) rfl rfl rfl (GQ.keep (j:=2) (by decide) rfl) fun γ L v a w st=>?_
   have e1:=st.val 1 31 rfl (by kernel_rfl)
   rw[(st.φ 1 (by kernel_rfl):v 1=_)]at e1
   simp at e1
   go_simp
  case s3 =>
   refine sg_val (x:=.pointer (some ⟨K.r,0,none⟩)) rfl rfl rfl (GQ.keep (j:=3) (by decide) rfl) fun γ L v a w st=>?_
   have f0:=st.far 0 (by kernel_rfl)
   simp at f0
   go_simp
  case s4 =>
   refine sg_val (x:=.pointer (some ⟨K.r,0,none⟩)) rfl rfl rfl (GQ.keep (j:=4) (by decide) rfl) fun γ L v a w st=>?_
   have e3:=st.val 3 33 rfl (by kernel_rfl)
   rw[(st.φ 3 (by kernel_rfl):v 3=_)]at e3
   simp at e3
   go_simp
  case s5 =>
   refine sg_val (x:=.pointer (some ⟨K.r,12,none⟩)) rfl rfl rfl (GQ.keep (j:=5) (by decide) rfl) fun γ L v a w st=>?_
   have e4:=st.val 4 34 rfl (by kernel_rfl)
   rw[(st.φ 4 (by kernel_rfl):v 4=_)]at e4
   simp at e4
   go_simp
  case s6 =>
   refine sg_val (x:=.int .i64 N.applied) rfl rfl rfl (GQ.keep (j:=6) (by decide) rfl) fun γ L v a w st=>?_
   have e5:=st.val 5 35 rfl (by kernel_rfl)
   rw[(st.φ 5 (by kernel_rfl):v 5=_)]at e5
   simp at e5
   have hcl:=(h.ext (st.inv.off (fun _ h=>h))).nd.cell 12
   simp[ndCells]at hcl
   go_simp
  case s7 =>
   refine sg_val (x:=.int .i64 (N.applied+1)) rfl rfl rfl (GQ.keep (j:=7) (by decide) rfl) fun γ L v a w st=>?_
   have e6:=st.val 6 36 rfl (by kernel_rfl)
   rw[(st.φ 6 (by kernel_rfl):v 6=_)]at e6
   simp at e6
   go_simp
   exact HW1.out
  case s8 =>
   refine sg_val (x:=.pointer (some ⟨K.r,0,none⟩)) rfl rfl rfl (GQ.keep (j:=8) (by decide) rfl) fun γ L v a w st=>?_
   have f0:=st.far 0 (by kernel_rfl)
   simp at f0
   go_simp
  case s9 =>
   refine sg_val (x:=.pointer (some ⟨K.r,0,none⟩)) rfl rfl rfl (GQ.keep (j:=9) (by decide) rfl) fun γ L v a w st=>?_
   have e8:=st.val 8 38 rfl (by kernel_rfl)
   rw[(st.φ 8 (by kernel_rfl):v 8=_)]at e8
   simp at e8
   go_simp
  case s10 =>
   refine sg_val (x:=.pointer (some ⟨K.r,11,none⟩)) rfl rfl rfl (GQ.keep (j:=10) (by decide) rfl) fun γ L v a w st=>?_
   have e9:=st.val 9 39 rfl (by kernel_rfl)
   rw[(st.φ 9 (by kernel_rfl):v 9=_)]at e9
   simp at e9
   go_simp
  case s11 =>
   refine sg_val (x:=.int .i64 N.commit) rfl rfl rfl (GQ.keep (j:=11) (by decide) rfl) fun γ L v a w st=>?_
   have e10:=st.val 10 40 rfl (by kernel_rfl)
   rw[(st.φ 10 (by kernel_rfl):v 10=_)]at e10
   simp at e10
   have hcl:=(h.ext (st.inv.off (fun _ h=>h))).nd.cell 11
   simp[ndCells]at hcl
   go_simp
  case s12 =>
   refine sg_val (x:=.pointer (some ⟨K.r,0,none⟩)) rfl rfl rfl (GQ.keep (j:=12) (by decide) rfl) fun γ L v a w st=>?_
   have f0:=st.far 0 (by kernel_rfl)
   simp at f0
   go_simp
  case s13 =>
   refine sg_val (x:=.pointer (some ⟨K.r,0,none⟩)) rfl rfl rfl (GQ.keep (j:=13) (by decide) rfl) fun γ L v a w st=>?_
   have e12:=st.val 12 42 rfl (by kernel_rfl)
   rw[(st.φ 12 (by kernel_rfl):v 12=_)]at e12
   simp at e12
   go_simp
  case s14 =>
   refine sg_val (x:=.pointer (some ⟨K.r,12,none⟩)) rfl rfl rfl (GQ.keep (j:=14) (by decide) rfl) fun γ L v a w st=>?_
   have e13:=st.val 13 43 rfl (by kernel_rfl)
   rw[(st.φ 13 (by kernel_rfl):v 13=_)]at e13
   simp at e13
   go_simp
  case s15 =>
   refine sg_val (x:=.int .i64 N.applied) rfl rfl rfl (GQ.keep (j:=15) (by decide) rfl) fun γ L v a w st=>?_
   have e14:=st.val 14 44 rfl (by kernel_rfl)
   rw[(st.φ 14 (by kernel_rfl):v 14=_)]at e14
   simp at e14
   have hcl:=(h.ext (st.inv.off (fun _ h=>h))).nd.cell 12
   simp[ndCells]at hcl
   go_simp
  case s16 =>
   refine sg_val (x:=.int .i64 (N.commit - N.applied)) rfl rfl rfl (GQ.keep (j:=16) (by decide) rfl) fun γ L v a w st=>?_
   have e11:=st.val 11 41 rfl (by kernel_rfl)
   rw[(st.φ 11 (by kernel_rfl):v 11=_)]at e11
   simp at e11
   have e15:=st.val 15 45 rfl (by kernel_rfl)
   rw[(st.φ 15 (by kernel_rfl):v 15=_)]at e15
   simp at e15
   go_simp
   exact HW2.out
  case s17 =>
   refine sg_call (k:=0) (f:=43) rfl rfl rfl (by kernel_rfl) fun γ L v a w st=>?_
   have e2:=st.val 2 32 rfl (by kernel_rfl)
   rw[(st.φ 2 (by kernel_rfl):v 2=_)]at e2
   simp at e2
   have e7:=st.val 7 37 rfl (by kernel_rfl)
   rw[(st.φ 7 (by kernel_rfl):v 7=_)]at e7
   simp at e7
   have e16:=st.val 16 46 rfl (by kernel_rfl)
   rw[(st.φ 16 (by kernel_rfl):v 16=_)]at e16
   simp at e16
   have hE0:=st.inv.off (fun _ h=>h)
   have cf:=tfrom_any w K.r 3 N.s K.lv ((h.ext hE0).ts) hN.ts (N.applied+1) (N.commit - N.applied) HB1.out HB2.out
   refine⟨#[.pointer (some ⟨K.r,3,none⟩),.int .i64 (N.applied+1),.int .i64 (N.commit - N.applied)],by go_simp,cf.mono ?_⟩
   rintro e w' ⟨x,rfl,hO,hE⟩
   refine⟨x,rfl,st.inv.new hST hE (by decide) rfl ?_⟩
   intro gx hx hxj
   rcases List.mem_cons.1 hx with rfl|hx
   ·exact⟨rfl,q_base hO hE0.size⟩
   rcases List.mem_cons.1 hx with rfl|hx
   ·exact absurd (show(18:Nat)=17 from hxj) (by decide)
   cases hx
  case s18 =>
   refine sg_new (k:=1) rfl rfl rfl (by kernel_rfl) fun γ L v a w st=>?_
   have e17:=st.val 17 47 rfl (by kernel_rfl)
   rw[(st.φ 17 (by kernel_rfl):v 17=_)]at e17
   have hg17:=st.inv.gh ⟨17,0,fun _ v w=>w.ownsRow W1.heap.size 49 3 v (N.s.from_ (N.applied+1) (N.commit - N.applied)).length (enRows (N.s.from_ (N.applied+1) (N.commit - N.applied)))⟩ (by simp) (st.dep 17 (by kernel_rfl))
   obtain⟨xA,xc,hxv,_⟩:=q_slc hg17
   refine⟨γ 0,w,by rw[hxv]at e17⊢;go_simp,st.inv.new hST (Ext.refl w) (by decide) rfl ?_⟩
   intro gx hx hxj
   rcases List.mem_cons.1 hx with rfl|hx
   ·exact absurd (show(17:Nat)=18 from hxj) (by decide)
   rcases List.mem_cons.1 hx with rfl|hx
   ·exact⟨rfl,hg17⟩
   cases hx
 case fin =>
  intro γ L v wr hall hG hφ
  have hO:=hG.gh ⟨18,1,fun _ v w=>w.ownsRow W1.heap.size 49 3 v (N.s.from_ (N.applied+1) (N.commit - N.applied)).length (enRows (N.s.from_ (N.applied+1) (N.commit - N.applied)))⟩ (by simp) (hall 18 (by decide))
  have hv18:v 18 = γ 1:=hφ 18 (by decide)
  have hE:=hG.off (fun _ h=>h)
  clear hall hφ hG
  change Exit.then _ _ _ (putAll _ v _ 19) wr
  simp only[putAll,dstOf,Act.put]
  simp only[List.getElem?_toArray,List.getElem?_cons_zero,List.getElem?_cons_succ,Option.bind_some,List.setIfInBounds_toArray,List.set_cons_zero,List.set_cons_succ]
  have hfr:N.s.from_ (N.applied+1) (N.commit - N.applied)=N.freshE:=rfl
  rw[hfr]at hfl
  replace hO:wr.ownsRow W1.heap.size 49 3 (γ 1) N.freshE.length (enRows N.freshE):=hO
  rw[hv18]
  have hE0:Ext W1 wr:=hE
  have hA:=h.ext hE0
  have hEE:Ext W wr:=HEW.out.trans hE0
  rw[HSZ.out]at hO
  clear hST hv18 hE hE0 h
  generalize γ 1=lv at hO⊢
  generalize v 0=z0
  generalize v 1=z1
  generalize v 2=z2
  generalize v 3=z3
  generalize v 4=z4
  generalize v 5=z5
  generalize v 6=z6
  generalize v 7=z7
  generalize v 8=z8
  generalize v 9=z9
  generalize v 10=z10
  generalize v 11=z11
  generalize v 12=z12
  generalize v 13=z13
  generalize v 14=z14
  generalize v 15=z15
  generalize v 16=z16
  generalize v 17=z17
  clear v L γ
  obtain⟨A,c,hlv,hcap⟩:=q_slc hO
  have HFD:=Lib.hid (show N.fresh = { N with applied:=(N.freshE.getLast?.map En.i).getD N.applied } from rfl)
  by_cases hne:N.freshE.length=0
  ·have hnil:N.freshE=[]:=List.eq_nil_of_length_eq_zero hne
   have hfre:N.fresh=N:=by rw[HFD.out,hnil];rfl
   have HF:=Lib.hid hfre
   have HO:=Lib.hid hO
   rw[hnil]at hlv
   subst hlv
   clear hfre hO hne hnil
   go_wp2_with fail
   go_ret3
   rw[HF.out]
   exact⟨_,rfl,HO.out,hA,hEE.chg⟩
  ·obtain⟨n,hn⟩:∃n,N.freshE.length=n+1:=⟨N.freshE.length - 1,by omega⟩
   obtain⟨x,hx⟩:∃x,N.freshE[n]? = some x:=⟨_,List.getElem?_eq_getElem (by omega)⟩
   obtain⟨g,p,c',hv,r0,r1,r2⟩:=ens_some (Sln.of_own (xs:=N.freshE.map En.row) (by rw[←enRows_eq];exact hO) (en_three _) (by rw[List.length_map])) hx
   have hfre:N.fresh = { N with applied:=x.i } := by
    rw[HFD.out,List.getLast?_eq_getElem?,hn,show n+1 - 1=n from rfl,hx];rfl
   have HF:=Lib.hid hfre
   have HO:=Lib.hid hO
   have f12:=hA.nd.frozen 12
   have d12:=hA.nd.cell 12
   have hlt:=hA.nd.lt
   simp[ndCells]at d12
   have hn1:n+1≤1000:=by omega
   rw[hn]at hv
   subst hv
   clear hfre hO hne hlv hcap hx hn hfl
   go_wp2_with fail
   go_ret3
   rw[HF.out]
   have hC1:Chg (fun k=>k=K.r) wr (wr.setCell ⟨K.r,12,none⟩ (.int .i64 x.i)):=(Chg.refl (fun k=>k=K.r) wr).setCell (p:=⟨K.r,12,none⟩) (.inl rfl) _
   refine⟨_,rfl,q_keep HO.out hC1 (fun k hk e=>?_),hA.set rfl rfl rfl rfl rfl rfl rfl,hEE.chg_trans hC1⟩
   have e':k=K.r:=e
   rw[e']at hk
   exact q_apart HO.out hA.nd (by decide) hk
end
end Go.Proofs.YtkkbfdencgdbhaaGreatDoor
namespace Go.Proofs.YtkkbfdencgdbhaaGreatDoor
open Go.RowKit Go.Sort
section
variable{W:World}{K:Ka}{N:Nd}(h:NdAt W K N)
include h
end
end Go.Proofs.YtkkbfdencgdbhaaGreatDoor
namespace Go.Proofs.YtkkbfdencgdbhaaGreatDoor
open Go.RowKit Go.Sort
def Nd.opened(id n:Nat)(S:Ts)(F:Fs):Nd:=⟨id,n,S,0, -1,S.base,S.base,0,[],[],[],[],F⟩
def Ka.opened(r d m:Nat):Ka:=⟨r,d,m,.slice none 0 0,.slice none 0 0,.slice none 0 0,.slice none 0 0,.slice none 0 0,[]⟩
set_option maxRecDepth 100000 in
set_option maxHeartbeats 1000000 in
theorem open_any(w:World)(d m:Nat)(F:Fs)(hD:DkAt w d m F.dk)(hF:F.tot≤4194304)(S:Ts)(hS:fsSays F S)(hT:Tab w)(hTd:¬ 0=d)(id n:Nat)(hn:n≤5)(hid:id<n) :
 Calls Tryz.prog 52 #[.pointer (some ⟨d,0,none⟩),.int .i64 (id:Int),.int .i64 (n:Int)] w fun e w'=>∃r,e=.returned (.tuple #[.pointer (some ⟨r,0,none⟩),.int .i64 0])∧w.heap.size≤r∧NdAt w' (Ka.opened r d m) (Nd.opened id n S F)∧Chg (fun k=>k=d) w w':=by
 have cl:=load_any w d m F hD hF S hS hT hTd
 unfold tsZ at cl
 have hlog:=hS.2.1
 have t1:decide ((n:Int)<1)=false:=by simp <;> omega
 have t2:decide ((5:Int)<(n:Int))=false:=by simp <;> omega
 have t3:decide ((id:Int)<0)=false:=by simp <;> omega
 have t4:decide ((n:Int)≤(id:Int))=false:=by simp <;> omega
 have HLG:=Lib.hid hlog
 clear hS hlog
 go_enter Tryz.func52,Tryz.ntmps52
 go_wp2_with fail
 refine cl.mono ?_
 rintro e w1 ⟨rfl,hC1,hD1⟩
 clear cl
 go_wp2_with fail
 go_ret2
 have hA:=At.new (w1.alloc (.cells #[.int .i64 S.term,.int .i64 S.vote,.int .i64 S.base,.int .i64 S.bterm,.string S.sn,.slice none 0 0] 58)) 96 (ndCells (Ka.opened (w1.alloc (.cells #[.int .i64 S.term,.int .i64 S.vote,.int .i64 S.base,.int .i64 S.bterm,.string S.sn,.slice none 0 0] 58)).heap.size d m) (Nd.opened id n S F))
 have hE:=((Ext.refl w1).alloc (.cells #[.int .i64 S.term,.int .i64 S.vote,.int .i64 S.base,.int .i64 S.bterm,.string S.sn,.slice none 0 0] 58)).alloc (.cells (ndCells (Ka.opened (w1.alloc (.cells #[.int .i64 S.term,.int .i64 S.vote,.int .i64 S.base,.int .i64 S.bterm,.string S.sn,.slice none 0 0] 58)).heap.size d m) (Nd.opened id n S F)) 96)
 have hs:(w1.alloc (.cells #[.int .i64 S.term,.int .i64 S.vote,.int .i64 S.base,.int .i64 S.bterm,.string S.sn,.slice none 0 0] 58)).heap.size=w1.heap.size+1:=by simp
 have hz:=hC1.size
 rw[hs]at hA hE
 refine⟨w1.heap.size+1,rfl,by omega,⟨hA,(hD1.alloc _).alloc _,?_,World.ownsRow_nil _ _ _ _,World.ownsRow_nil _ _ _ _,World.ownsRow_nil _ _ _ _,OutAt.nil _,(fun k hk=>by cases hk),(fun v hv=>by cases hv)⟩,hC1.ext_trans hE⟩
 show World.ownsRow _ 0 49 3 (.slice none 0 0) S.log.length (enRows S.log)
 rw[HLG.out]
 exact World.ownsRow_nil _ _ _ _
section
variable{W:World}{K:Ka}{N:Nd}(h:NdAt W K N)
include h
end
end Go.Proofs.YtkkbfdencgdbhaaGreatDoor
namespace Go.Proofs.YtkkbfdencgdbhaaGreatDoor
open Go.RowKit Go.Sort
structure Qa where
 q:Nat
 nb:Nat
 db:Nat
def Qa.has(Q:Qa)(k:Nat):Prop:=k=Q.q∨k=Q.nb∨k=Q.db
structure NetAt (w:World) (Q:Qa) (r:Option Addr) (d:Nat):Prop where
 nt:At w Q.q 73 #[.slice (some ⟨Q.nb,0,none⟩) 1 1,.slice (some ⟨Q.db,0,none⟩) 1 1,.slice none 0 0]
 ns:At w Q.nb 45 #[.pointer r]
 ds:At w Q.db 74 #[.pointer (some ⟨d,0,none⟩)]
structure NetUp (w:World) (Q:Qa) (K:Ka) (N:Nd):Prop where
 net:NetAt w Q (some ⟨K.r,0,none⟩) K.d
 nd:NdAt w K N
section
variable{w w' w'':World}{Q:Qa}{K K':Ka}{N N':Nd}{S:Nat→Prop}{r:Option Addr}{d:Nat}
theorem NdAt.not_has(h:NdAt w K N){g:Nat}{t:TypeId}{cs:Array Value}(hA:At w g t cs)(h1:96≠t)(h2:112≠t)(h3:49≠t)(h4:4≠t)(h5:3≠t)(h6:129≠t):¬ K.has g:=by
 rintro(e|e|e|e|e|e|e|e|⟨v,hv,e⟩)
 ·exact h.nd.ne hA h1 e.symm
 ·exact h.dk.1.ne hA h2 e.symm
 ·exact h.dk.2.ne_at hA e.symm
 ·exact q_apart h.lg hA h3 e
 ·exact q_apart h.vs hA h4 e
 ·exact q_apart h.ms hA h5 e
 ·exact q_apart h.ns hA h5 e
 ·exact q_apart h.os.own hA h6 e
 ·obtain⟨i,hi⟩:=List.getElem?_of_mem hv
  have hil:=(List.getElem?_eq_some_iff.1 hi).1
  obtain⟨m,hm⟩:∃m,N.out[i]? = some m:=⟨_,List.getElem?_eq_getElem (by rw[←h.os.len];exact hil)⟩
  exact q_apart (h.os.es i m v hm hi) hA h3 e
end
section
variable{w:World}{Q:Qa}{r:Option Addr}{d:Nat}(h:NetAt w Q r d)
include h
end
section
variable{w:World}{Q:Qa}{K:Ka}{N:Nd}(h:NetUp w Q K N)
include h
end
end Go.Proofs.YtkkbfdencgdbhaaGreatDoor
namespace Go.Proofs.YtkkbfdencgdbhaaGreatDoor
open Go.RowKit Go.Sort
section
variable{W:World}{K:Ka}{N:Nd}
theorem NdTo.lacked{w1 w2:World}{v' ev:Value}{N':Nd}(hE:Ext W w1)(h':NdAt w2 { K with ov:=v',evs:=K.evs++[ev] } N')(hC:Chg K.has w1 w2)(hb:v'.ownBlock=K.ov.ownBlock∨∃k,v'.ownBlock=some k∧w1.heap.size≤k)(hnew:∀k,some k=ev.ownBlock→W.heap.size≤k):NdTo K W w2 N':=by
 have hs:=hE.size
 refine⟨{ K with ov:=v',evs:=K.evs++[ev] },rfl,rfl,rfl,h',hE.chg_trans hC,fun k hk=>?_⟩
 rcases hk with e|e|e|e|e|e|e|e|⟨v,hv,e⟩
 ·exact .inl (.inl e)
 ·exact .inl (.inr (.inl e))
 ·exact .inl (.inr (.inr (.inl e)))
 ·exact .inl (.inr (.inr (.inr (.inl e))))
 ·exact .inl (.inr (.inr (.inr (.inr (.inl e)))))
 ·exact .inl (.inr (.inr (.inr (.inr (.inr (.inl e))))))
 ·exact .inl (.inr (.inr (.inr (.inr (.inr (.inr (.inl e)))))))
 ·rcases hb with hb|⟨j,hj,hjs⟩
  ·exact .inl (.inr (.inr (.inr (.inr (.inr (.inr (.inr (.inl (e.trans hb)))))))))
  ·have e':some k=v'.ownBlock:=e
   rw[hj]at e'
   injection e' with e'
   exact .inr (by omega)
 ·rcases List.mem_append.1 hv with hv|hv
  ·exact .inl (.inr (.inr (.inr (.inr (.inr (.inr (.inr (.inr ⟨v,hv,e⟩))))))))
  ·rw[List.mem_singleton.1 hv]at e
   exact .inr (hnew k e)
variable(h:NdAt W K N)
include h
set_option maxRecDepth 100000 in
set_option maxHeartbeats 4000000 in
theorem lacks_out(hTS:TsOk N.s)(hNX:∀x∈N.nx,0≤x∧x≤1099511627776)(hol:N.out.length≤100000)(i:Nat)(hi:i<N.nx.length)(x t:Int)(hx:N.nx[i]? = some x)(ht:N.s.termAt (x - 1)=some t) :
 Calls Tryz.prog 157 #[.pointer (some ⟨K.r,0,none⟩),.int .i64 (i:Int)] W fun e w'=>e=.returned (.tuple #[])∧NdTo K W w' (N.lacks i):=by
 have hxb:=hNX x (List.mem_of_getElem? hx)
 have hgd:N.nx.getD i 0=x:=by rw[List.getD_eq_getElem?_getD,hx];rfl
 have hlk:N.lacks i=N.send ⟨3,0,(i:Int),0,x - 1,t,N.commit,false,N.s.from_ x 4,ByteArray.empty⟩:=by
  unfold Nd.lacks Nd.lackM
  rw[hgd,ht]
 have HLK:=Lib.hid hlk
 have hta:=ttermat_any W K.r 3 N.s K.lv h.ts hTS (x - 1) (by omega)
 rw[ht]at hta
 unfold taR at hta
 obtain⟨g,cap,hnv,hcap,hgl,hfz,hcells⟩:=q_some h.ns (by omega)
 have hci:W.cell? ⟨g,i,none⟩=some (.int .i64 x):=by rw[hcells (by decide) i (by omega),List.getElem?_map,hx];rfl
 have HCL:=Lib.hid (show ∀w',Ext W w'→w'.cell? ⟨g,i,none⟩=some (.int .i64 x)from fun w' hE=>(Ext.cell hE hgl).trans hci)
 have HBX:=Lib.hid (show -9223372036854775808≤x∧x≤9223372036854775807 by omega)
 have c16:=h.nd.cell 16
 simp[ndCells,hnv]at c16
 have HW1:=Lib.hid (IntWalk.i64_in (x - 1) (by omega))
 have HNX:=Lib.hid hx
 clear hgd hlk ht hcells hfz hx
 go_enter Tryz.func157,Tryz.ntmps157
 go_wp2_with fail
 refine hta.mono ?_
 rintro e w1 ⟨rfl,rfl⟩
 rename World=>W
 clear hta
 go_wp2_with fail
 have hST:GQ.St (fun _=>False) (fun _ _=>True) [⟨18,0,fun _ v w=>w.ownsRow W.heap.size 49 3 v (N.s.from_ x 4).length (enRows (N.s.from_ x 4))⟩,⟨19,1,fun _ v w=>∃ev,v=.agg #[.int .i64 3,.int .i64 0,.int .i64 (i:Int),.int .i64 0,.int .i64 (x - 1),.int .i64 t,.int .i64 N.commit,.bool false,ev,.string ByteArray.empty]∧w.ownsRow W.heap.size 49 3 ev (N.s.from_ x 4).length (enRows (N.s.from_ x 4))⟩]:=⟨fun _ _ _ h _=>h,by
  intro gx hx
  rcases List.mem_cons.1 hx with rfl|hx
  ·exact fun b v w w' h hE=>own_ext h hE
  rcases List.mem_cons.1 hx with rfl|hx
  ·exact fun b v w w' h hE=>by obtain⟨ev,h1,h2⟩:=h;exact⟨ev,h1,own_ext h2 hE⟩
  cases hx⟩
 refine wp_region_last (Γ := Nat→Value) (sgφ [.val (.pointer (some ⟨K.r,0,none⟩)),.val (.int .i64 (i:Int)),.val (.int .i64 (x - 1)),.val (.int .i64 t),.val (.pointer (some ⟨K.r,0,none⟩)),.val (.pointer (some ⟨K.r,0,none⟩)),.val (.pointer (some ⟨K.r,11,none⟩)),.val (.int .i64 N.commit),.val (.pointer (some ⟨K.r,0,none⟩)),.val (.pointer (some ⟨K.r,0,none⟩)),.val (.pointer (some ⟨K.r,3,none⟩)),.val (.pointer (some ⟨K.r,0,none⟩)),.val (.pointer (some ⟨K.r,0,none⟩)),.val (.pointer (some ⟨K.r,16,none⟩)),.val (.slice (some ⟨g,0,none⟩) N.nx.length cap),.val (.int .i64 (i:Int)),.val (.pointer (some ⟨g,i,none⟩)),.val (.int .i64 x),.g 0,.g 1])
  (GQ W (fun _=>False) 1000 (fun _ _=>True) [⟨18,0,fun _ v w=>w.ownsRow W.heap.size 49 3 v (N.s.from_ x 4).length (enRows (N.s.from_ x 4))⟩,⟨19,1,fun _ v w=>∃ev,v=.agg #[.int .i64 3,.int .i64 0,.int .i64 (i:Int),.int .i64 0,.int .i64 (x - 1),.int .i64 t,.int .i64 N.commit,.bool false,ev,.string ByteArray.empty]∧w.ownsRow W.heap.size 49 3 ev (N.s.from_ x 4).length (enRows (N.s.from_ x 4))⟩])
  (fun _ w'=>NdTo K W w' (N.lacks i)) 20 rfl (by kernel_rfl) (by kernel_rfl) (by kernel_rfl) (by kernel_rfl) (by kernel_rfl) (fun _=>undef) (GQ.start _ _ _ _ _ _ (trivial)) ?steps ?last ?fin
 case steps =>
  show StepsTo _ _ _ _ _ _ 20
  refine⟨⟨⟨⟨⟨⟨⟨⟨⟨⟨⟨⟨⟨⟨⟨⟨⟨⟨⟨⟨trivial,?s0⟩,?s1⟩,?s2⟩,?s3⟩,?s4⟩,?s5⟩,?s6⟩,?s7⟩,?s8⟩,?s9⟩,?s10⟩,?s11⟩,?s12⟩,?s13⟩,?s14⟩,?s15⟩,?s16⟩,?s17⟩,?s18⟩,?s19⟩
  case s0 =>
   refine sg_val (x:=.pointer (some ⟨K.r,0,none⟩)) rfl rfl rfl (GQ.keep (j:=0) (by decide) rfl) fun γ L v a w st=>?_
   have f0:=st.far 0 (by kernel_rfl)
   simp at f0
   go_simp
  case s1 =>
   refine sg_val (x:=.int .i64 (i:Int)) rfl rfl rfl (GQ.keep (j:=1) (by decide) rfl) fun γ L v a w st=>?_
   have f1:=st.far 1 (by kernel_rfl)
   simp at f1
   go_simp
  case s2 =>
   refine sg_val (x:=.int .i64 (x - 1)) rfl rfl rfl (GQ.keep (j:=2) (by decide) rfl) fun γ L v a w st=>?_
   have f4:=st.far 4 (by kernel_rfl)
   simp at f4
   go_simp
  case s3 =>
   refine sg_val (x:=.int .i64 t) rfl rfl rfl (GQ.keep (j:=3) (by decide) rfl) fun γ L v a w st=>?_
   have f5:=st.far 5 (by kernel_rfl)
   simp at f5
   go_simp
  case s4 =>
   refine sg_val (x:=.pointer (some ⟨K.r,0,none⟩)) rfl rfl rfl (GQ.keep (j:=4) (by decide) rfl) fun γ L v a w st=>?_
   have f0:=st.far 0 (by kernel_rfl)
   simp at f0
   go_simp
  case s5 =>
   refine sg_val (x:=.pointer (some ⟨K.r,0,none⟩)) rfl rfl rfl (GQ.keep (j:=5) (by decide) rfl) fun γ L v a w st=>?_
   have e4:=st.val 4 29 rfl (by kernel_rfl)
   rw[(st.φ 4 (by kernel_rfl):v 4=_)]at e4
   simp at e4
   go_simp
  case s6 =>
   refine sg_val (x:=.pointer (some ⟨K.r,11,none⟩)) rfl rfl rfl (GQ.keep (j:=6) (by decide) rfl) fun γ L v a w st=>?_
   have e5:=st.val 5 30 rfl (by kernel_rfl)
   rw[(st.φ 5 (by kernel_rfl):v 5=_)]at e5
   simp at e5
   go_simp
  case s7 =>
   refine sg_val (x:=.int .i64 N.commit) rfl rfl rfl (GQ.keep (j:=7) (by decide) rfl) fun γ L v a w st=>?_
   have e6:=st.val 6 31 rfl (by kernel_rfl)
   rw[(st.φ 6 (by kernel_rfl):v 6=_)]at e6
   simp at e6
   have hw1:=h.ext (st.inv.off (fun _ h=>h))
   have hcl:=hw1.nd.cell 11
   simp[ndCells]at hcl
   go_simp
  case s8 =>
   refine sg_val (x:=.pointer (some ⟨K.r,0,none⟩)) rfl rfl rfl (GQ.keep (j:=8) (by decide) rfl) fun γ L v a w st=>?_
   have f0:=st.far 0 (by kernel_rfl)
   simp at f0
   go_simp
  case s9 =>
   refine sg_val (x:=.pointer (some ⟨K.r,0,none⟩)) rfl rfl rfl (GQ.keep (j:=9) (by decide) rfl) fun γ L v a w st=>?_
   have e8:=st.val 8 33 rfl (by kernel_rfl)
   rw[(st.φ 8 (by kernel_rfl):v 8=_)]at e8
   simp at e8
   go_simp
  case s10 =>
   refine sg_val (x:=.pointer (some ⟨K.r,3,none⟩)) rfl rfl rfl (GQ.keep (j:=10) (by decide) rfl) fun γ L v a w st=>?_
   have e9:=st.val 9 34 rfl (by kernel_rfl)
   rw[(st.φ 9 (by kernel_rfl):v 9=_)]at e9
   simp at e9
   go_simp
  case s11 =>
   refine sg_val (x:=.pointer (some ⟨K.r,0,none⟩)) rfl rfl rfl (GQ.keep (j:=11) (by decide) rfl) fun γ L v a w st=>?_
   have f0:=st.far 0 (by kernel_rfl)
   simp at f0
   go_simp
  case s12 =>
   refine sg_val (x:=.pointer (some ⟨K.r,0,none⟩)) rfl rfl rfl (GQ.keep (j:=12) (by decide) rfl) fun γ L v a w st=>?_
   have e11:=st.val 11 36 rfl (by kernel_rfl)
   rw[(st.φ 11 (by kernel_rfl):v 11=_)]at e11
   simp at e11
   go_simp
  case s13 =>
   refine sg_val (x:=.pointer (some ⟨K.r,16,none⟩)) rfl rfl rfl (GQ.keep (j:=13) (by decide) rfl) fun γ L v a w st=>?_
   have e12:=st.val 12 37 rfl (by kernel_rfl)
   rw[(st.φ 12 (by kernel_rfl):v 12=_)]at e12
   simp at e12
   go_simp
  case s14 =>
   refine sg_val (x:=.slice (some ⟨g,0,none⟩) N.nx.length cap) rfl rfl rfl (GQ.keep (j:=14) (by decide) rfl) fun γ L v a w st=>?_
   have e13:=st.val 13 38 rfl (by kernel_rfl)
   rw[(st.φ 13 (by kernel_rfl):v 13=_)]at e13
   simp at e13
   have hw1:=h.ext (st.inv.off (fun _ h=>h))
   have hcl:=hw1.nd.cell 16
   simp[ndCells,hnv]at hcl
   go_simp
  case s15 =>
   refine sg_val (x:=.int .i64 (i:Int)) rfl rfl rfl (GQ.keep (j:=15) (by decide) rfl) fun γ L v a w st=>?_
   have f1:=st.far 1 (by kernel_rfl)
   simp at f1
   go_simp
  case s16 =>
   refine sg_val (x:=.pointer (some ⟨g,i,none⟩)) rfl rfl rfl (GQ.keep (j:=16) (by decide) rfl) fun γ L v a w st=>?_
   have e14:=st.val 14 39 rfl (by kernel_rfl)
   rw[(st.φ 14 (by kernel_rfl):v 14=_)]at e14
   simp at e14
   have e15:=st.val 15 40 rfl (by kernel_rfl)
   rw[(st.φ 15 (by kernel_rfl):v 15=_)]at e15
   simp at e15
   go_simp
  case s17 =>
   refine sg_val (x:=.int .i64 x) rfl rfl rfl (GQ.keep (j:=17) (by decide) rfl) fun γ L v a w st=>?_
   have e16:=st.val 16 41 rfl (by kernel_rfl)
   rw[(st.φ 16 (by kernel_rfl):v 16=_)]at e16
   simp at e16
   have hcl:=HCL.out w (st.inv.off (fun _ h=>h))
   go_simp
  case s18 =>
   refine sg_call (k:=0) (f:=43) rfl rfl rfl (by kernel_rfl) fun γ L v a w st=>?_
   have e10:=st.val 10 35 rfl (by kernel_rfl)
   rw[(st.φ 10 (by kernel_rfl):v 10=_)]at e10
   simp at e10
   have e17:=st.val 17 42 rfl (by kernel_rfl)
   rw[(st.φ 17 (by kernel_rfl):v 17=_)]at e17
   simp at e17
   have hE0:=st.inv.off (fun _ h=>h)
   have cf:=tfrom_any w K.r 3 N.s K.lv ((h.ext hE0).ts) hTS x 4 HBX.out (by decide)
   refine⟨#[.pointer (some ⟨K.r,3,none⟩),.int .i64 x,.int .i64 4],by go_simp,cf.mono ?_⟩
   rintro e w' ⟨y,rfl,hO,hE⟩
   refine⟨y,rfl,st.inv.new hST hE (by decide) rfl ?_⟩
   intro gx hx hxj
   rcases List.mem_cons.1 hx with rfl|hx
   ·exact⟨rfl,q_base hO hE0.size⟩
   rcases List.mem_cons.1 hx with rfl|hx
   ·exact absurd hxj (by show ¬ ((19:Nat)=18);omega)
   cases hx
  case s19 =>
   refine sg_new (k:=1) rfl rfl rfl (by kernel_rfl) fun γ L v a w st=>?_
   have e1:=st.val 1 26 rfl (by kernel_rfl)
   rw[(st.φ 1 (by kernel_rfl):v 1=_)]at e1
   simp at e1
   have e2:=st.val 2 27 rfl (by kernel_rfl)
   rw[(st.φ 2 (by kernel_rfl):v 2=_)]at e2
   simp at e2
   have e3:=st.val 3 28 rfl (by kernel_rfl)
   rw[(st.φ 3 (by kernel_rfl):v 3=_)]at e3
   simp at e3
   have e7:=st.val 7 32 rfl (by kernel_rfl)
   rw[(st.φ 7 (by kernel_rfl):v 7=_)]at e7
   simp at e7
   have e18:=st.val 18 43 rfl (by kernel_rfl)
   rw[(st.φ 18 (by kernel_rfl):v 18=_)]at e18
   have hg18:=st.inv.gh ⟨18,0,fun _ v w=>w.ownsRow W.heap.size 49 3 v (N.s.from_ x 4).length (enRows (N.s.from_ x 4))⟩ (by simp) (st.dep 18 (by kernel_rfl))
   obtain⟨A,c,hv0,_⟩:=q_slc hg18
   rw[hv0]at e18
   simp at e18
   refine⟨.agg #[.int .i64 3,.int .i64 0,.int .i64 (i:Int),.int .i64 0,.int .i64 (x - 1),.int .i64 t,.int .i64 N.commit,.bool false,.slice A (N.s.from_ x 4).length c,.string ByteArray.empty],w,by(go_simp;rfl),st.inv.new hST (Ext.refl w) (by decide) rfl ?_⟩
   intro gx hx hxj
   rcases List.mem_cons.1 hx with rfl|hx
   ·exact absurd hxj (by show ¬ ((18:Nat)=19);omega)
   rcases List.mem_cons.1 hx with rfl|hx
   ·exact⟨rfl,_,rfl,hv0 ▸ hg18⟩
   cases hx
 case last =>
  intro γ L v a w1 hall hG hφ hval h0
  have e25:=hval 0 25 rfl (by decide)
  rw[show v 0=_ from hφ 0 (by decide)]at e25
  have e44:=hval 19 44 rfl (by decide)
  rw[show v 19=_ from hφ 19 (by decide)]at e44
  simp at e25
  have hE1:Ext W w1:=hG.off (fun _ h=>h)
  obtain⟨ev,hv1,hO⟩:=hG.gh ⟨19,1,fun _ v w=>∃ev,v=.agg #[.int .i64 3,.int .i64 0,.int .i64 (i:Int),.int .i64 0,.int .i64 (x - 1),.int .i64 t,.int .i64 N.commit,.bool false,ev,.string ByteArray.empty]∧w.ownsRow W.heap.size 49 3 ev (N.s.from_ x 4).length (enRows (N.s.from_ x 4))⟩ (by simp) (hall 19 (by decide))
  replace hv1 : γ 1=_:=hv1
  rw[hv1]at e44
  have hw1:=h.ext hE1
  have hnew:∀k,some k=ev.ownBlock→W.heap.size≤k:=q_ge hO
  have hne:∀k,some k=ev.ownBlock→some k≠K.lv.ownBlock:=fun k hk e=>by have:=hnew k hk;have:=q_lt h.lg k e;omega
  have cs:=send_out hw1 hol ⟨3,0,(i:Int),0,x - 1,t,N.commit,false,N.s.from_ x 4,ByteArray.empty⟩ ev (q_base hO (Nat.zero_le _)) hne
  obtain⟨rA,rc,hrv,_⟩:=q_slc hO
  refine wpOp_calls (w':=w1) (f:=155) (args:=#[.pointer (some ⟨K.r,0,none⟩),.agg #[.int .i64 3,.int .i64 0,.int .i64 (i:Int),.int .i64 0,.int .i64 (x - 1),.int .i64 t,.int .i64 N.commit,.bool false,ev,.string ByteArray.empty]]) rfl rfl (by rw[hrv]at e44⊢;go_simp) ?_
  refine cs.mono ?_
  rintro r w2 ⟨rfl,v',hA2,hC2,hb2⟩
  rw[←HLK.out]at hA2
  refine⟨_,rfl,_,rfl,NdTo.lacked hE1 hA2 hC2 hb2 hnew⟩
 case fin =>
  intro v w1 hTo
  change Exit.then _ _ _ (putAll _ v _ 21) w1
  simp only[putAll,dstOf,Act.put]
  simp only[List.getElem?_toArray,List.getElem?_cons_zero,List.getElem?_cons_succ,Option.bind_some,List.setIfInBounds_toArray,List.set_cons_zero,List.set_cons_succ]
  go_wp2_with fail
  first|go_end0|refine bodyPost_ret (results_none rfl _ _ _) rfl ?_
  exact⟨rfl,hTo⟩
theorem lacks_any(hN:NdOk N)(i:Nat)(hi:i<N.nx.length)(x t:Int)(hx:N.nx[i]? = some x)(ht:N.s.termAt (x - 1)=some t) :
 Calls Tryz.prog 157 #[.pointer (some ⟨K.r,0,none⟩),.int .i64 (i:Int)] W fun e w'=>e=.returned (.tuple #[])∧NdTo K W w' (N.lacks i) :=
 lacks_out h hN.ts hN.nx hN.out i hi x t hx ht
end
end Go.Proofs.YtkkbfdencgdbhaaGreatDoor
namespace Go.Proofs.YtkkbfdencgdbhaaGreatDoor
open Go.RowKit Go.Sort
def haveM(dst:Int)(ok:Bool)(i:Int):Ms:=⟨4,0,dst,0,i,0,0,ok,[],ByteArray.empty⟩
section
variable{W:World}{K:Ka}{N:Nd}(h:NdAt W K N)
include h
theorem NdTo.sent1{w2:World}{v':Value}{N':Nd}(h':NdAt w2 { K with ov:=v',evs:=K.evs++[.slice none 0 0] } N')(hC:Chg K.has W w2)(hb:v'.ownBlock=K.ov.ownBlock∨∃k,v'.ownBlock=some k∧W.heap.size≤k):NdTo K W w2 N' :=
 have _:=h
 NdTo.lacked (Ext.refl W) h' hC hb (fun k hk=>by cases hk)
set_option maxRecDepth 100000 in
set_option maxHeartbeats 1000000 in
theorem answer_any(hN:NdOk N)(dst:Int)(ok:Bool)(i:Int) :
 Calls Tryz.prog 113 #[.pointer (some ⟨K.r,0,none⟩),.int .i64 dst,.bool ok,.int .i64 i] W fun e w'=>e=.returned (.tuple #[])∧NdTo K W w' (N.send (haveM dst ok i)):=by
 have cs:=send_any h hN (haveM dst ok i) (.slice none 0 0) (World.ownsRow_nil _ _ _ _) (fun k hk=>by cases hk)
 have HS:=Lib.hid (fun(w2:World) (v':Value) h' hC hb=>NdTo.sent1 (w2:=w2) (v':=v') (N':=N.send (haveM dst ok i)) h h' hC hb)
 unfold haveM at cs
 simp only at cs
 rw[show(ByteArray.empty:ByteArray)=⟨#[]⟩from rfl]at cs
 go_enter Tryz.func113,Tryz.ntmps113
 go_wp2_with fail
 refine cs.mono ?_
 rintro e w2 ⟨rfl,v',hA,hC,hb⟩
 go_wp2_with fail
 first|go_end0|refine bodyPost_ret (results_none rfl _ _ _) rfl ?_
 exact⟨rfl,HS.out w2 v' hA hC hb⟩
end
end Go.Proofs.YtkkbfdencgdbhaaGreatDoor
namespace Go.Proofs.YtkkbfdencgdbhaaGreatDoor
open Go.RowKit Go.Sort
def Ms.cells(m:Ms)(ev:Value):Array Value:=#[.int .i64 m.kind,.int .i64 m.frm,.int .i64 m.dst,.int .i64 m.term,.int .i64 m.idx,.int .i64 m.lt,.int .i64 m.cm,.bool m.ok,ev,.string m.sn]
def voteM(dst:Int)(ok:Bool):Ms:=⟨2,0,dst,0,0,0,0,ok,[],ByteArray.empty⟩
def Nd.voted1(N:Nd)(frm:Int):Nd := { N.keep N.s.term (frm+1)with timer:=0 }
section
variable{W:World}{K:Ka}{N:Nd}(h:NdAt W K N)
include h
set_option maxRecDepth 100000 in
set_option maxHeartbeats 4000000 in
theorem onask_any(hN:NdOk N)(m:Ms)(A:Option Addr)(el ec:Nat)(hfr:0≤m.frm∧m.frm≤4)(hv:N.s.vote=0)(hlt:m.lt=N.s.last.2)(hli:N.s.last.1≤m.idx)(hterm:N.s.term≤m.term)(hroom:N.fs.tot+100≤4194304)(hT:Tab W)(hTK:¬ K.has 0)(hok:NdOk (N.voted1 m.frm)) :
 Calls Tryz.prog 111 #[.pointer (some ⟨K.r,0,none⟩),.agg (m.cells (.slice A el ec))] W fun e w'=>e=.returned (.tuple #[])∧NdTo K W w' ((N.voted1 m.frm).send (voteM m.frm true)):=by
 obtain⟨ev,hev⟩:∃ev,ev=Value.slice A el ec:=⟨_,rfl⟩
 have htm:=hN.ts.term
 have hE0:=(Ext.refl W).alloc (.cells (m.cells (.slice A el ec)) 129)
 have hX0:=At.new W 129 (m.cells (.slice A el ec))
 have hA0:=h.ext hE0
 have hxK:∀k,K.has k→k<W.heap.size:=h.has_lt
 have HW0:=Lib.hid h
 have HT0:=Lib.hid (hT.ext hE0)
 have HTK:=Lib.hid hTK
 have HFR:=Lib.hid hfr
 have HV:=Lib.hid hv
 have HLT:=Lib.hid hlt
 have HLI:=Lib.hid hli
 have HTM:=Lib.hid hterm
 have HRM:=Lib.hid hroom
 have HOK:=Lib.hid hok
 have HWF:=Lib.hid (IntWalk.i64_in (m.frm+1) (by omega))
 have HB1:=Lib.hid (show -9223372036854775808≤N.s.term∧N.s.term≤9223372036854775807 by omega)
 have HB2:=Lib.hid (show -9223372036854775808≤m.frm+1∧m.frm+1≤9223372036854775807 by omega)
 clear hfr hv hlt hli hterm hroom hok hT hTK h
 go_enter Tryz.func111,Tryz.ntmps111
 go_upto_region 1 with fail
 have hxw:∀k,K.has k→k≠W.heap.size:=fun k hk e=>by have:=hxK k hk;omega
 generalize W.alloc (.cells (m.cells (.slice A el ec)) 129)=W1 at hE0 hX0 hA0 HT0⊢
 have HXW:=Lib.hid hxw
 rw[←hev]at hX0⊢
 have HE0:=Lib.hid hE0
 have HNEW:=Lib.hid (show W.heap.size≤W.heap.size from Nat.le_refl _)
 obtain⟨x,hx⟩:∃x,x=W.heap.size:=⟨_,rfl⟩
 rw[←hx]at hX0 HXW⊢
 have HXX:=Lib.hid hx
 clear hx hev hxK hxw hE0 HNEW
 have ct:=tlast_dn W1 K.r 3 N.s K.lv hA0.ts hN.ts
 have HA0:=Lib.hid hA0
 have HX0:=Lib.hid hX0
 clear hA0 hX0
 go_wp2_with fail
 refine ct.mono ?_
 rintro e w1 ⟨rfl,nd,rfl⟩
 clear ct
 have hE1:Ext W1 (W1.drewN nd):=(Ext.refl W1).drewN nd
 have hA1:=HA0.out.ext hE1
 have hX1:=HX0.out.ext hE1
 have HE1:=Lib.hid hE1
 generalize W1.drewN nd=w1 at hE1 hA1 hX1 HE1⊢
 have HA1:=Lib.hid hA1
 have HX1:=Lib.hid hX1
 have x5:=hX1.cell 5
 have x4:=hX1.cell 4
 have x3:=hX1.cell 3
 have x1:=hX1.cell 1
 simp[Ms.cells]at x5 x4 x3 x1
 have d3:=hA1.nd.cell 3
 have d4:=hA1.nd.cell 4
 simp[ndCells,HV.out]at d3 d4
 obtain⟨l1,hl1⟩:∃l1,N.s.last.1=l1:=⟨_,rfl⟩
 obtain⟨l2,hl2⟩:∃l2,N.s.last.2=l2:=⟨_,rfl⟩
 have hlt:=HLT.out
 have hli:=HLI.out
 rw[hl2]at hlt
 rw[hl1]at hli
 rw[hl1,hl2]
 rw[hlt]at x5
 have t1:decide (l1≤m.idx)=true:=by simpa using hli
 have hterm:=HTM.out
 clear hE1 hA1 hX1 hl1 hl2 hlt HLT HLI
 go_wp2_with fail
 go_region
 go_wp2_with fail
 go_region
 go_wp2_with fail
 have hE2:Ext w1 w1.drew.drew:=((Ext.refl w1).drew).drew
 have hA:=HA1.out.ext hE2
 have hX:=HX1.out.ext hE2
 have HT:=Lib.hid (HT0.out.ext (HE1.out.trans hE2))
 have HEW:=Lib.hid (HE0.out.trans (HE1.out.trans hE2))
 have HXK:=Lib.hid (show ¬ K.has x from fun hk=>HXW.out x hk rfl)
 clear x5 x4 x3 x1 d3 d4 t1 hterm hli HA1 HX1 HA0 HX0 HT0 HE1
 generalize w1.drew.drew=W6 at hE2 hA hX HT HEW⊢
 have hST:GQ.St K.has (fun b w=>NdAt w K (if b=true then N.keep N.s.term (m.frm+1)else N)∧At w x 129 (m.cells ev)) []:=⟨fun b w w' h hE=>⟨h.1.ext hE,h.2.ext hE⟩,by
  intro gx hx
  cases hx⟩
 refine wp_region_phi (Γ := Nat→Value) (sgφ [.val (.pointer (some ⟨K.r,0,none⟩)),.val (.pointer (some ⟨K.r,0,none⟩)),.val (.pointer (some ⟨K.r,3,none⟩)),.val (.pointer (some ⟨K.r,4,none⟩)),.val (.int .i64 0),.val (.pointer (some ⟨x,1,none⟩)),.val (.int .i64 m.frm),.val (.int .i64 (m.frm+1)),.val (.bool true),.val (.bool true),.val (.pointer (some ⟨K.r,0,none⟩)),.val (.pointer (some ⟨K.r,0,none⟩)),.val (.pointer (some ⟨K.r,0,none⟩)),.val (.pointer (some ⟨K.r,3,none⟩)),.val (.pointer (some ⟨K.r,3,none⟩)),.val (.int .i64 N.s.term),.val (.pointer (some ⟨x,1,none⟩)),.val (.int .i64 m.frm),.val (.int .i64 (m.frm+1)),.val (.bool true),.val (.bool false),.val (.bool false)])
  (GQ W6 K.has 19 (fun b w=>NdAt w K (if b=true then N.keep N.s.term (m.frm+1)else N)∧At w x 129 (m.cells ev)) [])
  (by kernel_rfl) (by kernel_rfl) (by kernel_rfl) (fun _=>undef) (GQ.start _ _ _ _ _ _ (⟨hA.ext ((Ext.refl W6).drew),hX.drew⟩)) ?steps ?fin
 case steps =>
  show StepsTo _ _ _ _ _ _ 22
  refine⟨⟨⟨⟨⟨⟨⟨⟨⟨⟨⟨⟨⟨⟨⟨⟨⟨⟨⟨⟨⟨⟨trivial,?s0⟩,?s1⟩,?s2⟩,?s3⟩,?s4⟩,?s5⟩,?s6⟩,?s7⟩,?s8⟩,?s9⟩,?s10⟩,?s11⟩,?s12⟩,?s13⟩,?s14⟩,?s15⟩,?s16⟩,?s17⟩,?s18⟩,?s19⟩,?s20⟩,?s21⟩
  case s0 =>
   refine sg_val (x:=.pointer (some ⟨K.r,0,none⟩)) rfl rfl rfl (GQ.keep (j:=0) (by decide) rfl) fun γ L v a w st=>?_
   have f0:=st.far 0 (by kernel_rfl)
   simp at f0
   go_simp
  case s1 =>
   refine sg_val (x:=.pointer (some ⟨K.r,0,none⟩)) rfl rfl rfl (GQ.keep (j:=1) (by decide) rfl) fun γ L v a w st=>?_
   have e0:=st.val 0 64 rfl (by kernel_rfl)
   rw[(st.φ 0 (by kernel_rfl):v 0=_)]at e0
   simp at e0
   go_simp
  case s2 =>
   refine sg_val (x:=.pointer (some ⟨K.r,3,none⟩)) rfl rfl rfl (GQ.keep (j:=2) (by decide) rfl) fun γ L v a w st=>?_
   have e1:=st.val 1 65 rfl (by kernel_rfl)
   rw[(st.φ 1 (by kernel_rfl):v 1=_)]at e1
   simp at e1
   go_simp
  case s3 =>
   refine sg_val (x:=.pointer (some ⟨K.r,4,none⟩)) rfl rfl rfl (GQ.keep (j:=3) (by decide) rfl) fun γ L v a w st=>?_
   have e2:=st.val 2 66 rfl (by kernel_rfl)
   rw[(st.φ 2 (by kernel_rfl):v 2=_)]at e2
   simp at e2
   go_simp
  case s4 =>
   refine sg_val (x:=.int .i64 0) rfl rfl rfl (GQ.keep (j:=4) (by decide) rfl) fun γ L v a w st=>?_
   have e3:=st.val 3 67 rfl (by kernel_rfl)
   rw[(st.φ 3 (by kernel_rfl):v 3=_)]at e3
   simp at e3
   have hpw:=st.inv.pw
   have hoff:L 19=false:=GAO.js_off (r:=[8,9,19]) st.down st.off (by kernel_rfl) (by simp)
   rw[hoff]at hpw
   simp only[Bool.false_eq_true,if_false]at hpw
   have hcl:=hpw.1.nd.cell 4
   simp[ndCells,HV.out]at hcl
   go_simp
  case s5 =>
   refine sg_val (x:=.pointer (some ⟨x,1,none⟩)) rfl rfl rfl (GQ.keep (j:=5) (by decide) rfl) fun γ L v a w st=>?_
   have f3:=st.far 3 (by kernel_rfl)
   simp at f3
   go_simp
  case s6 =>
   refine sg_val (x:=.int .i64 m.frm) rfl rfl rfl (GQ.keep (j:=6) (by decide) rfl) fun γ L v a w st=>?_
   have e5:=st.val 5 69 rfl (by kernel_rfl)
   rw[(st.φ 5 (by kernel_rfl):v 5=_)]at e5
   simp at e5
   have hcl:=st.inv.pw.2.cell 1
   simp[Ms.cells]at hcl
   go_simp
  case s7 =>
   refine sg_val (x:=.int .i64 (m.frm+1)) rfl rfl rfl (GQ.keep (j:=7) (by decide) rfl) fun γ L v a w st=>?_
   have e6:=st.val 6 70 rfl (by kernel_rfl)
   rw[(st.φ 6 (by kernel_rfl):v 6=_)]at e6
   simp at e6
   go_simp
   exact HWF.out
  case s8 =>
   refine sg_val (x:=.bool true) rfl rfl rfl (GQ.keep (j:=8) (by decide) rfl) fun γ L v a w st=>?_
   have e4:=st.val 4 68 rfl (by kernel_rfl)
   rw[(st.φ 4 (by kernel_rfl):v 4=_)]at e4
   simp at e4
   have e7:=st.val 7 71 rfl (by kernel_rfl)
   rw[(st.φ 7 (by kernel_rfl):v 7=_)]at e7
   simp at e7
   have hfr:=HFR.out
   go_simp
   omega
  case s9 =>
   refine sg_val (x:=.bool true) rfl rfl rfl (GQ.keep (j:=9) (by decide) rfl) fun γ L v a w st=>?_
   have e8:=st.val 8 72 rfl (by kernel_rfl)
   rw[(st.φ 8 (by kernel_rfl):v 8=_)]at e8
   simp at e8
   go_simp
  case s10 =>
   refine sg_val_on (x:=.pointer (some ⟨K.r,0,none⟩)) (on:=9) (t:=73) (b:=true) rfl rfl (by kernel_rfl) rfl rfl rfl (GQ.keep (j:=10) (by decide) rfl) fun γ L v a w st=>?_
   have f0:=st.far 0 (by kernel_rfl)
   simp at f0
   go_simp
  case s11 =>
   refine sg_val_on (x:=.pointer (some ⟨K.r,0,none⟩)) (on:=9) (t:=73) (b:=true) rfl rfl (by kernel_rfl) rfl rfl rfl (GQ.keep (j:=11) (by decide) rfl) fun γ L v a w st=>?_
   have f0:=st.far 0 (by kernel_rfl)
   simp at f0
   go_simp
  case s12 =>
   refine sg_val_on (x:=.pointer (some ⟨K.r,0,none⟩)) (on:=9) (t:=73) (b:=true) rfl rfl (by kernel_rfl) rfl rfl rfl (GQ.keep (j:=12) (by decide) rfl) fun γ L v a w st=>?_
   have e11:=st.val 11 75 rfl (by kernel_rfl)
   rw[(st.φ 11 (by kernel_rfl):v 11=_)]at e11
   simp at e11
   go_simp
  case s13 =>
   refine sg_val_on (x:=.pointer (some ⟨K.r,3,none⟩)) (on:=9) (t:=73) (b:=true) rfl rfl (by kernel_rfl) rfl rfl rfl (GQ.keep (j:=13) (by decide) rfl) fun γ L v a w st=>?_
   have e12:=st.val 12 76 rfl (by kernel_rfl)
   rw[(st.φ 12 (by kernel_rfl):v 12=_)]at e12
   simp at e12
   go_simp
  case s14 =>
   refine sg_val_on (x:=.pointer (some ⟨K.r,3,none⟩)) (on:=9) (t:=73) (b:=true) rfl rfl (by kernel_rfl) rfl rfl rfl (GQ.keep (j:=14) (by decide) rfl) fun γ L v a w st=>?_
   have e13:=st.val 13 77 rfl (by kernel_rfl)
   rw[(st.φ 13 (by kernel_rfl):v 13=_)]at e13
   simp at e13
   go_simp
  case s15 =>
   refine sg_val_on (x:=.int .i64 N.s.term) (on:=9) (t:=73) (b:=true) rfl rfl (by kernel_rfl) rfl rfl rfl (GQ.keep (j:=15) (by decide) rfl) fun γ L v a w st=>?_
   have e14:=st.val 14 78 rfl (by kernel_rfl)
   rw[(st.φ 14 (by kernel_rfl):v 14=_)]at e14
   simp at e14
   have hpw:=st.inv.pw
   have hoff:L 19=false:=GAO.js_off (r:=[19]) st.down st.off (by kernel_rfl) (by simp)
   rw[hoff]at hpw
   simp only[Bool.false_eq_true,if_false]at hpw
   have hcl:=hpw.1.nd.cell 3
   simp[ndCells]at hcl
   go_simp
  case s16 =>
   refine sg_val_on (x:=.pointer (some ⟨x,1,none⟩)) (on:=9) (t:=73) (b:=true) rfl rfl (by kernel_rfl) rfl rfl rfl (GQ.keep (j:=16) (by decide) rfl) fun γ L v a w st=>?_
   have f3:=st.far 3 (by kernel_rfl)
   simp at f3
   go_simp
  case s17 =>
   refine sg_val_on (x:=.int .i64 m.frm) (on:=9) (t:=73) (b:=true) rfl rfl (by kernel_rfl) rfl rfl rfl (GQ.keep (j:=17) (by decide) rfl) fun γ L v a w st=>?_
   have e16:=st.val 16 80 rfl (by kernel_rfl)
   rw[(st.φ 16 (by kernel_rfl):v 16=_)]at e16
   simp at e16
   have hcl:=st.inv.pw.2.cell 1
   simp[Ms.cells]at hcl
   go_simp
  case s18 =>
   refine sg_val_on (x:=.int .i64 (m.frm+1)) (on:=9) (t:=73) (b:=true) rfl rfl (by kernel_rfl) rfl rfl rfl (GQ.keep (j:=18) (by decide) rfl) fun γ L v a w st=>?_
   have e17:=st.val 17 81 rfl (by kernel_rfl)
   rw[(st.φ 17 (by kernel_rfl):v 17=_)]at e17
   simp at e17
   go_simp
   exact HWF.out
  case s19 =>
   refine sg_callv_on (x:=.bool true) (f:=109) (on:=9) (t:=73) (b:=true) rfl rfl (by kernel_rfl) rfl rfl rfl fun γ L v a w st=>?_
   have e10:=st.val 10 74 rfl (by kernel_rfl)
   rw[(st.φ 10 (by kernel_rfl):v 10=_)]at e10
   simp at e10
   have e15:=st.val 15 79 rfl (by kernel_rfl)
   rw[(st.φ 15 (by kernel_rfl):v 15=_)]at e15
   simp at e15
   have e18:=st.val 18 82 rfl (by kernel_rfl)
   rw[(st.φ 18 (by kernel_rfl):v 18=_)]at e18
   simp at e18
   have hpw:=st.inv.pw
   rw[st.off]at hpw
   simp only[Bool.false_eq_true,if_false]at hpw
   have hTw:=HT.out.chg st.inv.chg HTK.out
   refine⟨#[.pointer (some ⟨K.r,0,none⟩),.int .i64 N.s.term,.int .i64 (m.frm+1)],by go_simp,?_⟩
   refine Calls.mono (keep_any hpw.1 N.s.term (m.frm+1) HB1.out HB2.out HRM.out hTw) ?_
   rintro e w' ⟨rfl,hA2,hC2⟩
   exact⟨rfl,st.inv.write hC2 (by simp only[if_true];exact⟨hA2,hpw.2.chg hC2 HXK.out⟩) (by intro x hx;cases hx) rfl⟩
  case s20 =>
   refine sg_val_on (x:=.bool false) (on:=9) (t:=73) (b:=true) rfl rfl (by kernel_rfl) rfl rfl rfl (GQ.keep (j:=20) (by decide) rfl) fun γ L v a w st=>?_
   have e19:=st.val 19 83 rfl (by kernel_rfl)
   rw[(st.φ 19 (by kernel_rfl):v 19=_)]at e19
   simp at e19
   go_simp
  case s21 =>
   refine sg_val (x:=.bool false) rfl rfl rfl (GQ.keep (j:=21) (by decide) rfl) fun γ L v a w st=>?_
   have e9:=st.val 9 73 rfl (by kernel_rfl)
   rw[(st.φ 9 (by kernel_rfl):v 9=_)]at e9
   simp at e9
   have e20:=st.val 20 84 rfl (by kernel_rfl)
   rw[(st.φ 20 (by kernel_rfl):v 20=_)]at e20
   simp at e20
   go_simp
 case fin =>
  intro γ L v wr hall hG hφ
  have h21:v 21=(.bool false):=hφ 21 (by decide)
  have hpw:=hG.pw
  rw[hall 19 (by decide)]at hpw
  simp only[if_true]at hpw
  have hC1:=hG.chg
  clear hall hφ hG
  change Exit.then _ _ _ (putAll _ v _ 22) wr
  simp only[putAll,dstOf,Act.put]
  simp only[List.getElem?_toArray,List.getElem?_cons_zero,List.getElem?_cons_succ,Option.bind_some,List.setIfInBounds_toArray,List.set_cons_zero,List.set_cons_succ]
  rw[h21]
  clear h21
  have HE2:=Lib.hid hE2
  have hA7:=hpw.1
  have hX7:=hpw.2
  have f13:=hA7.nd.frozen 13
  have d13:=hA7.nd.cell 13
  simp[ndCells]at d13
  have hlt:=hA7.nd.lt
  have x1:=hX7.cell 1
  simp[Ms.cells]at x1
  have h13:NdAt (wr.setCell ⟨K.r,13,none⟩ (.int .i64 0)) K (N.voted1 m.frm):=hA7.set rfl rfl rfl rfl rfl rfl rfl
  have hxr:x≠K.r:=fun e=>HXK.out (.inl e)
  have hX8:At (wr.setCell ⟨K.r,13,none⟩ (.int .i64 0)) x 129 (m.cells ev):=hX7.far (p:=⟨K.r,13,none⟩) hxr _
  have y1:=hX8.cell 1
  simp[Ms.cells]at y1
  have hC8:Chg K.has W6 (wr.setCell ⟨K.r,13,none⟩ (.int .i64 0)):=(hC1.setCell (p:=⟨K.r,13,none⟩) (.inl (.inl rfl)) _)
  have cs:=send_any h13 HOK.out (voteM m.frm true) (.slice none 0 0) (World.ownsRow_nil _ _ _ _) (fun k hk=>by cases hk)
  unfold voteM at cs
  simp only at cs
  rw[show(ByteArray.empty:ByteArray)=⟨#[]⟩from rfl]at cs
  have HS:=Lib.hid cs
  have H13:=Lib.hid h13
  have HC8:=Lib.hid hC8
  clear cs h13 hC8 hX8 hA7 hX7 hpw hC1 hE2 hA hX hxr
  go_wp2_with fail
  refine HS.out.mono ?_
  rintro e w9 ⟨rfl,v',hA9,hC9,hb⟩
  go_wp2_with fail
  first|go_end0|refine bodyPost_ret (results_none rfl _ _ _) rfl ?_
  have hT9:NdTo K W6 w9 ((N.voted1 m.frm).send (voteM m.frm true)):=NdTo.next rfl rfl rfl HC8.out (fun _ h=>.inl h) (NdTo.sent1 H13.out hA9 hC9 hb)
  exact⟨rfl,NdTo.ext_next HEW.out hT9⟩
end
end Go.Proofs.YtkkbfdencgdbhaaGreatDoor
namespace Go.Proofs.YtkkbfdencgdbhaaGreatDoor
open Go.RowKit Go.Sort
section
variable{P:Program}{ops:Array Oper}{Q:Exit→Act→World→Prop}{o:Oper}{rest:List Oper}{a:Act}
theorem wpList_append_at{w:World}{e:TypeId}{size:Nat}{v:Value}{n:Nat}{xs:List Value}(hown:w.ownsRow 0 e size v n xs){vx:Value}{rows:List (List Value)}(hS:Sln w vx size rows)(hne:rows≠[])
 (hrs:∀r∈rows,r.length=size) (hone:∀r∈rows,r.all Value.oneCell'=true) {z:Value} {bytes:Nat}
 (t:TypeId) (ht:P.underlying t=some (.slice e)) (hinfo:(P.info? e).map (fun i=>(i.zero,i.size,i.bytes))=some (some z,size,bytes))
 (hzs:z.cells.size=size) (hsz:0<size) (hby:bytes≤128) (hn:n+rows.length<1000000000000)
 (hgd:o.guard=none) (s x:Operand) (ho:o.op=.call { callee:=.builtin .append,args:=#[s,x],argTypes:=#[t,t] }) (hs:a.eval s=v) (hx:a.eval x=vx)
 (h:∀v' w',w'.ownsRow 0 e size v' (n+rows.length) (xs++rows.flatten)→Chg (fun k=>some k=v.ownBlock) w w'→(v'.ownBlock=v.ownBlock∨∃k,v'.ownBlock=some k∧w.heap.size≤k)→wpList P ops Q rest (a.put o.dst v') w') :
 wpList P ops Q (o::rest) a w:=by
 obtain⟨i,hi,h0,h1,h2⟩:∃i,P.info? e=some i∧i.zero=some z∧i.size=size∧i.bytes=bytes:=by
  cases hp:P.info? e with
  | none=>rw[hp]at hinfo;cases hinfo
  | some i =>
   rw[hp]at hinfo
   simp only[Option.map_some,Option.some.injEq,Prod.mk.injEq]at hinfo
   exact⟨i,rfl,hinfo.1,hinfo.2.1,hinfo.2.2⟩
 have hby2:(n+rows.length) * bytes≤140737488355328:=by
  have:(n+rows.length) * bytes≤1000000000000 * 128:=Nat.mul_le_mul (by omega) hby
  omega
 obtain⟨A,c,rfl,hc⟩:=hS
 obtain⟨b,o',rfl,hcc⟩:=hc hne
 obtain⟨v',w',hrun,k1,k2,_,k4⟩:=run_append_own_at (P:=P) w 0 t o.type e i z size bytes ht hi h0 h1 h2 hzs hsz v n xs hown ⟨b,o',none⟩ rows.length c rows.flatten (flat_len hrs) (fun j u hu=>by
  obtain⟨i',r',k,e1,e2,e3⟩:=flat_of hrs hu
  have:=hcc i' r' e1 k u e2
  rw[Go.WideShapes.add_plain,e3,←Nat.add_assoc]
  exact this) (fun u hu=>by
  obtain⟨r',hr',hu'⟩:=List.mem_flatten.1 hu
  exact List.all_eq_true.1 (hone r' hr') u hu') (by unfold maxLen;omega) (by simpa using hby2) (Nat.zero_le _)
 refine wpList_plain hgd fun K hK=>?_
 unfold Oper.wp
 simp[execOp,ho,resolve,invoke,builtin,hs,hx,hrun,Result.andThen]
 refine hK _ _ (h _ _ k1 (Chg.of_grown k2) ?_)
 rcases k4 with k4|k4
 ·exact .inl k4
 ·exact .inr ⟨_,k4,Nat.le_refl _⟩
end
def Ts.addL(S:Ts)(l:List En):Ts := { S with log:=S.log++l }
def Nd.addL(N:Nd)(l:List En):Nd := { N with s:=N.s.addL l,fs:=lgAdd N.fs l }
section
variable{W:World}{K:Ka}{N:Nd}(h:NdAt W K N)
include h
theorem NdAt.loggedL{w':World}{v':Value}{l:List En}(hx:At w' K.r 96 (ndCells { K with lv:=v' } N))(hO:w'.ownsRow 0 49 3 v' (N.s.log.length+l.length) (enRows N.s.log++enRows l))(hC:Chg (fun k=>k=K.r∨some k=K.lv.ownBlock) W w')
 (hb:v'.ownBlock=K.lv.ownBlock∨∃k,v'.ownBlock=some k∧W.heap.size≤k):NdAt w' { K with lv:=v' } { N with s:=N.s.addL l } := by
 have q:∀ {e:TypeId} {size:Nat} {v:Value} {n:Nat} {xs:List Value},W.ownsRow 0 e size v n xs→e≠96→(e≠49∨∀k,some k=v.ownBlock→some k≠K.lv.ownBlock)→w'.ownsRow 0 e size v n xs:=fun ho h1 h2=>q_keep ho hC fun k hk hs=>by
  rcases hs with hs|hs
  ·rw[hs]at hk;exact q_apart ho h.nd h1 hk
  ·rcases h2 with h2|h2
   ·exact q_apart2 ho h.lg h2 k hk hs
   ·exact h2 k hk hs
 have hdr:¬ (K.d=K.r∨some K.d=K.lv.ownBlock):=by
  rintro(e|e)
  ·exact h.dk.1.ne h.nd (by decide) e
  ·exact q_apart h.lg h.dk.1 (by decide) e
 have hmr:¬ (K.m=K.r∨some K.m=K.lv.ownBlock):=by
  rintro(e|e)
  ·exact h.dk.2.ne_at h.nd e
  ·exact q_map h.lg h.dk.2 e
 refine⟨hx,⟨h.dk.1.chg hC hdr,h.dk.2.chg hC hmr⟩,?_,q h.vs (by decide) (.inl (by decide)),q h.ms (by decide) (.inl (by decide)),q h.ns (by decide) (.inl (by decide)),⟨q h.os.own (by decide) (.inl (by decide)),h.os.len,fun j m ev hm he=>q (h.os.es j m ev hm he) (by decide) (.inr (h.le ev (List.mem_of_getElem? he)))⟩,h.mn,fun v hv k hk e=>?_⟩
 ·show w'.ownsRow 0 49 3 v' (N.s.log++l).length (enRows (N.s.log++l))
  rw[List.length_append]
  have:enRows (N.s.log++l)=enRows N.s.log++enRows l:=by simp[enRows]
  rw[this]
  exact hO
 ·have e':some k=v'.ownBlock:=e
  rcases hb with hb|⟨k',hb,hk'⟩
  ·exact h.le v hv k hk (e'.trans hb)
  ·rw[hb]at e'
   have:=h.os.lt v hv k hk
   cases e'
   omega
set_option maxRecDepth 100000 in
set_option maxHeartbeats 4000000 in
theorem replace_any(hN:NdOk N)(v:Value)(l:List En)(x0:En)(r0:List En)(hl0:l=x0::r0)(hS:Sln W v 3 (l.map En.row))(hx0:x0.i=N.s.base+1+N.s.log.length)(hll:N.s.log.length+l.length≤1000)(hx:∀x∈l,(0≤x.i∧x.i≤1099511627776)∧(0≤x.t∧x.t≤1099511627776)∧x.c.size≤1000000)
 (hvd:∀b o n c,v=.slice (some ⟨b,o,none⟩) n c→¬ (b=K.d∨b=K.m)) (hT:Tab W) (hr:N.fs.tot+osz N.fs.lg+(enFs l).length≤4194304) :
 Calls Tryz.prog 156 #[.pointer (some ⟨K.r,0,none⟩),v] W fun e w'=>e=.returned (.bool true)∧NdTo K W w' (N.addL l):=by
 have hbase:=hN.ts.base
 obtain⟨b,o,c,hv,r0,r1,r2⟩:=ens_some hS (k:=0) (x:=x0) (by rw[hl0];rfl)
 have hp:0<l.length:=by rw[hl0];simp
 subst hv
 have c0:=h.nd.cell 0
 have c5:=h.nd.cell 5
 have c8:=h.nd.cell 8
 obtain⟨LA,lc,hlv,hlcap⟩:=q_slc h.lg
 simp[ndCells,hlv]at c0 c5 c8
 simp only[Nat.zero_mul,Nat.add_zero]at r0 r1 r2
 rw[hx0]at r0
 have HW1:=Lib.hid (IntWalk.i64_in (N.s.base+1+N.s.log.length - N.s.base) (by omega))
 have HW2:=Lib.hid (IntWalk.i64_in (N.s.base+1+N.s.log.length - N.s.base - 1) (by omega))
 have HS:=Lib.hid hS
 have HX:=Lib.hid hx
 have HR:=Lib.hid hr
 have HVD:=Lib.hid hvd
 have HH:=Lib.hid h
 have HLV:=Lib.hid hlv
 have HL0:=Lib.hid hl0
 have HX0:=Lib.hid hx0
 have HTT:=Lib.hid hT
 have e1:N.s.base+1+(N.s.log.length:Int) - N.s.base=(N.s.log.length:Int)+1:=by omega
 have e2:N.s.base+1+(N.s.log.length:Int) - N.s.base - 1=(N.s.log.length:Int):=by omega
 have w1:=HW1.out
 have w2:=HW2.out
 have hlt:((N.s.log.length:Int)<(N.s.log.length:Int))=False:=by simp
 have HE1:=Lib.hid e1
 have HE2:=Lib.hid e2
 clear hS hx hr hvd h hlv hl0 hx0 hT e1 e2 w1 w2 HW1 HW2 hlt
 go_enter Tryz.func156,Tryz.ntmps156
 go_wp2_with fail
 go_region
 go_wp2_with fail
 have hD:=(Ext.refl W).drew
 have h1:=HH.out.ext hD
 have hS1:=HS.out.ext hD
 have HD:=Lib.hid hD
 have hta:=tappend_any W.drew K.d K.m N.fs h1.dk (.slice (some ⟨b,o,none⟩) l.length c) l hS1 (by omega) HX.out (HTT.out.ext hD) HR.out
 have H1:=Lib.hid h1
 have HS1:=Lib.hid hS1
 clear hD h1 hS1
 refine hta.mono ?_
 rintro e w1 ⟨rfl,hC1,hD1⟩
 clear hta
 have h2:=H1.out.disk hC1 hD1
 have hS2:Sln w1 (.slice (some ⟨b,o,none⟩) l.length c) 3 (l.map En.row):=by
  obtain⟨A',c',e1,h3⟩:=HS1.out
  refine⟨A',c',e1,fun hne=>?_⟩
  obtain⟨b',o',e2,h4⟩:=h3 hne
  refine⟨b',o',e2,fun i row hi j x hj=>?_⟩
  have h5:=h4 i row hi j x hj
  have hbb:b'=b:=by
   rw[e2]at e1
   simp only[Value.slice.injEq,Option.some.injEq,Addr.mk.injEq]at e1
   exact e1.1.1.symm
  have hlt:b'<W.drew.heap.size:=by
   rcases Nat.lt_or_ge b' W.drew.heap.size with hlt|hge
   ·exact hlt
   ·rw[World.cell?,Array.getElem?_eq_none hge]at h5;cases h5
  rw[←h5]
  exact Chg.cell (p:=⟨b',o'+i * 3+j,none⟩) hC1 hlt (by rw[hbb];exact HVD.out b o l.length c rfl)
 have HC1:=Lib.hid (show Chg K.has W.drew w1 from hC1.mono (fun k _ e=>.inr (e.elim .inl (fun e=>.inr (.inl e)))))
 have H2:=Lib.hid h2
 have HS2:=Lib.hid hS2
 have d8:=h2.nd.cell 8
 have f8:=h2.nd.frozen 8
 have hrl:=h2.nd.lt
 simp[ndCells,HLV.out]at d8
 clear h2 hS2 hC1 hD1
 go_wp2_with fail
 refine(stored_any w1 K.r).mono ?_
 rintro e w2 ⟨rfl,rfl⟩
 go_wp2_with (at_builtin;refine wpList_append_at H2.out.lg HS2.out (by rw[HL0.out];simp) (en_three l) (en_one l) 43 Tryz.underlying43 en_info rfl (by decide) (by decide) ?h1 rfl _ _ rfl ?h2 rfl ?_)
 case h1=>first|omega|(rw[List.length_map];omega)
 case h2=>exact HLV.out.symm
 intro v' w3 hO hC hb
 rw[←enRows_eq]at hO
 try simp only[List.length_map]at hO
 have hrk:¬ some K.r=K.lv.ownBlock:=q_apart H2.out.lg H2.out.nd (by decide)
 have hA3:=H2.out.nd.chg hC hrk
 have g8:=hA3.cell 8
 have gf:=hA3.frozen 8
 have hrl3:=hA3.lt
 simp[ndCells,HLV.out]at g8
 obtain⟨VA,vc,rfl,hvc⟩:=q_slc hO
 have hA4:=hA3.set 8 (.slice VA (N.s.log.length+l.length) vc)
 have hC4:Chg (fun k=>k=K.r∨some k=K.lv.ownBlock) w2 (w3.setCell ⟨K.r,8,none⟩ (.slice VA (N.s.log.length+l.length) vc)):=(hC.mono (fun k _ e=>.inr e)).setCell (p:=⟨K.r,8,none⟩) (.inl (.inl rfl)) _
 have hO4:(w3.setCell ⟨K.r,8,none⟩ (.slice VA (N.s.log.length+l.length) vc)).ownsRow 0 49 3 (.slice VA (N.s.log.length+l.length) vc) (N.s.log.length+l.length) (enRows N.s.log++enRows l):=q_keep hO ((Chg.refl (fun k=>k=K.r) w3).setCell (p:=⟨K.r,8,none⟩) (.inl rfl) _) fun k hk hs=>by
  have hs':k=K.r:=hs
  rw[hs']at hk
  exact q_apart hO hA3 (by decide) hk
 have H5:=Lib.hid (H2.out.loggedL (l:=l) hA4 hO4 hC4 hb)
 have HC4:=Lib.hid hC4
 have HB:=Lib.hid hb
 clear hA4 hO4 hC4 hb hO hC hA3 H2 HS2
 go_wp2_with fail
 go_ret
 refine⟨rfl,NdTo.ext_next HD.out ⟨{ K with lv:=.slice VA (N.s.log.length+l.length) vc },rfl,rfl,rfl,H5.out,HC1.out.trans HC4.out (fun k _ e=>?_),fun k hk=>?_⟩⟩
 ·rcases e with e|e
  ·exact .inl e
  ·exact .inr (.inr (.inr (.inl e)))
 ·have hsz:=HC1.out.size
  rcases hk with e|e|e|e|e|e|e|e|e
  ·exact .inl (.inl e)
  ·exact .inl (.inr (.inl e))
  ·exact .inl (.inr (.inr (.inl e)))
  ·have e':some k=(Value.slice VA (N.s.log.length+l.length) vc).ownBlock:=e
   rcases HB.out with hb|⟨j,hb,hj⟩
   ·exact .inl (.inr (.inr (.inr (.inl (e'.trans hb)))))
   ·rw[hb]at e'
    injection e' with e'
    exact .inr (by omega)
  ·exact .inl (.inr (.inr (.inr (.inr (.inl e)))))
  ·exact .inl (.inr (.inr (.inr (.inr (.inr (.inl e))))))
  ·exact .inl (.inr (.inr (.inr (.inr (.inr (.inr (.inl e)))))))
  ·exact .inl (.inr (.inr (.inr (.inr (.inr (.inr (.inr (.inl e))))))))
  ·exact .inl (.inr (.inr (.inr (.inr (.inr (.inr (.inr (.inr e))))))))
end
end Go.Proofs.YtkkbfdencgdbhaaGreatDoor
namespace Go.Proofs.YtkkbfdencgdbhaaGreatDoor
open Go.RowKit Go.Sort
def Nd.addN(N:Nd)(l:List En):Nd:=if l=[]then N else N.addL l
def moreLast(m:Ms):Int:=match m.es.getLast? with
 | some x=>x.i
 | none=>m.idx
def Nd.more(N:Nd)(m:Ms)(new:List En):Nd:=({ N.addN new with commit:=max N.commit (min m.cm (moreLast m)) }).send (haveM m.frm true (moreLast m))
structure MoreOk (N:Nd) (m:Ms) (old new:List En):Prop where
 es:m.es=old++new
 ahead:m.idx≤N.s.base∨N.s.termAt m.idx=some m.lt
 oldE:∀x∈old,N.s.base<x.i∧N.s.termAt x.i=some x.t
 newE:∀x r,new=x::r→N.s.base<x.i∧N.s.termAt x.i=none∧x.i=N.s.base+1+N.s.log.length
 len:N.s.log.length+m.es.length≤900
 bd:∀x∈m.es,(0≤x.i∧x.i≤1099511627776)∧(0≤x.t∧x.t≤1099511627776)∧x.c.size≤100000
 idx:0≤m.idx∧m.idx≤1099511627776
 cm:0≤m.cm∧m.cm≤1099511627776
 room:N.fs.tot+osz N.fs.lg+(enFs new).length≤4194304
def Nd.askIn(N:Nd)(m:Ms):Nd:=(((N.keep m.term 0).follow (-1)).voted1 m.frm).send (voteM m.frm true)
def Nd.voteIn(N:Nd)(i:Nat):Nd:=({ N with votes:=N.votes.set i true }).count
def Nd.heard(N:Nd)(l:Int):Nd := { N.follow l with timer:=0 }
def Nd.moreIn(N:Nd)(m:Ms)(new:List En):Nd:=(N.heard m.frm).more m new
def Nd.hasIt(N:Nd)(i:Nat)(x:Int):Nd := { N with mt:=N.mt.set i (max (N.mt.getD i 0) x) }
def Nd.goes(N:Nd)(i:Nat):Nd := { N with nx:=N.nx.set i (max (N.nx.getD i 0) (N.mt.getD i 0+1)) }
def Nd.had(N:Nd)(i:Nat)(x:Int):Nd:=(N.hasIt i x).advance.goes i
def Nd.haveIn(N:Nd)(i:Nat)(x:Int):Nd:=if(N.had i x).nx.getD i 0≤N.s.last.1∧x=(N.had i x).nx.getD i 0 - 1 then(N.had i x).lacks i else N.had i x
end Go.Proofs.YtkkbfdencgdbhaaGreatDoor
