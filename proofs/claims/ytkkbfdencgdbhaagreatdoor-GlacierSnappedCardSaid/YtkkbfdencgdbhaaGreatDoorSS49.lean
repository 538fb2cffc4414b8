/-
  Part 49 of what the law leans on.
-/
import Derived.Test.YtkkbfdencgdbhaaGreatDoorSS13
import Derived.Test.YtkkbfdencgdbhaaGreatDoorSS48
set_option linter.unusedVariables false
set_option linter.unusedSimpArgs false
set_option linter.unusedSectionVars false
namespace Go.Proofs.YtkkbfdencgdbhaaGreatDoor
open Go.RowKit Go.Sort
def Nd.askK(N:Nd)(k:Nat):Nd:=(List.range k).foldl Nd.askTo N
theorem askK_succ(N:Nd)(k:Nat):N.askK (k+1)=(N.askK k).askTo k:=by
 unfold Nd.askK
 rw[List.range_succ,List.foldl_append];rfl
theorem askTo_out(N:Nd)(i:Nat):(N.askTo i).s=N.s∧(N.askTo i).id=N.id∧(N.askTo i).n=N.n∧(N.askTo i).out.length≤N.out.length+1:=by
 unfold Nd.askTo
 split
 ·exact⟨rfl,rfl,rfl,by omega⟩
 ·exact⟨rfl,rfl,rfl,by unfold Nd.send;simp⟩
theorem askK_out(N:Nd):∀k,(N.askK k).s=N.s∧(N.askK k).id=N.id∧(N.askK k).n=N.n∧(N.askK k).out.length≤N.out.length+k
 | 0=>⟨rfl,rfl,rfl,Nat.le_refl _⟩
 | k+1=>by
  obtain⟨a,b,c,d⟩:=askK_out N k
  obtain⟨a',b',c',d'⟩:=askTo_out (N.askK k) k
  rw[askK_succ]
  exact⟨a'.trans a,b'.trans b,c'.trans c,by omega⟩
def Nd.stand0(N:Nd):Nd := { (N.keep (N.s.term+1) ((N.id:Int)+1)).follow (-1)with role:=1,timer:=0 }
section
variable{w:World}{K:Ka}{N:Nd}(h:NdAt w K N)
include h
theorem NdAt.voted(hn:N.n≤5):NdAt ((w.setCell ⟨K.r,14,none⟩ (.slice (some ⟨w.heap.size,0,none⟩) N.n N.n)).alloc (.cells (Array.replicate N.n (.bool false)) 4)) { K with vv:=.slice (some ⟨w.heap.size,0,none⟩) N.n N.n } { N with votes:=List.replicate N.n false } ∧
 Chg (fun k=>k=K.r) w ((w.setCell ⟨K.r,14,none⟩ (.slice (some ⟨w.heap.size,0,none⟩) N.n N.n)).alloc (.cells (Array.replicate N.n (.bool false)) 4)):=by
 have hA:=(h.nd.set 14 (.slice (some ⟨w.heap.size,0,none⟩) N.n N.n)).alloc (.cells (Array.replicate N.n (.bool false)) 4)
 have hC0:Chg (fun k=>k=K.r) w (w.setCell ⟨K.r,14,none⟩ (.slice (some ⟨w.heap.size,0,none⟩) N.n N.n)):=(Chg.refl (fun k=>k=K.r) w).setCell (p:=⟨K.r,14,none⟩) (.inl rfl) _
 have hs5:(w.setCell ⟨K.r,14,none⟩ (.slice (some ⟨w.heap.size,0,none⟩) N.n N.n)).heap.size=w.heap.size:=by simp[World.setCell]
 generalize w.setCell ⟨K.r,14,none⟩ (.slice (some ⟨w.heap.size,0,none⟩) N.n N.n)=w5 at hA hC0 hs5⊢
 have hC:=hC0.alloc (.cells (Array.replicate N.n (.bool false)) 4)
 have n0:=At.new w5 4 (Array.replicate N.n (Value.bool false))
 rw[hs5]at n0
 have hd:K.d≠K.r:=fun hh=>(h.dk.1.ne h.nd (by decide)) hh
 have hm:K.m≠K.r:=fun hh=>(h.dk.2.ne_at h.nd) hh
 have q:∀ {e:TypeId} {size:Nat} {v:Value} {n:Nat} {xs:List Value},w.ownsRow 0 e size v n xs→e≠96→(w5.alloc (.cells (Array.replicate N.n (.bool false)) 4)).ownsRow 0 e size v n xs:=fun ho he=>q_keep ho hC fun k hk hs=>by
  have hs':k=K.r:=hs
  rw[hs']at hk
  exact q_apart ho h.nd he hk
 refine⟨⟨hA,⟨h.dk.1.chg hC hd,h.dk.2.chg hC hm⟩,q h.lg (by decide),?_,q h.ms (by decide),q h.ns (by decide),⟨q h.os.own (by decide),h.os.len,fun j m ev hm he=>q (h.os.es j m ev hm he) (by decide)⟩,h.mn,h.le⟩,hC⟩
 show(w5.alloc (.cells (Array.replicate N.n (.bool false)) 4)).ownsRow 0 4 1 (.slice (some ⟨w.heap.size,0,none⟩) N.n N.n) (List.replicate N.n false).length ((List.replicate N.n false).map Value.bool)
 rw[List.length_replicate,List.map_replicate]
 exact⟨by simp,.inr ⟨w.heap.size,N.n,Array.replicate N.n (.bool false),rfl,Nat.zero_le _,n0,Nat.le_refl _,by unfold maxLen;omega,by simp,by simp⟩⟩
omit h in
theorem NdAt.drew'(_h:NdAt w K N):NdAt w.drew K N:=_h.ext ((Ext.refl w).drew)
omit h in
theorem NdTo.sent{w':World}{v' ev:Value}{N':Nd}(h':NdAt w' { K with ov:=v',evs:=K.evs++[ev] } N')(hC:Chg K.has w w')(hb:v'.ownBlock=K.ov.ownBlock∨∃k,v'.ownBlock=some k∧w.heap.size≤k)(he:∀k,some k=ev.ownBlock→w.heap.size≤k):NdTo K w w' N':=by
 refine⟨{ K with ov:=v',evs:=K.evs++[ev] },rfl,rfl,rfl,h',hC,fun k hk=>?_⟩
 rcases hk with e|e|e|e|e|e|e|e|⟨v,hv,e⟩
 ·exact .inl (.inl e)
 ·exact .inl (.inr (.inl e))
 ·exact .inl (.inr (.inr (.inl e)))
 ·exact .inl (.inr (.inr (.inr (.inl e))))
 ·exact .inl (.inr (.inr (.inr (.inr (.inl e)))))
 ·exact .inl (.inr (.inr (.inr (.inr (.inr (.inl e))))))
 ·exact .inl (.inr (.inr (.inr (.inr (.inr (.inr (.inl e)))))))
 ·have e':some k=v'.ownBlock:=e
  rcases hb with hb|⟨k',hb,hk'⟩
  ·exact .inl (.inr (.inr (.inr (.inr (.inr (.inr (.inr (.inl (e'.trans hb)))))))))
  ·rw[hb]at e'
   cases e'
   exact .inr hk'
 ·have hv':v∈K.evs++[ev]:=hv
  rcases List.mem_append.1 hv' with hv'|hv'
  ·exact .inl (.inr (.inr (.inr (.inr (.inr (.inr (.inr (.inr ⟨v,hv',e⟩))))))))
  ·rw[List.mem_singleton.1 hv']at e
   exact .inr (he k e)
theorem NdAt.setvt{g cap:Nat}(hvv:K.vv=.slice (some ⟨g,0,none⟩) N.votes.length cap){j:Nat}(hj:j<N.votes.length)(x:Bool):NdAt (w.setCell ⟨g,j,none⟩ (.bool x)) K { N with votes:=N.votes.set j x } := by
 have hc:Chg (fun k=>k=g) w (w.setCell ⟨g,j,none⟩ (.bool x)):=(Chg.refl (fun k=>k=g) w).setCell (p:=⟨g,j,none⟩) (.inl rfl) _
 have hg:some g=K.vv.ownBlock:=by rw[hvv];rfl
 have q:∀ {e:TypeId} {size:Nat} {v:Value} {n:Nat} {xs:List Value},w.ownsRow 0 e size v n xs→e≠4→(w.setCell ⟨g,j,none⟩ (.bool x)).ownsRow 0 e size v n xs:=fun ho h1=>q_keep ho hc fun k hk hs=>by
  have hs':k=g:=hs
  subst hs'
  exact q_apart2 ho h.vs h1 k hk hg
 have hr:K.r≠g:=fun e=>q_apart h.vs h.nd (by decide) (by rw[e];exact hg)
 have hd:K.d≠g:=fun e=>q_apart h.vs h.dk.1 (by decide) (by rw[e];exact hg)
 have hm:K.m≠g:=fun e=>q_map h.vs h.dk.2 (by rw[e];exact hg)
 refine⟨h.nd.chg hc hr,⟨h.dk.1.chg hc hd,h.dk.2.chg hc hm⟩,q h.lg (by decide),?_,q h.ms (by decide),q h.ns (by decide),⟨q h.os.own (by decide),h.os.len,fun i m ev hm he=>q (h.os.es i m ev hm he) (by decide)⟩,h.mn,h.le⟩
 have hns:=h.vs
 rw[hvv]at hns⊢
 have:=own_set hns (j:=j) (by omega) (.bool x)
 show(w.setCell ⟨g,j,none⟩ (.bool x)).ownsRow 0 4 1 _ (N.votes.set j x).length ((N.votes.set j x).map Value.bool)
 rw[List.length_set,List.map_set]
 exact this
set_option maxRecDepth 100000 in
set_option maxHeartbeats 4000000 in
theorem elect_any(hN:NdOk N)(hroom:N.fs.tot+100≤4194304)(hT:Tab w)(hTK:¬ K.has 0)(hts:TsOk N.stand.s)(hask:∀k,k≤N.n→NdOk (N.stand.askK k))
 (hcnt:∀(w':World) (K':Ka),NdAt w' K' N.stand.ask→K'.r=K.r→Tab w'→¬ K'.has 0→Calls Tryz.prog 112 #[.pointer (some ⟨K.r,0,none⟩)] w' fun e w''=>e=.returned (.tuple #[])∧NdTo K' w' w'' N.stand.ask.count) :
 Calls Tryz.prog 118 #[.pointer (some ⟨K.r,0,none⟩)] w fun e w'=>e=.returned (.tuple #[])∧NdTo K w w' N.elect:=by
 have htm:=hN.ts.term
 have hid:=hN.id
 have hn5:=hN.n
 have HW1:=Lib.hid (IntWalk.i64_in (N.s.term+1) (by omega))
 have HW2:=Lib.hid (IntWalk.i64_in ((N.id:Int)+1) (by omega))
 have HB1:=Lib.hid (show -9223372036854775808≤N.s.term+1∧N.s.term+1≤9223372036854775807 by omega)
 have HB2:=Lib.hid (show -9223372036854775808≤(N.id:Int)+1∧(N.id:Int)+1≤9223372036854775807 by omega)
 have HTS:=Lib.hid hts
 have HASK:=Lib.hid hask
 have HCNT:=Lib.hid hcnt
 clear hts hask hcnt
 go_enter Tryz.func118,Tryz.ntmps118
 go_wp2_with fail
 have hST:GQ.St K.has (fun b w=>NdAt w K (if b=true then N.keep (N.s.term+1) ((N.id:Int)+1)else N)) []:=⟨fun b w w' h hE=>h.ext hE,by
  intro gx hx
  cases hx⟩
 refine wp_region_phi (Γ := Nat→Value) (sgφ [.val (.pointer (some ⟨K.r,0,none⟩)),.val (.pointer (some ⟨K.r,0,none⟩)),.val (.pointer (some ⟨K.r,0,none⟩)),.val (.pointer (some ⟨K.r,3,none⟩)),.val (.pointer (some ⟨K.r,3,none⟩)),.val (.int .i64 N.s.term),.val (.int .i64 (N.s.term+1)),.val (.pointer (some ⟨K.r,0,none⟩)),.val (.pointer (some ⟨K.r,0,none⟩)),.val (.pointer (some ⟨K.r,1,none⟩)),.val (.int .i64 (N.id:Int)),.val (.int .i64 ((N.id:Int)+1)),.val (.bool true),.val (.bool false)])
  (GQ w K.has 12 (fun b w=>NdAt w K (if b=true then N.keep (N.s.term+1) ((N.id:Int)+1)else N)) [])
  (by kernel_rfl) (by kernel_rfl) (by kernel_rfl) (fun _=>undef) (GQ.start _ _ _ _ _ _ (h.ext ((Ext.refl w).drew))) ?steps ?fin
 case steps =>
  show StepsTo _ _ _ _ _ _ 14
  refine⟨⟨⟨⟨⟨⟨⟨⟨⟨⟨⟨⟨⟨⟨trivial,?s0⟩,?s1⟩,?s2⟩,?s3⟩,?s4⟩,?s5⟩,?s6⟩,?s7⟩,?s8⟩,?s9⟩,?s10⟩,?s11⟩,?s12⟩,?s13⟩
  case s0 =>
   refine sg_val (x:=.pointer (some ⟨K.r,0,none⟩)) rfl rfl rfl (GQ.keep (j:=0) (by decide) rfl) fun γ L v a w st=>?_
   have f0:=st.far 0 (by kernel_rfl)
   simp at f0
   go_simp
  case s1 =>
   refine sg_val (x:=.pointer (some ⟨K.r,0,none⟩)) rfl rfl rfl (GQ.keep (j:=1) (by decide) rfl) fun γ L v a w st=>?_
   have f0:=st.far 0 (by kernel_rfl)
   simp at f0
   go_simp
  case s2 =>
   refine sg_val (x:=.pointer (some ⟨K.r,0,none⟩)) rfl rfl rfl (GQ.keep (j:=2) (by decide) rfl) fun γ L v a w st=>?_
   have e1:=st.val 1 6 rfl (by kernel_rfl)
   rw[(st.φ 1 (by kernel_rfl):v 1=_)]at e1
   simp at e1
   go_simp
  case s3 =>
   refine sg_val (x:=.pointer (some ⟨K.r,3,none⟩)) rfl rfl rfl (GQ.keep (j:=3) (by decide) rfl) fun γ L v a w st=>?_
   have e2:=st.val 2 7 rfl (by kernel_rfl)
   rw[(st.φ 2 (by kernel_rfl):v 2=_)]at e2
   simp at e2
   go_simp
  case s4 =>
   refine sg_val (x:=.pointer (some ⟨K.r,3,none⟩)) rfl rfl rfl (GQ.keep (j:=4) (by decide) rfl) fun γ L v a w st=>?_
   have e3:=st.val 3 8 rfl (by kernel_rfl)
   rw[(st.φ 3 (by kernel_rfl):v 3=_)]at e3
   simp at e3
   go_simp
  case s5 =>
   refine sg_val (x:=.int .i64 N.s.term) rfl rfl rfl (GQ.keep (j:=5) (by decide) rfl) fun γ L v a w st=>?_
   have e4:=st.val 4 9 rfl (by kernel_rfl)
   rw[(st.φ 4 (by kernel_rfl):v 4=_)]at e4
   simp at e4
   have hpw:=st.inv.pw
   have hoff:L 12=false:=GAO.js_off (r:=[6,12]) st.down st.off (by kernel_rfl) (by simp)
   rw[hoff]at hpw
   simp only[Bool.false_eq_true,if_false]at hpw
   have hcl:=hpw.nd.cell 3
   simp[ndCells]at hcl
   go_simp
  case s6 =>
   refine sg_val (x:=.int .i64 (N.s.term+1)) rfl rfl rfl (GQ.keep (j:=6) (by decide) rfl) fun γ L v a w st=>?_
   have e5:=st.val 5 10 rfl (by kernel_rfl)
   rw[(st.φ 5 (by kernel_rfl):v 5=_)]at e5
   simp at e5
   go_simp
   exact HW1.out
  case s7 =>
   refine sg_val (x:=.pointer (some ⟨K.r,0,none⟩)) rfl rfl rfl (GQ.keep (j:=7) (by decide) rfl) fun γ L v a w st=>?_
   have f0:=st.far 0 (by kernel_rfl)
   simp at f0
   go_simp
  case s8 =>
   refine sg_val (x:=.pointer (some ⟨K.r,0,none⟩)) rfl rfl rfl (GQ.keep (j:=8) (by decide) rfl) fun γ L v a w st=>?_
   have e7:=st.val 7 12 rfl (by kernel_rfl)
   rw[(st.φ 7 (by kernel_rfl):v 7=_)]at e7
   simp at e7
   go_simp
  case s9 =>
   refine sg_val (x:=.pointer (some ⟨K.r,1,none⟩)) rfl rfl rfl (GQ.keep (j:=9) (by decide) rfl) fun γ L v a w st=>?_
   have e8:=st.val 8 13 rfl (by kernel_rfl)
   rw[(st.φ 8 (by kernel_rfl):v 8=_)]at e8
   simp at e8
   go_simp
  case s10 =>
   refine sg_val (x:=.int .i64 (N.id:Int)) rfl rfl rfl (GQ.keep (j:=10) (by decide) rfl) fun γ L v a w st=>?_
   have e9:=st.val 9 14 rfl (by kernel_rfl)
   rw[(st.φ 9 (by kernel_rfl):v 9=_)]at e9
   simp at e9
   have hpw:=st.inv.pw
   have hoff:L 12=false:=GAO.js_off (r:=[11,12]) st.down st.off (by kernel_rfl) (by simp)
   rw[hoff]at hpw
   simp only[Bool.false_eq_true,if_false]at hpw
   have hcl:=hpw.nd.cell 1
   simp[ndCells]at hcl
   go_simp
  case s11 =>
   refine sg_val (x:=.int .i64 ((N.id:Int)+1)) rfl rfl rfl (GQ.keep (j:=11) (by decide) rfl) fun γ L v a w st=>?_
   have e10:=st.val 10 15 rfl (by kernel_rfl)
   rw[(st.φ 10 (by kernel_rfl):v 10=_)]at e10
   simp at e10
   go_simp
   exact HW2.out
  case s12 =>
   refine sg_callv' (x:=.bool true) (f:=109) rfl rfl rfl fun γ L v a w st=>?_
   have e0:=st.val 0 5 rfl (by kernel_rfl)
   rw[(st.φ 0 (by kernel_rfl):v 0=_)]at e0
   simp at e0
   have e6:=st.val 6 11 rfl (by kernel_rfl)
   rw[(st.φ 6 (by kernel_rfl):v 6=_)]at e6
   simp at e6
   have e11:=st.val 11 16 rfl (by kernel_rfl)
   rw[(st.φ 11 (by kernel_rfl):v 11=_)]at e11
   simp at e11
   have hpw:=st.inv.pw
   rw[st.off]at hpw
   simp only[Bool.false_eq_true,if_false]at hpw
   refine⟨#[.pointer (some ⟨K.r,0,none⟩),.int .i64 (N.s.term+1),.int .i64 ((N.id:Int)+1)],by go_simp,?_⟩
   refine Calls.mono (keep_any hpw _ _ HB1.out HB2.out hroom (hT.chg st.inv.chg hTK)) ?_
   rintro e w' ⟨rfl,hN',hC'⟩
   exact⟨rfl,st.inv.write hC' (by simp only[if_true];exact hN') (by intro x hx;cases hx) rfl⟩
  case s13 =>
   refine sg_val (x:=.bool false) rfl rfl rfl (GQ.keep (j:=13) (by decide) rfl) fun γ L v a w st=>?_
   have e12:=st.val 12 17 rfl (by kernel_rfl)
   rw[(st.φ 12 (by kernel_rfl):v 12=_)]at e12
   simp at e12
   go_simp
 case fin =>
  intro γ L v w1 hall hG hφ
  have h13:v 13=(.bool false):=hφ 13 (by decide)
  have hA1:=hG.pw
  rw[hall 12 (by decide)]at hA1
  simp only[if_true]at hA1
  have hC1:=hG.chg
  clear hall hφ hG
  change Exit.then _ _ _ (putAll _ v _ 14) w1
  simp only[putAll,dstOf,Act.put]
  simp only[List.getElem?_toArray,List.getElem?_cons_zero,List.getElem?_cons_succ,Option.bind_some,List.setIfInBounds_toArray,List.set_cons_zero,List.set_cons_succ]
  rw[h13]
  clear h13
  have hT1:=hT.chg hC1 hTK
  have HC1:=Lib.hid hC1
  clear hC1 hT h
  rename World=>w1
  generalize v 0=z0
  generalize v 1=z1
  generalize v 2=z2
  generalize v 3=z3
  generalize v 4=z4
  generalize v 5=z5
  generalize v 6=z6
  generalize v 7=z7
  generalize v 8=z8
  generalize v 9=z9
  generalize v 10=z10
  generalize v 11=z11
  generalize v 12=z12
  clear v L γ
  have cf:=follow_any hA1 (-1)
  go_wp2_with fail
  refine cf.mono ?_
  rintro e w2 ⟨rfl,hA2,hC2⟩
  clear cf
  have d9:=hA2.nd.cell 9
  have d13:=hA2.nd.cell 13
  have f9:=hA2.nd.frozen 9
  have f13:=hA2.nd.frozen 13
  have hlt:=hA2.nd.lt
  simp[ndCells]at d9 d13
  have hA3:NdAt (w2.setCell ⟨K.r,9,none⟩ (.int .i64 1)) { K with vv:=.slice none 0 0,mv:=.slice none 0 0,nv:=.slice none 0 0 } { (N.keep (N.s.term+1) ((N.id:Int)+1)).follow (-1)with role:=1 } := hA2.set rfl rfl rfl rfl rfl rfl rfl
  have hA4:NdAt ((w2.setCell ⟨K.r,9,none⟩ (.int .i64 1)).setCell ⟨K.r,13,none⟩ (.int .i64 0)) { K with vv:=.slice none 0 0,mv:=.slice none 0 0,nv:=.slice none 0 0 } N.stand0:=hA3.set rfl rfl rfl rfl rfl rfl rfl
  have hC4:Chg (fun k=>k=K.r) w1 ((w2.setCell ⟨K.r,9,none⟩ (.int .i64 1)).setCell ⟨K.r,13,none⟩ (.int .i64 0)):=(hC2.setCell (p:=⟨K.r,9,none⟩) (.inl rfl) _).setCell (p:=⟨K.r,13,none⟩) (.inl rfl) _
  go_upto_region 3 with fail
  generalize (w2.setCell ⟨K.r,9,none⟩ (.int .i64 1)).setCell ⟨K.r,13,none⟩ (.int .i64 0)=w4 at hA4 hC4⊢
  clear hA1 hA2 hA3 hC2 d9 d13 f9 f13 hlt
  have e2:=hA4.nd.cell 2
  have e14:=hA4.nd.cell 14
  have g14:=hA4.nd.frozen 14
  have hlt:=hA4.nd.lt
  simp[ndCells,Nd.stand0,Nd.keep,Nd.follow]at e2 e14
  have hmk:=fun W=>q_make (t:=94) (e:=4) Tryz.underlying94 bool_info rfl (by decide) N.n (by omega) W
  have hA5:NdAt ((w4.setCell ⟨K.r,14,none⟩ (.slice (some ⟨w4.heap.size,0,none⟩) N.n N.n)).alloc (.cells (Array.replicate N.n (.bool false)) 4)) { K with vv:=.slice (some ⟨w4.heap.size,0,none⟩) N.n N.n,mv:=.slice none 0 0,nv:=.slice none 0 0 } { N.stand0 with votes:=List.replicate N.n false } := (hA4.voted hn5).1
  have hC5:Chg (fun k=>k=K.r) w4 ((w4.setCell ⟨K.r,14,none⟩ (.slice (some ⟨w4.heap.size,0,none⟩) N.n N.n)).alloc (.cells (Array.replicate N.n (.bool false)) 4)):=(hA4.voted hn5).2
  go_upto_region 4 with fail
  have hx4:w1.heap.size≤w4.heap.size:=hC4.size
  generalize (w4.setCell ⟨K.r,14,none⟩ (.slice (some ⟨w4.heap.size,0,none⟩) N.n N.n)).alloc (.cells (Array.replicate N.n (.bool false)) 4)=w5 at hA5 hC5⊢
  have hC15:Chg (fun k=>k=K.r) w1 w5:=hC4.trans hC5 (fun _ _ e=>e)
  obtain⟨x,hx⟩:∃x,x=w4.heap.size:=⟨_,rfl⟩
  rw[←hx]at hA5 hx4⊢
  clear hx hA4 hC4 hC5 hmk e2 e14 g14 hlt
  have e1:=hA5.nd.cell 1
  have e14:=hA5.nd.cell 14
  simp[ndCells,Nd.stand0,Nd.keep,Nd.follow]at e1 e14
  obtain⟨g,cc,hgv,hcap,hgl,hfz,hcells⟩:=q_some hA5.vs (by show 0<(List.replicate N.n false).length;rw[List.length_replicate];omega)
  have hgb:g=x:=by simp only[Value.slice.injEq,Option.some.injEq,Addr.mk.injEq]at hgv;exact hgv.1.1.symm
  subst hgb
  have m0:w5.cell? ⟨g,N.id,none⟩=some (.bool false):=by
   rw[hcells (by decide) N.id (by show N.id<(List.replicate N.n false).length * 1;rw[List.length_replicate];omega)]
   show((List.replicate N.n false).map Value.bool)[N.id]? = _
   rw[List.getElem?_map,List.getElem?_replicate,if_pos hid];rfl
  have f0:=hfz N.id
  have hA6:=(hA5.setvt (g:=g) (cap:=N.n) (by show _=Value.slice (some ⟨g,0,none⟩) (List.replicate N.n false).length N.n;rw[List.length_replicate]) (j:=N.id) (by show _<(List.replicate N.n false).length;rw[List.length_replicate];exact hid) true).drew'
  clear hgv hcap hcells hfz
  go_region
  have hC16:Chg (fun k=>k=K.r∨w1.heap.size≤k) w1 (w5.setCell ⟨g,N.id,none⟩ (.bool true)).drew:=((hC15.mono (fun k hk e=>.inl e)).setCell (p:=⟨g,N.id,none⟩) (.inl (.inr hx4)) _).drew
  generalize (w5.setCell ⟨g,N.id,none⟩ (.bool true)).drew=w6 at hA6 hC16⊢
  obtain⟨K6,hK6⟩:∃K6:Ka,K6 = { K with vv:=.slice (some ⟨g,0,none⟩) N.n N.n,mv:=.slice none 0 0,nv:=.slice none 0 0 } := ⟨_,rfl⟩
  have r1:K6.r=K.r:=by rw[hK6]
  have r2:K6.d=K.d:=by rw[hK6]
  have r3:K6.m=K.m:=by rw[hK6]
  have hA:NdAt w6 K6 N.stand:=by rw[hK6];exact hA6
  have hKK:∀k,K6.has k→K.has k∨w1.heap.size≤k:=by
   intro k hk
   rw[hK6]at hk
   rcases hk with e|e|e|e|e|e|e|e|e
   ·exact .inl (.inl e)
   ·exact .inl (.inr (.inl e))
   ·exact .inl (.inr (.inr (.inl e)))
   ·exact .inl (.inr (.inr (.inr (.inl e))))
   ·have e':k=g:=by simpa[Value.ownBlock]using e
    exact .inr (by omega)
   ·cases e
   ·cases e
   ·exact .inl (.inr (.inr (.inr (.inr (.inr (.inr (.inr (.inl e))))))))
   ·exact .inl (.inr (.inr (.inr (.inr (.inr (.inr (.inr (.inr e))))))))
  have hCK:Chg K.has w1 w6:=hC16.mono (fun k hk e=>e.elim .inl (fun e=>by omega))
  have hT6:=hT1.chg hCK hTK
  have hs1:=hT1.lt
  have hTK6:¬ K6.has 0:=fun hk=>by
   rcases hKK _ hk with e|e
   ·exact hTK e
   ·omega
  have HKK:=Lib.hid hKK
  have HCK:=Lib.hid hCK
  clear hA5 hA6 hC15 hC16 hK6 hKK hCK hx4 e1 e14 m0 f0 hgl hT1 hST
  have ct:=tlast_any w6 K6.r 3 N.stand.s K6.lv hA.ts HTS.out
  rw[r1]at ct
  go_wp2_with fail
  refine ct.mono ?_
  rintro e w7 ⟨rfl,hE7⟩
  clear ct
  have hA7:=hA.ext hE7
  have hT7:=hT6.ext hE7
  have e2:=hA7.nd.cell 2
  rw[r1]at e2
  simp[ndCells,Nd.stand,Nd.keep,Nd.follow]at e2
  have h70:NdTo K6 w7 w7 (N.stand.askK 0):=NdTo.refl hA7
  have HE7:=Lib.hid hE7
  clear hA hA7 hE7 hT6
  go_wp2_with fail
  go_loopw [55] (fun iv wr=>∃k:Nat,k≤N.n∧iv=.int .i64 (k:Int)∧NdTo K6 w7 wr (N.stand.askK k)) (fun iv _=>N.n - (intOf iv).toNat)
  case atStart=>exact⟨0,Nat.zero_le _,rfl,h70⟩
  case round =>
   obtain⟨k,hk,rfl,hTo⟩:=hrel
   rename World=>wr
   obtain⟨K1,s1,s2,s3,hA,hC,hKK⟩:=hTo
   obtain⟨p1,p2,p3,p4⟩:=askK_out N.stand k
   have hsucc:=askK_succ N.stand k
   have d1:=hA.nd.cell 1
   rw[s1,r1]at d1
   simp[ndCells]at d1
   rw[p2]at d1
   by_cases hlt:k<N.n
   ·by_cases hid2:k=N.id
    ·have hst:N.stand.askK (k+1)=N.stand.askK k:=by rw[hsucc];unfold Nd.askTo;rw[if_pos (by rw[p2];exact hid2)]
     have HST:=Lib.hid hst
     have hid3:((k:Int) != (N.stand.id:Int))=false:=by rw[hid2];simp[Nd.stand,Nd.keep,Nd.follow]
     have HTO:=Lib.hid (show NdTo K6 w7 wr (N.stand.askK k)from⟨K1,s1,s2,s3,hA,hC,hKK⟩)
     clear hsucc hst p1 p2 p3 p4 hid2 hA hC hKK
     go_wp2_with fail
     go_roundw
     case rel=>exact⟨k+1,Nat.succ_le_of_lt hlt,by go_num,by rw[HST.out];exact HTO.out⟩
     case measure=>simp[intOf];omega
    ·have hst:N.stand.askK (k+1)=(N.stand.askK k).send ⟨1,0,k,0,N.stand.s.last.1,N.stand.s.last.2,0,false,[],ByteArray.empty⟩:=by rw[hsucc];unfold Nd.askTo;rw[if_neg (by rw[p2];exact hid2),p1]
     have HST:=Lib.hid hst
     have hid3:((k:Int) != (N.stand.id:Int))=true:=by
      have e:N.stand.id=N.id:=rfl
      rw[e];simp;omega
     have cs:=send_any hA (HASK.out k (Nat.le_of_lt hlt)) ⟨1,0,k,0,N.stand.s.last.1,N.stand.s.last.2,0,false,[],ByteArray.empty⟩ (.slice none 0 0) (World.ownsRow_nil _ _ _ _) (fun k hk=>by cases hk)
     rw[s1,r1]at cs
     have hss:∃y,y=NdTo K6 w7 wr (N.stand.askK k):=⟨_,rfl⟩
     clear hsucc hst p1 p2 p3 p4 hid2 hss
     have cs':Calls Tryz.prog 155 #[.pointer (some ⟨K.r,0,none⟩),.agg #[.int .i64 1,.int .i64 0,.int .i64 (k:Int),.int .i64 0,.int .i64 N.stand.s.last.1,.int .i64 N.stand.s.last.2,.int .i64 0,.bool false,.slice none 0 0,.string ⟨#[]⟩]] wr _:=cs
     clear cs
     have HHC:=Lib.hid hC
     have HHK:=Lib.hid hKK
     have HHA:=Lib.hid hA
     clear hA hC hKK
     go_wp2_with fail
     refine cs'.mono ?_
     rintro e w8 ⟨rfl,v',hA8,hC8,hb8⟩
     clear cs'
     have hTo8:NdTo K6 w7 w8 (N.stand.askK (k+1)):=by
      rw[HST.out]
      rw[show K.r=K1.r from(s1.trans r1).symm]at hA8
      exact NdTo.next s1 s2 s3 HHC.out HHK.out (NdTo.sent hA8 hC8 hb8 (fun _ hk=>by cases hk))
     have HTO:=Lib.hid hTo8
     clear hTo8 hA8 hC8 hb8
     go_wp2_with fail
     go_roundw
     case rel=>exact⟨k+1,Nat.succ_le_of_lt hlt,by go_num,HTO.out⟩
     case measure=>simp[intOf];omega
   ·obtain rfl:k=N.n:=by omega
    have hask:N.stand.askK N.n=N.stand.ask:=rfl
    rw[hask]at hA
    have hTr:Tab wr:=hT7.chg hC hTK6
    have hTK1:¬ K1.has 0:=fun hk=>by
     rcases hKK _ hk with e|e
     ·exact hTK6 e
     ·have:=hT7.lt;omega
    have cc:=HCNT.out wr K1 hA (s1.trans r1) hTr hTK1
    clear hsucc p1 p2 p3 p4 d1 hask
    have HHC:=Lib.hid hC
    have HHK:=Lib.hid hKK
    clear hC hKK hA
    go_wp2_with fail
    refine cc.mono ?_
    rintro e w9 ⟨rfl,hT9⟩
    clear cc
    go_wp2_with fail
    first|go_end0|refine bodyPost_ret (results_none rfl _ _ _) rfl ?_
    have he:N.elect=N.stand.ask.count:=rfl
    rw[he]
    exact⟨rfl,NdTo.next rfl rfl rfl HC1.out (fun _ e=>.inl e) (NdTo.next r1 r2 r3 HCK.out HKK.out (NdTo.ext_next HE7.out (NdTo.next s1 s2 s3 HHC.out HHK.out hT9)))⟩
end
end Go.Proofs.YtkkbfdencgdbhaaGreatDoor
namespace Go.Proofs.YtkkbfdencgdbhaaGreatDoor
open Go.RowKit Go.Sort
section
variable{W:World}{K:Ka}{N:Nd}(h:NdAt W K N)
include h
set_option maxRecDepth 100000 in
theorem tick_wait(hr:N.role≠2)(hti:0≤N.timer)(ht:N.timer+1<4+2 * (N.id:Int))(hid:N.id≤5):Calls Tryz.prog 68 #[.pointer (some ⟨K.r,0,none⟩)] W fun e w'=>e=.returned (.tuple #[])∧NdTo K W w' { N with timer:=N.timer+1 } := by
 have c18:=h.nd.cell 18
 have c9:=h.nd.cell 9
 have c13:=h.nd.cell 13
 have c1:=h.nd.cell 1
 have f13:=h.nd.frozen 13
 have hlt:=h.nd.lt
 simp[ndCells]at c18 c9 c13 c1
 have htr:(N.role == 2)=false:=by simpa using hr
 have hts:decide (4+2 * (N.id:Int)≤N.timer+1)=false:=by simp;omega
 have h1:NdAt (W.setCell ⟨K.r,13,none⟩ (.int .i64 (N.timer+1))) K { N with timer:=N.timer+1 } := h.set rfl rfl rfl rfl rfl rfl rfl
 have c1b:=h1.nd.cell 1
 have c13b:=h1.nd.cell 13
 simp[ndCells]at c1b c13b
 clear hr
 go_enter Tryz.func68,Tryz.ntmps68
 go_wp2_with fail
 go_region
 all_goals
  go_wp2_with fail
  first|go_end0|refine bodyPost_ret (results_none rfl _ _ _) rfl ?_
  exact⟨rfl,NdTo.then_ext (NdTo.of h1 (chg_r K W 13 _)) ((Ext.refl _).drew)⟩
set_option maxRecDepth 100000 in
theorem tick_elect(hr:N.role≠2)(hti:0≤N.timer∧N.timer≤1000)(ht:4+2 * (N.id:Int)≤N.timer+1)(hid:N.id≤5)
 (ce:∀w' K',NdAt w' K' { N with timer:=N.timer+1 } → K'.r=K.r→K'.has=K.has→Ext (W.setCell ⟨K.r,13,none⟩ (.int .i64 (N.timer+1))) w'→Calls Tryz.prog 118 #[.pointer (some ⟨K.r,0,none⟩)] w' fun e w''=>e=.returned (.tuple #[])∧NdTo K' w' w'' (Nd.elect { N with timer:=N.timer+1 })) :
 Calls Tryz.prog 68 #[.pointer (some ⟨K.r,0,none⟩)] W fun e w'=>e=.returned (.tuple #[])∧NdTo K W w' (Nd.elect { N with timer:=N.timer+1 }):=by
 have c18:=h.nd.cell 18
 have c9:=h.nd.cell 9
 have c13:=h.nd.cell 13
 have c1:=h.nd.cell 1
 have f13:=h.nd.frozen 13
 have hlt:=h.nd.lt
 simp[ndCells]at c18 c9 c13 c1
 have htr:(N.role == 2)=false:=by simpa using hr
 have hts:decide (4+2 * (N.id:Int)≤N.timer+1)=true:=by simp;omega
 have h1:NdAt (W.setCell ⟨K.r,13,none⟩ (.int .i64 (N.timer+1))) K { N with timer:=N.timer+1 } := h.set rfl rfl rfl rfl rfl rfl rfl
 have c1b:=h1.nd.cell 1
 have c13b:=h1.nd.cell 13
 simp[ndCells]at c1b c13b
 have h2:=h1.ext ((Ext.refl _).drew)
 have cc:=ce _ K h2 rfl rfl ((Ext.refl _).drew)
 have HT:=Lib.hid (fun w' (hh:NdTo K (W.setCell ⟨K.r,13,none⟩ (.int .i64 (N.timer+1))).drew w' (Nd.elect { N with timer:=N.timer+1 }))=>NdTo.next rfl rfl rfl ((chg_r K W 13 (.int .i64 (N.timer+1))).drew) (fun _ e=>.inl e) hh)
 clear hr h1 h2 ce
 go_enter Tryz.func68,Tryz.ntmps68
 go_wp2_with fail
 go_region
 all_goals
  go_wp2_with fail
  refine cc.mono ?_
  rintro e w1 ⟨rfl,hT⟩
  go_wp2_with fail
  first|go_end0|refine bodyPost_ret (results_none rfl _ _ _) rfl ?_
  exact⟨rfl,HT.out _ hT⟩
set_option maxRecDepth 100000 in
theorem propose_any(hN:NdOk N)(hr:N.role=2)(c:ByteArray)(hc:c.size≤100000)(hlast:0≤N.s.last.1∧N.s.last.1<1099511627776)(hlen:N.s.log.length<1000)(hid:N.id<N.mt.length)(hroom:N.fs.tot+osz N.fs.lg+100+c.size≤4194304)
 (hT:Tab W) (hTK:¬ K.has 0) (hl:∀K1:Ka,K1.r=K.r→LackOk K1 (N.add c)) (hok:NdOk (N.add c).sendAll) :
 Calls Tryz.prog 38 #[.pointer (some ⟨K.r,0,none⟩),.string c] W fun e w'=>e=.returned (.tuple #[.int .i64 (N.s.last.1+1),.int .i64 (N.append c).s.term,.int .i64 0])∧NdTo K W w' (N.append c):=by
 have c18:=h.nd.cell 18
 have c9:=h.nd.cell 9
 simp[ndCells]at c18 c9
 have ht:(N.role != 2)=false:=by simp[hr]
 have hroom':N.fs.tot+osz N.fs.lg+(enFs [N.nextE c]).length≤4194304:=by
  have h2:=frameL_length (N.nextE c).enc
  have h3:=(N.nextE c).enc_len
  have h4:(N.nextE c).c.size=c.size:=rfl
  have h5:(enFs [N.nextE c]).length=(frameL (N.nextE c).enc).length:=by simp[enFs]
  omega
 rw[add_addE]at hok
 simp only[add_addE]at hl
 have ca:Calls Tryz.prog 83 #[.pointer (some ⟨K.r,0,none⟩),.string c] W _:=appendE_any h hN (N.nextE c) rfl rfl hc hlast hlen hid hroom' hT hTK hl hok
 rw[←append_addE]at ca
 have hei:(N.nextE c).i=N.s.last.1+1:=rfl
 rw[hei]at ca
 clear hr hl hok hei hroom'
 generalize N.append c=N2 at ca⊢
 go_enter Tryz.func38,Tryz.ntmps38
 go_wp2_with fail
 refine ca.mono ?_
 rintro e w1 ⟨rfl,K1,r1,r2,r3,hA,hC,hKK⟩
 clear ca
 have d18:=hA.nd.cell 18
 have d3:=hA.nd.cell 3
 rw[r1]at d18 d3
 simp[ndCells]at d18 d3
 have HT:=Lib.hid (show NdTo K W w1 N2 from⟨K1,r1,r2,r3,hA,hC,hKK⟩)
 clear hA hC hKK
 go_wp2_with fail
 go_region
 all_goals
  go_wp2_with fail
  go_ret3
  exact⟨rfl,HT.out.then_ext ((Ext.refl _).drew)⟩
def Nd.freshE(N:Nd):List En:=N.s.from_ (N.applied+1) (N.commit - N.applied)
def Nd.fresh(N:Nd):Nd := { N with applied:=(N.freshE.getLast?.map En.i).getD N.applied }
set_option maxRecDepth 100000 in
set_option maxHeartbeats 2000000 in
theorem fresh_any(hN:NdOk N)(hap:N.s.base≤N.applied∧N.applied≤N.commit) :
 Calls Tryz.prog 14 #[.pointer (some ⟨K.r,0,none⟩)] W fun e w'=>∃v,e=.returned (.tuple #[.string ⟨#[]⟩,.bool false,v])∧w'.ownsRow W.heap.size 49 3 v N.freshE.length (enRows N.freshE)∧NdAt w' K N.fresh∧Chg (fun k=>k=K.r) W w':=by
 have c12:=h.nd.cell 12
 have c5:=h.nd.cell 5
 simp[ndCells]at c12 c5
 have hb:=hN.ts.base
 have hc:=hN.commit
 have htb:decide (N.applied<N.s.base)=false:=by simp;omega
 have HW1:=Lib.hid (IntWalk.i64_in (N.applied+1) (by omega))
 have HW2:=Lib.hid (IntWalk.i64_in (N.commit - N.applied) (by omega))
 have HB1:=Lib.hid (show -9223372036854775808≤N.applied+1∧N.applied+1≤9223372036854775807 by omega)
 have HB2:=Lib.hid (show 0≤N.commit - N.applied∧N.commit - N.applied≤9223372036854775807 by omega)
 have hfl:=Ts.from_len N.s (N.applied+1) (N.commit - N.applied)
 have hll:=hN.ts.len
 go_enter Tryz.func14,Tryz.ntmps14
 go_wp2_with fail
 go_region
 have hW:=h.ext ((Ext.refl W).drew)
 have HEW:=Lib.hid ((Ext.refl W).drew)
 clear h c12 c5
 have hsz:W.drew.heap.size=W.heap.size:=rfl
 have HSZ:=Lib.hid hsz
 clear hsz
 generalize hWd:W.drew=W1 at hW HEW HSZ⊢
 clear hWd
 have h:=hW
 clear hW
 go_wp2_with fail
 have hST:GQ.St (fun _=>False) (fun _ _=>True) [⟨17,0,fun _ v w=>w.ownsRow W1.heap.size 49 3 v (N.s.from_ (N.applied+1) (N.commit - N.applied)).length (enRows (N.s.from_ (N.applied+1) (N.commit - N.applied)))⟩,⟨18,1,fun _ v w=>w.ownsRow W1.heap.size 49 3 v (N.s.from_ (N.applied+1) (N.commit - N.applied)).length (enRows (N.s.from_ (N.applied+1) (N.commit - N.applied)))⟩]:=⟨fun _ _ _ h _=>h,by
  intro gx hx
  rcases List.mem_cons.1 hx with rfl|hx
  ·exact fun b v w w' h hE=>own_ext h hE
  rcases List.mem_cons.1 hx with rfl|hx
  ·exact fun b v w w' h hE=>own_ext h hE
  cases hx⟩
 refine wp_region_phi (Γ := Nat→Value) (sgφ [.val (.pointer (some ⟨K.r,0,none⟩)),.val (.pointer (some ⟨K.r,0,none⟩)),.val (.pointer (some ⟨K.r,3,none⟩)),.val (.pointer (some ⟨K.r,0,none⟩)),.val (.pointer (some ⟨K.r,0,none⟩)),.val (.pointer (some ⟨K.r,12,none⟩)),.val (.int .i64 N.applied),.val (.int .i64 (N.applied+1)),.val (.pointer (some ⟨K.r,0,none⟩)),.val (.pointer (some ⟨K.r,0,none⟩)),.val (.pointer (some ⟨K.r,11,none⟩)),.val (.int .i64 N.commit),.val (.pointer (some ⟨K.r,0,none⟩)),.val (.pointer (some ⟨K.r,0,none⟩)),.val (.pointer (some ⟨K.r,12,none⟩)),.val (.int .i64 N.applied),.val (.int .i64 (N.commit - N.applied)),.g 0,.g 1])
  (GQ W1 (fun _=>False) 1000 (fun _ _=>True) [⟨17,0,fun _ v w=>w.ownsRow W1.heap.size 49 3 v (N.s.from_ (N.applied+1) (N.commit - N.applied)).length (enRows (N.s.from_ (N.applied+1) (N.commit - N.applied)))⟩,⟨18,1,fun _ v w=>w.ownsRow W1.heap.size 49 3 v (N.s.from_ (N.applied+1) (N.commit - N.applied)).length (enRows (N.s.from_ (N.applied+1) (N.commit - N.applied)))⟩])
  (by kernel_rfl) (by kernel_rfl) (by kernel_rfl) (fun _=>undef) (GQ.start _ _ _ _ _ _ (trivial)) ?steps ?fin
 case steps =>
  show StepsTo _ _ _ _ _ _ 19
  refine⟨⟨⟨⟨⟨⟨⟨⟨⟨⟨⟨⟨⟨⟨⟨⟨⟨⟨⟨trivial,?s0⟩,?s1⟩,?s2⟩,?s3⟩,?s4⟩,?s5⟩,?s6⟩,?s7⟩,?s8⟩,?s9⟩,?s10⟩,?s11⟩,?s12⟩,?s13⟩,?s14⟩,?s15⟩,?s16⟩,?s17⟩,?s18⟩
  case s0 =>
   refine sg_val (x:=.pointer (some ⟨K.r,0,none⟩)) rfl rfl rfl (GQ.keep (j:=0) (by decide) rfl) fun γ L v a w st=>?_
   have f0:=st.far 0 (by kernel_rfl)
   simp at f0
   go_simp
  case s1 =>
   refine sg_val (x:=.pointer (some ⟨K.r,0,none⟩)) rfl rfl rfl (GQ.keep (j:=1) (by decide) rfl) fun γ L v a w st=>?_
   have e0:=st.val 0 30 rfl (by kernel_rfl)
   rw[(st.φ 0 (by kernel_rfl):v 0=_)]at e0
   simp at e0
   go_simp
  case s2 =>
   refine sg_val (x:=.pointer (some ⟨K.r,3,none⟩)) rfl rfl rfl (GQ.keep (j:=2) (by decide) rfl) fun γ L v a w st=>?_
   have e1:=st.val 1 31 rfl (by kernel_rfl)
   rw[(st.φ 1 (by kernel_rfl):v 1=_)]at e1
   simp at e1
   go_simp
  case s3 =>
   refine sg_val (x:=.pointer (some ⟨K.r,0,none⟩)) rfl rfl rfl (GQ.keep (j:=3) (by decide) rfl) fun γ L v a w st=>?_
   have f0:=st.far 0 (by kernel_rfl)
   simp at f0
   go_simp
  case s4 =>
   refine sg_val (x:=.pointer (some ⟨K.r,0,none⟩)) rfl rfl rfl (GQ.keep (j:=4) (by decide) rfl) fun γ L v a w st=>?_
   have e3:=st.val 3 33 rfl (by kernel_rfl)
   rw[(st.φ 3 (by kernel_rfl):v 3=_)]at e3
   simp at e3
   go_simp
  case s5 =>
   refine sg_val (x:=.pointer (some ⟨K.r,12,none⟩)) rfl rfl rfl (GQ.keep (j:=5) (by decide) rfl) fun γ L v a w st=>?_
   have e4:=st.val 4 34 rfl (by kernel_rfl)
   rw[(st.φ 4 (by kernel_rfl):v 4=_)]at e4
   simp at e4
   go_simp
  case s6 =>
   refine sg_val (x:=.int .i64 N.applied) rfl rfl rfl (GQ.keep (j:=6) (by decide) rfl) fun γ L v a w st=>?_
   have e5:=st.val 5 35 rfl (by kernel_rfl)
   rw[(st.φ 5 (by kernel_rfl):v 5=_)]at e5
   simp at e5
   have hcl:=(h.ext (st.inv.off (fun _ h=>h))).nd.cell 12
   simp[ndCells]at hcl
   go_simp
  case s7 =>
   refine sg_val (x:=.int .i64 (N.applied+1)) rfl rfl rfl (GQ.keep (j:=7) (by decide) rfl) fun γ L v a w st=>?_
   have e6:=st.val 6 36 rfl (by kernel_rfl)
   rw[(st.φ 6 (by kernel_rfl):v 6=_)]at e6
   simp at e6
   go_simp
   exact HW1.out
  case s8 =>
   refine sg_val (x:=.pointer (some ⟨K.r,0,none⟩)) rfl rfl rfl (GQ.keep (j:=8) (by decide) rfl) fun γ L v a w st=>?_
   have f0:=st.far 0 (by kernel_rfl)
   simp at f0
   go_simp
  case s9 =>
   refine sg_val (x:=.pointer (some ⟨K.r,0,none⟩)) rfl rfl rfl (GQ.keep (j:=9) (by decide) rfl) fun γ L v a w st=>?_
   have e8:=st.val 8 38 rfl (by kernel_rfl)
   rw[(st.φ 8 (by kernel_rfl):v 8=_)]at e8
   simp at e8
   go_simp
  case s10 =>
   refine sg_val (x:=.pointer (some ⟨K.r,11,none⟩)) rfl rfl rfl (GQ.keep (j:=10) (by decide) rfl) fun γ L v a w st=>?_
   have e9:=st.val 9 39 rfl (by kernel_rfl)
   rw[(st.φ 9 (by kernel_rfl):v 9=_)]at e9
   simp at e9
   go_simp
  case s11 =>
   refine sg_val (x:=.int .i64 N.commit) rfl rfl rfl (GQ.keep (j:=11) (by decide) rfl) fun γ L v a w st=>?_
   have e10:=st.val 10 40 rfl (by kernel_rfl)
   rw[(st.φ 10 (by kernel_rfl):v 10=_)]at e10
   simp at e10
   have hcl:=(h.ext (st.inv.off (fun _ h=>h))).nd.cell 11
   simp[ndCells]at hcl
   go_simp
  case s12 =>
   refine sg_val (x:=.pointer (some ⟨K.r,0,none⟩)) rfl rfl rfl (GQ.keep (j:=12) (by decide) rfl) fun γ L v a w st=>?_
   have f0:=st.far 0 (by kernel_rfl)
   simp at f0
   go_simp
  case s13 =>
   refine sg_val (x:=.pointer (some ⟨K.r,0,none⟩)) rfl rfl rfl (GQ.keep (j:=13) (by decide) rfl) fun γ L v a w st=>?_
   have e12:=st.val 12 42 rfl (by kernel_rfl)
   rw[(st.φ 12 (by kernel_rfl):v 12=_)]at e12
   simp at e12
   go_simp
  case s14 =>
   refine sg_val (x:=.pointer (some ⟨K.r,12,none⟩)) rfl rfl rfl (GQ.keep (j:=14) (by decide) rfl) fun γ L v a w st=>?_
   have e13:=st.val 13 43 rfl (by kernel_rfl)
   rw[(st.φ 13 (by kernel_rfl):v 13=_)]at e13
   simp at e13
   go_simp
  case s15 =>
   refine sg_val (x:=.int .i64 N.applied) rfl rfl rfl (GQ.keep (j:=15) (by decide) rfl) fun γ L v a w st=>?_
   have e14:=st.val 14 44 rfl (by kernel_rfl)
   rw[(st.φ 14 (by kernel_rfl):v 14=_)]at e14
   simp at e14
   have hcl:=(h.ext (st.inv.off (fun _ h=>h))).nd.cell 12
   simp[ndCells]at hcl
   go_simp
  case s16 =>
   refine sg_val (x:=.int .i64 (N.commit - N.applied)) rfl rfl rfl (GQ.keep (j:=16) (by decide) rfl) fun γ L v a w st=>?_
   have e11:=st.val 11 41 rfl (by kernel_rfl)
   rw[(st.φ 11 (by kernel_rfl):v 11=_)]at e11
   simp at e11
   have e15:=st.val 15 45 rfl (by kernel_rfl)
   rw[(st.φ 15 (by kernel_rfl):v 15=_)]at e15
   simp at e15
   go_simp
   exact HW2.out
  case s17 =>
   refine sg_call (k:=0) (f:=43) rfl rfl rfl (by kernel_rfl) fun γ L v a w st=>?_
   have e2:=st.val 2 32 rfl (by kernel_rfl)
   rw[(st.φ 2 (by kernel_rfl):v 2=_)]at e2
   simp at e2
   have e7:=st.val 7 37 rfl (by kernel_rfl)
   rw[(st.φ 7 (by kernel_rfl):v 7=_)]at e7
   simp at e7
   have e16:=st.val 16 46 rfl (by kernel_rfl)
   rw[(st.φ 16 (by kernel_rfl):v 16=_)]at e16
   simp at e16
   have hE0:=st.inv.off (fun _ h=>h)
   have cf:=tfrom_any w K.r 3 N.s K.lv ((h.ext hE0).ts) hN.ts (N.applied+1) (N.commit - N.applied) HB1.out HB2.out
   refine⟨#[.pointer (some ⟨K.r,3,none⟩),.int .i64 (N.applied+1),.int .i64 (N.commit - N.applied)],by go_simp,cf.mono ?_⟩
   rintro e w' ⟨x,rfl,hO,hE⟩
   refine⟨x,rfl,st.inv.new hST hE (by decide) rfl ?_⟩
   intro gx hx hxj
   rcases List.mem_cons.1 hx with rfl|hx
   ·exact⟨rfl,q_base hO hE0.size⟩
   rcases List.mem_cons.1 hx with rfl|hx
   ·exact absurd (show(18:Nat)=17 from hxj) (by decide)
   cases hx
  case s18 =>
   refine sg_new (k:=1) rfl rfl rfl (by kernel_rfl) fun γ L v a w st=>?_
   have e17:=st.val 17 47 rfl (by kernel_rfl)
   rw[(st.φ 17 (by kernel_rfl):v 17=_)]at e17
   have hg17:=st.inv.gh ⟨17,0,fun _ v w=>w.ownsRow W1.heap.size 49 3 v (N.s.from_ (N.applied+1) (N.commit - N.applied)).length (enRows (N.s.from_ (N.applied+1) (N.commit - N.applied)))⟩ (by simp) (st.dep 17 (by kernel_rfl))
   obtain⟨xA,xc,hxv,_⟩:=q_slc hg17
   refine⟨γ 0,w,by rw[hxv]at e17⊢;go_simp,st.inv.new hST (Ext.refl w) (by decide) rfl ?_⟩
   intro gx hx hxj
   rcases List.mem_cons.1 hx with rfl|hx
   ·exact absurd (show(17:Nat)=18 from hxj) (by decide)
   rcases List.mem_cons.1 hx with rfl|hx
   ·exact⟨rfl,hg17⟩
   cases hx
 case fin =>
  intro γ L v wr hall hG hφ
  have hO:=hG.gh ⟨18,1,fun _ v w=>w.ownsRow W1.heap.size 49 3 v (N.s.from_ (N.applied+1) (N.commit - N.applied)).length (enRows (N.s.from_ (N.applied+1) (N.commit - N.applied)))⟩ (by simp) (hall 18 (by decide))
  have hv18:v 18 = γ 1:=hφ 18 (by decide)
  have hE:=hG.off (fun _ h=>h)
  clear hall hφ hG
  change Exit.then _ _ _ (putAll _ v _ 19) wr
  simp only[putAll,dstOf,Act.put]
  simp only[List.getElem?_toArray,List.getElem?_cons_zero,List.getElem?_cons_succ,Option.bind_some,List.setIfInBounds_toArray,List.set_cons_zero,List.set_cons_succ]
  have hfr:N.s.from_ (N.applied+1) (N.commit - N.applied)=N.freshE:=rfl
  rw[hfr]at hfl
  replace hO:wr.ownsRow W1.heap.size 49 3 (γ 1) N.freshE.length (enRows N.freshE):=hO
  rw[hv18]
  have hE0:Ext W1 wr:=hE
  have hA:=h.ext hE0
  have hEE:Ext W wr:=HEW.out.trans hE0
  rw[HSZ.out]at hO
  clear hST hv18 hE hE0 h
  generalize γ 1=lv at hO⊢
  generalize v 0=z0
  generalize v 1=z1
  generalize v 2=z2
  generalize v 3=z3
  generalize v 4=z4
  generalize v 5=z5
  generalize v 6=z6
  generalize v 7=z7
  generalize v 8=z8
  generalize v 9=z9
  generalize v 10=z10
  generalize v 11=z11
  generalize v 12=z12
  generalize v 13=z13
  generalize v 14=z14
  generalize v 15=z15
  generalize v 16=z16
  generalize v 17=z17
  clear v L γ
  obtain⟨A,c,hlv,hcap⟩:=q_slc hO
  have HFD:=Lib.hid (show N.fresh = { N with applied:=(N.freshE.getLast?.map En.i).getD N.applied } from rfl)
  by_cases hne:N.freshE.length=0
  ·have hnil:N.freshE=[]:=List.eq_nil_of_length_eq_zero hne
   have hfre:N.fresh=N:=by rw[HFD.out,hnil];rfl
   have HF:=Lib.hid hfre
   have HO:=Lib.hid hO
   rw[hnil]at hlv
   subst hlv
   clear hfre hO hne hnil
   go_wp2_with fail
   go_ret3
   rw[HF.out]
   exact⟨_,rfl,HO.out,hA,hEE.chg⟩
  ·obtain⟨n,hn⟩:∃n,N.freshE.length=n+1:=⟨N.freshE.length - 1,by omega⟩
   obtain⟨x,hx⟩:∃x,N.freshE[n]? = some x:=⟨_,List.getElem?_eq_getElem (by omega)⟩
   obtain⟨g,p,c',hv,r0,r1,r2⟩:=ens_some (Sln.of_own (xs:=N.freshE.map En.row) (by rw[←enRows_eq];exact hO) (en_three _) (by rw[List.length_map])) hx
   have hfre:N.fresh = { N with applied:=x.i } := by
    rw[HFD.out,List.getLast?_eq_getElem?,hn,show n+1 - 1=n from rfl,hx];rfl
   have HF:=Lib.hid hfre
   have HO:=Lib.hid hO
   have f12:=hA.nd.frozen 12
   have d12:=hA.nd.cell 12
   have hlt:=hA.nd.lt
   simp[ndCells]at d12
   have hn1:n+1≤1000:=by omega
   rw[hn]at hv
   subst hv
   clear hfre hO hne hlv hcap hx hn hfl
   go_wp2_with fail
   go_ret3
   rw[HF.out]
   have hC1:Chg (fun k=>k=K.r) wr (wr.setCell ⟨K.r,12,none⟩ (.int .i64 x.i)):=(Chg.refl (fun k=>k=K.r) wr).setCell (p:=⟨K.r,12,none⟩) (.inl rfl) _
   refine⟨_,rfl,q_keep HO.out hC1 (fun k hk e=>?_),hA.set rfl rfl rfl rfl rfl rfl rfl,hEE.chg_trans hC1⟩
   have e':k=K.r:=e
   rw[e']at hk
   exact q_apart HO.out hA.nd (by decide) hk
end
end Go.Proofs.YtkkbfdencgdbhaaGreatDoor
namespace Go.Proofs.YtkkbfdencgdbhaaGreatDoor
open Go.RowKit Go.Sort
def Nd.restE(N:Nd):List En:=N.s.from_ (N.applied+1) (N.s.log.length:Int)
def Ka.core(K:Ka)(k:Nat):Prop:=k=K.r∨k=K.d∨k=K.m
theorem Ka.core_has{K:Ka}{k:Nat}(h:K.core k):K.has k:=h.elim .inl (fun h=>.inr (h.elim .inl (fun h=>.inr (.inl h))))
def Nd.snapped(N:Nd)(b t:Int)(snap:ByteArray)(rest:List En):Nd := { N with s := { N.s with base:=b,bterm:=t,sn:=snap,log:=rest },fs:=(N.fs.put 1 (snB b t snap)).put 0 ⟨(enFs rest).toArray⟩ }
def Nd.compact(N:Nd)(t:Int)(snap:ByteArray):Nd:=N.snapped N.applied t snap N.restE
section
variable{W:World}{K:Ka}{N:Nd}(h:NdAt W K N)
include h
theorem NdAt.relog{rv:Value}{rest:List En}(hrv:W.ownsRow 0 49 3 rv rest.length (enRows rest))(hev:∀v∈K.evs,∀k,some k=v.ownBlock→some k≠rv.ownBlock):NdAt (W.setCell ⟨K.r,8,none⟩ rv) { K with lv:=rv } { N with s := { N.s with log:=rest } } := by
 have hc:Chg (fun k=>k=K.r) W (W.setCell ⟨K.r,8,none⟩ rv):=(Chg.refl (fun k=>k=K.r) W).setCell (p:=⟨K.r,8,none⟩) (.inl rfl) _
 have hA:=h.nd.set 8 rv
 have hd:K.d≠K.r:=fun hh=>(h.dk.1.ne h.nd (by decide)) hh
 have hm:K.m≠K.r:=fun hh=>(h.dk.2.ne_at h.nd) hh
 have q:∀ {e:TypeId} {size:Nat} {v:Value} {n:Nat} {xs:List Value},W.ownsRow 0 e size v n xs→e≠96→(W.setCell ⟨K.r,8,none⟩ rv).ownsRow 0 e size v n xs:=fun ho he=>q_keep ho hc fun k hk hs=>by
  have hs':k=K.r:=hs
  rw[hs']at hk
  exact q_apart ho h.nd he hk
 exact⟨hA,⟨h.dk.1.chg hc hd,h.dk.2.chg hc hm⟩,q hrv (by decide),q h.vs (by decide),q h.ms (by decide),q h.ns (by decide),⟨q h.os.own (by decide),h.os.len,fun j m ev hm he=>q (h.os.es j m ev hm he) (by decide)⟩,h.mn,hev⟩
set_option maxRecDepth 100000 in
set_option maxHeartbeats 1000000 in
theorem keepsnap_any(hN:NdOk N)(b t:Int)(snap:ByteArray)(hb : -9223372036854775808≤b∧b≤9223372036854775807)(ht : -9223372036854775808≤t∧t≤9223372036854775807)(hs:snap.size≤1000000)(rest:List En)(rv:Value)(hrv:W.ownsRow 0 49 3 rv rest.length (enRows rest))
 (hrK:∀k,some k=rv.ownBlock→¬ K.has k) (hl:rest.length≤1000) (hx:∀x∈rest,(0≤x.i∧x.i≤1099511627776)∧(0≤x.t∧x.t≤1099511627776)∧x.c.size≤1000000) (hT:Tab W) (hTK:¬ K.has 0) (hr:N.fs.tot+snap.size+100+(enFs rest).length≤4194304) :
 Calls Tryz.prog 93 #[.pointer (some ⟨K.r,0,none⟩),.int .i64 b,.int .i64 t,.string snap,rv] W fun e w'=>e=.returned (.bool true)∧NdAt w' { K with lv:=rv } (N.snapped b t snap rest)∧Chg K.core W w':=by
 have c0:=h.nd.cell 0
 simp[ndCells]at c0
 obtain⟨rA,rc,hrve,_⟩:=q_slc hrv
 have hSl:Sln W rv 3 (rest.map En.row):=Sln.of_own (by rw[←enRows_eq];exact hrv) (en_three _) (by rw[List.length_map])
 have hvd:∀bb o n c,rv=.slice (some ⟨bb,o,none⟩) n c→rest.map En.row≠[]→¬ (bb=K.d∨bb=K.m):=fun bb o n c hv hne=>by
  have hbo:some bb=rv.ownBlock:=by
   rcases hrv.2 with⟨h1,_⟩|⟨g,cap,cur,h1,_⟩
   ·rw[h1]at hv;cases hv
   ·rw[h1]at hv⊢
    simp only[Value.slice.injEq,Option.some.injEq,Addr.mk.injEq]at hv
    rw[hv.1.1];rfl
  rintro(e|e)
  ·rw[e]at hbo;exact q_apart hrv h.dk.1 (by decide) hbo
  ·rw[e]at hbo;exact q_map hrv h.dk.2 hbo
 have cs:=savesnap_any W K.d K.m N.fs h.dk b t snap hb ht hs rv rest hSl hl hx hT (by rintro(e|e);exact hTK (.inr (.inl e));exact hTK (.inr (.inr (.inl e)))) hvd hr
 have HX:=Lib.hid hx
 have HRK:=Lib.hid hrK
 clear hvd hx hrK hSl
 subst hrve
 go_enter Tryz.func93,Tryz.ntmps93
 go_wp2_with fail
 refine cs.mono ?_
 rintro e w1 ⟨rfl,hC1,hD1⟩
 clear cs
 have h1:=h.disk hC1 hD1
 have hrv1:w1.ownsRow 0 49 3 (.slice rA rest.length rc) rest.length (enRows rest):=q_keep hrv hC1 (fun k hk e=>by
  rcases e with e|e
  ·rw[e]at hk;exact q_apart hrv h.dk.1 (by decide) hk
  ·rw[e]at hk;exact q_map hrv h.dk.2 hk)
 have hC1':Chg K.core W w1:=hC1.mono (fun k hk e=>e.elim (fun e=>.inr (.inl e)) (fun e=>.inr (.inr e)))
 clear hC1 hD1
 go_wp2_with fail
 refine(stored_any w1 K.r).mono ?_
 rintro e w2 ⟨rfl,rfl⟩
 have d5:=h1.nd.cell 5
 have d6:=h1.nd.cell 6
 have d7:=h1.nd.cell 7
 have d8:=h1.nd.cell 8
 have f5:=h1.nd.frozen 5
 have f6:=h1.nd.frozen 6
 have f7:=h1.nd.frozen 7
 have f8:=h1.nd.frozen 8
 have hlt:=h1.nd.lt
 obtain⟨oA,oc,hov,_⟩:=q_slc h1.lg
 simp[ndCells,hov]at d5 d6 d7 d8
 have h2:NdAt (w2.setCell ⟨K.r,5,none⟩ (.int .i64 b)) K { N with s := { N.s with base:=b },fs:=(N.fs.put 1 (snB b t snap)).put 0 ⟨(enFs rest).toArray⟩ } := h1.set rfl rfl rfl rfl rfl rfl rfl
 have h3:NdAt ((w2.setCell ⟨K.r,5,none⟩ (.int .i64 b)).setCell ⟨K.r,6,none⟩ (.int .i64 t)) K { N with s := { N.s with base:=b,bterm:=t },fs:=(N.fs.put 1 (snB b t snap)).put 0 ⟨(enFs rest).toArray⟩ } := h2.set rfl rfl rfl rfl rfl rfl rfl
 have h4:NdAt (((w2.setCell ⟨K.r,5,none⟩ (.int .i64 b)).setCell ⟨K.r,6,none⟩ (.int .i64 t)).setCell ⟨K.r,7,none⟩ (.string snap)) K { N with s := { N.s with base:=b,bterm:=t,sn:=snap },fs:=(N.fs.put 1 (snB b t snap)).put 0 ⟨(enFs rest).toArray⟩ } := h3.set rfl rfl rfl rfl rfl rfl rfl
 have hC4:Chg (fun k=>k=K.r) w2 (((w2.setCell ⟨K.r,5,none⟩ (.int .i64 b)).setCell ⟨K.r,6,none⟩ (.int .i64 t)).setCell ⟨K.r,7,none⟩ (.string snap)):=(((Chg.refl (fun k=>k=K.r) w2).setCell (p:=⟨K.r,5,none⟩) (.inl rfl) _).setCell (p:=⟨K.r,6,none⟩) (.inl rfl) _).setCell (p:=⟨K.r,7,none⟩) (.inl rfl) _
 have hrv4:=q_keep hrv1 hC4 (fun k hk e=>by
  have e':k=K.r:=e
  rw[e']at hk
  exact q_apart hrv1 h1.nd (by decide) hk)
 have h5:NdAt ((((w2.setCell ⟨K.r,5,none⟩ (.int .i64 b)).setCell ⟨K.r,6,none⟩ (.int .i64 t)).setCell ⟨K.r,7,none⟩ (.string snap)).setCell ⟨K.r,8,none⟩ (.slice rA rest.length rc)) { K with lv:=.slice rA rest.length rc } (N.snapped b t snap rest):=h4.relog hrv4 (fun v hv k hk e=>HRK.out k e (.inr (.inr (.inr (.inr (.inr (.inr (.inr (.inr ⟨v,hv,hk⟩)))))))))
 clear h2 h3 h4 hrv4 hrv1
 go_wp2_with fail
 go_ret
 exact⟨rfl,h5,(hC1'.trans hC4 (fun k _ e=>.inl e)).setCell (p:=⟨K.r,8,none⟩) (.inl (.inl rfl)) _⟩
set_option maxRecDepth 100000 in
set_option maxHeartbeats 2000000 in
theorem compact_any(hN:NdOk N)(snap:ByteArray)(hs:snap.size≤1000000)(t:Int)(hta:N.s.termAt N.applied=some t)(htb : -9223372036854775808≤t∧t≤9223372036854775807)(hap:N.s.base<N.applied∧N.applied≤1099511627776)(hrl:N.restE.length≤1000)(hrx:∀x∈N.restE,(0≤x.i∧x.i≤1099511627776)∧(0≤x.t∧x.t≤1099511627776)∧x.c.size≤1000000)
 (hT:Tab W) (hTK:¬ K.has 0) (hr:N.fs.tot+snap.size+100+(enFs N.restE).length≤4194304) :
 Calls Tryz.prog 49 #[.pointer (some ⟨K.r,0,none⟩),.string snap] W fun e w'=>e=.returned (.int .i64 0)∧NdTo K W w' (N.compact t snap)∧Chg K.core W w':=by
 have c18:=h.nd.cell 18
 simp[ndCells]at c18
 have hbase:=hN.ts.base
 have hll:=hN.ts.len
 have HB0:=Lib.hid (show -9223372036854775808≤N.applied∧N.applied≤9223372036854775807 by omega)
 have HB1:=Lib.hid (show -9223372036854775808≤N.applied+1∧N.applied+1≤9223372036854775807 by omega)
 have HB2:=Lib.hid (show 0≤(N.s.log.length:Int)∧(N.s.log.length:Int)≤9223372036854775807 by omega)
 have HW1:=Lib.hid (IntWalk.i64_in (N.applied+1) (by omega))
 have HB3:=Lib.hid htb
 have HSN:=Lib.hid hs
 have HRL:=Lib.hid hrl
 have HRX:=Lib.hid hrx
 have HRM:=Lib.hid hr
 have HTA:=Lib.hid (show taR (N.s.termAt N.applied)=.tuple #[.int .i64 t,.bool true]by rw[hta];rfl)
 have hle:decide (N.applied≤N.s.base)=false:=by simp;omega
 clear hta htb hrl hrx hr
 go_enter Tryz.func49,Tryz.ntmps49
 go_wp2_with fail
 have hST:GQ.St (fun _=>False) (fun _ _=>True) []:=⟨fun _ _ _ h _=>h,by
  intro gx hx
  cases hx⟩
 refine wp_region_phi (Γ := Nat→Value) (sgφ [.val (.pointer (some ⟨K.r,0,none⟩)),.val (.pointer (some ⟨K.r,0,none⟩)),.val (.pointer (some ⟨K.r,3,none⟩)),.val (.pointer (some ⟨K.r,0,none⟩)),.val (.pointer (some ⟨K.r,0,none⟩)),.val (.pointer (some ⟨K.r,12,none⟩)),.val (.int .i64 N.applied),.val (.tuple #[.int .i64 t,.bool true]),.val (.tuple #[.int .i64 t,.bool true]),.val (.int .i64 t),.val (.bool true),.val (.int .i64 t),.val (.bool true)])
  (GQ W (fun _=>False) 1000 (fun _ _=>True) [])
  (by kernel_rfl) (by kernel_rfl) (by kernel_rfl) (fun _=>undef) (GQ.start _ _ _ _ _ _ (trivial)) ?steps ?fin
 case steps =>
  show StepsTo _ _ _ _ _ _ 13
  refine⟨⟨⟨⟨⟨⟨⟨⟨⟨⟨⟨⟨⟨trivial,?s0⟩,?s1⟩,?s2⟩,?s3⟩,?s4⟩,?s5⟩,?s6⟩,?s7⟩,?s8⟩,?s9⟩,?s10⟩,?s11⟩,?s12⟩
  case s0 =>
   refine sg_val (x:=.pointer (some ⟨K.r,0,none⟩)) rfl rfl rfl (GQ.keep (j:=0) (by decide) rfl) fun γ L v a w st=>?_
   have f0:=st.far 0 (by kernel_rfl)
   simp at f0
   go_simp
  case s1 =>
   refine sg_val (x:=.pointer (some ⟨K.r,0,none⟩)) rfl rfl rfl (GQ.keep (j:=1) (by decide) rfl) fun γ L v a w st=>?_
   have e0:=st.val 0 20 rfl (by kernel_rfl)
   rw[(st.φ 0 (by kernel_rfl):v 0=_)]at e0
   simp at e0
   go_simp
  case s2 =>
   refine sg_val (x:=.pointer (some ⟨K.r,3,none⟩)) rfl rfl rfl (GQ.keep (j:=2) (by decide) rfl) fun γ L v a w st=>?_
   have e1:=st.val 1 21 rfl (by kernel_rfl)
   rw[(st.φ 1 (by kernel_rfl):v 1=_)]at e1
   simp at e1
   go_simp
  case s3 =>
   refine sg_val (x:=.pointer (some ⟨K.r,0,none⟩)) rfl rfl rfl (GQ.keep (j:=3) (by decide) rfl) fun γ L v a w st=>?_
   have f0:=st.far 0 (by kernel_rfl)
   simp at f0
   go_simp
  case s4 =>
   refine sg_val (x:=.pointer (some ⟨K.r,0,none⟩)) rfl rfl rfl (GQ.keep (j:=4) (by decide) rfl) fun γ L v a w st=>?_
   have e3:=st.val 3 23 rfl (by kernel_rfl)
   rw[(st.φ 3 (by kernel_rfl):v 3=_)]at e3
   simp at e3
   go_simp
  case s5 =>
   refine sg_val (x:=.pointer (some ⟨K.r,12,none⟩)) rfl rfl rfl (GQ.keep (j:=5) (by decide) rfl) fun γ L v a w st=>?_
   have e4:=st.val 4 24 rfl (by kernel_rfl)
   rw[(st.φ 4 (by kernel_rfl):v 4=_)]at e4
   simp at e4
   go_simp
  case s6 =>
   refine sg_val (x:=.int .i64 N.applied) rfl rfl rfl (GQ.keep (j:=6) (by decide) rfl) fun γ L v a w st=>?_
   have e5:=st.val 5 25 rfl (by kernel_rfl)
   rw[(st.φ 5 (by kernel_rfl):v 5=_)]at e5
   simp at e5
   have hcl:=(h.ext (st.inv.off (fun _ h=>h))).nd.cell 12
   simp[ndCells]at hcl
   go_simp
  case s7 =>
   refine sg_callv' (x:=.tuple #[.int .i64 t,.bool true]) (f:=92) rfl rfl rfl fun γ L v a w st=>?_
   have e2:=st.val 2 22 rfl (by kernel_rfl)
   rw[(st.φ 2 (by kernel_rfl):v 2=_)]at e2
   simp at e2
   have e6:=st.val 6 26 rfl (by kernel_rfl)
   rw[(st.φ 6 (by kernel_rfl):v 6=_)]at e6
   simp at e6
   have hcl:=ttermat_any w K.r 3 N.s K.lv ((h.ext (st.inv.off (fun _ h=>h))).ts) hN.ts N.applied HB0.out
   rw[HTA.out]at hcl
   refine⟨#[.pointer (some ⟨K.r,3,none⟩),.int .i64 N.applied],by go_simp,?_⟩
   refine Calls.mono (hcl) ?_
   rintro e w' ⟨rfl,rfl⟩
   have hE:=Ext.refl w'
   exact⟨rfl,st.inv.call hST hE (by decide) rfl st.off⟩
  case s8 =>
   refine sg_val (x:=.tuple #[.int .i64 t,.bool true]) rfl rfl rfl (GQ.keep (j:=8) (by decide) rfl) fun γ L v a w st=>?_
   have e7:=st.val 7 27 rfl (by kernel_rfl)
   rw[(st.φ 7 (by kernel_rfl):v 7=_)]at e7
   simp at e7
   go_simp
  case s9 =>
   refine sg_val (x:=.int .i64 t) rfl rfl rfl (GQ.keep (j:=9) (by decide) rfl) fun γ L v a w st=>?_
   have e8:=st.val 8 19 rfl (by kernel_rfl)
   rw[(st.φ 8 (by kernel_rfl):v 8=_)]at e8
   simp at e8
   go_simp
  case s10 =>
   refine sg_val (x:=.bool true) rfl rfl rfl (GQ.keep (j:=10) (by decide) rfl) fun γ L v a w st=>?_
   have e8:=st.val 8 19 rfl (by kernel_rfl)
   rw[(st.φ 8 (by kernel_rfl):v 8=_)]at e8
   simp at e8
   go_simp
  case s11 =>
   refine sg_val (x:=.int .i64 t) rfl rfl rfl (GQ.keep (j:=11) (by decide) rfl) fun γ L v a w st=>?_
   have e9:=st.val 9 28 rfl (by kernel_rfl)
   rw[(st.φ 9 (by kernel_rfl):v 9=_)]at e9
   simp at e9
   go_simp
  case s12 =>
   refine sg_val (x:=.bool true) rfl rfl rfl (GQ.keep (j:=12) (by decide) rfl) fun γ L v a w st=>?_
   have e10:=st.val 10 29 rfl (by kernel_rfl)
   rw[(st.φ 10 (by kernel_rfl):v 10=_)]at e10
   simp at e10
   go_simp
 case fin =>
  intro γ L v wr hall hG hφ
  have h11:v 11=(.int .i64 t):=hφ 11 (by decide)
  have h12:v 12=(.bool true):=hφ 12 (by decide)
  have hE:=hG.off (fun _ h=>h)
  clear hall hφ hG
  change Exit.then _ _ _ (putAll _ v _ 13) wr
  simp only[putAll,dstOf,Act.put]
  simp only[List.getElem?_toArray,List.getElem?_cons_zero,List.getElem?_cons_succ,Option.bind_some,List.setIfInBounds_toArray,List.set_cons_zero,List.set_cons_succ]
  rw[h11,h12]
  clear h11 h12
  have hE0:Ext W wr:=hE
  have hh:=h.ext hE0
  have hTT:=hT.ext hE0
  have HE0:=Lib.hid hE0
  clear hE hE0 h hT hST c18
  generalize v 0=z0
  generalize v 1=z1
  generalize v 2=z2
  generalize v 3=z3
  generalize v 4=z4
  generalize v 5=z5
  generalize v 6=z6
  generalize v 7=z7
  generalize v 8=z8
  generalize v 9=z9
  generalize v 10=z10
  clear v L γ
  rename World=>W1
  have c12:=hh.nd.cell 12
  have c5:=hh.nd.cell 5
  simp[ndCells]at c12 c5
  go_wp2_with fail
  go_region
  have h:=hh.ext ((Ext.refl W1).drew)
  have hT:=hTT.ext ((Ext.refl W1).drew)
  have HE1:=Lib.hid ((HE0.out).trans ((Ext.refl W1).drew))
  clear hh hTT c12 c5 HE0
  generalize W1.drew=W2 at h hT HE1⊢
  go_wp2_with fail
  have hST:GQ.St (fun _=>False) (fun _ _=>True) [⟨21,0,fun _ v w=>w.ownsRow W2.heap.size 49 3 v N.restE.length (enRows N.restE)⟩]:=⟨fun _ _ _ h _=>h,by
   intro gx hx
   rcases List.mem_cons.1 hx with rfl|hx
   ·exact fun b v w w' h hE=>own_ext h hE
   cases hx⟩
  refine wp_region_last (Γ := Nat→Value) (sgφ [.val (.pointer (some ⟨K.r,0,none⟩)),.val (.pointer (some ⟨K.r,0,none⟩)),.val (.pointer (some ⟨K.r,0,none⟩)),.val (.pointer (some ⟨K.r,12,none⟩)),.val (.int .i64 N.applied),.val (.int .i64 t),.val (.string snap),.val (.pointer (some ⟨K.r,0,none⟩)),.val (.pointer (some ⟨K.r,0,none⟩)),.val (.pointer (some ⟨K.r,3,none⟩)),.val (.pointer (some ⟨K.r,0,none⟩)),.val (.pointer (some ⟨K.r,0,none⟩)),.val (.pointer (some ⟨K.r,12,none⟩)),.val (.int .i64 N.applied),.val (.int .i64 (N.applied+1)),.val (.pointer (some ⟨K.r,0,none⟩)),.val (.pointer (some ⟨K.r,0,none⟩)),.val (.pointer (some ⟨K.r,3,none⟩)),.val (.pointer (some ⟨K.r,8,none⟩)),.val (K.lv),.val (.int .i64 (N.s.log.length:Int)),.g 0])
   (GQ W2 (fun _=>False) 1000 (fun _ _=>True) [⟨21,0,fun _ v w=>w.ownsRow W2.heap.size 49 3 v N.restE.length (enRows N.restE)⟩])
   (fun _ w'=>NdTo K W2 w' (N.compact t snap)∧Chg K.core W2 w') 22 rfl (by kernel_rfl) (by kernel_rfl) (by kernel_rfl) (by kernel_rfl) (by kernel_rfl) (fun _=>undef) (GQ.start _ _ _ _ _ _ (trivial)) ?steps ?last ?fin
  case steps =>
   show StepsTo _ _ _ _ _ _ 22
   refine⟨⟨⟨⟨⟨⟨⟨⟨⟨⟨⟨⟨⟨⟨⟨⟨⟨⟨⟨⟨⟨⟨trivial,?s0⟩,?s1⟩,?s2⟩,?s3⟩,?s4⟩,?s5⟩,?s6⟩,?s7⟩,?s8⟩,?s9⟩,?s10⟩,?s11⟩,?s12⟩,?s13⟩,?s14⟩,?s15⟩,?s16⟩,?s17⟩,?s18⟩,?s19⟩,?s20⟩,?s21⟩
   case s0 =>
    refine sg_val (x:=.pointer (some ⟨K.r,0,none⟩)) rfl rfl rfl (GQ.keep (j:=0) (by decide) rfl) fun γ L v a w st=>?_
    have f0:=st.far 0 (by kernel_rfl)
    simp at f0
    go_simp
   case s1 =>
    refine sg_val (x:=.pointer (some ⟨K.r,0,none⟩)) rfl rfl rfl (GQ.keep (j:=1) (by decide) rfl) fun γ L v a w st=>?_
    have f0:=st.far 0 (by kernel_rfl)
    simp at f0
    go_simp
   case s2 =>
    refine sg_val (x:=.pointer (some ⟨K.r,0,none⟩)) rfl rfl rfl (GQ.keep (j:=2) (by decide) rfl) fun γ L v a w st=>?_
    have e1:=st.val 1 45 rfl (by kernel_rfl)
    rw[(st.φ 1 (by kernel_rfl):v 1=_)]at e1
    simp at e1
    go_simp
   case s3 =>
    refine sg_val (x:=.pointer (some ⟨K.r,12,none⟩)) rfl rfl rfl (GQ.keep (j:=3) (by decide) rfl) fun γ L v a w st=>?_
    have e2:=st.val 2 46 rfl (by kernel_rfl)
    rw[(st.φ 2 (by kernel_rfl):v 2=_)]at e2
    simp at e2
    go_simp
   case s4 =>
    refine sg_val (x:=.int .i64 N.applied) rfl rfl rfl (GQ.keep (j:=4) (by decide) rfl) fun γ L v a w st=>?_
    have e3:=st.val 3 47 rfl (by kernel_rfl)
    rw[(st.φ 3 (by kernel_rfl):v 3=_)]at e3
    simp at e3
    have hcl:=(h.ext (st.inv.off (fun _ h=>h))).nd.cell 12
    simp[ndCells]at hcl
    go_simp
   case s5 =>
    refine sg_val (x:=.int .i64 t) rfl rfl rfl (GQ.keep (j:=5) (by decide) rfl) fun γ L v a w st=>?_
    have f5:=st.far 5 (by kernel_rfl)
    simp at f5
    go_simp
   case s6 =>
    refine sg_val (x:=.string snap) rfl rfl rfl (GQ.keep (j:=6) (by decide) rfl) fun γ L v a w st=>?_
    have f1:=st.far 1 (by kernel_rfl)
    simp at f1
    go_simp
   case s7 =>
    refine sg_val (x:=.pointer (some ⟨K.r,0,none⟩)) rfl rfl rfl (GQ.keep (j:=7) (by decide) rfl) fun γ L v a w st=>?_
    have f0:=st.far 0 (by kernel_rfl)
    simp at f0
    go_simp
   case s8 =>
    refine sg_val (x:=.pointer (some ⟨K.r,0,none⟩)) rfl rfl rfl (GQ.keep (j:=8) (by decide) rfl) fun γ L v a w st=>?_
    have e7:=st.val 7 51 rfl (by kernel_rfl)
    rw[(st.φ 7 (by kernel_rfl):v 7=_)]at e7
    simp at e7
    go_simp
   case s9 =>
    refine sg_val (x:=.pointer (some ⟨K.r,3,none⟩)) rfl rfl rfl (GQ.keep (j:=9) (by decide) rfl) fun γ L v a w st=>?_
    have e8:=st.val 8 52 rfl (by kernel_rfl)
    rw[(st.φ 8 (by kernel_rfl):v 8=_)]at e8
    simp at e8
    go_simp
   case s10 =>
    refine sg_val (x:=.pointer (some ⟨K.r,0,none⟩)) rfl rfl rfl (GQ.keep (j:=10) (by decide) rfl) fun γ L v a w st=>?_
    have f0:=st.far 0 (by kernel_rfl)
    simp at f0
    go_simp
   case s11 =>
    refine sg_val (x:=.pointer (some ⟨K.r,0,none⟩)) rfl rfl rfl (GQ.keep (j:=11) (by decide) rfl) fun γ L v a w st=>?_
    have e10:=st.val 10 54 rfl (by kernel_rfl)
    rw[(st.φ 10 (by kernel_rfl):v 10=_)]at e10
    simp at e10
    go_simp
   case s12 =>
    refine sg_val (x:=.pointer (some ⟨K.r,12,none⟩)) rfl rfl rfl (GQ.keep (j:=12) (by decide) rfl) fun γ L v a w st=>?_
    have e11:=st.val 11 55 rfl (by kernel_rfl)
    rw[(st.φ 11 (by kernel_rfl):v 11=_)]at e11
    simp at e11
    go_simp
   case s13 =>
    refine sg_val (x:=.int .i64 N.applied) rfl rfl rfl (GQ.keep (j:=13) (by decide) rfl) fun γ L v a w st=>?_
    have e12:=st.val 12 56 rfl (by kernel_rfl)
    rw[(st.φ 12 (by kernel_rfl):v 12=_)]at e12
    simp at e12
    have hcl:=(h.ext (st.inv.off (fun _ h=>h))).nd.cell 12
    simp[ndCells]at hcl
    go_simp
   case s14 =>
    refine sg_val (x:=.int .i64 (N.applied+1)) rfl rfl rfl (GQ.keep (j:=14) (by decide) rfl) fun γ L v a w st=>?_
    have e13:=st.val 13 57 rfl (by kernel_rfl)
    rw[(st.φ 13 (by kernel_rfl):v 13=_)]at e13
    simp at e13
    go_simp
    exact HW1.out
   case s15 =>
    refine sg_val (x:=.pointer (some ⟨K.r,0,none⟩)) rfl rfl rfl (GQ.keep (j:=15) (by decide) rfl) fun γ L v a w st=>?_
    have f0:=st.far 0 (by kernel_rfl)
    simp at f0
    go_simp
   case s16 =>
    refine sg_val (x:=.pointer (some ⟨K.r,0,none⟩)) rfl rfl rfl (GQ.keep (j:=16) (by decide) rfl) fun γ L v a w st=>?_
    have e15:=st.val 15 59 rfl (by kernel_rfl)
    rw[(st.φ 15 (by kernel_rfl):v 15=_)]at e15
    simp at e15
    go_simp
   case s17 =>
    refine sg_val (x:=.pointer (some ⟨K.r,3,none⟩)) rfl rfl rfl (GQ.keep (j:=17) (by decide) rfl) fun γ L v a w st=>?_
    have e16:=st.val 16 60 rfl (by kernel_rfl)
    rw[(st.φ 16 (by kernel_rfl):v 16=_)]at e16
    simp at e16
    go_simp
   case s18 =>
    refine sg_val (x:=.pointer (some ⟨K.r,8,none⟩)) rfl rfl rfl (GQ.keep (j:=18) (by decide) rfl) fun γ L v a w st=>?_
    have e17:=st.val 17 61 rfl (by kernel_rfl)
    rw[(st.φ 17 (by kernel_rfl):v 17=_)]at e17
    simp at e17
    go_simp
   case s19 =>
    refine sg_val (x:=K.lv) rfl rfl rfl (GQ.keep (j:=19) (by decide) rfl) fun γ L v a w st=>?_
    have e18:=st.val 18 62 rfl (by kernel_rfl)
    rw[(st.φ 18 (by kernel_rfl):v 18=_)]at e18
    simp at e18
    have hcl:=(h.ext (st.inv.off (fun _ h=>h))).nd.cell 8
    simp[ndCells]at hcl
    go_simp
   case s20 =>
    refine sg_val (x:=.int .i64 (N.s.log.length:Int)) rfl rfl rfl (GQ.keep (j:=20) (by decide) rfl) fun γ L v a w st=>?_
    have e19:=st.val 19 63 rfl (by kernel_rfl)
    rw[(st.φ 19 (by kernel_rfl):v 19=_)]at e19
    simp at e19
    obtain⟨oA,oc,hov,_⟩:=q_slc h.lg
    rw[hov]at e19
    go_simp
   case s21 =>
    refine sg_call (k:=0) (f:=43) rfl rfl rfl (by kernel_rfl) fun γ L v a w st=>?_
    have e9:=st.val 9 53 rfl (by kernel_rfl)
    rw[(st.φ 9 (by kernel_rfl):v 9=_)]at e9
    simp at e9
    have e14:=st.val 14 58 rfl (by kernel_rfl)
    rw[(st.φ 14 (by kernel_rfl):v 14=_)]at e14
    simp at e14
    have e20:=st.val 20 64 rfl (by kernel_rfl)
    rw[(st.φ 20 (by kernel_rfl):v 20=_)]at e20
    simp at e20
    have hE0:=st.inv.off (fun _ h=>h)
    have cf:=tfrom_any w K.r 3 N.s K.lv ((h.ext hE0).ts) hN.ts (N.applied+1) (N.s.log.length:Int) HB1.out HB2.out
    refine⟨#[.pointer (some ⟨K.r,3,none⟩),.int .i64 (N.applied+1),.int .i64 (N.s.log.length:Int)],by go_simp,cf.mono ?_⟩
    rintro e w' ⟨x,rfl,hO,hE⟩
    refine⟨x,rfl,st.inv.new hST hE (by decide) rfl ?_⟩
    intro gx hx hxj
    rcases List.mem_cons.1 hx with rfl|hx
    ·exact⟨rfl,q_base hO hE0.size⟩
    cases hx
  case last =>
   intro γ L v a w1 hall hG hφ hval h0
   have e44:=hval 0 44 rfl (by decide)
   rw[show v 0=_ from hφ 0 (by decide)]at e44
   have e48:=hval 4 48 rfl (by decide)
   rw[show v 4=_ from hφ 4 (by decide)]at e48
   have e49:=hval 5 49 rfl (by decide)
   rw[show v 5=_ from hφ 5 (by decide)]at e49
   have e50:=hval 6 50 rfl (by decide)
   rw[show v 6=_ from hφ 6 (by decide)]at e50
   have e65:=hval 21 65 rfl (by decide)
   rw[show v 21=_ from hφ 21 (by decide)]at e65
   simp at e44 e48 e49 e50
   have hE1:Ext W2 w1:=hG.off (fun _ h=>h)
   have hO:w1.ownsRow W2.heap.size 49 3 (γ 0) N.restE.length (enRows N.restE):=hG.gh ⟨21,0,fun _ v w=>w.ownsRow W2.heap.size 49 3 v N.restE.length (enRows N.restE)⟩ (by simp) (hall 21 (by decide))
   have hw1:=h.ext hE1
   have hnew:∀k,some k=(γ 0).ownBlock→W2.heap.size≤k:=q_ge hO
   generalize γ 0=rv at e65 hO hnew
   obtain⟨rA,rc,hrv,_⟩:=q_slc hO
   have ck:=keepsnap_any hw1 hN N.applied t snap HB0.out HB3.out HSN.out N.restE rv (q_base hO (Nat.zero_le _)) (fun k hk hK=>by have:=hnew k hk;have:=h.has_lt k hK;omega) HRL.out HRX.out (hT.ext hE1) hTK HRM.out
   refine wpOp_calls (w':=w1) (f:=93) (args:=#[.pointer (some ⟨K.r,0,none⟩),.int .i64 N.applied,.int .i64 t,.string snap,rv]) rfl rfl (by rw[hrv]at e65⊢;go_simp) ?_
   refine ck.mono ?_
   rintro r w2 ⟨rfl,hA2,hC2⟩
   refine⟨_,rfl,_,rfl,⟨{ K with lv:=rv },rfl,rfl,rfl,hA2,(hE1.chg_trans hC2).mono (fun k _ e=>Ka.core_has e),fun k hk=>?_⟩,hE1.chg_trans hC2⟩
   rcases hk with e|e|e|e|e|e|e|e|e
   ·exact .inl (.inl e)
   ·exact .inl (.inr (.inl e))
   ·exact .inl (.inr (.inr (.inl e)))
   ·exact .inr (hnew k e)
   ·exact .inl (.inr (.inr (.inr (.inr (.inl e)))))
   ·exact .inl (.inr (.inr (.inr (.inr (.inr (.inl e))))))
   ·exact .inl (.inr (.inr (.inr (.inr (.inr (.inr (.inl e)))))))
   ·exact .inl (.inr (.inr (.inr (.inr (.inr (.inr (.inr (.inl e))))))))
   ·exact .inl (.inr (.inr (.inr (.inr (.inr (.inr (.inr (.inr e))))))))
  case fin =>
   intro v w1 hTo
   change Exit.then _ _ _ (putAll _ v _ 23) w1
   simp only[putAll,dstOf,Act.put]
   simp only[List.getElem?_toArray,List.getElem?_cons_zero,List.getElem?_cons_succ,Option.bind_some,List.setIfInBounds_toArray,List.set_cons_zero,List.set_cons_succ]
   obtain⟨⟨K9,s1,s2,s3,hA9,hC9,hK9⟩,hCC⟩:=hTo
   have d18:=hA9.nd.cell 18
   rw[s1]at d18
   simp[ndCells]at d18
   have HTO:=Lib.hid (show NdTo K W2 w1 (N.compact t snap)from⟨K9,s1,s2,s3,hA9,hC9,hK9⟩)
   clear hA9 hC9 hK9 h
   go_wp2_with fail
   go_ret
   exact⟨rfl,NdTo.ext_next HE1.out HTO.out,(HE1.out).chg_trans hCC⟩
end
end Go.Proofs.YtkkbfdencgdbhaaGreatDoor
namespace Go.Proofs.YtkkbfdencgdbhaaGreatDoor
open Go.RowKit Go.Sort
set_option maxRecDepth 100000 in
theorem eclone_nil(w:World):Calls Tryz.prog 61 #[.slice none 0 0] w fun e w'=>e=.returned (.slice none 0 0)∧w'=w:=by
 have hnil:∀wx,(binOp .eql 43 (.slice none 0 0) (.slice none 0 0)).run Tryz.prog wx=.ok (.bool true) wx:=fun wx=>Lib.run_eql_slice_nil wx _ _ none 0 0 0 0 Tryz.underlying43
 go_enter Tryz.func61,Tryz.ntmps61
 go_wp2_with fail
 go_ret
 exact⟨rfl,rfl⟩
def Nd.opened(id n:Nat)(S:Ts)(F:Fs):Nd:=⟨id,n,S,0, -1,S.base,S.base,0,[],[],[],[],F⟩
def Ka.opened(r d m:Nat):Ka:=⟨r,d,m,.slice none 0 0,.slice none 0 0,.slice none 0 0,.slice none 0 0,.slice none 0 0,[]⟩
set_option maxRecDepth 100000 in
set_option maxHeartbeats 1000000 in
theorem open_any(w:World)(d m:Nat)(F:Fs)(hD:DkAt w d m F.dk)(hF:F.tot≤4194304)(S:Ts)(hS:fsSays F S)(hT:Tab w)(hTd:¬ 0=d)(id n:Nat)(hn:n≤5)(hid:id<n) :
 Calls Tryz.prog 52 #[.pointer (some ⟨d,0,none⟩),.int .i64 (id:Int),.int .i64 (n:Int)] w fun e w'=>∃r,e=.returned (.tuple #[.pointer (some ⟨r,0,none⟩),.int .i64 0])∧w.heap.size≤r∧NdAt w' (Ka.opened r d m) (Nd.opened id n S F)∧Chg (fun k=>k=d) w w':=by
 have cl:=load_any w d m F hD hF S hS hT hTd
 unfold tsZ at cl
 have hlog:=hS.2.1
 have t1:decide ((n:Int)<1)=false:=by simp <;> omega
 have t2:decide ((5:Int)<(n:Int))=false:=by simp <;> omega
 have t3:decide ((id:Int)<0)=false:=by simp <;> omega
 have t4:decide ((n:Int)≤(id:Int))=false:=by simp <;> omega
 have HLG:=Lib.hid hlog
 clear hS hlog
 go_enter Tryz.func52,Tryz.ntmps52
 go_wp2_with fail
 refine cl.mono ?_
 rintro e w1 ⟨rfl,hC1,hD1⟩
 clear cl
 go_wp2_with fail
 go_ret2
 have hA:=At.new (w1.alloc (.cells #[.int .i64 S.term,.int .i64 S.vote,.int .i64 S.base,.int .i64 S.bterm,.string S.sn,.slice none 0 0] 58)) 96 (ndCells (Ka.opened (w1.alloc (.cells #[.int .i64 S.term,.int .i64 S.vote,.int .i64 S.base,.int .i64 S.bterm,.string S.sn,.slice none 0 0] 58)).heap.size d m) (Nd.opened id n S F))
 have hE:=((Ext.refl w1).alloc (.cells #[.int .i64 S.term,.int .i64 S.vote,.int .i64 S.base,.int .i64 S.bterm,.string S.sn,.slice none 0 0] 58)).alloc (.cells (ndCells (Ka.opened (w1.alloc (.cells #[.int .i64 S.term,.int .i64 S.vote,.int .i64 S.base,.int .i64 S.bterm,.string S.sn,.slice none 0 0] 58)).heap.size d m) (Nd.opened id n S F)) 96)
 have hs:(w1.alloc (.cells #[.int .i64 S.term,.int .i64 S.vote,.int .i64 S.base,.int .i64 S.bterm,.string S.sn,.slice none 0 0] 58)).heap.size=w1.heap.size+1:=by simp
 have hz:=hC1.size
 rw[hs]at hA hE
 refine⟨w1.heap.size+1,rfl,by omega,⟨hA,(hD1.alloc _).alloc _,?_,World.ownsRow_nil _ _ _ _,World.ownsRow_nil _ _ _ _,World.ownsRow_nil _ _ _ _,OutAt.nil _,(fun k hk=>by cases hk),(fun v hv=>by cases hv)⟩,hC1.ext_trans hE⟩
 show World.ownsRow _ 0 49 3 (.slice none 0 0) S.log.length (enRows S.log)
 rw[HLG.out]
 exact World.ownsRow_nil _ _ _ _
section
variable{W:World}{K:Ka}{N:Nd}(h:NdAt W K N)
include h
set_option maxRecDepth 100000 in
set_option maxHeartbeats 1000000 in
theorem state_any(hlv:K.lv=.slice none 0 0):Calls Tryz.prog 20 #[.pointer (some ⟨K.r,0,none⟩)] W fun e w'=>e=.returned (.agg (tsZ N.s))∧Ext W w':=by
 have c3:=h.nd.cell 3
 have c4:=h.nd.cell 4
 have c5:=h.nd.cell 5
 have c6:=h.nd.cell 6
 have c7:=h.nd.cell 7
 have c8:=h.nd.cell 8
 simp[ndCells,hlv]at c3 c4 c5 c6 c7 c8
 have hlt:=h.nd.lt
 have hcl:∀wx,Calls Tryz.prog 61 #[.slice none 0 0] wx fun e w'=>e=.returned (.slice none 0 0)∧w'=wx:=fun wx=>eclone_nil wx
 go_enter Tryz.func20,Tryz.ntmps20
 go_wp2_with fail
 refine(hcl _).mono ?_
 rintro e w1 ⟨rfl,rfl⟩
 go_wp2_with fail
 have hAt:=(At.new W 58 (tsZ N.s)).alloc (.cells (tsZ N.s) 58)
 refine bodyPost_ret (v:=.agg (tsZ N.s)) (results_one Tryz.results20 _ rfl (ts_load hAt rfl)) rfl ?_
 exact⟨rfl,((Ext.refl W).alloc _).alloc _⟩
end
end Go.Proofs.YtkkbfdencgdbhaaGreatDoor
namespace Go.Proofs.YtkkbfdencgdbhaaGreatDoor
open Go.RowKit Go.Sort
structure Qa where
 q:Nat
 nb:Nat
 db:Nat
def Qa.has(Q:Qa)(k:Nat):Prop:=k=Q.q∨k=Q.nb∨k=Q.db
structure NetAt (w:World) (Q:Qa) (r:Option Addr) (d:Nat):Prop where
 nt:At w Q.q 73 #[.slice (some ⟨Q.nb,0,none⟩) 1 1,.slice (some ⟨Q.db,0,none⟩) 1 1,.slice none 0 0]
 ns:At w Q.nb 45 #[.pointer r]
 ds:At w Q.db 74 #[.pointer (some ⟨d,0,none⟩)]
structure NetUp (w:World) (Q:Qa) (K:Ka) (N:Nd):Prop where
 net:NetAt w Q (some ⟨K.r,0,none⟩) K.d
 nd:NdAt w K N
section
variable{w w' w'':World}{Q:Qa}{K K':Ka}{N N':Nd}{S:Nat→Prop}{r:Option Addr}{d:Nat}
theorem NetAt.chg(h:NetAt w Q r d)(hC:Chg S w w')(hS:∀k,S k→¬ Q.has k):NetAt w' Q r d :=
 ⟨h.nt.chg hC (fun hs=>hS _ hs (.inl rfl)),h.ns.chg hC (fun hs=>hS _ hs (.inr (.inl rfl))),h.ds.chg hC (fun hs=>hS _ hs (.inr (.inr rfl)))⟩
theorem NetAt.ext(h:NetAt w Q r d)(hE:Ext w w'):NetAt w' Q r d:=h.chg hE (fun _ h=>h.elim)
theorem NdAt.not_has(h:NdAt w K N){g:Nat}{t:TypeId}{cs:Array Value}(hA:At w g t cs)(h1:96≠t)(h2:112≠t)(h3:49≠t)(h4:4≠t)(h5:3≠t)(h6:129≠t):¬ K.has g:=by
 rintro(e|e|e|e|e|e|e|e|⟨v,hv,e⟩)
 ·exact h.nd.ne hA h1 e.symm
 ·exact h.dk.1.ne hA h2 e.symm
 ·exact h.dk.2.ne_at hA e.symm
 ·exact q_apart h.lg hA h3 e
 ·exact q_apart h.vs hA h4 e
 ·exact q_apart h.ms hA h5 e
 ·exact q_apart h.ns hA h5 e
 ·exact q_apart h.os.own hA h6 e
 ·obtain⟨i,hi⟩:=List.getElem?_of_mem hv
  have hil:=(List.getElem?_eq_some_iff.1 hi).1
  obtain⟨m,hm⟩:∃m,N.out[i]? = some m:=⟨_,List.getElem?_eq_getElem (by rw[←h.os.len];exact hil)⟩
  exact q_apart (h.os.es i m v hm hi) hA h3 e
theorem NetUp.apart(h:NetUp w Q K N):∀k,K.has k→¬ Q.has k:=by
 rintro k hk (e|e|e)
 ·exact h.nd.not_has h.net.nt (by decide) (by decide) (by decide) (by decide) (by decide) (by decide) (e ▸ hk)
 ·exact h.nd.not_has h.net.ns (by decide) (by decide) (by decide) (by decide) (by decide) (by decide) (e ▸ hk)
 ·exact h.nd.not_has h.net.ds (by decide) (by decide) (by decide) (by decide) (by decide) (by decide) (e ▸ hk)
theorem NetUp.ext(h:NetUp w Q K N)(hE:Ext w w'):NetUp w' Q K N:=⟨h.net.ext hE,h.nd.ext hE⟩
def NetTo(Q:Qa)(K:Ka)(w w':World)(N':Nd):Prop:=∃K',K'.r=K.r∧K'.d=K.d∧K'.m=K.m∧NetUp w' Q K' N'∧Chg K.has w w'∧∀k,K'.has k→K.has k∨w.heap.size≤k
theorem NetUp.of_node(h:NetUp w Q K N)(hT:NdTo K w w' N'):NetTo Q K w w' N':=by
 obtain⟨K',r1,r2,r3,hA,hC,hK⟩:=hT
 exact⟨K',r1,r2,r3,⟨by rw[r1,r2];exact h.net.chg hC h.apart,hA⟩,hC,hK⟩
end
section
variable{w:World}{Q:Qa}{r:Option Addr}{d:Nat}(h:NetAt w Q r d)
include h
set_option maxRecDepth 100000 in
theorem qhas_any:Calls Tryz.prog 42 #[.pointer (some ⟨Q.q,0,none⟩),.int .i64 0] w fun e w'=>e=.returned (.bool true)∧w'=w:=by
 have c0:=h.nt.cell 0
 simp at c0
 go_enter Tryz.func42,Tryz.ntmps42
 go_wp2_with fail
 go_ret
 exact⟨rfl,rfl⟩
set_option maxRecDepth 100000 in
theorem qnode_any:Calls Tryz.prog 13 #[.pointer (some ⟨Q.q,0,none⟩),.int .i64 0] w fun e w'=>e=.returned (.pointer r)∧w'=w:=by
 have c0:=h.nt.cell 0
 have n0:=h.ns.cell 0
 simp at c0 n0
 have ch:=qhas_any h
 go_enter Tryz.func13,Tryz.ntmps13
 go_wp2_with fail
 refine ch.mono ?_
 rintro e w1 ⟨rfl,rfl⟩
 go_wp2_with fail
 go_ret
 exact⟨rfl,rfl⟩
end
section
variable{w:World}{Q:Qa}{K:Ka}{N:Nd}(h:NetUp w Q K N)
include h
set_option maxRecDepth 100000 in
theorem qafter_any(ho:N.out=[]):Calls Tryz.prog 39 #[.pointer (some ⟨Q.q,0,none⟩),.int .i64 0] w fun e w'=>e=.returned (.tuple #[])∧NetTo Q K w w' N∧Chg (fun k=>k=K.r) w w':=by
 have c0:=h.net.nt.cell 0
 have n0:=h.net.ns.cell 0
 simp at c0 n0
 have ct:=take_any h.nd
 obtain⟨oA,oc,hov,_⟩:=q_slc h.nd.os.own
 rw[ho]at hov
 rw[hov]at ct
 have hN:({ N with out:=[] } : Nd)=N:=by rw[←ho]
 rw[hN]at ct
 have HH:=Lib.hid h
 clear hN ho hov
 go_enter Tryz.func39,Tryz.ntmps39
 go_wp2_with fail
 refine ct.mono ?_
 rintro e w1 ⟨rfl,hA,_,hC⟩
 clear ct
 have hT:NetTo Q K w w1 N:=NetUp.of_node HH.out ⟨{ K with ov:=.slice none 0 0,evs:=[] },rfl,rfl,rfl,hA,hC.mono (fun k _ e=>.inl e),fun k hk=>.inl (by
  rcases hk with e|e|e|e|e|e|e|e|⟨v,hv,e⟩
  ·exact .inl e
  ·exact .inr (.inl e)
  ·exact .inr (.inr (.inl e))
  ·exact .inr (.inr (.inr (.inl e)))
  ·exact .inr (.inr (.inr (.inr (.inl e))))
  ·exact .inr (.inr (.inr (.inr (.inr (.inl e)))))
  ·exact .inr (.inr (.inr (.inr (.inr (.inr (.inl e))))))
  ·cases e
  ·cases hv)⟩
 have HCR:=Lib.hid hC
 have cb:=broken_any hA
 go_wp2_with fail
 go_loopw [17] (fun iv wr=>iv=.int .i64 0∧wr=w1) (fun _ _=>0)
 case atStart=>exact⟨rfl,rfl⟩
 case round =>
  obtain⟨rfl,rfl⟩:=hrel
  go_wp2_with fail
  refine cb.mono ?_
  rintro e w2 ⟨rfl,rfl⟩
  go_wp2_with fail
  first|go_end0|refine bodyPost_ret (results_none rfl _ _ _) rfl ?_
  exact⟨rfl,hT,HCR.out⟩
set_option maxRecDepth 100000 in
theorem qtick_any(N':Nd)(hct:Calls Tryz.prog 68 #[.pointer (some ⟨K.r,0,none⟩)] w fun e w'=>e=.returned (.tuple #[])∧NdTo K w w' N')(ho:N'.out=[]) :
 Calls Tryz.prog 28 #[.pointer (some ⟨Q.q,0,none⟩),.int .i64 0] w fun e w'=>e=.returned (.tuple #[])∧NetTo Q K w w' N':=by
 have cn:=qnode_any h.net
 have HH:=Lib.hid h
 clear h
 go_enter Tryz.func28,Tryz.ntmps28
 go_wp2_with fail
 refine cn.mono ?_
 rintro e w1 ⟨rfl,rfl⟩
 go_wp2_with fail
 refine hct.mono ?_
 rintro e w2 ⟨rfl,hT⟩
 obtain⟨K2,r1,r2,r3,hU,hC,hKK⟩:=NetUp.of_node HH.out hT
 have ca:=qafter_any hU ho
 have HT:=Lib.hid (show NetTo Q K w1 w2 N' from⟨K2,r1,r2,r3,hU,hC,hKK⟩)
 have HC:=Lib.hid hC
 have HK:=Lib.hid hKK
 clear hU hC hKK hT
 go_wp2_with fail
 refine ca.mono ?_
 rintro e w3 ⟨rfl,hT3, -⟩
 go_wp2_with fail
 first|go_end0|refine bodyPost_ret (results_none rfl _ _ _) rfl ?_
 obtain⟨K3,s1,s2,s3,hA3,hC3,hK3⟩:=hT3
 refine⟨rfl,K3,s1.trans r1,s2.trans r2,s3.trans r3,hA3,HC.out.trans hC3 fun k hk hs=>?_,fun k hk=>?_⟩
 ·rcases HK.out k hs with e|e
  ·exact e
  ·omega
 ·rcases hK3 k hk with e|e
  ·exact HK.out k e
  ·exact .inr (Nat.le_trans HC.out.size e)
set_option maxRecDepth 100000 in
theorem qround_any(N':Nd)(hct:Calls Tryz.prog 68 #[.pointer (some ⟨K.r,0,none⟩)] w fun e w'=>e=.returned (.tuple #[])∧NdTo K w w' N')(ho:N'.out=[]) :
 Calls Tryz.prog 7 #[.pointer (some ⟨Q.q,0,none⟩)] w fun e w'=>e=.returned (.tuple #[])∧NetTo Q K w w' N':=by
 have c0:=h.net.nt.cell 0
 have c2:=h.net.nt.cell 2
 simp at c0 c2
 have ct:=qtick_any h N' hct ho
 have HH:=Lib.hid h
 clear h hct
 go_enter Tryz.func7,Tryz.ntmps7
 go_wp2_with fail
 go_loopw [8] (fun iv wr=>iv=.int .i64 0∧wr=w) (fun _ _=>0)
 case atStart=>exact⟨rfl,rfl⟩
 case round =>
  obtain⟨rfl,rfl⟩:=hrel
  rename World=>w0
  go_wp2_with fail
  go_loopw [18] (fun iv wr=>(iv=.int .i64 0∧wr=w0)∨(iv=.int .i64 1∧NetTo Q K w0 wr N')) (fun iv _=>1 - (intOf iv).toNat)
  case atStart=>exact .inl ⟨rfl,rfl⟩
  case round =>
   rcases hrel with⟨rfl,rfl⟩|⟨rfl,hT⟩
   ·go_wp2_with fail
    refine ct.mono ?_
    rintro e w2 ⟨rfl,hT⟩
    go_wp2_with fail
    go_roundw
    case rel=>exact .inr ⟨rfl,hT⟩
    case measure=>simp[intOf]
   ·go_wp2_with fail
    first|go_end0|refine bodyPost_ret (results_none rfl _ _ _) rfl ?_
    exact⟨rfl,hT⟩
set_option maxRecDepth 100000 in
theorem qpropose_any(N':Nd)(s:ByteArray)(a b:Int)(hct:Calls Tryz.prog 38 #[.pointer (some ⟨K.r,0,none⟩),.string s] w fun e w'=>e=.returned (.tuple #[.int .i64 a,.int .i64 b,.int .i64 0])∧NdTo K w w' N')(ho:N'.out=[]) :
 Calls Tryz.prog 11 #[.pointer (some ⟨Q.q,0,none⟩),.int .i64 0,.string s] w fun e w'=>e=.returned (.tuple #[.int .i64 a,.int .i64 b,.int .i64 0])∧NetTo Q K w w' N':=by
 have cn:=qnode_any h.net
 have HH:=Lib.hid h
 clear h
 go_enter Tryz.func11,Tryz.ntmps11
 go_wp2_with fail
 refine cn.mono ?_
 rintro e w1 ⟨rfl,rfl⟩
 go_wp2_with fail
 refine hct.mono ?_
 rintro e w2 ⟨rfl,hT⟩
 obtain⟨K2,r1,r2,r3,hU,hC,hKK⟩:=NetUp.of_node HH.out hT
 have ca:=qafter_any hU ho
 have HC:=Lib.hid hC
 have HK:=Lib.hid hKK
 clear hU hC hKK hT
 go_wp2_with fail
 refine ca.mono ?_
 rintro e w3 ⟨rfl,hT3, -⟩
 go_wp2_with fail
 go_ret3
 obtain⟨K3,s1,s2,s3,hA3,hC3,hK3⟩:=hT3
 refine⟨rfl,K3,s1.trans r1,s2.trans r2,s3.trans r3,hA3,HC.out.trans hC3 fun k hk hs=>?_,fun k hk=>?_⟩
 ·rcases HK.out k hs with e|e
  ·exact e
  ·omega
 ·rcases hK3 k hk with e|e
  ·exact HK.out k e
  ·exact .inr (Nat.le_trans HC.out.size e)
end
end Go.Proofs.YtkkbfdencgdbhaaGreatDoor
