/-
  Part 49 of what the law leans on.
-/
import Derived.Test.YtkkbfdencgdbhaaGreatDoorSA45
import Derived.Test.YtkkbfdencgdbhaaGreatDoorSA46
import Derived.Test.YtkkbfdencgdbhaaGreatDoorSA47
import Derived.Test.YtkkbfdencgdbhaaGreatDoorSA48
import Derived.Shelf.RegionOpenPlain
import Derived.Deep.LoopGhost
import Derived.Deep.RegionLaw
import Derived.Lib.Walk
import Derived.Lib.SliceRun
set_option linter.unusedVariables false
set_option linter.unusedSimpArgs false
set_option linter.unusedSectionVars false
namespace Go.Proofs.YtkkbfdencgdbhaaGreatDoor
open Go.RowKit Go.Sort
section
variable{w:World}{g:Nat}{t:TypeId}
theorem at_setCells:∀(vs:List Value) (o:Nat) (w:World) (cs:Array Value),At w g t cs→o+vs.length≤cs.size→At (w.setCells g o vs) g t (cs.toList.take o++vs++cs.toList.drop (o+vs.length)).toArray
 | [],o,w,cs,h,_=>by
  have e:(cs.toList.take o++[]++cs.toList.drop (o+([]:List Value).length)).toArray=cs:=by simp
  rw[e];exact h
 | v::r,o,w,cs,h,hl=>by
  simp only[List.length_cons]at hl
  have h2:=at_setCells r (o+1) (w.setCell ⟨g,o,none⟩ v) (cs.setIfInBounds o v) (h.set o v) (by simp;omega)
  have e:((cs.setIfInBounds o v).toList.take (o+1)++r++(cs.setIfInBounds o v).toList.drop (o+1+r.length))=cs.toList.take o++(v::r)++cs.toList.drop (o+(v::r).length):=by
   rw[Array.toList_setIfInBounds]
   have e1:(cs.toList.set o v).take (o+1)=cs.toList.take o++[v]:=by
    rw[List.take_add_one,List.take_set_of_le (Nat.le_refl o),List.getElem?_set_self (by simp;omega)]
    rfl
   have e2:(cs.toList.set o v).drop (o+1+r.length)=cs.toList.drop (o+(r.length+1)):=by
    rw[List.drop_set_of_lt (by omega),show o+1+r.length=o+(r.length+1)by omega]
   rw[e1,e2]
   simp
  rw[e]at h2
  exact h2
end
def zMsg:List Value:=[.int .i64 0,.int .i64 0,.int .i64 0,.int .i64 0,.int .i64 0,.int .i64 0,.int .i64 0,.bool false,.slice none 0 0,.string ByteArray.empty]
theorem zero_msg(w:World):(zeroValue 129).run Tryz.prog w=.ok (.agg zMsg.toArray) w:=by kernel_rfl
theorem clear_msg(w:World)(b o c:Nat)(hc:∀j,j<10→(w.cell? ⟨b,o+j,none⟩).isSome=true)(hf:∀j,j<10→w.frozen? ⟨b,o+j,none⟩=false)(ty:TypeId) :
 (Builtin.clear_ #[71] ty #[.slice (some ⟨b,o,none⟩) 1 c]).run Tryz.prog w=.ok (.tuple #[]) (w.setCells b o zMsg):=by
 have hzc:(Builtin.zeroCells (Value.agg zMsg.toArray).cells 1).toList=zMsg:=by kernel_rfl
 have hst:=run_storeCells_cells (P:=Tryz.prog) b o zMsg 0 w (by intro j hj;rw[Nat.add_zero];exact hc j hj) (by intro j hj;rw[Nat.add_zero];exact hf j hj) (by intro v hv;simp[zMsg]at hv;rcases hv with rfl|rfl|rfl|rfl <;> rfl)
 simp only[Nat.add_zero]at hst
 have hzc2:(Builtin.zeroCells (Value.agg #[.int .i64 0,.int .i64 0,.int .i64 0,.int .i64 0,.int .i64 0,.int .i64 0,.int .i64 0,.bool false,.slice none 0 0,.string ⟨#[]⟩]).cells 1).toList=zMsg:=hzc
 have hz:=zero_msg w
 have e:(Value.agg zMsg.toArray)=.agg #[.int .i64 0,.int .i64 0,.int .i64 0,.int .i64 0,.int .i64 0,.int .i64 0,.int .i64 0,.bool false,.slice none 0 0,.string ⟨#[]⟩]:=rfl
 rw[e]at hz
 simp[Builtin.clear_,run_underlying Tryz.underlying71,hz,hzc2,hst]
theorem msRows_len:∀(ms:List Ms) (evs:List Value),evs.length=ms.length→(msRows ms evs).length=ms.length * 10
 | [],[],_=>rfl
 | [],_::_,h=>by simp at h
 | _::_,[],h=>by simp at h
 | m::r,ev::er,h=>by
  show(msRow m ev++msRows r er).length=_
  rw[List.length_append,msRows_len r er (by simpa using h)]
  simp[msRow];omega
theorem msRows_one:∀(ms:List Ms) (evs:List Value),(∀ev∈evs,ev.oneCell'=true)→∀u∈msRows ms evs,u.oneCell'=true
 | [],_,_,u,hu=>by cases hu
 | _::_,[],_,u,hu=>by cases hu
 | m::r,ev::er,h,u,hu=>by
  rcases List.mem_append.1 (show u∈msRow m ev++msRows r er from hu)with hu|hu
  ·simp only[msRow,List.mem_cons,List.not_mem_nil,or_false]at hu
   rcases hu with e|e|e|e|e|e|e|e|e|e
   all_goals first|(rw[e];rfl)|(rw[e];exact h ev (List.mem_cons_self ..))
  ·exact msRows_one r er (fun e he=>h e (List.mem_cons_of_mem _ he)) u hu
set_option maxRecDepth 1000000 in
set_option maxHeartbeats 4000000 in
theorem qdel_any(w:World)(v ev:Value)(er:List Value)(m:Ms)(ms:List Ms)(h:OutAt w v (ev::er) (m::ms)) :
 Calls Tryz.prog 108 #[v,.int .i64 0,.int .i64 1] w fun e w'=>∃v',e=.returned v'∧OutAt w' v' er ms∧v'.ownBlock=v.ownBlock∧Chg (fun k=>some k=v.ownBlock) w w':=by
 have hel:er.length=ms.length:=by simpa using h.len
 obtain⟨i0,hi0,hz0,hz1⟩:∃i,Tryz.prog.info? 129=some i∧i.size=10∧True:=by
  have:=msg_size
  cases hp:Tryz.prog.info? 129 with
  | none=>rw[hp]at this;cases this
  | some i=>rw[hp]at this;exact⟨i,rfl,by simpa using this,trivial⟩
 rcases h.own.2 with⟨_,hn⟩|⟨g,cap,cur,rfl,_,hb,hcap,hcm,hsz,htk⟩
 ·simp at hn
 have hA:At w g 129 cur:=hb
 have hlen:(m::ms).length=ms.length+1:=rfl
 rw[hlen]at hcap htk⊢
 have hone:∀u∈msRows ms er,u.oneCell'=true:=msRows_one ms er (fun e he=>by
  obtain⟨i,hi⟩:=List.getElem?_of_mem he
  have hil:=(List.getElem?_eq_some_iff.1 hi).1
  obtain⟨m',hm'⟩:∃m',ms[i]? = some m':=⟨_,List.getElem?_eq_getElem (by rw[←hel];exact hil)⟩
  obtain⟨A,c,rfl,_⟩:=q_slc (h.es (i+1) m' e (by simpa using hm') (by simpa using hi))
  rfl)
 have hrl:=msRows_len ms er hel
 have hcur:∀j,j<ms.length * 10→cur[10+j]? = (msRows ms er)[j]? := fun j hj=>by
  have h1:cur.toList.take ((ms.length+1) * 10)=msRow m ev++msRows ms er:=htk
  have h2:(cur.toList.take ((ms.length+1) * 10))[10+j]? = cur[10+j]? := by
   rw[List.getElem?_take,if_pos (by omega),Array.getElem?_toList]
  rw[←h2,h1,List.getElem?_append_right (by show 10≤10+j;omega)]
  show(msRows ms er)[10+j - 10]? = _
  rw[Nat.add_sub_cancel_left]
 have hcell:∀j,w.cell? ⟨g,j,none⟩=cur[j]? := fun j=>hA.cell j
 have hfz:∀j,w.frozen? ⟨g,j,none⟩=false:=fun j=>hA.frozen j
 unfold maxLen at hcm
 obtain⟨Ad,hAd,hsrc⟩:∃A:Addr,(if cap=1 then some (⟨g,0,none⟩:Addr)else some ⟨g,10,none⟩)=some A∧Hid (∀t u,(msRows ms er)[t]? = some u→w.drew.cell? (A.add t)=some u):=by
  by_cases hc1:cap=1
  ·refine⟨⟨g,0,none⟩,by simp[hc1],Lib.hid fun t u hu=>?_⟩
   have h0:ms.length=0:=by omega
   have:(msRows ms er).length=0:=by rw[hrl,h0]
   rw[List.length_eq_zero_iff.1 this]at hu
   cases hu
  ·refine⟨⟨g,10,none⟩,by simp[hc1],Lib.hid fun t u hu=>?_⟩
   have ht:t<ms.length * 10:=by rw[←hrl];exact(List.getElem?_eq_some_iff.1 hu).1
   rw[Go.WideShapes.add_plain]
   show w.cell? _=_
   rw[hcell,hcur t ht,hu]
 have s3:=Lib.hid (show ∀j,j<(msRows ms er).length→(w.drew.cell? ⟨g,0+0 * 10+j,none⟩).isSome=true∧w.drew.frozen? ⟨g,0+0 * 10+j,none⟩=false from fun j hj=>by
  rw[hrl]at hj
  have e:0+0 * 10+j=j:=by omega
  rw[e]
  refine⟨?_,hfz j⟩
  show(w.cell? _).isSome=true
  rw[hcell,Array.getElem?_eq_getElem (by rw[hsz];omega)];rfl)
 obtain⟨W1,hW1⟩:∃W1,W1=w.drew.setCells g (0+0 * 10) (msRows ms er):=⟨_,rfl⟩
 have hA1:At W1 g 129 (cur.toList.take 0++msRows ms er++cur.toList.drop (0+(msRows ms er).length)).toArray:=by
  rw[hW1]
  exact at_setCells (msRows ms er) 0 w.drew cur (hA.ext (Ext.refl w).drew) (by rw[hrl,hsz];omega)
 have hcl:=fun ty=>clear_msg W1 g (ms.length * 10) (cap - ms.length) (fun j hj=>by
  rw[hA1.cell]
  rw[Array.getElem?_eq_getElem (by simp[hrl,hsz];omega)];rfl) (fun j hj=>hA1.frozen _) ty
 have mixed:Tryz.prog.follows Departure.mixedOrders=true:=by kernel_rfl
 have h11:(1:Int)≤(ms.length:Int)+1:=by omega
 have hncap:ms.length≤cap:=by omega
 have hcap1:1≤cap:=by omega
 have hW:=Lib.hid hW1
 have HA1:=Lib.hid hA1
 have HA:=Lib.hid hA
 have HRL:=Lib.hid hrl
 have HONE:=Lib.hid hone
 have HH:=Lib.hid h
 have hi1:i0.size=10:=hz0
 clear hW1 hA1 hA hrl hone h hb htk hcur hcell hfz hz0
 go_enter Tryz.func108,Tryz.ntmps108
 go_wp2_with fail
 go_region_law_o (refine step_append_room rfl (.tmp 22) (.tmp 25) 71 rfl 129 i0 10 Tryz.underlying71 hi0 hi1 g 0 0 cap (by simp[Act.eval,Act.put]) Ad ms.length (cap - 1) (msRows ms er) (by simp[Act.eval,Act.put,hAd]) HRL.out hsrc.out HONE.out (by omega) s3.out ?_;rw[←hW.out])
 go_wp2
 go_ret
 have hA:=HA.out
 have hrl:=HRL.out
 have hA2:=at_setCells zMsg (ms.length * 10) W1 _ HA1.out (by simp[hrl,hsz,zMsg];omega)
 have hC1:Chg (fun k=>some k=(Value.slice (some ⟨g,0,none⟩) (ms.length+1) cap).ownBlock) w W1:=by
  rw[hW.out]
  exact((Ext.refl w).drew.chg_trans (chg_setCells (w:=w.drew) (b:=g) (msRows ms er) (0+0 * 10))).mono fun k _ e=>by rw[show k=g from e];rfl
 have hC2:Chg (fun k=>some k=(Value.slice (some ⟨g,0,none⟩) (ms.length+1) cap).ownBlock) w (W1.setCells g (ms.length * 10) zMsg):=hC1.trans (chg_setCells (w:=W1) (b:=g) zMsg (ms.length * 10)) fun k _ e=>by rw[show k=g from e];rfl
 refine⟨_,rfl,⟨⟨hrl,.inr ⟨g,cap,_,rfl,Nat.zero_le _,hA2,hncap,by unfold maxLen;omega,?_,?_⟩⟩,hel,fun i m' e he1 he2=>?_⟩,rfl,hC2⟩
 ·simp[hrl,hsz,zMsg];omega
 ·simp only[List.take_zero,List.nil_append]
  rw[List.take_left' hrl,List.append_assoc,List.take_left' hrl]
 ·refine q_keep (HH.out.es (i+1) m' e (by simpa using he1) (by simpa using he2)) hC2 fun k hk hs=>?_
  have hs':k=g:=by simpa[Value.ownBlock]using hs
  rw[hs']at hk
  exact q_apart (HH.out.es (i+1) m' e (by simpa using he1) (by simpa using he2)) hA (by decide) hk
end Go.Proofs.YtkkbfdencgdbhaaGreatDoor
namespace Go.Proofs.YtkkbfdencgdbhaaGreatDoor
open Go.RowKit Go.Sort
def netCells(sa sb wv:Value):Array Value:=#[sa,sb,wv]
set_option maxRecDepth 100000 in
set_option maxHeartbeats 2000000 in
theorem qsend_any(w:World)(q:Nat)(sa sb wv:Value)(wes:List Value)(ws:List Ms)(hq:At w q 73 (netCells sa sb wv))(hw:OutAt w wv wes ws)(hlen:ws.length<200)(m:Ms)(ev:Value)(hev:w.ownsRow 0 49 3 ev m.es.length (enRows m.es)) :
 Calls Tryz.prog 85 #[.pointer (some ⟨q,0,none⟩),.agg (m.cells ev)] w fun e w'=>e=.returned (.tuple #[])∧∃wv',At w' q 73 (netCells sa sb wv')∧OutAt w' wv' (wes++[ev]) (ws++[m])∧Chg (fun k=>k=q∨some k=wv.ownBlock) w w'∧(wv'.ownBlock=wv.ownBlock∨∃k,wv'.ownBlock=some k∧w.heap.size≤k):=by
 obtain⟨A,c,rfl,_⟩:=q_slc hev
 have hX:=At.new w 129 #[.int .i64 m.kind,.int .i64 m.frm,.int .i64 m.dst,.int .i64 m.term,.int .i64 m.idx,.int .i64 m.lt,.int .i64 m.cm,.bool m.ok,.slice A m.es.length c,.string m.sn]
 have hE:=(Ext.refl w).alloc (.cells #[.int .i64 m.kind,.int .i64 m.frm,.int .i64 m.dst,.int .i64 m.term,.int .i64 m.idx,.int .i64 m.lt,.int .i64 m.cm,.bool m.ok,.slice A m.es.length c,.string m.sn] 129)
 have HEV:=Lib.hid hev
 have hxq:q≠w.heap.size:=fun e=>by have:=hq.lt;omega
 have hxo:some w.heap.size≠wv.ownBlock:=fun e=>by have:=q_lt hw.own _ e;omega
 have hQ:=hq.ext hE
 have hO0:=hw.keep hE (fun _ _ h=>h) (fun _ _ _ _ h=>h)
 clear hev hq hw
 unfold Ms.cells
 go_enter Tryz.func85,Tryz.ntmps85
 go_upto_region 1 with fail
 generalize w.alloc (.cells #[.int .i64 m.kind,.int .i64 m.frm,.int .i64 m.dst,.int .i64 m.term,.int .i64 m.idx,.int .i64 m.lt,.int .i64 m.cm,.bool m.ok,.slice A m.es.length c,.string m.sn] 129)=W at hX hE hQ hO0⊢
 obtain⟨x,hx⟩:∃x,w.heap.size=x:=⟨_,rfl⟩
 rw[hx]at hX hxq hxo⊢
 have HE:=Lib.hid hE
 have c2:=hQ.cell 2
 obtain⟨wA,wc,hwv,hwc⟩:=q_slc hO0.own
 simp[netCells,hwv]at c2
 have HWV:=Lib.hid hwv
 have hl2:decide ((ws.length:Int)<200)=true:=by simp;omega
 clear hx hE hwv
 go_wp2_with fail
 refine wp_region_phi (Γ := Nat→Value) (sgφ [.val (.pointer (some ⟨q,0,none⟩)),.val (.pointer (some ⟨q,0,none⟩)),.val (.pointer (some ⟨q,0,none⟩)),.val (.pointer (some ⟨q,2,none⟩)),.val (wv),.val (.agg #[.int .i64 m.kind,.int .i64 m.frm,.int .i64 m.dst,.int .i64 m.term,.int .i64 m.idx,.int .i64 m.lt,.int .i64 m.cm,.bool m.ok,.slice A m.es.length c,.string m.sn]),.g 0,.g 1,.val (.pointer (some ⟨q,0,none⟩)),.val (.pointer (some ⟨q,2,none⟩)),.any])
  (GAO W q 73 129 (fun v=>netCells sa sb v) wv 10 ws.length (msRows ws wes) [.int .i64 m.kind,.int .i64 m.frm,.int .i64 m.dst,.int .i64 m.term,.int .i64 m.idx,.int .i64 m.lt,.int .i64 m.cm,.bool m.ok,.slice A m.es.length c,.string m.sn] (fun w=>At w x 129 #[.int .i64 m.kind,.int .i64 m.frm,.int .i64 m.dst,.int .i64 m.term,.int .i64 m.idx,.int .i64 m.lt,.int .i64 m.cm,.bool m.ok,.slice A m.es.length c,.string m.sn]) 6 7 10)
  (by kernel_rfl) (by kernel_rfl) (by kernel_rfl) (fun _=>undef) (GAO.start hQ hO0.own hX.drew _) ?steps ?fin
 case steps =>
  show StepsTo _ _ _ _ _ _ 11
  refine⟨⟨⟨⟨⟨⟨⟨⟨⟨⟨⟨trivial,?s0⟩,?s1⟩,?s2⟩,?s3⟩,?s4⟩,?s5⟩,?s6⟩,?s7⟩,?s8⟩,?s9⟩,?s10⟩
  case s0 =>
   refine sg_val (x:=.pointer (some ⟨q,0,none⟩)) rfl rfl rfl (GAO.keep (by decide) (by decide) (by decide)) fun γ L v a w st=>?_
   have f0:=st.far 0 (by kernel_rfl)
   simp at f0
   go_simp
  case s1 =>
   refine sg_val (x:=.pointer (some ⟨q,0,none⟩)) rfl rfl rfl (GAO.keep (by decide) (by decide) (by decide)) fun γ L v a w st=>?_
   have f0:=st.far 0 (by kernel_rfl)
   simp at f0
   go_simp
  case s2 =>
   refine sg_val (x:=.pointer (some ⟨q,0,none⟩)) rfl rfl rfl (GAO.keep (by decide) (by decide) (by decide)) fun γ L v a w st=>?_
   have e1:=st.val 1 11 rfl (by kernel_rfl)
   rw[(st.φ 1 (by kernel_rfl):v 1=_)]at e1
   simp at e1
   go_simp
  case s3 =>
   refine sg_val (x:=.pointer (some ⟨q,2,none⟩)) rfl rfl rfl (GAO.keep (by decide) (by decide) (by decide)) fun γ L v a w st=>?_
   have e2:=st.val 2 12 rfl (by kernel_rfl)
   rw[(st.φ 2 (by kernel_rfl):v 2=_)]at e2
   simp at e2
   go_simp
  case s4 =>
   refine sg_val (x:=wv) rfl rfl rfl (GAO.keep (by decide) (by decide) (by decide)) fun γ L v a w st=>?_
   have e3:=st.val 3 13 rfl (by kernel_rfl)
   rw[(st.φ 3 (by kernel_rfl):v 3=_)]at e3
   simp at e3
   have hjs:L 10=false:=GAO.js_off (r:=[7,10]) st.down st.off (by kernel_rfl) (by simp)
   have hat:=st.inv.at_
   rw[hjs]at hat
   have hcl:=hat.cell 2
   simp[netCells]at hcl
   go_simp
  case s5 =>
   refine sg_val (x:=.agg #[.int .i64 m.kind,.int .i64 m.frm,.int .i64 m.dst,.int .i64 m.term,.int .i64 m.idx,.int .i64 m.lt,.int .i64 m.cm,.bool m.ok,.slice A m.es.length c,.string m.sn]) rfl rfl rfl (GAO.keep (by decide) (by decide) (by decide)) fun γ L v a w st=>?_
   have f3:=st.far 3 (by kernel_rfl)
   simp at f3
   exact exec_load_mid rfl (b:=x) (off:=0) (by simp[Act.eval,f3]) st.inv.kp.range Tryz.underlying129 rfl msg_size
  case s6 =>
   refine sg_new (k:=0) rfl rfl rfl (by kernel_rfl) fun γ L v a w st=>?_
   have e5:=st.val 5 15 rfl (by kernel_rfl)
   rw[(st.φ 5 (by kernel_rfl):v 5=_)]at e5
   simp at e5
   have hja:L 7=false:=GAO.js_off (r:=[7,10]) st.down st.off (by kernel_rfl) (by simp)
   have hjs:L 10=false:=GAO.js_off (r:=[7,10]) st.down st.off (by kernel_rfl) (by simp)
   exact⟨.slice (some ⟨w.heap.size,0,none⟩) 1 1,w.alloc (.cells #[.int .i64 m.kind,.int .i64 m.frm,.int .i64 m.dst,.int .i64 m.term,.int .i64 m.idx,.int .i64 m.lt,.int .i64 m.cm,.bool m.ok,.slice A m.es.length c,.string m.sn] 129),by go_simp,st.inv.made (fun w w' h hE=>h.ext hE) hja hjs (by decide) (by decide)⟩
  case s7 =>
   refine sg_new (k:=1) rfl rfl rfl (by kernel_rfl) fun γ L v a w st=>?_
   have e4:=st.val 4 14 rfl (by kernel_rfl)
   rw[(st.φ 4 (by kernel_rfl):v 4=_)]at e4
   simp at e4
   have e6:=st.val 6 16 rfl (by kernel_rfl)
   rw[(st.φ 6 (by kernel_rfl):v 6=_)]at e6
   simp at e6
   have hjs:L 10=false:=GAO.js_off (r:=[10]) st.down st.off (by kernel_rfl) (by simp)
   exact st.inv.appended (by decide) (fun w w' h hO hC=>h.chg hC hxo) (st.dep 6 (by kernel_rfl)) st.off hjs (by decide) 71 Tryz.underlying71 msg_info rfl (by decide) (by decide) (by omega) rfl (by simp[Value.oneCell']) (.tmp 14) (.tmp 16) rfl (by simp[Act.eval,e4]) (by simp[Act.eval,e6])
  case s8 =>
   refine sg_val (x:=.pointer (some ⟨q,0,none⟩)) rfl rfl rfl (GAO.keep (by decide) (by decide) (by decide)) fun γ L v a w st=>?_
   have e0:=st.val 0 10 rfl (by kernel_rfl)
   rw[(st.φ 0 (by kernel_rfl):v 0=_)]at e0
   simp at e0
   go_simp
  case s9 =>
   refine sg_val (x:=.pointer (some ⟨q,2,none⟩)) rfl rfl rfl (GAO.keep (by decide) (by decide) (by decide)) fun γ L v a w st=>?_
   have e8:=st.val 8 18 rfl (by kernel_rfl)
   rw[(st.φ 8 (by kernel_rfl):v 8=_)]at e8
   simp at e8
   go_simp
  case s10 =>
   refine sg_skip rfl rfl rfl fun γ L v a w st=>?_
   have e9:=st.val 9 19 rfl (by kernel_rfl)
   rw[(st.φ 9 (by kernel_rfl):v 9=_)]at e9
   simp at e9
   have e7:=st.val 7 17 rfl (by kernel_rfl)
   rw[(st.φ 7 (by kernel_rfl):v 7=_)]at e7
   simp at e7
   have hja:=st.dep 7 (by kernel_rfl)
   have hat:=st.inv.at_
   rw[st.off]at hat
   have f0:=hat.frozen 2
   have c0:=hat.cell 2
   simp[netCells]at c0
   have hlt:=hat.lt
   have hown:=st.inv.own
   rw[hja]at hown
   simp only[if_true]at hown
   obtain⟨oA,oc,hov,_⟩:=q_slc hown
   rw[hov]at e7
   obtain⟨oB,od,hov2,_⟩:=q_slc hO0.own
   rw[hov2]at c0
   refine⟨w.setCell ⟨q,2,none⟩ (γ 1),by rw[hov];go_simp,st.inv.stored (by decide) (fun w w' h hC hx=>h.chg hC (by obtain⟨cs,hx⟩:=hx;exact h.ne hx (by decide))) hja st.off (by decide) rfl⟩
 case fin =>
  intro γ Lx v wr hall hG hφ
  have hx5:=hG.at_
  have hO5:=hG.own
  have hN5:=hG.nb (hall 7 (by decide))
  rw[hall 10 (by decide)]at hx5
  rw[hall 7 (by decide)]at hO5
  simp only[if_true]at hx5 hO5
  have hC5:=hG.chg
  have hK5:=hG.kp
  clear hall hφ hG
  change bodyPost _ _ _ Exit.normal (putAll _ v _ 11) wr
  simp only[putAll,dstOf,Act.put]
  simp only[List.getElem?_toArray,List.getElem?_cons_zero,List.getElem?_cons_succ,Option.bind_some,List.setIfInBounds_toArray,List.set_cons_zero,List.set_cons_succ]
  go_wp2_with fail
  first|go_end0|refine bodyPost_ret (results_none rfl _ _ _) rfl ?_
  have qq:∀ {e:TypeId} {size:Nat} {v:Value} {n:Nat} {xs:List Value},W.ownsRow 0 e size v n xs→e≠73→e≠129→wr.ownsRow 0 e size v n xs:=fun ho h1 h2=>q_keep ho hC5 fun k hk hs=>by
   rcases hs with hs|hs
   ·rw[hs]at hk;exact q_apart ho hQ h1 hk
   ·exact q_apart2 ho hO0.own h2 k hk hs
  have hE0:Ext w W:=HE.out
  refine⟨rfl, γ 1,hx5,⟨?_,?_,?_⟩,?_,?_⟩
  ·show wr.ownsRow 0 129 10 (γ 1) (ws++[m]).length (msRows (ws++[m]) (wes++[_]))
   rw[msRows_snoc _ _ hO0.len,List.length_append]
   exact hO5
  ·rw[List.length_append,List.length_append,hO0.len];rfl
  ·intro i m' ev' hm' he'
   by_cases hi:i<ws.length
   ·rw[List.getElem?_append_left hi]at hm'
    rw[List.getElem?_append_left (by rw[hO0.len];exact hi)]at he'
    exact qq (hO0.es i m' ev' hm' he') (by decide) (by decide)
   ·rw[List.getElem?_append_right (by omega)]at hm'
    rw[List.getElem?_append_right (by rw[hO0.len];omega)]at he'
    have hi0:i - ws.length=0:=by have:=(List.getElem?_eq_some_iff.1 hm').1;simp at this;omega
    rw[hi0]at hm'
    rw[hO0.len,hi0]at he'
    cases hm'
    cases he'
    exact qq (own_ext HEV.out hE0) (by decide) (by decide)
  ·exact hE0.chg_trans (hC5.mono fun k hk e=>e)
  ·rcases hN5 with e|⟨k,e,hk⟩
   ·exact .inl e
   ·exact .inr ⟨k,e,Nat.le_trans hE0.size hk⟩
end Go.Proofs.YtkkbfdencgdbhaaGreatDoor
namespace Go.Proofs.YtkkbfdencgdbhaaGreatDoor
open Go.RowKit Go.Sort
structure Qb where
 q:Nat
 nb:Nat
 db:Nat
 wv:Value
 wes:List Value
def Qb.own(Q:Qb)(k:Nat):Prop:=k=Q.q∨k=Q.nb∨k=Q.db
def Qb.wy(Q:Qb)(k:Nat):Prop:=some k=Q.wv.ownBlock∨∃v∈Q.wes,some k=v.ownBlock
def Qb.all(Q:Qb)(Ks:List Ka)(k:Nat):Prop:=Q.own k∨Q.wy k∨∃K∈Ks,K.has k
def ptrs(f:Ka→Nat)(Ks:List Ka):Array Value:=(Ks.map fun K=>.pointer (some ⟨f K,0,none⟩)).toArray
structure NetS (w:World) (Q:Qb) (Ks:List Ka) (Ns:List Nd) (ws:List Ms):Prop where
 nt:At w Q.q 73 (netCells (.slice (some ⟨Q.nb,0,none⟩) Ks.length Ks.length) (.slice (some ⟨Q.db,0,none⟩) Ks.length Ks.length) Q.wv)
 ns:At w Q.nb 45 (ptrs Ka.r Ks)
 ds:At w Q.db 74 (ptrs Ka.d Ks)
 kl:Ns.length=Ks.length
 nd:∀(i:Nat) (K:Ka) (N:Nd),Ks[i]? = some K→Ns[i]? = some N→NdAt w K N
 wy:OutAt w Q.wv Q.wes ws
 ap:∀(i j:Nat) (K K':Ka),i≠j→Ks[i]? = some K→Ks[j]? = some K'→∀k,K.has k→¬ K'.has k
 wk:∀K∈Ks,∀k,K.has k→¬ Q.wy k
def NetT(Q:Qb)(Ks:List Ka)(w w':World)(Ns':List Nd)(ws':List Ms):Prop:=∃(Q':Qb) (Ks':List Ka),Q'.q=Q.q∧NetS w' Q' Ks' Ns' ws'∧Chg (Q.all Ks) w w'∧∀k,Q'.all Ks' k→Q.all Ks k∨w.heap.size≤k
section
variable{w w' w'':World}{Q:Qb}{Ks:List Ka}{Ns Ns':List Nd}{ws ws':List Ms}{K:Ka}{N N':Nd}{i:Nat}{S:Nat→Prop}
theorem NetS.nd_of(h:NetS w Q Ks Ns ws)(hK:Ks[i]? = some K):∃N,Ns[i]? = some N∧NdAt w K N:=by
 have hi:i<Ns.length:=by rw[h.kl];exact(List.getElem?_eq_some_iff.1 hK).1
 exact⟨_,List.getElem?_eq_getElem hi,h.nd i K _ hK (List.getElem?_eq_getElem hi)⟩
theorem NetS.mem_nd(h:NetS w Q Ks Ns ws)(hK:K∈Ks):∃N,NdAt w K N:=by
 obtain⟨i,hi⟩:=List.getElem?_of_mem hK
 obtain⟨N,_,hN⟩:=h.nd_of hi
 exact⟨N,hN⟩
theorem NetS.wy_lt(h:NetS w Q Ks Ns ws):∀k,Q.wy k→k<w.heap.size:=by
 rintro k (e|⟨v,hv,e⟩)
 ·exact q_lt h.wy.own k e
 ·exact h.wy.lt v hv k e
theorem NetS.all_lt(h:NetS w Q Ks Ns ws):∀k,Q.all Ks k→k<w.heap.size:=by
 rintro k ((e|e|e)|hw|⟨K,hK,hk⟩)
 ·rw[e];exact h.nt.lt
 ·rw[e];exact h.ns.lt
 ·rw[e];exact h.ds.lt
 ·exact h.wy_lt k hw
 ·obtain⟨N,hN⟩:=h.mem_nd hK
  exact hN.has_lt k hk
theorem NetS.own_nd(h:NetS w Q Ks Ns ws)(hK:K∈Ks):∀k,K.has k→¬ Q.own k:=by
 obtain⟨N,hN⟩:=h.mem_nd hK
 rintro k hk (e|e|e)
 ·exact hN.not_has h.nt (by decide) (by decide) (by decide) (by decide) (by decide) (by decide) (e ▸ hk)
 ·exact hN.not_has h.ns (by decide) (by decide) (by decide) (by decide) (by decide) (by decide) (e ▸ hk)
 ·exact hN.not_has h.ds (by decide) (by decide) (by decide) (by decide) (by decide) (by decide) (e ▸ hk)
theorem OutAt.not_at{v:Value}{evs:List Value}{ms:List Ms}(h:OutAt w v evs ms){g:Nat}{t:TypeId}{cs:Array Value}(hA:At w g t cs)(h1:129≠t)(h2:49≠t):¬ (some g=v.ownBlock∨∃ev∈evs,some g=ev.ownBlock):=by
 rintro(e|⟨ev,he,e⟩)
 ·exact q_apart h.own hA h1 e
 ·obtain⟨j,hj⟩:=List.getElem?_of_mem he
  have hjl:=(List.getElem?_eq_some_iff.1 hj).1
  obtain⟨m,hm⟩:∃m,ms[j]? = some m:=⟨_,List.getElem?_eq_getElem (by rw[←h.len];exact hjl)⟩
  exact q_apart (h.es j m ev hm hj) hA h2 e
theorem NetS.chg(h:NetS w Q Ks Ns ws)(hC:Chg S w w')(hS:∀k,S k→¬ Q.all Ks k):NetS w' Q Ks Ns ws :=
 ⟨h.nt.chg hC (fun hs=>hS _ hs (.inl (.inl rfl))),h.ns.chg hC (fun hs=>hS _ hs (.inl (.inr (.inl rfl)))),h.ds.chg hC (fun hs=>hS _ hs (.inl (.inr (.inr rfl)))),h.kl,
  fun i K N hK hN=>(h.nd i K N hK hN).chg hC fun k hs hk=>hS k hs (.inr (.inr ⟨K,List.mem_of_getElem? hK,hk⟩)),
  h.wy.keep hC (fun k hk hs=>hS k hs (.inr (.inl (.inl hk)))) (fun ev he k hk hs=>hS k hs (.inr (.inl (.inr ⟨ev,he,hk⟩)))),h.ap,h.wk⟩
theorem NetS.ext(h:NetS w Q Ks Ns ws)(hE:Ext w w'):NetS w' Q Ks Ns ws:=h.chg hE (fun _ h=>h.elim)
theorem ptrs_set{f:Ka→Nat}{K K':Ka}(hK:Ks[i]? = some K)(hf:f K'=f K):ptrs f (Ks.set i K')=ptrs f Ks:=by
 unfold ptrs
 congr 1
 rw[List.map_set]
 refine List.ext_getElem? fun j=>?_
 rw[List.getElem?_set]
 split
 ·rename_i e
  subst e
  rw[List.length_map]
  have hi:=(List.getElem?_eq_some_iff.1 hK).1
  rw[if_pos hi,List.getElem?_map,hK,hf];rfl
 ·rfl
theorem mem_set_of{α : Type}{l:List α}{i:Nat}{a b : α}(h:b∈l.set i a):b∈l∨b=a:=by
 rcases List.mem_or_eq_of_mem_set h with h|h
 ·exact .inl h
 ·exact .inr h
theorem get_set{α : Type}{l:List α}{i j:Nat}{a b : α}(h:(l.set i a)[j]? = some b):(j=i∧b=a)∨(j≠i∧l[j]? = some b):=by
 rw[List.getElem?_set]at h
 split at h
 ·rename_i e
  split at h
  ·injection h with h
   exact .inl ⟨e.symm,h.symm⟩
  ·cases h
 ·rename_i e
  exact .inr ⟨fun e'=>e e'.symm,h⟩
theorem NetS.nodeK(h:NetS w Q Ks Ns ws)(hK:Ks[i]? = some K){K':Ka}(r1:K'.r=K.r)(r2:K'.d=K.d)(hA:NdAt w' K' N')(hC:Chg K.has w w')(hKK:∀k,K'.has k→K.has k∨w.heap.size≤k):NetS w' Q (Ks.set i K') (Ns.set i N') ws:=by
 have hKm:=List.mem_of_getElem? hK
 refine⟨?_,?_,?_,?_,fun j K2 N2 hK2 hN2=>?_,h.wy.keep hC (fun k hk hs=>h.wk K hKm k hs (.inl hk)) (fun ev he k hk hs=>h.wk K hKm k hs (.inr ⟨ev,he,hk⟩)),fun a b Ka_ Kb_ hne ha hb k hk hk2=>?_,fun K2 hK2 k hk hw=>?_⟩
 ·rw[List.length_set]
  exact h.nt.chg hC fun hs=>h.own_nd hKm _ hs (.inl rfl)
 ·rw[ptrs_set hK r1]
  exact h.ns.chg hC fun hs=>h.own_nd hKm _ hs (.inr (.inl rfl))
 ·rw[ptrs_set hK r2]
  exact h.ds.chg hC fun hs=>h.own_nd hKm _ hs (.inr (.inr rfl))
 ·rw[List.length_set,List.length_set];exact h.kl
 ·rcases get_set hK2 with⟨rfl,rfl⟩|⟨hne,hK2'⟩
  ·rcases get_set hN2 with⟨_,rfl⟩|⟨hne,_⟩
   ·exact hA
   ·exact absurd rfl hne
  ·rcases get_set hN2 with⟨e,_⟩|⟨_,hN2'⟩
   ·exact absurd e hne
   ·exact(h.nd j K2 N2 hK2' hN2').chg hC fun k hs hk=>h.ap i j K K2 (fun e=>hne e.symm) hK hK2' k hs hk
 ·rcases get_set ha with⟨rfl,rfl⟩|⟨na,ha'⟩
  ·rcases get_set hb with⟨e,_⟩|⟨_,hb'⟩
   ·exact hne e.symm
   ·obtain⟨Nb,hNb⟩:=h.mem_nd (List.mem_of_getElem? hb')
    rcases hKK k hk with e|e
    ·exact h.ap a b K Kb_ hne hK hb' k e hk2
    ·have:=hNb.has_lt k hk2;omega
  ·obtain⟨Na_,hNa⟩:=h.mem_nd (List.mem_of_getElem? ha')
   rcases get_set hb with⟨rfl,rfl⟩|⟨_,hb'⟩
   ·rcases hKK k hk2 with e|e
    ·exact h.ap a b Ka_ K hne ha' hK k hk e
    ·have:=hNa.has_lt k hk;omega
   ·exact h.ap a b Ka_ Kb_ hne ha' hb' k hk hk2
 ·rcases mem_set_of hK2 with hm|rfl
  ·exact h.wk K2 hm k hk hw
  ·rcases hKK k hk with e|e
   ·exact h.wk K hKm k e hw
   ·have:=h.wy_lt k hw;omega
theorem NetS.node(h:NetS w Q Ks Ns ws)(hK:Ks[i]? = some K)(hT:NdTo K w w' N'):∃K',NetS w' Q (Ks.set i K') (Ns.set i N') ws∧K'.r=K.r∧Chg K.has w w'∧∀k,K'.has k→K.has k∨w.heap.size≤k:=by
 obtain⟨K',r1,r2,r3,hA,hC,hKK⟩:=hT
 exact⟨K',h.nodeK hK r1 r2 hA hC hKK,r1,hC,hKK⟩
theorem NetS.sent(h:NetS w Q Ks Ns ws){wv' ev:Value}{m:Ms}(hq:At w' Q.q 73 (netCells (.slice (some ⟨Q.nb,0,none⟩) Ks.length Ks.length) (.slice (some ⟨Q.db,0,none⟩) Ks.length Ks.length) wv'))(ho:OutAt w' wv' (Q.wes++[ev]) (ws++[m]))(hC:Chg (fun k=>k=Q.q∨some k=Q.wv.ownBlock) w w')(hb:wv'.ownBlock=Q.wv.ownBlock∨∃k,wv'.ownBlock=some k∧w.heap.size≤k)(hev:∀K∈Ks,∀k,some k=ev.ownBlock→¬ K.has k) :
 NetS w' { Q with wv:=wv',wes:=Q.wes++[ev] } Ks Ns (ws++[m]):=by
 have hn:∀ {g:Nat} {t:TypeId} {cs:Array Value},At w g t cs→73≠t→129≠t→¬ (g=Q.q∨some g=Q.wv.ownBlock):=by
  rintro g t cs hA h1 h2 (e|e)
  ·exact h.nt.ne hA h1 e.symm
  ·exact q_apart h.wy.own hA h2 e
 refine⟨hq,h.ns.chg hC (hn h.ns (by decide) (by decide)),h.ds.chg hC (hn h.ds (by decide) (by decide)),h.kl,fun j K2 N2 hK2 hN2=>(h.nd j K2 N2 hK2 hN2).chg hC ?_,ho,h.ap,fun K2 hK2 k hk hw=>?_⟩
 ·rintro k (e|e) hk
  ·exact h.own_nd (List.mem_of_getElem? hK2) k hk (.inl e)
  ·exact h.wk K2 (List.mem_of_getElem? hK2) k hk (.inl e)
 ·obtain⟨N2,hN2⟩:=h.mem_nd hK2
  rcases hw with e|⟨v,hv,e⟩
  ·have e':some k=wv'.ownBlock:=e
   rcases hb with hb|⟨k',hb,hk'⟩
   ·exact h.wk K2 hK2 k hk (.inl (e'.trans hb))
   ·rw[hb]at e'
    injection e' with e'
    have:=hN2.has_lt k hk;omega
  ·rcases List.mem_append.1 hv with hv|hv
   ·exact h.wk K2 hK2 k hk (.inr ⟨v,hv,e⟩)
   ·rw[List.mem_singleton.1 hv]at e
    exact hev K2 hK2 k e hk
theorem msRows_get:∀(ms:List Ms) (evs:List Value) (i:Nat) (m:Ms) (ev:Value),ms[i]? = some m→evs[i]? = some ev→∀j,j<10→(msRows ms evs)[i * 10+j]? = (msRow m ev)[j]?
 | [],_,_,_,_,hm,_,_,_=>by simp at hm
 | _::_,[],_,_,_,_,he,_,_=>by simp at he
 | m0::r,e0::er,0,m,ev,hm,he,j,hj=>by
  have hm':m0=m:=by simpa using hm
  have he':e0=ev:=by simpa using he
  subst hm';subst he'
  rw[Nat.zero_mul,Nat.zero_add]
  exact List.getElem?_append_left (by show j<10;exact hj)
 | m0::r,e0::er,i+1,m,ev,hm,he,j,hj=>by
  have ih:=msRows_get r er i m ev (by simpa using hm) (by simpa using he) j hj
  show(msRow m0 e0++msRows r er)[(i+1) * 10+j]? = _
  rw[List.getElem?_append_right (by show 10≤_;omega)]
  show(msRows r er)[(i+1) * 10+j - 10]? = _
  rw[show(i+1) * 10+j - 10=i * 10+j by omega]
  exact ih
theorem OutAt.row{v:Value}{evs:List Value}{ms:List Ms}(h:OutAt w v evs ms){j:Nat}{m:Ms}{ev:Value}(hm:ms[j]? = some m)(he:evs[j]? = some ev):∃g c,v=.slice (some ⟨g,0,none⟩) ms.length c∧ms.length≤c∧g<w.heap.size∧w.rangeAt g (j * 10) (msRow m ev):=by
 have hj:=(List.getElem?_eq_some_iff.1 hm).1
 obtain⟨g,c,hv,hc,hg,hf,hcell⟩:=q_some h.own (by omega)
 refine⟨g,c,hv,hc,hg,fun i u hu=>?_⟩
 have hi:i<10:=(List.getElem?_eq_some_iff.1 hu).1
 have hq:=msRows_get ms evs j m ev hm he i hi
 rw[hcell (by decide) (j * 10+i) (by omega),hq,hu]
end
section
variable{w:World}{Q:Qb}{Ks:List Ka}(hnt:At w Q.q 73 (netCells (.slice (some ⟨Q.nb,0,none⟩) Ks.length Ks.length) (.slice (some ⟨Q.db,0,none⟩) Ks.length Ks.length) Q.wv)){i:Nat}{K:Ka}(hK:Ks[i]? = some K)
include hnt hK
set_option maxRecDepth 100000 in
theorem hasT_any:Calls Tryz.prog 42 #[.pointer (some ⟨Q.q,0,none⟩),.int .i64 (i:Int)] w fun e w'=>e=.returned (.bool true)∧w'=w:=by
 have c0:=hnt.cell 0
 simp[netCells]at c0
 have hi:=(List.getElem?_eq_some_iff.1 hK).1
 have t1:decide ((0:Int)≤(i:Int))=true:=by simp
 have t2:decide ((i:Int)<(Ks.length:Int))=true:=by simp;omega
 clear hnt hK
 go_enter Tryz.func42,Tryz.ntmps42
 go_wp2_with fail
 go_ret
 exact⟨rfl,rfl⟩
set_option maxRecDepth 100000 in
theorem nodeT_any(hns:At w Q.nb 45 (ptrs Ka.r Ks)):Calls Tryz.prog 13 #[.pointer (some ⟨Q.q,0,none⟩),.int .i64 (i:Int)] w fun e w'=>e=.returned (.pointer (some ⟨K.r,0,none⟩))∧w'=w:=by
 have c0:=hnt.cell 0
 have hi:=(List.getElem?_eq_some_iff.1 hK).1
 have n0:w.cell? ⟨Q.nb,i,none⟩=some (.pointer (some ⟨K.r,0,none⟩)):=by
  rw[hns.cell i]
  unfold ptrs
  rw[List.getElem?_toArray,List.getElem?_map,hK];rfl
 simp[netCells]at c0
 have ch:=hasT_any hnt hK
 clear hnt hns hK
 go_enter Tryz.func13,Tryz.ntmps13
 go_wp2_with fail
 refine ch.mono ?_
 rintro e w1 ⟨rfl,rfl⟩
 go_wp2_with fail
 go_ret
 exact⟨rfl,rfl⟩
end
theorem nodeS_any{w:World}{Q:Qb}{Ks:List Ka}{Ns:List Nd}{ws:List Ms}(h:NetS w Q Ks Ns ws){i:Nat}{K:Ka}(hK:Ks[i]? = some K):Calls Tryz.prog 13 #[.pointer (some ⟨Q.q,0,none⟩),.int .i64 (i:Int)] w fun e w'=>e=.returned (.pointer (some ⟨K.r,0,none⟩))∧w'=w:=nodeT_any h.nt hK h.ns
end Go.Proofs.YtkkbfdencgdbhaaGreatDoor
namespace Go.Proofs.YtkkbfdencgdbhaaGreatDoor
open Go.RowKit Go.Sort
def Ka.quiet(K:Ka):Ka := { K with ov:=.slice none 0 0,evs:=[] }
theorem Ka.quiet_has{K:Ka}{k:Nat}(h:K.quiet.has k):K.has k:=by
 rcases h with e|e|e|e|e|e|e|e|⟨v,hv,e⟩
 ·exact .inl e
 ·exact .inr (.inl e)
 ·exact .inr (.inr (.inl e))
 ·exact .inr (.inr (.inr (.inl e)))
 ·exact .inr (.inr (.inr (.inr (.inl e))))
 ·exact .inr (.inr (.inr (.inr (.inr (.inl e)))))
 ·exact .inr (.inr (.inr (.inr (.inr (.inr (.inl e))))))
 ·cases e
 ·cases hv
theorem NdAt.ev_quiet{w:World}{K:Ka}{N:Nd}(h:NdAt w K N){ev:Value}(he:ev∈K.evs){k:Nat}(hk:some k=ev.ownBlock):¬ K.quiet.has k:=by
 obtain⟨j,hj⟩:=List.getElem?_of_mem he
 have hjl:=(List.getElem?_eq_some_iff.1 hj).1
 obtain⟨m,hm⟩:∃m,N.out[j]? = some m:=⟨_,List.getElem?_eq_getElem (by rw[←h.os.len];exact hjl)⟩
 have ho:=h.os.es j m ev hm hj
 rintro(e|e|e|e|e|e|e|e|⟨v,hv,_⟩)
 ·have e':k=K.r:=e
  rw[e']at hk
  exact q_apart ho h.nd (by decide) hk
 ·have e':k=K.d:=e
  rw[e']at hk
  exact q_apart ho h.dk.1 (by decide) hk
 ·have e':k=K.m:=e
  rw[e']at hk
  exact q_map ho h.dk.2 hk
 ·exact h.le ev he k hk e
 ·exact q_apart2 ho h.vs (by decide) k hk e
 ·exact q_apart2 ho h.ms (by decide) k hk e
 ·exact q_apart2 ho h.ns (by decide) k hk e
 ·cases e
 ·cases hv
structure Sent (w1 wr:World) (Q:Qb) (Ks:List Ka) (Ns:List Nd) (ws:List Ms) (i:Nat) (K:Ka) (N:Nd) (j:Nat) (wv:Value):Prop where
 net:NetS wr { Q with wv:=wv,wes:=Q.wes++K.evs.take j } (Ks.set i K.quiet) (Ns.set i { N with out:=[] }) (ws++N.out.take j)
 out:OutAt wr K.ov K.evs N.out
 ov:∀k,some k=K.ov.ownBlock→some k≠wv.ownBlock
 chg:Chg (fun k=>k=Q.q∨some k=Q.wv.ownBlock) w1 wr
 wv:∀k,some k=wv.ownBlock→some k=Q.wv.ownBlock∨w1.heap.size≤k
section
variable{w w1 wr w2:World}{Q:Qb}{Ks:List Ka}{Ns:List Nd}{ws:List Ms}{i:Nat}{K:Ka}{N:Nd}{j:Nat}{wv:Value}
theorem Sent.next(h:NetS w Q Ks Ns ws)(hK:Ks[i]? = some K)(hA:NdAt w K N)(hS:Sent w1 wr Q Ks Ns ws i K N j wv)(hE:Ext wr w2){m:Ms}{ev wv':Value}{w3:World}(hm:N.out[j]? = some m)(he:K.evs[j]? = some ev)
 (hq:At w3 Q.q 73 (netCells (.slice (some ⟨Q.nb,0,none⟩) (Ks.set i K.quiet).length (Ks.set i K.quiet).length) (.slice (some ⟨Q.db,0,none⟩) (Ks.set i K.quiet).length (Ks.set i K.quiet).length) wv')) (ho:OutAt w3 wv' ((Q.wes++K.evs.take j)++[ev]) ((ws++N.out.take j)++[m])) (hC:Chg (fun k=>k=Q.q∨some k=wv.ownBlock) w2 w3) (hb:wv'.ownBlock=wv.ownBlock∨∃k,wv'.ownBlock=some k∧w2.heap.size≤k) :
 Sent w1 w3 Q Ks Ns ws i K N (j+1) wv':=by
 have hem:=List.mem_of_getElem? he
 have hKm:=List.mem_of_getElem? hK
 have h2:=hS.net.ext hE
 have hsz:=hE.size
 have hsz1:=hS.chg.size
 have e1:Q.wes++K.evs.take (j+1)=(Q.wes++K.evs.take j)++[ev]:=by rw[List.take_add_one,he,←List.append_assoc];rfl
 have e2:ws++N.out.take (j+1)=(ws++N.out.take j)++[m]:=by rw[List.take_add_one,hm,←List.append_assoc];rfl
 have hov:∀k,some k=K.ov.ownBlock→¬ (k=Q.q∨some k=wv.ownBlock):=by
  rintro k hk (e|e)
  ·rw[e]at hk
   exact q_apart hS.out.own hS.net.nt (by decide) hk
  ·exact hS.ov k hk e
 refine⟨?_,(hS.out.keep hE (fun _ _ h=>h) (fun _ _ _ _ h=>h)).keep hC hov fun v hv k hk hs=>?_,fun k hk e=>?_,?_,fun k hk=>?_⟩
 ·rw[e1,e2]
  refine h2.sent hq ho hC hb fun K2 hK2 k hk=>?_
  rcases List.mem_or_eq_of_mem_set hK2 with hm2|rfl
  ·intro hk2
   obtain⟨b,hb2⟩:=List.getElem?_of_mem hK2
   rcases get_set hb2 with⟨rfl,e⟩|⟨hne,hb3⟩
   ·rw[e]at hk2
    exact hA.ev_quiet hem hk hk2
   ·exact h.ap i b K K2 (fun e=>hne e.symm) hK hb3 k (.inr (.inr (.inr (.inr (.inr (.inr (.inr (.inr ⟨ev,hem,hk⟩)))))))) hk2
  ·exact hA.ev_quiet hem hk
 ·obtain⟨a,ha⟩:=List.getElem?_of_mem hv
  have hal:=(List.getElem?_eq_some_iff.1 ha).1
  obtain⟨m2,hm2⟩:∃m2,N.out[a]? = some m2:=⟨_,List.getElem?_eq_getElem (by rw[←hS.out.len];exact hal)⟩
  have hoo:=hS.out.es a m2 v hm2 ha
  rcases hs with e|e
  ·rw[e]at hk
   exact q_apart hoo hS.net.nt (by decide) hk
  ·exact q_apart2 hoo hS.net.wy.own (by decide) k hk e
 ·rcases hb with hb|⟨k',hb,hk'⟩
  ·exact hS.ov k hk (e.trans hb)
  ·rw[hb]at e
   injection e with e
   have:=q_lt hS.out.own k hk
   omega
 ·exact(hS.chg.ext_trans hE).trans hC fun k hk e=>by
   rcases e with e|e
   ·exact .inl e
   ·rcases hS.wv k e with e|e
    ·exact .inr e
    ·omega
 ·rcases hb with hb|⟨k',hb,hk'⟩
  ·exact hS.wv k (hk.trans hb)
  ·rw[hb]at hk
   injection hk with hk
   exact .inr (by omega)
theorem Sent.done(h:NetS w Q Ks Ns ws)(hK:Ks[i]? = some K)(hC:Chg (fun k=>k=K.r) w w1)(hS:Sent w1 wr Q Ks Ns ws i K N N.out.length wv)(hl:K.evs.length=N.out.length):NetT Q Ks w wr (Ns.set i { N with out:=[] }) (ws++N.out):=by
 have hn:=hS.net
 have hKm:=List.mem_of_getElem? hK
 have hsz:=hC.size
 rw[List.take_length]at hn
 refine⟨{ Q with wv:=wv,wes:=Q.wes++K.evs.take N.out.length },_,rfl,hn,(hC.mono (fun k _ e=>.inr (.inr ⟨K,hKm,.inl e⟩)):Chg (Q.all Ks) w w1).trans hS.chg fun k _ e=>?_,?_⟩
 ·rcases e with e|e
  ·exact .inl (.inl e)
  ·exact .inr (.inl (.inl e))
 ·rintro k (e|(e|⟨v,hv,e⟩)|⟨K2,hK2,hk⟩)
  ·exact .inl (.inl e)
  ·rcases hS.wv k e with e|e
   ·exact .inl (.inr (.inl (.inl e)))
   ·exact .inr (by omega)
  ·rcases List.mem_append.1 hv with hv|hv
   ·exact .inl (.inr (.inl (.inr ⟨v,hv,e⟩)))
   ·exact .inl (.inr (.inr ⟨K,hKm,.inr (.inr (.inr (.inr (.inr (.inr (.inr (.inr ⟨v,List.mem_of_mem_take hv,e⟩)))))))⟩))
  ·rcases List.mem_or_eq_of_mem_set hK2 with hm|rfl
   ·exact .inl (.inr (.inr ⟨K2,hm,hk⟩))
   ·exact .inl (.inr (.inr ⟨K,hKm,Ka.quiet_has hk⟩))
variable(h:NetS w Q Ks Ns ws)(hK:Ks[i]? = some K)(hN:Ns[i]? = some N)
include h hK hN
set_option maxRecDepth 100000 in
set_option maxHeartbeats 2000000 in
theorem afterS_any(hlen:ws.length+N.out.length≤200):Calls Tryz.prog 39 #[.pointer (some ⟨Q.q,0,none⟩),.int .i64 (i:Int)] w fun e w'=>e=.returned (.tuple #[])∧NetT Q Ks w w' (Ns.set i { N with out:=[] }) (ws++N.out):=by
 have c0:=h.nt.cell 0
 have hi:=(List.getElem?_eq_some_iff.1 hK).1
 have n0:w.cell? ⟨Q.nb,i,none⟩=some (.pointer (some ⟨K.r,0,none⟩)):=by
  rw[h.ns.cell i]
  unfold ptrs
  rw[List.getElem?_toArray,List.getElem?_map,hK];rfl
 simp[netCells]at c0
 have hA:=h.nd i K N hK hN
 have ct:=take_any hA
 obtain⟨oA,oc,hov,hoc⟩:=q_slc hA.os.own
 have hel:=hA.os.len
 have HH:=Lib.hid h
 have HK:=Lib.hid hK
 have HN:=Lib.hid hN
 have HA:=Lib.hid hA
 have HOV:=Lib.hid hov
 have hli:i<Ns.length:=by rw[h.kl];exact hi
 rw[hov]at ct
 clear h hK hN hA hov
 go_enter Tryz.func39,Tryz.ntmps39
 go_wp2_with fail
 refine ct.mono ?_
 rintro e w1 ⟨rfl,hA1,hO1,hC1⟩
 clear ct
 have hA1':NdAt w1 K.quiet { N with out:=[] } := hA1
 have hN1:NetS w1 Q (Ks.set i K.quiet) (Ns.set i { N with out:=[] }) ws:=HH.out.nodeK HK.out rfl rfl hA1' (hC1.mono fun k _ e=>.inl e) fun k hk=>.inl (Ka.quiet_has hk)
 have hS0:Sent w1 w1 Q Ks Ns ws i K N 0 Q.wv:=⟨by rw[List.take_zero,List.take_zero,List.append_nil,List.append_nil];exact hN1,by rw[HOV.out];exact hO1,fun k hk e=>HH.out.wk K (List.mem_of_getElem? HK.out) k (.inr (.inr (.inr (.inr (.inr (.inr (.inr (.inl hk)))))))) (.inl e),Chg.refl _ _,fun k hk=>.inl hk⟩
 have HS0:=Lib.hid hS0
 have HC1:=Lib.hid hC1
 clear hA1 hA1' hO1 hC1 hN1 hS0 c0 n0
 go_wp2_with fail
 go_loopw [17] (fun iv wr=>∃(j:Nat) (wv:Value),j≤N.out.length∧iv=.int .i64 (j:Int)∧Sent w1 wr Q Ks Ns ws i K N j wv) (fun iv _=>N.out.length - (intOf iv).toNat)
 case atStart=>exact⟨0,Q.wv,Nat.zero_le _,rfl,HS0.out⟩
 case round =>
  obtain⟨j,wv,hj,rfl,hS⟩:=hrel
  rename World=>wr
  have HS:=Lib.hid hS
  clear hS
  by_cases hjl:j<N.out.length
  ·obtain⟨m,hm⟩:∃m,N.out[j]? = some m:=⟨_,List.getElem?_eq_getElem hjl⟩
   obtain⟨ev,he⟩:∃ev,K.evs[j]? = some ev:=⟨_,List.getElem?_eq_getElem (by omega)⟩
   obtain⟨g,c,hv,hnc,hg,hrow⟩:=HS.out.out.row hm he
   rw[HOV.out]at hv
   simp only[Value.slice.injEq]at hv
   obtain⟨rfl, -,rfl⟩:=hv
   have HROW:=Lib.hid hrow
   have HM:=Lib.hid hm
   have HEv:=Lib.hid he
   have hevo:=HS.out.out.es j m ev hm he
   have HEVO:=Lib.hid hevo
   obtain⟨eA,ec,hev,_⟩:=q_slc hevo
   clear hrow hm he hevo
   have hAz:=At.new wr 129 zMsg.toArray
   have hEz:=(Ext.refl wr).alloc (.cells zMsg.toArray 129)
   have HTH:=Lib.hid (show(wr.alloc (.cells zMsg.toArray 129)).there wr.heap.size 0 (msRow m (.slice eA m.es.length ec)).toArray.size from hAz.there)
   have hAm:=hAz.cells_all (cs:=(msRow m (.slice eA m.es.length ec)).toArray) rfl
   have hEm:Ext wr ((wr.alloc (.cells zMsg.toArray 129)).setCells wr.heap.size 0 (msRow m (.slice eA m.es.length ec)).toArray.toList):=hEz.setCells (Nat.le_refl _) _ _
   have HAM:=Lib.hid hAm
   have HEM:=Lib.hid hEm
   clear hAz hEz hAm hEm
   rw[hev]at HROW HEVO HEv
   go_upto_region 4 with(first|(refine wpList_load_mid rfl 129 _ rfl g (j * 10) (by first|rfl|(simp[Act.eval])) (msRow m (.slice eA m.es.length ec)) _ HROW.out Tryz.underlying129 rfl msg_size ?_)|(refine wpList_store_mid rfl 129 _ _ rfl wr.heap.size 0 (msRow m (.slice eA m.es.length ec)).toArray rfl rfl HTH.out msg_size (by simp[msRow,Value.oneCell']) ?_))
   rw[q_put_none]
   generalize hw2:World.setCells _ _ _ _=w2
   have hA2:At w2 wr.heap.size 129 (m.cells (.slice eA m.es.length ec)):=by rw[←hw2];exact HAM.out
   have hE2:Ext wr w2:=by rw[←hw2];exact HEM.out
   clear hw2 HAM HEM HTH HROW
   obtain⟨x,hx⟩:∃x,x=wr.heap.size:=⟨_,rfl⟩
   rw[←hx]at hA2⊢
   have hn2:=HS.out.net.ext hE2
   have cs:=qsend_any w2 Q.q _ _ wv _ _ hn2.nt hn2.wy (by simp only[List.length_append,List.length_take];omega) m (.slice eA m.es.length ec) (own_ext HEVO.out hE2)
   have HRG:=Lib.hid hA2.range
   have HE2:=Lib.hid hE2
   have HCS:=Lib.hid cs
   generalize Value.agg (msRow m (.slice eA m.es.length ec)).toArray=av
   clear hA2 hE2 hn2 cs hx hev
   go_wp2_with (refine wpList_load_mid rfl 129 _ rfl x 0 rfl (m.cells (.slice eA m.es.length ec)).toList _ HRG.out Tryz.underlying129 rfl msg_size ?_)
   refine HCS.out.mono ?_
   rintro e w3 ⟨rfl,wv',hq3,ho3,hC3,hb3⟩
   have HNX:=Lib.hid (Sent.next HH.out HK.out HA.out HS.out HE2.out HM.out HEv.out hq3 ho3 hC3 hb3)
   clear hq3 ho3 hC3 hb3
   go_wp2_with fail
   go_roundw
   case rel=>exact⟨j+1,wv',by omega,by go_num,HNX.out⟩
   case measure=>simp[intOf];omega
  ·have hje:j=N.out.length:=by omega
   have hS:=HS.out
   rw[hje]at hS
   have hT:=Sent.done HH.out HK.out HC1.out hS hel
   have hi2:(Ks.set i K.quiet)[i]? = some K.quiet:=by simp[hi]
   have hi3:(Ns.set i { N with out:=[] })[i]? = some { N with out:=[] } := by simp[hli]
   have cb:=broken_any (hS.net.nd i _ _ hi2 hi3)
   rw[show K.quiet.r=K.r from rfl]at cb
   have HT:=Lib.hid hT
   clear hje hS hT hi2 hi3
   go_wp2_with fail
   refine cb.mono ?_
   rintro e w9 ⟨rfl,rfl⟩
   go_wp2_with fail
   first|go_end0|refine bodyPost_ret (results_none rfl _ _ _) rfl ?_
   exact⟨rfl,HT.out⟩
end
end Go.Proofs.YtkkbfdencgdbhaaGreatDoor
namespace Go.Proofs.YtkkbfdencgdbhaaGreatDoor
open Go.RowKit Go.Sort
section
variable{w w1 w' w'':World}{Q:Qb}{Ks:List Ka}{Ns Ns':List Nd}{ws ws':List Ms}{m:Ms}{ev:Value}{er:List Value}
theorem NetS.dropped(h:NetS w Q Ks Ns (m::ws))(hes:Q.wes=ev::er){wv':Value}(hq:At w' Q.q 73 (netCells (.slice (some ⟨Q.nb,0,none⟩) Ks.length Ks.length) (.slice (some ⟨Q.db,0,none⟩) Ks.length Ks.length) wv'))(ho:OutAt w' wv' er ws)(hC:Chg (fun k=>k=Q.q∨some k=Q.wv.ownBlock) w w')(hb:wv'.ownBlock=Q.wv.ownBlock):NetS w' { Q with wv:=wv',wes:=er } Ks Ns ws:=by
 have hn:∀ {g:Nat} {t:TypeId} {cs:Array Value},At w g t cs→73≠t→129≠t→¬ (g=Q.q∨some g=Q.wv.ownBlock):=by
  rintro g t cs hA h1 h2 (e|e)
  ·exact h.nt.ne hA h1 e.symm
  ·exact q_apart h.wy.own hA h2 e
 refine⟨hq,h.ns.chg hC (hn h.ns (by decide) (by decide)),h.ds.chg hC (hn h.ds (by decide) (by decide)),h.kl,fun j K2 N2 hK2 hN2=>(h.nd j K2 N2 hK2 hN2).chg hC ?_,ho,h.ap,fun K2 hK2 k hk hw=>h.wk K2 hK2 k hk ?_⟩
 ·rintro k (e|e) hk
  ·exact h.own_nd (List.mem_of_getElem? hK2) k hk (.inl e)
  ·exact h.wk K2 (List.mem_of_getElem? hK2) k hk (.inl e)
 ·rcases hw with e|⟨v,hv,e⟩
  ·exact .inl ((show some k=wv'.ownBlock from e).trans hb)
  ·exact .inr ⟨v,by rw[hes];exact List.mem_cons_of_mem _ hv,e⟩
set_option maxRecDepth 100000 in
theorem dropS_any(h:NetS w Q Ks Ns (m::ws))(hes:Q.wes=ev::er)(hlen:ws.length<1000):Calls Tryz.prog 66 #[.pointer (some ⟨Q.q,0,none⟩),.int .i64 0] w fun e w'=>e=.returned (.tuple #[])∧∃wv',NetS w' { Q with wv:=wv',wes:=er } Ks Ns ws∧Chg (fun k=>k=Q.q∨some k=Q.wv.ownBlock) w w'∧wv'.ownBlock=Q.wv.ownBlock:=by
 have hw:=h.wy
 rw[hes]at hw
 have cd:=qdel_any w Q.wv ev er m ws hw
 have c2:=h.nt.cell 2
 obtain⟨A,c,hv,hc⟩:=q_slc hw.own
 simp[netCells,hv]at c2
 rw[hv]at cd
 have HH:=Lib.hid h
 have HES:=Lib.hid hes
 have HV:=Lib.hid hv
 clear h hes hw hv
 go_enter Tryz.func66,Tryz.ntmps66
 go_wp2_with fail
 refine cd.mono ?_
 rintro e w1 ⟨v',rfl,hO,hb,hC⟩
 clear cd
 have hn:=HH.out
 have hne:∀k,some k=(Value.slice A (ws.length+1) c).ownBlock→k≠Q.q:=fun k hk e=>by
  rw[e]at hk
  exact q_apart hn.wy.own hn.nt (by decide) (by rw[HV.out];exact hk)
 have hq1:=hn.nt.chg hC (fun hk=>hne _ hk rfl)
 have d2:=hq1.cell 2
 have f2:=hq1.frozen 2
 have hql:=hq1.lt
 simp[netCells,HV.out]at d2
 obtain⟨vA,vc,rfl,hvc⟩:=q_slc hO.own
 have hq2:=hq1.set 2 (.slice vA ws.length vc)
 have hC2:Chg (fun k=>k=Q.q) w1 (w1.setCell ⟨Q.q,2,none⟩ (.slice vA ws.length vc)):=(Chg.refl (fun k=>k=Q.q) w1).setCell (p:=⟨Q.q,2,none⟩) (.inl rfl) _
 have hO2:=hO.keep hC2 (fun k hk hs=>by
  have hs':k=Q.q:=hs
  rw[hs']at hk
  exact q_apart hO.own hq1 (by decide) hk) (fun e he k hk hs=>by
  have hs':k=Q.q:=hs
  rw[hs']at hk
  exact hO.not_at hq1 (by decide) (by decide) (.inr ⟨e,he,hk⟩))
 have hC3:Chg (fun k=>k=Q.q∨some k=Q.wv.ownBlock) w (w1.setCell ⟨Q.q,2,none⟩ (.slice vA ws.length vc)):=(hC.mono (fun k _ e=>.inr (by rw[HV.out];exact e))).trans hC2 fun k _ e=>.inl e
 have HR:=Lib.hid (show NetS _ { Q with wv:=.slice vA ws.length vc,wes:=er } Ks Ns ws∧_∧_ from⟨hn.dropped HES.out hq2 hO2 hC3 (by rw[HV.out];exact hb),hC3,(by rw[HV.out];exact hb:(Value.slice vA ws.length vc).ownBlock=Q.wv.ownBlock)⟩)
 clear hn hne hq1 hq2 hC2 hO2 hC3 hO hC hb
 go_wp2_with fail
 first|go_end0|refine bodyPost_ret (results_none rfl _ _ _) rfl ?_
 exact⟨rfl,_,HR.out⟩
theorem NetT.trans{Q1:Qb}{Ks1:List Ka}(hq:Q1.q=Q.q)(hC:Chg (Q.all Ks) w w1)(hA:∀k,Q1.all Ks1 k→Q.all Ks k∨w.heap.size≤k)(h:NetT Q1 Ks1 w1 w' Ns' ws'):NetT Q Ks w w' Ns' ws':=by
 obtain⟨Q',Ks',e,hN,hC',hA'⟩:=h
 refine⟨Q',Ks',e.trans hq,hN,hC.trans hC' fun k hk hs=>?_,fun k hk=>?_⟩
 ·rcases hA k hs with h|h
  ·exact h
  ·omega
 ·rcases hA' k hk with h|h
  ·exact hA k h
  ·exact .inr (Nat.le_trans hC.size h)
theorem NetT.of(h:NetS w' Q Ks Ns' ws')(hC:Chg (Q.all Ks) w w'):NetT Q Ks w w' Ns' ws':=⟨Q,Ks,rfl,h,hC,fun _ h=>.inl h⟩
theorem NetS.node_all(h:NetS w Q Ks Ns ws){i:Nat}{K K':Ka}(hK:Ks[i]? = some K)(hKK:∀k,K'.has k→K.has k∨w.heap.size≤k):∀k,Q.all (Ks.set i K') k→Q.all Ks k∨w.heap.size≤k:=by
 rintro k (e|e|⟨K2,hK2,hk⟩)
 ·exact .inl (.inl e)
 ·exact .inl (.inr (.inl e))
 ·rcases List.mem_or_eq_of_mem_set hK2 with hm|rfl
  ·exact .inl (.inr (.inr ⟨K2,hm,hk⟩))
  ·rcases hKK k hk with e|e
   ·exact .inl (.inr (.inr ⟨K,List.mem_of_getElem? hK,e⟩))
   ·exact .inr e
end
section
variable{E:List En}(hE:EOk E){w:World}{Q:Qb}{Ks:List Ka}{x x':Qn}
def Qn.ns(E:List En)(x:Qn):List Nd:=x.nodes.map (Na.nd E)
def Qn.ws(E:List En)(x:Qn):List Ms:=x.way.map (Ma.ms E)
def Qn.good(x:Qn):Prop:=(∀a∈x.nodes,a.good=true)∧x.way.length≤200
omit hE in
theorem sent_nd(a:Na):a.sent.nd E = { a.nd E with out:=[] } := rfl
omit hE in
theorem after_eq{x x':Qn}{i:Nat}{a:Na}(h:x.after i a=some x'):x.way.length+a.out.length≤200∧x'=⟨x.nodes.set i a.sent,x.way++a.out⟩:=by
 unfold Qn.after at h
 cases hb:Nat.ble (x.way.length+a.out.length) 200 with
 | false=>rw[hb]at h;cases h
 | true =>
  rw[hb]at h
  exact⟨Nat.le_of_ble_eq_true hb,(Option.some.inj h).symm⟩
omit hE in
theorem sent_good{a:Na}(h:a.good=true):a.sent.good=true:=by
 unfold Na.good at h⊢
 simp only[Bool.and_eq_true]at h⊢
 exact⟨h.1,by show Nat.ble 0 50=true;rfl⟩
omit hE in
theorem after_good(hg:x.good){i:Nat}{a:Na}(ha:a.good=true)(h:x.after i a=some x'):x'.good:=by
 obtain⟨h1,rfl⟩:=after_eq h
 refine⟨fun b hb=>?_,by show(x.way++a.out).length≤200;rw[List.length_append];exact h1⟩
 rcases List.mem_or_eq_of_mem_set hb with h|h
 ·exact hg.1 b h
 ·rw[h];exact sent_good ha
include hE
set_option maxRecDepth 100000 in
set_option maxHeartbeats 2000000 in
theorem tickS_any(h:NetS w Q Ks (x.ns E) (x.ws E))(hg:x.good){i:Nat}(hd:x.tick i=some x')(hT:Tab w)(hTn:¬ Q.all Ks 0) :
 Calls Tryz.prog 28 #[.pointer (some ⟨Q.q,0,none⟩),.int .i64 (i:Int)] w fun e w'=>e=.returned (.tuple #[])∧NetT Q Ks w w' (x'.ns E) (x'.ws E)∧x'.good:=by
 unfold Qn.tick at hd
 cases hn:x.nodes[i]? with
 | none=>rw[hn]at hd;cases hd
 | some a =>
  rw[hn]at hd
  simp only at hd
  cases hs:a.tick with
  | none=>rw[hs]at hd;cases hd
  | some a' =>
   rw[hs]at hd
   simp only at hd
   obtain⟨hl,rfl⟩:=after_eq hd
   have hga':=tick_good hs
   have hgx:=after_good hg hga' hd
   have hi:i<Ks.length:=by
    rw[←h.kl]
    show i<(x.nodes.map _).length
    rw[List.length_map]
    exact(List.getElem?_eq_some_iff.1 hn).1
   obtain⟨K,hK⟩:∃K,Ks[i]? = some K:=⟨_,List.getElem?_eq_getElem hi⟩
   have hN:(x.ns E)[i]? = some (a.nd E):=by unfold Qn.ns;rw[List.getElem?_map,hn];rfl
   have hA:=h.nd i K _ hK hN
   have hTK:¬ K.has 0:=fun hk=>hTn (.inr (.inr ⟨K,List.mem_of_getElem? hK,hk⟩))
   have cn:=nodeS_any h hK
   have ct:=ntick_any hE hA (hg.1 a (List.mem_of_getElem? hn)) hs hT hTK
   have HF:=Lib.hid (fun(w2:World) (hT2:NdTo K w w2 (a'.nd E))=>h.node hK hT2)
   have HAL:=Lib.hid (fun(K':Ka) hh=>h.node_all (K':=K') hK hh)
   have HK:=Lib.hid hK
   have HL:=Lib.hid hl
   have HGX:=Lib.hid hgx
   clear hd hg hgx hga' hn hs hl hN hA hTK hT hTn hK h
   go_enter Tryz.func28,Tryz.ntmps28
   go_wp2_with fail
   refine cn.mono ?_
   rintro e w1 ⟨rfl,rfl⟩
   clear cn
   go_wp2_with fail
   refine ct.mono ?_
   rintro e w2 ⟨rfl,hT2⟩
   clear ct
   obtain⟨K',hN2,r1,hC2,hKK⟩:=HF.out w2 hT2
   have hlk:i<Ks.length:=hi
   have hK2:(Ks.set i K')[i]? = some K':=by simp[hlk]
   have hN3:((x.ns E).set i (a'.nd E))[i]? = some (a'.nd E):=by
    have:i<(x.ns E).length:=by
     have:=hN2.kl
     rw[List.length_set,List.length_set]at this
     omega
    simp[this]
   have ca:=afterS_any hN2 hK2 hN3 (by
    have:=HL.out
    show(x.way.map _).length+(a'.out.map _).length≤200
    rw[List.length_map,List.length_map]
    exact this)
   rw[List.set_set]at ca
   have HCA:=Lib.hid ca
   have HR:=Lib.hid (fun(w3:World) hT3=>NetT.trans (Q1:=Q) (Ks1:=Ks.set i K') (Ns':=(x.ns E).set i { a'.nd E with out:=[] }) (ws':=x.ws E++(a'.nd E).out) (w':=w3) rfl (hC2.mono fun k _ e=>.inr (.inr ⟨K,List.mem_of_getElem? HK.out,e⟩)) (HAL.out K' hKK) hT3)
   clear hT2 hN2 hC2 hKK hK2 hN3 ca
   go_wp2_with fail
   refine HCA.out.mono ?_
   rintro e w3 ⟨rfl,hT3⟩
   have HRR:=Lib.hid (HR.out w3 hT3)
   clear hT3
   go_wp2_with fail
   first|go_end0|refine bodyPost_ret (results_none rfl _ _ _) rfl ?_
   refine⟨rfl,?_,HGX.out⟩
   have e1:(Qn.mk (x.nodes.set i a'.sent) (x.way++a'.out)).ns E=(x.ns E).set i { a'.nd E with out:=[] } := by unfold Qn.ns;rw[List.map_set,sent_nd]
   have e2:(Qn.mk (x.nodes.set i a'.sent) (x.way++a'.out)).ws E=x.ws E++(a'.nd E).out:=by unfold Qn.ws;rw[List.map_append];rfl
   rw[e1,e2]
   exact HRR.out
end
end Go.Proofs.YtkkbfdencgdbhaaGreatDoor
namespace Go.Proofs.YtkkbfdencgdbhaaGreatDoor
open Go.RowKit Go.Sort
section
variable{E:List En}(hE:EOk E){w:World}{Q:Qb}{Ks:List Ka}{x x':Qn}
include hE
set_option maxRecDepth 100000 in
set_option maxHeartbeats 4000000 in
theorem deliverS_any(h:NetS w Q Ks (x.ns E) (x.ws E))(hg:x.good)(hd:x.deliver=some x')(hT:Tab w)(hTn:¬ Q.all Ks 0) :
 Calls Tryz.prog 27 #[.pointer (some ⟨Q.q,0,none⟩),.int .i64 0] w fun e w'=>e=.returned (.tuple #[])∧NetT Q Ks w w' (x'.ns E) (x'.ws E)∧x'.good:=by
 obtain⟨ns,way⟩:=x
 unfold Qn.deliver at hd
 cases way with
 | nil=>cases hd
 | cons m r =>
  simp only at hd
  cases hn:ns[m.dst]? with
  | none=>rw[hn]at hd;cases hd
  | some a =>
   rw[hn]at hd
   simp only at hd
   cases hs:a.step m with
   | none=>rw[hs]at hd;cases hd
   | some a' =>
    rw[hs]at hd
    simp only at hd
    obtain⟨hl,rfl⟩:=after_eq hd
    have hga:=hg.1 a (List.mem_of_getElem? hn)
    have hga':=(step_arm hE hga hs).2.2
    have hg0:Qn.good ⟨ns,r⟩:=⟨hg.1,by have:=hg.2;simp only[List.length_cons]at this⊢;omega⟩
    have hgx:=after_good hg0 hga' hd
    have hrl:r.length<200:=by have:=hg.2;simp only[List.length_cons]at this;omega
    have hi:m.dst<Ks.length:=by
     rw[←h.kl]
     show m.dst<(ns.map _).length
     rw[List.length_map]
     exact(List.getElem?_eq_some_iff.1 hn).1
    obtain⟨K,hK⟩:∃K,Ks[m.dst]? = some K:=⟨_,List.getElem?_eq_getElem hi⟩
    have hws:Qn.ws E ⟨ns,m::r⟩=m.ms E::r.map (Ma.ms E):=rfl
    obtain⟨ev,er,hes⟩:∃ev er,Q.wes=ev::er:=by
     have:=h.wy.len
     rw[hws]at this
     cases hq:Q.wes with
     | nil=>rw[hq]at this;cases this
     | cons a b=>exact⟨a,b,rfl⟩
    have h0:NetS w Q Ks (ns.map (Na.nd E)) (m.ms E::r.map (Ma.ms E)):=h
    obtain⟨g,c,hv,hnc,hgl,hrow⟩:=h0.wy.row (j:=0) rfl (by rw[hes];rfl)
    rw[Nat.zero_mul]at hrow
    have hevo:=h0.wy.es 0 (m.ms E) ev rfl (by rw[hes];rfl)
    obtain⟨eA,ec,hev,_⟩:=q_slc hevo
    have hlen:(m.ms E::r.map (Ma.ms E)).length=r.length+1:=by simp
    rw[hlen]at hv hnc
    have c2:=h0.nt.cell 2
    simp[netCells,hv]at c2
    rw[hev]at hes hrow hevo
    have HH:=Lib.hid h0
    have HES:=Lib.hid hes
    have HROW:=Lib.hid hrow
    have HEVO:=Lib.hid hevo
    have HK:=Lib.hid hK
    have HN:=Lib.hid hn
    have HS:=Lib.hid hs
    have HL:=Lib.hid hl
    have HG:=Lib.hid hga
    have HGX:=Lib.hid hgx
    have HT:=Lib.hid hT
    have HTN:=Lib.hid hTn
    have t1:((r.length:Int)+1≤0)=False:=by simp <;> omega
    clear hd hg h h0 hws hes hv hrow hevo hev hK hn hs hl hga hga' hg0 hgx hT hTn hlen
    have hAz:=At.new w 129 zMsg.toArray
    have hEz:=(Ext.refl w).alloc (.cells zMsg.toArray 129)
    have HTH:=Lib.hid (show(w.alloc (.cells zMsg.toArray 129)).there w.heap.size 0 (msRow (m.ms E) (.slice eA (m.ms E).es.length ec)).toArray.size from hAz.there)
    have HAM:=Lib.hid (hAz.cells_all (cs:=(msRow (m.ms E) (.slice eA (m.ms E).es.length ec)).toArray) rfl)
    have HEM:=Lib.hid (show Ext w ((w.alloc (.cells zMsg.toArray 129)).setCells w.heap.size 0 (msRow (m.ms E) (.slice eA (m.ms E).es.length ec)).toArray.toList)from hEz.setCells (Nat.le_refl _) _ _)
    clear hAz hEz
    go_enter Tryz.func27,Tryz.ntmps27
    go_upto_region 2 with(first|(refine wpList_load_mid rfl 129 _ rfl g 0 (by first|rfl|(simp[Act.eval])) (msRow (m.ms E) (.slice eA (m.ms E).es.length ec)) _ HROW.out Tryz.underlying129 rfl msg_size ?_)|(refine wpList_store_mid rfl 129 _ _ rfl w.heap.size 0 (msRow (m.ms E) (.slice eA (m.ms E).es.length ec)).toArray rfl rfl HTH.out msg_size (by simp[msRow,Value.oneCell']) ?_))
    rw[q_put_none]
    generalize hw2:World.setCells _ _ _ _=w2
    have hX2:At w2 w.heap.size 129 ((m.ms E).cells (.slice eA (m.ms E).es.length ec)):=by rw[←hw2];exact HAM.out
    have hE2:Ext w w2:=by rw[←hw2];exact HEM.out
    clear hw2 HAM HEM HTH HROW t1
    have h2:=HH.out.ext hE2
    have hT2:=HT.out.ext hE2
    have hO2:=own_ext HEVO.out hE2
    have hxq:∀k,Q.all Ks k→k≠w.heap.size:=fun k hk e=>by have:=HH.out.all_lt k hk;omega
    obtain⟨y,hy⟩:∃y,y=w.heap.size:=⟨_,rfl⟩
    rw[←hy]at hX2 hxq⊢
    have cd:=dropS_any h2 HES.out (by rw[List.length_map];omega)
    have hevK:∀K2∈Ks,∀k,some k=(Value.slice eA (m.ms E).es.length ec).ownBlock→¬ K2.has k:=fun K2 hK2 k hk hk2=>h2.wk K2 hK2 k hk2 (.inr ⟨_,by rw[HES.out];exact List.mem_cons_self ..,hk⟩)
    have hevq:∀k,some k=(Value.slice eA (m.ms E).es.length ec).ownBlock→¬ (k=Q.q∨some k=Q.wv.ownBlock):=by
     rintro k hk (e|e)
     ·rw[e]at hk;exact q_apart hO2 h2.nt (by decide) hk
     ·exact q_apart2 hO2 h2.wy.own (by decide) k hk e
    have HX2:=Lib.hid hX2
    have HE2:=Lib.hid hE2
    have HT2:=Lib.hid hT2
    have HO2:=Lib.hid hO2
    have HXQ:=Lib.hid hxq
    have HEVK:=Lib.hid hevK
    have HEVQ:=Lib.hid hevq
    generalize Value.agg (msRow (m.ms E) (.slice eA (m.ms E).es.length ec)).toArray=av
    clear hX2 hE2 h2 hT2 hO2 hxq hevK hevq hy c2
    go_wp2_with fail
    refine cd.mono ?_
    rintro e w3 ⟨rfl,wv',h3,hC3,hb3⟩
    clear cd
    have hX3:=HX2.out.chg hC3 (by
     rintro(e|e)
     ·exact HXQ.out _ (.inl (.inl rfl)) e.symm
     ·exact HXQ.out y (.inr (.inl (.inl e))) rfl)
    have hO3:=q_keep HO2.out hC3 HEVQ.out
    have hT3:=HT2.out.chg hC3 (by
     rintro(e|e)
     ·exact HTN.out (.inl (.inl e))
     ·exact HTN.out (.inr (.inl (.inl e))))
    have hN3:(ns.map (Na.nd E))[m.dst]? = some (a.nd E):=by rw[List.getElem?_map,HN.out];rfl
    have hA3:=h3.nd m.dst K _ HK.out hN3
    have hKm:=List.mem_of_getElem? HK.out
    have hTK:¬ K.has 0:=fun hk=>HTN.out (.inr (.inr ⟨K,hKm,hk⟩))
    have cn:=nodeS_any h3 HK.out
    rw[show({ Q with wv:=wv',wes:=er } : Qb).q=Q.q from rfl]at cn
    have cs:=nstep_any hE hA3 HG.out m HS.out eA _ ec rfl hO3 (HEVK.out K hKm) hT3 hTK
    have x2:=hX3.cell 2
    simp[Ms.cells]at x2
    rw[show(m.ms E).dst=(m.dst:Int)from rfl]at x2
    have HX3:=Lib.hid hX3
    have HF:=Lib.hid (fun(w4:World) (hT4:NdTo K w3 w4 (a'.nd E))=>h3.node HK.out hT4)
    have HAL:=Lib.hid (fun(K':Ka) hh=>h3.node_all (K':=K') HK.out hh)
    have hC03:Chg (Q.all Ks) w w3:=HE2.out.chg_trans (hC3.mono fun k _ e=>by
     rcases e with e|e
     ·exact .inl (.inl e)
     ·exact .inr (.inl (.inl e)))
    have hall:∀k,({ Q with wv:=wv',wes:=er } : Qb).all Ks k→Q.all Ks k∨w.heap.size≤k:=by
     rintro k (e|(e|⟨v,hv,e⟩)|e)
     ·exact .inl (.inl e)
     ·exact .inl (.inr (.inl (.inl ((show some k=wv'.ownBlock from e).trans hb3))))
     ·exact .inl (.inr (.inl (.inr ⟨v,by rw[HES.out];exact List.mem_cons_of_mem _ hv,e⟩)))
     ·exact .inl (.inr (.inr e))
    have HT03:=Lib.hid (fun(w9:World) (Ns':List Nd) (ws':List Ms) (hT9:NetT { Q with wv:=wv',wes:=er } Ks w3 w9 Ns' ws')=>NetT.trans (Q:=Q) (Ks:=Ks) (Q1 := { Q with wv:=wv',wes:=er }) (Ks1:=Ks) rfl hC03 hall hT9)
    have hyK:∀k,K.has k→k≠y:=fun k hk=>HXQ.out k (.inr (.inr ⟨K,hKm,hk⟩))
    have HYK:=Lib.hid hyK
    have HC3:=Lib.hid hC3
    clear hX3 hO3 hT3 hN3 hA3 hTK hC03 hall hyK hC3 hb3 h3
    go_wp2_with fail
    refine cn.mono ?_
    rintro e w4 ⟨rfl,rfl⟩
    clear cn
    go_wp2_with (refine wpList_load_mid rfl 129 _ rfl y 0 rfl ((m.ms E).cells (.slice eA (m.ms E).es.length ec)).toList _ HX3.out.range Tryz.underlying129 rfl msg_size ?_)
    refine cs.mono ?_
    rintro e w5 ⟨rfl,hT5⟩
    clear cs
    obtain⟨K',hN5,r1,hC5,hKK⟩:=HF.out w5 hT5
    have hX5:=HX3.out.chg hC5 (fun hk=>HYK.out y hk rfl)
    have x2':=hX5.cell 2
    simp[Ms.cells]at x2'
    rw[show(m.ms E).dst=(m.dst:Int)from rfl]at x2'
    have hK2:(Ks.set m.dst K')[m.dst]? = some K':=by simp[hi]
    have hN3:((ns.map (Na.nd E)).set m.dst (a'.nd E))[m.dst]? = some (a'.nd E):=by
     have:m.dst<(ns.map (Na.nd E)).length:=by
      have:=hN5.kl
      rw[List.length_set,List.length_set]at this
      omega
     exact List.getElem?_set_self this
    have ca:=afterS_any hN5 hK2 hN3 (by
     have:=HL.out
     show(r.map _).length+(a'.out.map _).length≤200
     rw[List.length_map,List.length_map]
     exact this)
    rw[List.set_set,show({ Q with wv:=wv',wes:=er } : Qb).q=Q.q from rfl]at ca
    have HCA:=Lib.hid ca
    have HR:=Lib.hid (fun(w9:World) hT9=>HT03.out w9 _ _ (NetT.trans (Q1 := { Q with wv:=wv',wes:=er }) (Ks1:=Ks.set m.dst K') (Ns':=(ns.map (Na.nd E)).set m.dst { a'.nd E with out:=[] }) (ws':=r.map (Ma.ms E)++(a'.nd E).out) (w':=w9) rfl (hC5.mono fun k _ e=>.inr (.inr ⟨K,hKm,e⟩)) (HAL.out K' hKK) hT9))
    clear hT5 hN5 hC5 hKK hK2 hN3 ca hX5 x2
    go_wp2_with fail
    refine HCA.out.mono ?_
    rintro e w9 ⟨rfl,hT9⟩
    have HRR:=Lib.hid (HR.out w9 hT9)
    clear hT9
    go_wp2_with fail
    first|go_end0|refine bodyPost_ret (results_none rfl _ _ _) rfl ?_
    refine⟨rfl,?_,HGX.out⟩
    have e1:(Qn.mk (ns.set m.dst a'.sent) (r++a'.out)).ns E=(ns.map (Na.nd E)).set m.dst { a'.nd E with out:=[] } := by unfold Qn.ns;rw[List.map_set,sent_nd]
    have e2:(Qn.mk (ns.set m.dst a'.sent) (r++a'.out)).ws E=r.map (Ma.ms E)++(a'.nd E).out:=by unfold Qn.ws;rw[List.map_append];rfl
    rw[e1,e2]
    exact HRR.out
end
end Go.Proofs.YtkkbfdencgdbhaaGreatDoor
namespace Go.Proofs.YtkkbfdencgdbhaaGreatDoor
open Go.RowKit Go.Sort
section
variable{E:List En}{w w':World}{Q:Qb}{Ks:List Ka}{x x':Qn}
structure NetA (E:List En) (Q:Qb) (Ks:List Ka) (w w':World) (n:Nat) (x:Qn):Prop where
 tt:NetT Q Ks w w' (x.ns E) (x.ws E)
 good:x.good
 n:x.nodes.length=n
theorem after_n{i:Nat}{a:Na}(h:x.after i a=some x'):x'.nodes.length=x.nodes.length:=by
 obtain⟨_,rfl⟩:=after_eq h
 show(x.nodes.set _ _).length=_
 rw[List.length_set]
theorem deliver_n(h:x.deliver=some x'):x'.nodes.length=x.nodes.length:=by
 obtain⟨ns,way⟩:=x
 unfold Qn.deliver at h
 cases way with
 | nil=>cases h
 | cons m r =>
  simp only at h
  cases hn:ns[m.dst]? with
  | none=>rw[hn]at h;cases h
  | some a =>
   rw[hn]at h
   simp only at h
   cases hs:a.step m with
   | none=>rw[hs]at h;cases h
   | some a'=>rw[hs]at h;exact after_n (x:=⟨ns,r⟩) h
theorem tick_n{i:Nat}(h:x.tick i=some x'):x'.nodes.length=x.nodes.length:=by
 unfold Qn.tick at h
 cases hn:x.nodes[i]? with
 | none=>rw[hn]at h;cases h
 | some a =>
  rw[hn]at h
  simp only at h
  cases hs:a.tick with
  | none=>rw[hs]at h;cases h
  | some a'=>rw[hs]at h;exact after_n h
theorem NetA.refl(h:NetS w Q Ks (x.ns E) (x.ws E))(hg:x.good):NetA E Q Ks w w x.nodes.length x:=⟨NetT.of h (Chg.refl _ _),hg,rfl⟩
variable(hE:EOk E){n:Nat}
include hE
theorem NetA.deliver(h:NetA E Q Ks w w' n x)(hd:x.deliver=some x')(hT:Tab w)(hTn:¬ Q.all Ks 0) :
 Calls Tryz.prog 27 #[.pointer (some ⟨Q.q,0,none⟩),.int .i64 0] w' fun e w2=>e=.returned (.tuple #[])∧NetA E Q Ks w w2 n x':=by
 obtain⟨Q',Ks',eq,hN,hC,hA⟩:=h.tt
 have hlt:=hT.lt
 have:=deliverS_any hE hN h.good hd (hT.chg hC hTn) (fun hk=>by
  rcases hA _ hk with e|e
  ·exact hTn e
  ·omega)
 rw[eq]at this
 refine this.mono ?_
 rintro e w2 ⟨rfl,hT2,hg2⟩
 exact⟨rfl,NetT.trans eq hC hA hT2,hg2,(deliver_n hd).trans h.n⟩
theorem NetA.tick(h:NetA E Q Ks w w' n x){i:Nat}(hd:x.tick i=some x')(hT:Tab w)(hTn:¬ Q.all Ks 0) :
 Calls Tryz.prog 28 #[.pointer (some ⟨Q.q,0,none⟩),.int .i64 (i:Int)] w' fun e w2=>e=.returned (.tuple #[])∧NetA E Q Ks w w2 n x':=by
 obtain⟨Q',Ks',eq,hN,hC,hA⟩:=h.tt
 have hlt:=hT.lt
 have:=tickS_any hE hN h.good hd (hT.chg hC hTn) (fun hk=>by
  rcases hA _ hk with e|e
  ·exact hTn e
  ·omega)
 rw[eq]at this
 refine this.mono ?_
 rintro e w2 ⟨rfl,hT2,hg2⟩
 exact⟨rfl,NetT.trans eq hC hA hT2,hg2,(tick_n hd).trans h.n⟩
set_option maxRecDepth 100000 in
set_option maxHeartbeats 2000000 in
theorem roundA_any(h:NetS w Q Ks (x.ns E) (x.ws E))(hg:x.good)(hn:x.nodes.length=n)(hn5:n≤5)(hd:Qn.round n x=some x')(hT:Tab w)(hTn:¬ Q.all Ks 0) :
 Calls Tryz.prog 7 #[.pointer (some ⟨Q.q,0,none⟩)] w fun e w2=>e=.returned (.tuple #[])∧NetA E Q Ks w w2 n x':=by
 unfold Qn.round at hd
 cases hd1:Qn.delivers x.way.length x with
 | none=>rw[hd1]at hd;cases hd
 | some x1 =>
  rw[hd1]at hd
  simp only at hd
  have hwl:=hg.2
  have c2:=h.nt.cell 2
  obtain⟨A,c,hv,hc⟩:=q_slc h.wy.own
  have hwsl:(x.ws E).length=x.way.length:=by unfold Qn.ws;rw[List.length_map]
  rw[hwsl]at hv hc
  simp[netCells,hv]at c2
  have h0:NetA E Q Ks w w n x:=by rw[←hn];exact NetA.refl h hg
  have HD:=Lib.hid (fun(w':World) (x x':Qn) (h:NetA E Q Ks w w' n x) hd=>h.deliver hE (x':=x') hd hT hTn)
  have HTK:=Lib.hid (fun(w':World) (x x':Qn) (i:Nat) (h:NetA E Q Ks w w' n x) (hd:x.tick i=some x')=>h.tick hE hd hT hTn)
  have H0:=Lib.hid h0
  have HD1:=Lib.hid hd1
  have HD2:=Lib.hid hd
  clear h hg hn hd1 hd hv hwsl h0 hT hTn
  go_enter Tryz.func7,Tryz.ntmps7
  go_wp2_with fail
  go_loopw [8] (fun iv wr=>∃(j:Nat) (y:Qn),iv=.int .i64 (j:Int)∧j≤x.way.length∧NetA E Q Ks w wr n y∧Qn.delivers (x.way.length - j) y=some x1) (fun iv _=>x.way.length - (intOf iv).toNat)
  case atStart=>exact⟨0,x,rfl,Nat.zero_le _,H0.out,HD1.out⟩
  case round =>
   obtain⟨j,y,rfl,hj,hN,hds⟩:=hrel
   rename World=>wr
   by_cases hjl:j<x.way.length
   ·have e:x.way.length - j=(x.way.length - (j+1))+1:=by omega
    rw[e]at hds
    unfold Qn.delivers at hds
    cases hd:y.deliver with
    | none=>rw[hd]at hds;cases hds
    | some y' =>
     rw[hd]at hds
     simp only at hds
     have cd:=HD.out wr y y' hN hd
     have HDS:=Lib.hid hds
     clear hN hds hd e
     go_wp2_with fail
     refine cd.mono ?_
     rintro e w2 ⟨rfl,hN2⟩
     have HN2:=Lib.hid hN2
     clear hN2 cd
     go_wp2_with fail
     go_roundw
     case rel=>exact⟨j+1,y',by go_num,by omega,HN2.out,HDS.out⟩
     case measure=>simp[intOf];omega
   ·have e:x.way.length - j=0:=by omega
    rw[e]at hds
    have hy:y=x1:=Option.some.inj hds
    subst hy
    obtain⟨Q',Ks',eq,hNS,hC,hA⟩:=hN.tt
    have c0:=hNS.nt.cell 0
    rw[eq]at c0
    simp[netCells]at c0
    have hkl:Ks'.length=n:=by
     have:=hNS.kl
     have h2:=hN.n
     rw[←this]
     unfold Qn.ns
     rw[List.length_map]
     exact h2
    rw[hkl]at c0
    have HN:=Lib.hid hN
    clear hds e hN eq hNS hC hA hkl H0 HD1 HD
    go_wp2_with fail
    go_loopw [18] (fun iv wr=>∃(j:Nat) (z:Qn),iv=.int .i64 (j:Int)∧j≤n∧NetA E Q Ks w wr n z∧Qn.ticks (n - j) j z=some x') (fun iv _=>n - (intOf iv).toNat)
    case atStart=>exact⟨0,y,rfl,Nat.zero_le _,HN.out,HD2.out⟩
    case round =>
     obtain⟨i,z,rfl,hi,hN,hds⟩:=hrel
     rename World=>wq
     by_cases hil:i<n
     ·have e:n - i=(n - (i+1))+1:=by omega
      rw[e]at hds
      unfold Qn.ticks at hds
      cases hd:z.tick i with
      | none=>rw[hd]at hds;cases hds
      | some z' =>
       rw[hd]at hds
       simp only at hds
       have cd:=HTK.out wq z z' i hN hd
       have HDS:=Lib.hid hds
       clear hN hds hd e
       go_wp2_with fail
       refine cd.mono ?_
       rintro e w2 ⟨rfl,hN2⟩
       have HN2:=Lib.hid hN2
       clear hN2 cd
       go_wp2_with fail
       go_roundw
       case rel=>exact⟨i+1,z',by go_num,by omega,HN2.out,HDS.out⟩
       case measure=>simp[intOf];omega
     ·have e:n - i=0:=by omega
      rw[e]at hds
      have hz:z=x':=Option.some.inj hds
      subst hz
      have HNF:=Lib.hid hN
      clear hds e hN
      go_wp2_with fail
      first|go_end0|refine bodyPost_ret (results_none rfl _ _ _) rfl ?_
      exact⟨rfl,HNF.out⟩
omit hE in
set_option maxRecDepth 100000 in
set_option maxHeartbeats 2000000 in
theorem leaderA_any(h:NetS w Q Ks (x.ns E) (x.ws E))(hl:ledF x.nodes=true)(hk5:Ks.length≤5) :
 Calls Tryz.prog 12 #[.pointer (some ⟨Q.q,0,none⟩)] w fun e w2=>e=.returned (.int .i64 0)∧Ext w w2:=by
 have hkl:x.nodes.length=Ks.length:=by rw[←h.kl];unfold Qn.ns;rw[List.length_map]
 have hn0:0<Ks.length:=by
  rw[←hkl]
  cases hx:x.nodes with
  | nil=>rw[hx]at hl;cases hl
  | cons a r=>simp
 have hrole:∀(j:Nat) (a:Na),x.nodes[j]? = some a→(if j=0 then a.role=2 else a.role≠2):=fun j a ha=>by
  cases hx:x.nodes with
  | nil=>rw[hx]at ha;cases ha
  | cons b r =>
   rw[hx]at ha hl
   obtain⟨l1,l2⟩:=Bool.and_eq_true_iff.1 (show(Nat.beq b.role 2&&r.all fun b => !(Nat.beq b.role 2))=true from hl)
   match j with
   | 0 =>
    have:b=a:=by simpa using ha
    rw[if_pos rfl,←this]
    exact Nat.eq_of_beq_eq_true l1
   | j+1 =>
    rw[if_neg (by omega)]
    have hm:=List.all_eq_true.1 l2 a (List.mem_of_getElem? (by simpa using ha))
    intro e
    rw[e]at hm
    cases hm
 have c0:=h.nt.cell 0
 simp[netCells]at c0
 have HH:=Lib.hid h
 have HR:=Lib.hid hrole
 have HKL:=Lib.hid hkl
 clear h hl hrole hkl
 go_enter Tryz.func12,Tryz.ntmps12
 go_wp2_with fail
 go_loopw [3,11] (fun bv iv wr=>∃j:Nat,iv=.int .i64 (j:Int)∧j≤Ks.length∧bv=.int .i64 (if j=0 then -1 else 0)∧Ext w wr) (fun _ iv _=>Ks.length - (intOf iv).toNat)
 case atStart=>exact⟨0,rfl,Nat.zero_le _,rfl,Ext.refl w⟩
 case round =>
  obtain⟨j,rfl,hj,rfl,hX⟩:=hrel
  rename World=>wr
  by_cases hjl:j<Ks.length
  ·obtain⟨K,hK⟩:∃K,Ks[j]? = some K:=⟨_,List.getElem?_eq_getElem hjl⟩
   obtain⟨a,ha⟩:∃a,x.nodes[j]? = some a:=⟨_,List.getElem?_eq_getElem (by rw[HKL.out];exact hjl)⟩
   have hN:=HH.out.ext hX
   have n0:wr.cell? ⟨Q.nb,j,none⟩=some (.pointer (some ⟨K.r,0,none⟩)):=by
    rw[hN.ns.cell j]
    unfold ptrs
    rw[List.getElem?_toArray,List.getElem?_map,hK];rfl
   have hnd:=hN.nd j K (a.nd E) hK (by unfold Qn.ns;rw[List.getElem?_map,ha];rfl)
   have cr:=role_any hnd
   have hr:=HR.out j a ha
   have HX:=Lib.hid hX
   clear hK ha hN hnd hX
   by_cases h0:j=0
   ·subst h0
    rw[if_pos rfl]at hr
    rw[show(a.nd E).role=(2:Int)by show((a.role:Nat):Int)=2;omega]at cr
    clear hr
    go_wp2_with fail
    refine cr.mono ?_
    rintro e w2 ⟨rfl,rfl⟩
    clear cr
    go_wp2_with fail
    go_region
    go_wp2_with fail
    go_roundw
    case rel=>exact⟨1,by go_num,by omega,rfl,HX.out.trans ((Ext.refl _).drew)⟩
    case measure=>simp[intOf];omega
   ·rw[if_neg h0]at hr
    have tr:((a.nd E).role != 2)=true:=by
     show(((a.role:Nat):Int) != 2)=true
     simp;omega
    rw[if_neg h0]
    clear hr
    go_wp2_with fail
    refine cr.mono ?_
    rintro e w2 ⟨rfl,rfl⟩
    clear cr
    go_wp2_with fail
    go_roundw
    case rel=>exact⟨j+1,by go_num,by omega,by rw[if_neg (by omega)],HX.out⟩
    case measure=>simp[intOf];omega
  ·have hje:j≠0:=by omega
   rw[if_neg hje]
   have HX:=Lib.hid hX
   clear hX
   go_wp2_with fail
   go_ret
   exact⟨rfl,HX.out⟩
set_option maxRecDepth 100000 in
set_option maxHeartbeats 2000000 in
theorem proposeA_any(h:NetS w Q Ks (x.ns E) (x.ws E))(hg:x.good){k:Nat}(hd:x.prop k=some x')(c:ByteArray)(hc:(E[k+1]?).map En.c=some c)(hT:Tab w)(hTn:¬ Q.all Ks 0) :
 Calls Tryz.prog 11 #[.pointer (some ⟨Q.q,0,none⟩),.int .i64 0,.string c] w fun e w2=>∃i t:Int,e=.returned (.tuple #[.int .i64 i,.int .i64 t,.int .i64 0])∧NetA E Q Ks w w2 x.nodes.length x':=by
 unfold Qn.prop at hd
 cases hl:ledF x.nodes with
 | false=>rw[hl]at hd;cases hd
 | true =>
  rw[hl]at hd
  simp only at hd
  cases hn:x.nodes[0]? with
  | none=>rw[hn]at hd;cases hd
  | some a =>
   rw[hn]at hd
   simp only at hd
   cases hj:Nat.beq a.len (k+1)with
   | false=>rw[hj]at hd;cases hd
   | true =>
    rw[hj]at hd
    simp only at hd
    cases hs:a.prop with
    | none=>rw[hs]at hd;cases hd
    | some a' =>
     rw[hs]at hd
     simp only at hd
     obtain⟨hlw,rfl⟩:=after_eq hd
     have hgx:=after_good hg (prop_good hs) hd
     have hnx:=after_n hd
     have hi:0<Ks.length:=by
      rw[←h.kl]
      show 0<(x.nodes.map _).length
      rw[List.length_map]
      exact(List.getElem?_eq_some_iff.1 hn).1
     obtain⟨K,hK⟩:∃K,Ks[0]? = some K:=⟨_,List.getElem?_eq_getElem hi⟩
     have hN:(x.ns E)[0]? = some (a.nd E):=by unfold Qn.ns;rw[List.getElem?_map,hn];rfl
     have hA:=h.nd 0 K _ hK hN
     have hTK:¬ K.has 0:=fun hk=>hTn (.inr (.inr ⟨K,List.mem_of_getElem? hK,hk⟩))
     have cn:=nodeS_any h hK
     rw[show(((0:Nat):Int))=0 from rfl]at cn
     have ct:=nprop_any hE hA (hg.1 a (List.mem_of_getElem? hn)) hs c (by rw[Nat.eq_of_beq_eq_true hj];exact hc) hT hTK
     have HF:=Lib.hid (fun(w2:World) (hT2:NdTo K w w2 (a'.nd E))=>h.node hK hT2)
     have HAL:=Lib.hid (fun(K':Ka) hh=>h.node_all (K':=K') hK hh)
     have HK:=Lib.hid hK
     have HL:=Lib.hid hlw
     have HGX:=Lib.hid (And.intro hgx hnx)
     clear hd hg hgx hnx hn hs hlw hN hA hTK hT hTn hK h hl hj hc
     go_enter Tryz.func11,Tryz.ntmps11
     go_wp2_with fail
     refine cn.mono ?_
     rintro e w1 ⟨rfl,rfl⟩
     clear cn
     go_wp2_with fail
     refine ct.mono ?_
     rintro e w2 ⟨ri,rt,rfl,hT2⟩
     clear ct
     obtain⟨K',hN2,r1,hC2,hKK⟩:=HF.out w2 hT2
     have hK2:(Ks.set 0 K')[0]? = some K':=by simp[hi]
     have hN3:((x.ns E).set 0 (a'.nd E))[0]? = some (a'.nd E):=by
      have:0<(x.ns E).length:=by
       have:=hN2.kl
       rw[List.length_set,List.length_set]at this
       omega
      exact List.getElem?_set_self this
     have ca:=afterS_any hN2 hK2 hN3 (by
      have:=HL.out
      show(x.way.map _).length+(a'.out.map _).length≤200
      rw[List.length_map,List.length_map]
      exact this)
     rw[List.set_set,show(((0:Nat):Int))=0 from rfl]at ca
     have HCA:=Lib.hid ca
     have HR:=Lib.hid (fun(w3:World) hT3=>NetT.trans (Q1:=Q) (Ks1:=Ks.set 0 K') (Ns':=(x.ns E).set 0 { a'.nd E with out:=[] }) (ws':=x.ws E++(a'.nd E).out) (w':=w3) rfl (hC2.mono fun k _ e=>.inr (.inr ⟨K,List.mem_of_getElem? HK.out,e⟩)) (HAL.out K' hKK) hT3)
     clear hT2 hN2 hC2 hKK hK2 hN3 ca
     go_wp2_with fail
     refine HCA.out.mono ?_
     rintro e w3 ⟨rfl,hT3⟩
     have HRR:=Lib.hid (HR.out w3 hT3)
     clear hT3
     go_wp2_with fail
     go_ret3
     have e1:(Qn.mk (x.nodes.set 0 a'.sent) (x.way++a'.out)).ns E=(x.ns E).set 0 { a'.nd E with out:=[] } := by unfold Qn.ns;rw[List.map_set,sent_nd]
     have e2:(Qn.mk (x.nodes.set 0 a'.sent) (x.way++a'.out)).ws E=x.ws E++(a'.nd E).out:=by unfold Qn.ws;rw[List.map_append];rfl
     exact⟨ri,rt,rfl,by rw[e1,e2];exact HRR.out,HGX.out.1,HGX.out.2⟩
end
end Go.Proofs.YtkkbfdencgdbhaaGreatDoor
namespace Go.Proofs.YtkkbfdencgdbhaaGreatDoor
open Go.RowKit Go.Sort
def padP(n:Nat)(l:List Nat):Array Value:=((l.map fun d=>Value.pointer (some ⟨d,0,none⟩))++List.replicate (n - l.length) (Value.pointer none)).toArray
theorem padP_get{n:Nat}{l:List Nat}{i d:Nat}(h:l[i]? = some d):(padP n l)[i]? = some (.pointer (some ⟨d,0,none⟩)):=by
 unfold padP
 have hi:=(List.getElem?_eq_some_iff.1 h).1
 rw[List.getElem?_toArray,List.getElem?_append_left (by rw[List.length_map];exact hi),List.getElem?_map,h];rfl
theorem padP_none{n:Nat}{l:List Nat}{i:Nat}(h1:l.length≤i)(h2:i<n):(padP n l)[i]? = some (.pointer none):=by
 unfold padP
 rw[List.getElem?_toArray,List.getElem?_append_right (by rw[List.length_map];exact h1),List.length_map,List.getElem?_replicate,if_pos (by omega)]
theorem padP_set{n:Nat}{l:List Nat}(d:Nat)(h:l.length<n):(padP n l).setIfInBounds l.length (.pointer (some ⟨d,0,none⟩))=padP n (l++[d]):=by
 unfold padP
 rw[List.setIfInBounds_toArray]
 congr 1
 have e:n - l.length=(n - (l++[d]).length)+1:=by rw[List.length_append];simp;omega
 rw[e,List.replicate_succ,List.map_append,List.append_assoc,List.set_append,if_neg (by rw[List.length_map];omega),List.length_map,Nat.sub_self]
 rfl
structure NetP (w:World) (Q:Qa) (n:Nat) (up:List Ka) (dn:List (Nat×Nat)):Prop where
 nt:At w Q.q 73 (netCells (.slice (some ⟨Q.nb,0,none⟩) n n) (.slice (some ⟨Q.db,0,none⟩) n n) (.slice none 0 0))
 ns:At w Q.nb 45 (padP n (up.map Ka.r))
 ds:At w Q.db 74 (padP n (up.map Ka.d++dn.map Prod.fst))
 nd:∀(i:Nat) (K:Ka),up[i]? = some K→NdAt w K (Nd.opened i n Ts.none Fs.none)
 dk:∀p∈dn,DkAt w p.1 p.2 Fs.none.dk
 au:∀(i j:Nat) (K K':Ka),i≠j→up[i]? = some K→up[j]? = some K'→∀k,K.has k→¬ K'.has k
 ad:∀K∈up,∀p∈dn,¬ K.has p.1∧¬ K.has p.2
 dd:dn.Pairwise fun p q=>p.1≠q.1∧p.2≠q.2
section
variable{w w':World}{Q:Qa}{n:Nat}{up:List Ka}{dn:List (Nat×Nat)}{d m r:Nat}{S:Nat→Prop}
theorem NetP.chg(h:NetP w Q n up dn)(hC:Chg S w w')(h1:¬ S Q.q)(h2:¬ S Q.nb)(h3:¬ S Q.db)(h4:∀K∈up,∀k,S k→¬ K.has k)(h5:∀p∈dn,¬ S p.1∧¬ S p.2):NetP w' Q n up dn :=
 ⟨h.nt.chg hC h1,h.ns.chg hC h2,h.ds.chg hC h3,fun i K hK=>(h.nd i K hK).chg hC (h4 K (List.mem_of_getElem? hK)),fun p hp=>⟨(h.dk p hp).1.chg hC (h5 p hp).1,(h.dk p hp).2.chg hC (h5 p hp).2⟩,h.au,h.ad,h.dd⟩
theorem NetP.ext(h:NetP w Q n up dn)(hE:Ext w w'):NetP w' Q n up dn:=h.chg hE (fun h=>h) (fun h=>h) (fun h=>h) (fun _ _ _ h=>h.elim) (fun _ _=>⟨fun h=>h,fun h=>h⟩)
theorem NetP.ds_at(h:NetP w Q n up ((d,m)::dn)):w.cell? ⟨Q.db,up.length,none⟩=some (.pointer (some ⟨d,0,none⟩)):=by
 rw[h.ds.cell up.length]
 refine padP_get ?_
 rw[List.getElem?_append_right (by rw[List.length_map];exact Nat.le_refl _),List.length_map,Nat.sub_self]
 rfl
theorem NetP.ne3(h:NetP w Q n up ((d,m)::dn)):Q.q≠d∧Q.nb≠d∧Q.db≠d:=by
 have hD:=h.dk (d,m) (List.mem_cons_self ..)
 exact⟨h.nt.ne hD.1 (by decide),h.ns.ne hD.1 (by decide),h.ds.ne hD.1 (by decide)⟩
theorem NetP.turn(h:NetP w Q n up ((d,m)::dn))(hC:Chg (fun k=>k=d) w w')(hD:DkAt w' d m Fs.none.dk):NetP w' Q n up ((d,m)::dn):=by
 obtain⟨e1,e2,e3⟩:=h.ne3
 have hp:=List.pairwise_cons.1 h.dd
 refine⟨h.nt.chg hC e1,h.ns.chg hC e2,h.ds.chg hC e3,fun i K hK=>(h.nd i K hK).chg hC fun k hk hh=>?_,fun p hp'=>?_,h.au,h.ad,h.dd⟩
 ·rw[show k=d from hk]at hh
  exact(h.ad K (List.mem_of_getElem? hK) _ (List.mem_cons_self ..)).1 hh
 ·rcases List.mem_cons.1 hp' with rfl|hp'
  ·exact hD
  ·have hD2:=h.dk p (List.mem_cons_of_mem _ hp')
   have hD0:=h.dk (d,m) (List.mem_cons_self ..)
   exact⟨hD2.1.chg hC fun e=>(hp.1 p hp').1 (show d=p.1 from(show p.1=d from e).symm),hD2.2.chg hC fun e=>hD2.2.ne_at hD0.1 e⟩
theorem opened_has{k:Nat}(h:(Ka.opened r d m).has k):k=r∨k=d∨k=m:=by
 rcases h with e|e|e|e|e|e|e|e|⟨v,hv,e⟩
 ·exact .inl e
 ·exact .inr (.inl e)
 ·exact .inr (.inr e)
 ·cases e
 ·cases e
 ·cases e
 ·cases e
 ·cases e
 ·cases hv
theorem NetP.opened(h:NetP w Q n up ((d,m)::dn))(hlt0:up.length<n)(hC:Chg (fun k=>k=d) w w')(hN:NdAt w' (Ka.opened r d m) (Nd.opened up.length n Ts.none Fs.none))(hr:w.heap.size≤r):NetP (w'.setCell ⟨Q.nb,up.length,none⟩ (.pointer (some ⟨r,0,none⟩))) Q n (up++[Ka.opened r d m]) dn:=by
 obtain⟨e1,e2,e3⟩:=h.ne3
 have hp:=List.pairwise_cons.1 h.dd
 have hD0:=h.dk (d,m) (List.mem_cons_self ..)
 have hlt:∀K∈up,∀k,K.has k→k<w.heap.size:=fun K hK k hk=>by
  obtain⟨i,hi⟩:=List.getElem?_of_mem hK
  exact(h.nd i K hi).has_lt k hk
 have hC3:Chg (fun k=>k=Q.nb) w' (w'.setCell ⟨Q.nb,up.length,none⟩ (.pointer (some ⟨r,0,none⟩))):=(Chg.refl (fun k=>k=Q.nb) w').setCell (p:=⟨Q.nb,up.length,none⟩) (.inl rfl) _
 have hns:=h.ns.chg hC e2
 have hnt:=h.nt.chg hC e1
 have hds:=h.ds.chg hC e3
 have hq:Q.q≠Q.nb:=h.nt.ne h.ns (by decide)
 have hdb:Q.db≠Q.nb:=h.ds.ne h.ns (by decide)
 have hold:∀(i:Nat) (K:Ka),up[i]? = some K→NdAt w' K (Nd.opened i n Ts.none Fs.none):=fun i K hK=>(h.nd i K hK).chg hC fun k hk hh=>by
  rw[show k=d from hk]at hh
  exact(h.ad K (List.mem_of_getElem? hK) _ (List.mem_cons_self ..)).1 hh
 have hnb:∀ {K:Ka} {N:Nd},NdAt w' K N→∀k,k=Q.nb→¬ K.has k:=fun hA k e hk=>hA.not_has hns (by decide) (by decide) (by decide) (by decide) (by decide) (by decide) (e ▸ hk)
 have hget:∀ {i:Nat} {K:Ka},(up++[Ka.opened r d m])[i]? = some K→up[i]? = some K∨(i=up.length∧K=Ka.opened r d m):=fun {i K} hi=>by
  rcases Nat.lt_or_ge i up.length with hl|hl
  ·rw[List.getElem?_append_left hl]at hi
   exact .inl hi
  ·rw[List.getElem?_append_right hl]at hi
   have h0:i - up.length=0:=by have:=(List.getElem?_eq_some_iff.1 hi).1;simp at this;omega
   rw[h0]at hi
   injection hi with hi
   exact .inr ⟨by omega,hi.symm⟩
 have hfar:∀K∈up,∀k,K.has k→¬ (Ka.opened r d m).has k:=fun K hK k hk hh=>by
  have hl:=hlt K hK k hk
  obtain⟨a1,a2⟩:=h.ad K hK _ (List.mem_cons_self ..)
  rcases opened_has hh with e|e|e
  ·omega
  ·rw[e]at hk;exact a1 hk
  ·rw[e]at hk;exact a2 hk
 refine⟨hnt.chg hC3 hq,?_,?_,fun i K hK=>?_,fun p hp'=>?_,fun i j K K' hne hi hj k hk hk'=>?_,fun K hK p hp'=>?_,hp.2⟩
 ·have hl:(up.map Ka.r).length=up.length:=List.length_map ..
  have:=hns.set (up.map Ka.r).length (.pointer (some ⟨r,0,none⟩))
  rw[padP_set r (by rw[hl];exact hlt0),hl]at this
  rw[List.map_append]
  exact this
 ·have e:((up++[Ka.opened r d m]).map Ka.d++dn.map Prod.fst)=up.map Ka.d++((d,m)::dn).map Prod.fst:=by simp[Ka.opened]
  rw[e]
  exact hds.chg hC3 hdb
 ·rcases hget hK with hi|⟨rfl,rfl⟩
  ·exact(hold i K hi).chg hC3 (hnb (hold i K hi))
  ·exact hN.chg hC3 (hnb hN)
 ·have hD2:=h.dk p (List.mem_cons_of_mem _ hp')
  have g1:DkAt w' p.1 p.2 Fs.none.dk:=⟨hD2.1.chg hC fun e=>(hp.1 p hp').1 (show d=p.1 from(show p.1=d from e).symm),hD2.2.chg hC fun e=>hD2.2.ne_at hD0.1 e⟩
  exact⟨g1.1.chg hC3 fun e=>g1.1.ne hns (by decide) e,g1.2.chg hC3 fun e=>g1.2.ne_at hns e⟩
 ·rcases hget hi with hi|⟨ri,rfl⟩
  ·rcases hget hj with hj|⟨rj,rfl⟩
   ·exact h.au i j K K' hne hi hj k hk hk'
   ·exact hfar K (List.mem_of_getElem? hi) k hk hk'
  ·rcases hget hj with hj|⟨rj,rfl⟩
   ·exact hfar K' (List.mem_of_getElem? hj) k hk' hk
   ·omega
 ·have hD2:=h.dk p (List.mem_cons_of_mem _ hp')
  rcases List.mem_append.1 hK with hK|hK
  ·exact h.ad K hK p (List.mem_cons_of_mem _ hp')
  ·rw[List.mem_singleton.1 hK]
   have l1:=hD2.1.lt
   have l2:=hD2.2.lt
   obtain⟨q1,q2⟩:=hp.1 p hp'
   refine⟨fun hh=>?_,fun hh=>?_⟩
   ·rcases opened_has hh with e|e|e
    ·omega
    ·exact q1 e.symm
    ·exact hD0.2.ne_at hD2.1 e.symm
   ·rcases opened_has hh with e|e|e
    ·omega
    ·exact hD2.2.ne_at hD0.1 e
    ·exact q2 e.symm
end
set_option maxRecDepth 100000 in
set_option maxHeartbeats 1000000 in
theorem startP_any(w:World)(Q:Qa)(n:Nat)(up:List Ka)(dn:List (Nat×Nat))(d m:Nat)(hA:NetP w Q n up ((d,m)::dn))(hn5:n≤5)(hlt0:up.length<n)(hT:Tab w)(hTd:¬ 0=d) :
 Calls Tryz.prog 18 #[.pointer (some ⟨Q.q,0,none⟩),.int .i64 (up.length:Int)] w fun e w'=>e=.returned (.int .i64 0)∧∃r,w.heap.size≤r∧NetP w' Q n (up++[Ka.opened r d m]) dn∧Chg (fun k=>k=d∨k=Q.nb) w w':=by
 have hD:=hA.dk (d,m) (List.mem_cons_self ..)
 have b0:=hA.nt.cell 0
 have b1:=hA.nt.cell 1
 have n0:=hA.ns.cell up.length
 rw[padP_none (by rw[List.length_map];exact Nat.le_refl _) hlt0]at n0
 have f0:=hA.ds_at
 simp[netCells]at b0 b1
 have cf:=qfail_any w d m Fs.none.dk hD rfl
 obtain⟨e1,e2,e3⟩:=hA.ne3
 have t1:decide ((0:Int)≤(up.length:Int))=true:=by simp
 have t2:decide ((up.length:Int)<(n:Int))=true:=by simp;omega
 have ch:Calls Tryz.prog 42 #[.pointer (some ⟨Q.q,0,none⟩),.int .i64 (up.length:Int)] w fun e w'=>e=.returned (.bool true)∧w'=w:=by
  clear hA hD n0 f0 cf hT
  go_enter Tryz.func42,Tryz.ntmps42
  go_wp2_with fail
  go_ret
  exact⟨rfl,rfl⟩
 have HA:=Lib.hid hA
 clear hA t1 t2
 go_enter Tryz.func18,Tryz.ntmps18
 go_wp2_with fail
 refine ch.mono ?_
 rintro e w1 ⟨rfl,rfl⟩
 go_wp2_with fail
 refine cf.mono ?_
 rintro e W ⟨rfl,hC1,hD1⟩
 have hA1:=HA.out.turn hC1 hD1
 have c0:=hA1.nt.cell 0
 have c1:=hA1.nt.cell 1
 have d0:=hA1.ds_at
 simp[netCells]at c0 c1
 have co:Calls Tryz.prog 52 #[.pointer (some ⟨d,0,none⟩),.int .i64 (up.length:Int),.int .i64 (n:Int)] W.drew fun e w'=>∃r,e=.returned (.tuple #[.pointer (some ⟨r,0,none⟩),.int .i64 0])∧W.heap.size≤r∧NdAt w' (Ka.opened r d m) (Nd.opened up.length n Ts.none Fs.none)∧Chg (fun k=>k=d) W w' :=
  (open_any W.drew d m Fs.none (hD1.ext ((Ext.refl W).drew)) (by decide) Ts.none none_says ((hT.chg hC1 hTd).ext ((Ext.refl W).drew)) hTd up.length n hn5 hlt0).mono (by
    rintro e w' ⟨r,he,hr,hN,hC⟩
    exact⟨r,he,hr,hN,((Ext.refl W).drew).chg_trans hC⟩)
 have HA1:=Lib.hid hA1
 have HC1:=Lib.hid hC1
 clear hA1 hD1 hC1 hT HA hD
 go_wp2_with fail
 refine wp_region_callw (sp:=[.v (.pointer (some ⟨Q.q,0,none⟩)),.v (.pointer (some ⟨Q.q,0,none⟩)),.v (.pointer (some ⟨Q.q,1,none⟩)),.v (.slice (some ⟨Q.db,0,none⟩) n n),.v (.int .i64 (up.length:Int)),.v (.pointer (some ⟨Q.db,up.length,none⟩)),.v (.pointer (some ⟨d,0,none⟩)),.v (.int .i64 (up.length:Int)),.v (.pointer (some ⟨Q.q,0,none⟩)),.v (.pointer (some ⟨Q.q,0,none⟩)),.v (.pointer (some ⟨Q.q,0,none⟩)),.v (.slice (some ⟨Q.nb,0,none⟩) n n),.v (.int .i64 (n:Int)),.f id,.f (id),.f (fun γ => tupI γ 0),.f (fun γ => tupI γ 1),.f (fun γ => tupI γ 0),.f (fun γ => tupI γ 1)]) (jc:=13) (Post:=fun γ w'=>∃r:Nat, γ=.tuple #[.pointer (some ⟨r,0,none⟩),.int .i64 0]∧W.heap.size≤r∧NdAt w' (Ka.opened r d m) (Nd.opened up.length n Ts.none Fs.none)∧Chg (fun k=>k=d) W w') (by kernel_rfl) (by kernel_rfl) (by kernel_rfl) ?steps (by decide) ?fin
 case steps =>
  show StepsTo _ _ _ _ _ _ 19
  refine⟨⟨⟨⟨⟨⟨⟨⟨⟨⟨⟨⟨⟨⟨⟨⟨⟨⟨⟨trivial,?s0⟩,?s1⟩,?s2⟩,?s3⟩,?s4⟩,?s5⟩,?s6⟩,?s7⟩,?s8⟩,?s9⟩,?s10⟩,?s11⟩,?s12⟩,?s13⟩,?s14⟩,?s15⟩,?s16⟩,?s17⟩,?s18⟩
  case s0 =>
   refine sw_val (by kernel_rfl) (x:=.pointer (some ⟨Q.q,0,none⟩)) rfl rfl (by decide) rfl fun γ a w1 st=>?_
   have e0:=st.far 0 (by kernel_rfl)
   simp at e0
   go_simp
  case s1 =>
   refine sw_val (by kernel_rfl) (x:=.pointer (some ⟨Q.q,0,none⟩)) rfl rfl (by decide) rfl fun γ a w1 st=>?_
   have e30:=st.v 0 30 _ rfl (by kernel_rfl) rfl
   go_simp
  case s2 =>
   refine sw_val (by kernel_rfl) (x:=.pointer (some ⟨Q.q,1,none⟩)) rfl rfl (by decide) rfl fun γ a w1 st=>?_
   have e31:=st.v 1 31 _ rfl (by kernel_rfl) rfl
   go_simp
  case s3 =>
   refine sw_val (by kernel_rfl) (x:=.slice (some ⟨Q.db,0,none⟩) n n) rfl rfl (by decide) rfl fun γ a w1 st=>?_
   have e32:=st.v 2 32 _ rfl (by kernel_rfl) rfl
   have hsw:=st.same (by kernel_rfl)
   subst hsw
   have hcl:W.drew.cell? _=_:=c1
   go_simp
  case s4 =>
   refine sw_val (by kernel_rfl) (x:=.int .i64 (up.length:Int)) rfl rfl (by decide) rfl fun γ a w1 st=>?_
   have e1:=st.far 1 (by kernel_rfl)
   simp at e1
   go_simp
  case s5 =>
   refine sw_val (by kernel_rfl) (x:=.pointer (some ⟨Q.db,up.length,none⟩)) rfl rfl (by decide) rfl fun γ a w1 st=>?_
   have e33:=st.v 3 33 _ rfl (by kernel_rfl) rfl
   have e34:=st.v 4 34 _ rfl (by kernel_rfl) rfl
   go_simp
  case s6 =>
   refine sw_val (by kernel_rfl) (x:=.pointer (some ⟨d,0,none⟩)) rfl rfl (by decide) rfl fun γ a w1 st=>?_
   have e35:=st.v 5 35 _ rfl (by kernel_rfl) rfl
   have hsw:=st.same (by kernel_rfl)
   subst hsw
   have hcl:W.drew.cell? _=_:=d0
   go_simp
  case s7 =>
   refine sw_val (by kernel_rfl) (x:=.int .i64 (up.length:Int)) rfl rfl (by decide) rfl fun γ a w1 st=>?_
   have e1:=st.far 1 (by kernel_rfl)
   simp at e1
   go_simp
  case s8 =>
   refine sw_val (by kernel_rfl) (x:=.pointer (some ⟨Q.q,0,none⟩)) rfl rfl (by decide) rfl fun γ a w1 st=>?_
   have e0:=st.far 0 (by kernel_rfl)
   simp at e0
   go_simp
  case s9 =>
   refine sw_val (by kernel_rfl) (x:=.pointer (some ⟨Q.q,0,none⟩)) rfl rfl (by decide) rfl fun γ a w1 st=>?_
   have e38:=st.v 8 38 _ rfl (by kernel_rfl) rfl
   go_simp
  case s10 =>
   refine sw_val (by kernel_rfl) (x:=.pointer (some ⟨Q.q,0,none⟩)) rfl rfl (by decide) rfl fun γ a w1 st=>?_
   have e39:=st.v 9 39 _ rfl (by kernel_rfl) rfl
   go_simp
  case s11 =>
   refine sw_val (by kernel_rfl) (x:=.slice (some ⟨Q.nb,0,none⟩) n n) rfl rfl (by decide) rfl fun γ a w1 st=>?_
   have e40:=st.v 10 40 _ rfl (by kernel_rfl) rfl
   have hsw:=st.same (by kernel_rfl)
   subst hsw
   have hcl:W.drew.cell? _=_:=c0
   go_simp
  case s12 =>
   refine sw_val (by kernel_rfl) (x:=.int .i64 (n:Int)) rfl rfl (by decide) rfl fun γ a w1 st=>?_
   have e41:=st.v 11 41 _ rfl (by kernel_rfl) rfl
   go_simp
  case s13 =>
   refine sw_call (by kernel_rfl) (f:=52) (Nat.le_refl _) rfl rfl rfl fun γ a st=>?_
   have e36:=st.v 6 36 _ rfl (by kernel_rfl) rfl
   have e37:=st.v 7 37 _ rfl (by kernel_rfl) rfl
   have e42:=st.v 12 42 _ rfl (by kernel_rfl) rfl
   refine⟨#[.pointer (some ⟨d,0,none⟩),.int .i64 (up.length:Int),.int .i64 (n:Int)],by go_simp,?_⟩
   refine co.mono ?_
   rintro e w2 ⟨r,rfl,hr,hN,hC⟩
   exact⟨_,rfl,r,rfl,hr,hN,hC⟩
  case s14 =>
   refine sw_fun (by kernel_rfl) (g:=id) rfl rfl (by decide) rfl fun γ a w1 st hpost=>?_
   obtain⟨r,rfl,hr,hNd,hC⟩:=hpost
   have e43:=st.f 13 43 _ rfl (by kernel_rfl) rfl
   go_simp
  case s15 =>
   refine sw_fun (by kernel_rfl) (g:=fun γ => tupI γ 0) rfl rfl (by decide) rfl fun γ a w1 st hpost=>?_
   obtain⟨r,rfl,hr,hNd,hC⟩:=hpost
   have e29:=st.f 14 29 _ rfl (by kernel_rfl) rfl
   simp[tupI]at e29⊢
   go_simp
  case s16 =>
   refine sw_fun (by kernel_rfl) (g:=fun γ => tupI γ 1) rfl rfl (by decide) rfl fun γ a w1 st hpost=>?_
   obtain⟨r,rfl,hr,hNd,hC⟩:=hpost
   have e29:=st.f 14 29 _ rfl (by kernel_rfl) rfl
   simp[tupI]at e29⊢
   go_simp
  case s17 =>
   refine sw_fun (by kernel_rfl) (g:=fun γ => tupI γ 0) rfl rfl (by decide) rfl fun γ a w1 st hpost=>?_
   obtain⟨r,rfl,hr,hNd,hC⟩:=hpost
   have e44:=st.f 15 44 _ rfl (by kernel_rfl) rfl
   simp[tupI]at e44⊢
   go_simp
  case s18 =>
   refine sw_fun (by kernel_rfl) (g:=fun γ => tupI γ 1) rfl rfl (by decide) rfl fun γ a w1 st hpost=>?_
   obtain⟨r,rfl,hr,hNd,hC⟩:=hpost
   have e45:=st.f 16 45 _ rfl (by kernel_rfl) rfl
   simp[tupI]at e45⊢
   go_simp
 case fin =>
  intro γ v wz hpost hφ
  obtain⟨r,rfl,hr,hNd,hC⟩:=hpost
  have h17:v 17=.pointer (some ⟨r,0,none⟩):=hφ 17 (by decide)
  have h18:v 18=.int .i64 0:=hφ 18 (by decide)
  clear hφ
  change Exit.then _ _ _ (putAll _ v _ 19) wz
  simp only[putAll,dstOf,Act.put]
  simp only[List.getElem?_toArray,List.getElem?_cons_zero,List.getElem?_cons_succ,Option.bind_some,List.setIfInBounds_toArray,List.set_cons_zero,List.set_cons_succ]
  rw[h17]
  rw[h18]
  clear h17 h18
  have q0:=(HA1.out.nt.chg hC e1).cell 0
  have gf:=(HA1.out.ns.chg hC e2).frozen up.length
  have g0:=(HA1.out.ns.chg hC e2).cell up.length
  rw[padP_none (by rw[List.length_map];exact Nat.le_refl _) hlt0]at g0
  have hlt:=(HA1.out.ns.chg hC e2).lt
  simp[netCells]at q0
  generalize v 0=z0
  generalize v 1=z1
  generalize v 2=z2
  generalize v 3=z3
  generalize v 4=z4
  generalize v 5=z5
  generalize v 6=z6
  generalize v 7=z7
  generalize v 8=z8
  generalize v 9=z9
  generalize v 10=z10
  generalize v 11=z11
  generalize v 12=z12
  generalize v 13=z13
  generalize v 14=z14
  generalize v 15=z15
  generalize v 16=z16
  clear co
  have HR:=Lib.hid (HA1.out.opened hlt0 hC hNd hr)
  have HC:=Lib.hid hC
  clear hNd hC
  go_wp2_with fail
  go_ret
  have hs1:=HC1.out.size
  have hC3:Chg (fun k=>k=Q.nb) wz (wz.setCell ⟨Q.nb,up.length,none⟩ (.pointer (some ⟨r,0,none⟩))):=(Chg.refl (fun k=>k=Q.nb) wz).setCell (p:=⟨Q.nb,up.length,none⟩) (.inl rfl) _
  exact⟨rfl,r,by omega,HR.out,((HC1.out.mono (fun k _ e=>.inl e)).trans HC.out (fun k _ e=>.inl e)).trans hC3 (fun k _ e=>.inr e)⟩
end Go.Proofs.YtkkbfdencgdbhaaGreatDoor
namespace Go.Proofs.YtkkbfdencgdbhaaGreatDoor
open Go.RowKit Go.Sort
theorem padP_nil(n:Nat):padP n []=Array.replicate n (.pointer none):=by
 unfold padP
 simp
theorem netP_any(w:World)(n:Nat)(t1 t2:TypeId)(a b:Nat)(h:(t1=45∧t2=74∧a=w.heap.size∧b=w.heap.size+1)∨(t2=45∧t1=74∧b=w.heap.size∧a=w.heap.size+1)) :
 let W:=(((w.alloc (.cells (Array.replicate n (.pointer none)) t1)).alloc (.cells (Array.replicate n (.pointer none)) t2)).alloc (.cells #[.slice (some ⟨a,0,none⟩) n n,.slice (some ⟨b,0,none⟩) n n,.slice none 0 0] 73)).drew
 NetP W ⟨w.heap.size+1+1,a,b⟩ n [] []∧Ext w W:=by
 refine⟨⟨At.drew (At.new_eq (by simp) _ _),?_,?_,(fun i K hK=>by cases hK),(fun p hp=>by cases hp),(fun i j K K' _ hK=>by cases hK),(fun K hK=>by cases hK),List.Pairwise.nil⟩,(((Ext.refl w).alloc _).alloc _).alloc _ |>.drew⟩
 ·show At _ a _ (padP n [])
  rw[padP_nil]
  rcases h with⟨rfl,rfl,rfl,rfl⟩|⟨rfl,rfl,rfl,rfl⟩
  ·exact(((At.new_eq rfl _ _).alloc _).alloc _).drew
  ·exact((At.new_eq (by simp) _ _).alloc _).drew
 ·show At _ b _ (padP n [])
  rw[padP_nil]
  rcases h with⟨rfl,rfl,rfl,rfl⟩|⟨rfl,rfl,rfl,rfl⟩
  ·exact((At.new_eq (by simp) _ _).alloc _).drew
  ·exact(((At.new_eq rfl _ _).alloc _).alloc _).drew
section
variable{w w1:World}{Q:Qa}{n:Nat}{dn:List (Nat×Nat)}{d m:Nat}
theorem NetP.disked(h:NetP w Q n [] dn)(hE:Ext w w1)(hD:DkAt w1 d m Fs.none.dk)(hd:w.heap.size≤d)(hm:w.heap.size≤m)(hl:dn.length<n):NetP (w1.setCell ⟨Q.db,dn.length,none⟩ (.pointer (some ⟨d,0,none⟩))) Q n [] (dn++[(d,m)]):=by
 have h1:=h.ext hE
 have hC3:Chg (fun k=>k=Q.db) w1 (w1.setCell ⟨Q.db,dn.length,none⟩ (.pointer (some ⟨d,0,none⟩))):=(Chg.refl (fun k=>k=Q.db) w1).setCell (p:=⟨Q.db,dn.length,none⟩) (.inl rfl) _
 have hdk:∀p∈dn++[(d,m)],DkAt w1 p.1 p.2 Fs.none.dk:=fun p hp=>by
  rcases List.mem_append.1 hp with hp|hp
  ·exact h1.dk p hp
  ·rw[List.mem_singleton.1 hp];exact hD
 refine⟨h1.nt.chg hC3 (h1.nt.ne h1.ds (by decide)),h1.ns.chg hC3 (h1.ns.ne h1.ds (by decide)),?_,(fun i K hK=>by cases hK),fun p hp=>⟨(hdk p hp).1.chg hC3 ((hdk p hp).1.ne h1.ds (by decide)),(hdk p hp).2.chg hC3 ((hdk p hp).2.ne_at h1.ds)⟩,(fun i j K K' _ hK=>by cases hK),(fun K hK=>by cases hK),?_⟩
 ·have hl2:(dn.map Prod.fst).length=dn.length:=List.length_map ..
  have:=h1.ds.set (dn.map Prod.fst).length (.pointer (some ⟨d,0,none⟩))
  rw[List.map_nil,List.nil_append,padP_set d (by rw[hl2];exact hl),hl2]at this
  rw[List.map_nil,List.nil_append,List.map_append]
  exact this
 ·rw[List.pairwise_append]
  refine⟨h.dd,List.pairwise_singleton _ _,fun p hp q hq=>?_⟩
  rw[List.mem_singleton.1 hq]
  have l1:=(h.dk p hp).1.lt
  have l2:=(h.dk p hp).2.lt
  exact⟨by show p.1≠d;omega,by show p.2≠m;omega⟩
theorem NetP.all_up{up:List Ka}(h:NetP w Q n up [])(hl:up.length=n):NetS w ⟨Q.q,Q.nb,Q.db,.slice none 0 0,[]⟩ up ((List.range n).map fun i=>Nd.opened i n Ts.none Fs.none) []:=by
 have e:∀f:Ka→Nat,padP n (up.map f)=ptrs f up:=fun f=>by
  unfold padP ptrs
  rw[List.length_map,hl,Nat.sub_self,List.replicate_zero,List.append_nil,List.map_map]
  rfl
 have hns:=h.ns
 have hds:=h.ds
 rw[List.map_nil,List.append_nil,e]at hds
 rw[e]at hns
 refine⟨by rw[hl];exact h.nt,hns,hds,by rw[List.length_map,List.length_range,hl],fun i K N hK hN=>?_,OutAt.nil w,h.au,fun K _ k _ hw=>?_⟩
 ·have hi:i<n:=by rw[←hl];exact(List.getElem?_eq_some_iff.1 hK).1
  rw[List.getElem?_map,List.getElem?_range hi]at hN
  injection hN with hN
  rw[←hN]
  exact h.nd i K hK
 ·rcases hw with e|⟨v,hv,_⟩
  ·cases e
  ·cases hv
end
set_option maxRecDepth 100000 in
set_option maxHeartbeats 4000000 in
theorem qnewN_any(w:World)(n:Nat)(hn1:1≤n)(hn5:n≤5)(hT:Tab w):Calls Tryz.prog 6 #[.int .i64 (n:Int),.int .i64 4194304] w fun e w'=>∃(Q:Qb) (Ks:List Ka),e=.returned (.tuple #[.pointer (some ⟨Q.q,0,none⟩),.int .i64 0]) ∧
 NetS w' Q Ks ((List.range n).map fun i=>Nd.opened i n Ts.none Fs.none) []∧Ext w w'∧∀k,Q.all Ks k→w.heap.size≤k:=by
 have hmk1:∀W:World,(Instr.makeSlice 69 (.int .i64 (n:Int)) (.int .i64 (n:Int))).run Tryz.prog W=.ok (.slice (some ⟨W.heap.size,0,none⟩) n n) (W.alloc (.cells (Array.replicate n (.pointer none)) 45)):=fun W=>q_make (n:=n) Tryz.underlying69 nodep_info rfl (by decide) (by omega) W
 have hmk2:∀W:World,(Instr.makeSlice 70 (.int .i64 (n:Int)) (.int .i64 (n:Int))).run Tryz.prog W=.ok (.slice (some ⟨W.heap.size,0,none⟩) n n) (W.alloc (.cells (Array.replicate n (.pointer none)) 74)):=fun W=>q_make (n:=n) Tryz.underlying70 diskp_info rfl (by decide) (by omega) W
 obtain⟨wo,hwo⟩:∃wo:World,wo=w:=⟨_,rfl⟩
 have HWO:=Lib.hid hwo
 have HNA:=Lib.hid (netP_any w n 45 74 w.heap.size (w.heap.size+1) (.inl ⟨rfl,rfl,rfl,rfl⟩))
 have HNB:=Lib.hid (netP_any w n 74 45 (w.heap.size+1) w.heap.size (.inr ⟨rfl,rfl,rfl,rfl⟩))
 have t1:decide ((n:Int)<1)=false:=by simp;omega
 have t2:decide ((5:Int)<(n:Int))=false:=by simp;omega
 clear hwo
 go_enter Tryz.func6,Tryz.ntmps6
 go_upto_region 3 with fail
 go_cut [6]from 16 to 21 (fun tv wx=>∃Q:Qa,tv=.pointer (some ⟨Q.q,0,none⟩)∧NetP wx Q n [] []∧Ext wo wx∧∀k,Q.has k→wo.heap.size≤k)
 case first =>
  go_region
  all_goals
   go_wp2_with fail
   go_meet
   case rel =>
    rw[HWO.out]
    first
    | (obtain⟨hB,hE⟩:=HNA.out
       with_reducible exact⟨⟨w.heap.size+1+1,w.heap.size,w.heap.size+1⟩,rfl,hB,hE,fun k hk=>by unfold Qa.has at hk;simp only at hk;omega⟩)
    | (obtain⟨hB,hE⟩:=HNB.out
       with_reducible exact⟨⟨w.heap.size+1+1,w.heap.size+1,w.heap.size⟩,rfl,hB,hE,fun k hk=>by unfold Qa.has at hk;simp only at hk;omega⟩)
 case rest =>
  obtain⟨Q,rfl,hB,hE,hQ⟩:=hcut
  rename World=>W0
  rw[HWO.out]at hE hQ
  have HB0:=Lib.hid hB
  have HE0:=Lib.hid hE
  have HQ:=Lib.hid hQ
  have hTL:=hT.lt
  have hsz:=hE.size
  clear hB hE hQ HNA HNB HWO t1 t2
  go_wp2_with fail
  go_loopw [23] (fun iv wr=>∃dn:List (Nat×Nat),iv=.int .i64 (dn.length:Int)∧dn.length≤n∧NetP wr Q n [] dn∧Chg (fun k=>k=Q.db) W0 wr∧∀p∈dn,W0.heap.size≤p.1∧W0.heap.size≤p.2) (fun iv _=>n - (intOf iv).toNat)
  case atStart=>exact⟨[],rfl,Nat.zero_le _,HB0.out,Chg.refl _ _,fun p hp=>by cases hp⟩
  case round =>
   obtain⟨dn,rfl,hdl,hB,hC,hdn⟩:=hrel
   rename World=>W
   by_cases hil:dn.length<n
   ·have HC:=Lib.hid hC
    have HDN:=Lib.hid hdn
    have hs0:=hC.size
    clear hC hdn
    go_wp2_with fail
    have hST:GQ.St (fun _=>False) (fun _ _=>True) [⟨6,0,fun _ v w=>∃d m:Nat,v=.pointer (some ⟨d,0,none⟩)∧DkAt w d m Fs.none.dk∧W.heap.size≤d∧W.heap.size≤m⟩]:=⟨fun _ _ _ h _=>h,by
     intro gx hx
     rcases List.mem_cons.1 hx with rfl|hx
     ·exact fun b v w w' h hE=>by obtain⟨d,m,h1,h2,h3⟩:=h;exact⟨d,m,h1,h2.ext hE,h3⟩
     cases hx⟩
    refine wp_region_last (Γ := Nat→Value) (sgφ [.val (.pointer (some ⟨Q.q,0,none⟩)),.val (.pointer (some ⟨Q.q,0,none⟩)),.val (.pointer (some ⟨Q.q,1,none⟩)),.val (.slice (some ⟨Q.db,0,none⟩) n n),.val (.int .i64 (dn.length:Int)),.val (.int .i64 4194304),.g 0,.val (.pointer (some ⟨Q.db,dn.length,none⟩))])
     (GQ W (fun _=>False) 1000 (fun _ _=>True) [⟨6,0,fun _ v w=>∃d m:Nat,v=.pointer (some ⟨d,0,none⟩)∧DkAt w d m Fs.none.dk∧W.heap.size≤d∧W.heap.size≤m⟩])
     (fun _ w'=>∃d m:Nat,NetP w' Q n [] (dn++[(d,m)])∧Chg (fun k=>k=Q.db) W w'∧W.heap.size≤d∧W.heap.size≤m) 8 rfl (by kernel_rfl) (by kernel_rfl) (by kernel_rfl) (by kernel_rfl) (by kernel_rfl) (fun _=>undef) (GQ.start _ _ _ _ _ _ (trivial)) ?steps ?last ?fin
    case steps =>
     show StepsTo _ _ _ _ _ _ 8
     refine⟨⟨⟨⟨⟨⟨⟨⟨trivial,?s0⟩,?s1⟩,?s2⟩,?s3⟩,?s4⟩,?s5⟩,?s6⟩,?s7⟩
     case s0 =>
      refine sg_val (x:=.pointer (some ⟨Q.q,0,none⟩)) rfl rfl rfl (GQ.keep (j:=0) (by decide) rfl) fun γ L v a w st=>?_
      have f6:=st.far 6 (by kernel_rfl)
      simp at f6
      go_simp
     case s1 =>
      refine sg_val (x:=.pointer (some ⟨Q.q,0,none⟩)) rfl rfl rfl (GQ.keep (j:=1) (by decide) rfl) fun γ L v a w st=>?_
      have e0:=st.val 0 26 rfl (by kernel_rfl)
      rw[(st.φ 0 (by kernel_rfl):v 0=_)]at e0
      simp at e0
      go_simp
     case s2 =>
      refine sg_val (x:=.pointer (some ⟨Q.q,1,none⟩)) rfl rfl rfl (GQ.keep (j:=2) (by decide) rfl) fun γ L v a w st=>?_
      have e1:=st.val 1 27 rfl (by kernel_rfl)
      rw[(st.φ 1 (by kernel_rfl):v 1=_)]at e1
      simp at e1
      go_simp
     case s3 =>
      refine sg_val (x:=.slice (some ⟨Q.db,0,none⟩) n n) rfl rfl rfl (GQ.keep (j:=3) (by decide) rfl) fun γ L v a w st=>?_
      have e2:=st.val 2 28 rfl (by kernel_rfl)
      rw[(st.φ 2 (by kernel_rfl):v 2=_)]at e2
      simp at e2
      have hcl:=(hB.ext (st.inv.off (fun _ h=>h))).nt.cell 1
      simp[netCells]at hcl
      go_simp
     case s4 =>
      refine sg_val (x:=.int .i64 (dn.length:Int)) rfl rfl rfl (GQ.keep (j:=4) (by decide) rfl) fun γ L v a w st=>?_
      have f7:=st.far 7 (by kernel_rfl)
      simp at f7
      go_simp
     case s5 =>
      refine sg_val (x:=.int .i64 4194304) rfl rfl rfl (GQ.keep (j:=5) (by decide) rfl) fun γ L v a w st=>?_
      have f1:=st.far 1 (by kernel_rfl)
      simp at f1
      go_simp
     case s6 =>
      refine sg_call (k:=0) (f:=26) rfl rfl rfl (by kernel_rfl) fun γ L v a w st=>?_
      have e5:=st.val 5 31 rfl (by kernel_rfl)
      rw[(st.φ 5 (by kernel_rfl):v 5=_)]at e5
      simp at e5
      have hE0:=st.inv.off (fun _ h=>h)
      refine⟨#[.int .i64 4194304],by go_simp,(qdisk_any w).mono ?_⟩
      rintro e w' ⟨d,m,rfl,hD,hE,hd,hm⟩
      have hs0:=hE0.size
      refine⟨_,rfl,st.inv.new hST hE (by decide) rfl ?_⟩
      intro gx hx hxj
      rcases List.mem_cons.1 hx with rfl|hx
      ·exact⟨rfl,d,m,rfl,hD,by omega,by omega⟩
      cases hx
     case s7 =>
      refine sg_val (x:=.pointer (some ⟨Q.db,dn.length,none⟩)) rfl rfl rfl (GQ.keep (j:=7) (by decide) rfl) fun γ L v a w st=>?_
      have e3:=st.val 3 29 rfl (by kernel_rfl)
      rw[(st.φ 3 (by kernel_rfl):v 3=_)]at e3
      simp at e3
      have e4:=st.val 4 30 rfl (by kernel_rfl)
      rw[(st.φ 4 (by kernel_rfl):v 4=_)]at e4
      simp at e4
      go_simp
    case last =>
     intro γ L v a w1 hall hG hφ hval h0
     have e32:=hval 6 32 rfl (by decide)
     rw[show v 6=_ from hφ 6 (by decide)]at e32
     have e33:=hval 7 33 rfl (by decide)
     rw[show v 7=_ from hφ 7 (by decide)]at e33
     simp at e33
     have hE1:Ext W w1:=hG.off (fun _ h=>h)
     obtain⟨d,m,hv,hD,hd,hm⟩:=hG.gh ⟨6,0,fun _ v w=>∃d m:Nat,v=.pointer (some ⟨d,0,none⟩)∧DkAt w d m Fs.none.dk∧W.heap.size≤d∧W.heap.size≤m⟩ (by simp) (hall 6 (by decide))
     replace hv : γ 0=.pointer (some ⟨d,0,none⟩):=hv
     rw[hv]at e32
     have hB1:=hB.ext hE1
     have g0:=hB1.ds.cell dn.length
     rw[padP_none (by rw[List.map_nil,List.nil_append,List.length_map];exact Nat.le_refl _) hil]at g0
     have gf:=hB1.ds.frozen dn.length
     have hlt:=hB1.ds.lt
     have hC3:Chg (fun k=>k=Q.db) w1 (w1.setCell ⟨Q.db,dn.length,none⟩ (.pointer (some ⟨d,0,none⟩))):=(Chg.refl (fun k=>k=Q.db) w1).setCell (p:=⟨Q.db,dn.length,none⟩) (.inl rfl) _
     have hN2:=hB.disked hE1 hD hd hm hil
     have hC4:=hE1.chg_trans hC3
     refine wpOp_skip (w':=w1.setCell ⟨Q.db,dn.length,none⟩ (.pointer (some ⟨d,0,none⟩))) rfl rfl (by go_simp) ⟨undef,rfl,d,m,hN2,hC4,hd,hm⟩
    case fin =>
     intro v w1 hTo
     obtain⟨d,m,hA,hC,hd,hm⟩:=hTo
     change Exit.inBlock 1 (Exit.then _ _) Exit.normal (putAll _ v _ 9) w1
     simp only[putAll,dstOf,Act.put]
     simp only[List.getElem?_toArray,List.getElem?_cons_zero,List.getElem?_cons_succ,Option.bind_some,List.setIfInBounds_toArray,List.set_cons_zero,List.set_cons_succ]
     generalize v 0=z0
     generalize v 1=z1
     generalize v 2=z2
     generalize v 3=z3
     generalize v 4=z4
     generalize v 5=z5
     generalize v 6=z6
     generalize v 7=z7
     have HA:=Lib.hid hA
     have HCC:=Lib.hid (HC.out.trans hC (fun k _ e=>e))
     clear hA hC hB hST
     go_wp2_with fail
     go_roundw
     case rel =>
      refine⟨dn++[(d,m)],by rw[List.length_append];go_num,by rw[List.length_append];simp;omega,HA.out,HCC.out,fun p hp=>?_⟩
      rcases List.mem_append.1 hp with hp|hp
      ·exact HDN.out p hp
      ·rw[List.mem_singleton.1 hp];exact⟨by show _≤d;omega,by show _≤m;omega⟩
     case measure=>simp[intOf];omega
   ·have hdn':dn.length=n:=by omega
    have hs0:=hC.size
    have hX:Ext w W:=Chg.mono (HE0.out.chg_trans hC) fun k hk e=>by
     have:=HQ.out _ (.inr (.inr rfl))
     rw[show k=Q.db from e]at hk
     omega
    have hlo:∀p∈dn,w.heap.size≤p.1∧w.heap.size≤p.2:=fun p hp=>by have:=hdn p hp;omega
    have H0:=Lib.hid (show ∃(up:List Ka) (dr:List (Nat×Nat)),up.length=0∧up.length+dr.length=n∧NetP W Q n up dr∧Ext w W∧(∀K∈up,∀k,K.has k→w.heap.size≤k)∧∀p∈dr,w.heap.size≤p.1∧w.heap.size≤p.2 from⟨[],dn,rfl,by simpa using hdn',hB,hX,(fun K hK=>by cases hK),hlo⟩)
    clear hdn' hs0 hX hlo hB hC hdn HB0 hdl
    go_wp2_with fail
    go_loopw [36] (fun iv wx=>∃(up:List Ka) (dr:List (Nat×Nat)),iv=.int .i64 (up.length:Int)∧up.length+dr.length=n∧NetP wx Q n up dr∧Ext w wx∧(∀K∈up,∀k,K.has k→w.heap.size≤k)∧∀p∈dr,w.heap.size≤p.1∧w.heap.size≤p.2) (fun iv _=>n - (intOf iv).toNat)
    case atStart =>
     obtain⟨up,dr,q0,q1,q2,q3,q4,q5⟩:=H0.out
     exact⟨up,dr,by rw[q0];rfl,q1,q2,q3,q4,q5⟩
    case round =>
     obtain⟨up,dr,rfl,hul,hN,hX,hup,hdr⟩:=hrel
     rename World=>wx
     clear H0
     cases dr with
     | nil =>
      have hul':up.length=n:=by simpa using hul
      have HU:=Lib.hid (hN.all_up hul')
      have HX:=Lib.hid hX
      have HUP:=Lib.hid hup
      have t3:¬ up.length<n:=by omega
      have HUL:=Lib.hid hul'
      clear hN hX hup hdr hul hul'
      go_wp2_with fail
      go_ret2
      refine⟨⟨Q.q,Q.nb,Q.db,.slice none 0 0,[]⟩,up,rfl,HU.out,HX.out,?_⟩
      rintro k ((e|e|e)|(e|⟨v,hv,_⟩)|⟨K,hK,hk⟩)
      ·exact HQ.out k (.inl e)
      ·exact HQ.out k (.inr (.inl e))
      ·exact HQ.out k (.inr (.inr e))
      ·cases e
      ·cases hv
      ·exact HUP.out K hK k hk
     | cons p dr =>
      obtain⟨d,m⟩:=p
      have hlt0:up.length<n:=by simp only[List.length_cons]at hul;omega
      obtain⟨hd,hm⟩:=hdr (d,m) (List.mem_cons_self ..)
      have hd':w.heap.size≤d:=hd
      have hm':w.heap.size≤m:=hm
      have cs:=startP_any wx Q n up dr d m hN hn5 hlt0 (hT.ext hX) (by omega)
      have HX:=Lib.hid hX
      have HUP:=Lib.hid hup
      have HDR:=Lib.hid hdr
      have hxs:=hX.size
      clear hN hX hup hdr hd hm
      go_wp2_with fail
      refine cs.mono ?_
      rintro e w2 ⟨rfl,r,hr,hN2,hC2⟩
      have HN2:=Lib.hid hN2
      have HC2:=Lib.hid hC2
      clear hN2 hC2 cs
      go_wp2_with fail
      go_roundw
      case rel =>
       refine⟨up++[Ka.opened r d m],dr,by rw[List.length_append];go_num,by rw[List.length_append];simp only[List.length_cons,List.length_nil]at hul⊢;omega,HN2.out,(HX.out.chg_trans HC2.out).mono fun k hk e=>?_,fun K hK k hk=>?_,fun p hp=>HDR.out p (List.mem_cons_of_mem _ hp)⟩
       ·have:=HQ.out Q.nb (.inr (.inl rfl))
        rcases e with e|e <;> omega
       ·rcases List.mem_append.1 hK with hK|hK
        ·exact HUP.out K hK k hk
        ·rw[List.mem_singleton.1 hK]at hk
         rcases opened_has hk with e|e|e <;> omega
      case measure=>simp[intOf];omega
end Go.Proofs.YtkkbfdencgdbhaaGreatDoor
