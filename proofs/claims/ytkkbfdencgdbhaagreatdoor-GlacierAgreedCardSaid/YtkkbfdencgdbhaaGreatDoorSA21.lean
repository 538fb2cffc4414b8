/-
  Part 21 of what the law leans on.
-/
import Derived.Test.YtkkbfdencgdbhaaGreatDoorSA1
import Derived.Test.YtkkbfdencgdbhaaGreatDoorSA19
import Derived.Deep.LoopGhost
import Derived.Deep.RegionWith
set_option linter.unusedVariables false
set_option linter.unusedSimpArgs false
set_option linter.unusedSectionVars false
namespace Go.Proofs.YtkkbfdencgdbhaaGreatDoor
open Go.RowKit Go.Sort
theorem beq_eq_decide(a b:Int):(a == b)=decide (a=b):=rfl
theorem and_one(v:Nat)(h:v<12):bits .and .i64 (v:Int) 1=((v % 2:Nat):Int):=by
 have:∀v:Nat,v<12→bits .and .i64 (v:Int) 1=((v % 2:Nat):Int):=by decide +kernel
 exact this v h
theorem pool_any(w:World)(v:Nat)(h:v<12):Calls Tryz.prog 126 #[.int .i64 v] w fun e w'=>e=.returned (.int .i64 ((v % 2:Nat):Int))∧w=w':=by
 have ha:=and_one v h
 go_enter Tryz.func126,Tryz.ntmps126
 go_wp2_with fail
 go_ret
 exact⟨rfl,rfl⟩
set_option maxHeartbeats 4000000 in
theorem on_any(w:World)(g:Nat)(b:Bl)(dv:Value)(hB:At w g 161 (blCells b dv))(v:Nat)(h:v<12) :
 Calls Tryz.prog 125 #[.pointer (some ⟨g,0,none⟩),.int .i64 v] w fun e w'=>e=.returned (.bool (onV v b))∧Ext w w':=by
 go_enter Tryz.func125,Tryz.ntmps125
 have b5:=hB.cell 5
 have b6:=hB.cell 6
 have b7:=hB.cell 7
 have b8:=hB.cell 8
 have b9:=hB.cell 9
 have b10:=hB.cell 10
 have hlt:=hB.lt
 simp at b5 b6 b7 b8 b9 b10
 have hpl:∀W,Calls Tryz.prog 126 #[.int .i64 v] W fun e w'=>e=.returned (.int .i64 ((v % 2:Nat):Int))∧W=w':=fun W=>pool_any W v h
 have HP:=Lib.hid hpl
 clear hpl
 have hv2:v % 2=0∨v % 2=1:=by omega
 go_wp2_with fail
 rcases hv2 with hv2|hv2
 ·have HV:=Lib.hid hv2
  rw[hv2]at HP
  clear hv2
  have hon:onV v b=(b.a.there&&decide (b.a.vol=(v:Int))):=by
   unfold onV
   have:=HV.out
   rw[if_neg (by omega)]
  have HO:=Lib.hid hon
  clear hon
  cases hth:b.a.there
  all_goals
   rw[hth]at HO
   rw[hth]at b5
   clear hth
   go_region_with ((go_at_call 126;refine(HP.out _).mono ?_;rintro e w' ⟨rfl,rfl⟩))
   all_goals
    go_wp2_with fail
    go_ret
    rw[HO.out]
    exact⟨by simp[beq_eq_decide],((Ext.refl w).alloc _).drew⟩
 ·have HV:=Lib.hid hv2
  rw[hv2]at HP
  clear hv2
  have hon:onV v b=(b.b.there&&decide (b.b.vol=(v:Int))):=by
   unfold onV
   have:=HV.out
   rw[if_pos (by omega)]
  have HO:=Lib.hid hon
  clear hon
  cases hth:b.b.there
  all_goals
   rw[hth]at HO
   rw[hth]at b8
   clear hth
   go_region_with ((go_at_call 126;refine(HP.out _).mono ?_;rintro e w' ⟨rfl,rfl⟩))
   all_goals
    go_wp2_with fail
    go_ret
    rw[HO.out]
    exact⟨by simp[beq_eq_decide],((Ext.refl w).alloc _).drew⟩
end Go.Proofs.YtkkbfdencgdbhaaGreatDoor
namespace Go.Proofs.YtkkbfdencgdbhaaGreatDoor
open Go.RowKit Go.Sort
theorem pinsOf_append(a b:List Bl):pinsOf (a++b)=pinsOf a+pinsOf b:=by
 induction a with
 | nil=>simp[pinsOf]
 | cons x r ih =>
  have e1:pinsOf (x::r++b)=x.pins+pinsOf (r++b):=rfl
  have e2:pinsOf (x::r)=x.pins+pinsOf r:=rfl
  rw[e1,e2,ih];omega
theorem pinsOf_perm{a b:List Bl}(h:a.Perm b):pinsOf a=pinsOf b:=by
 induction h with
 | nil=>rfl
 | @cons x l1 l2 _ ih=>show x.pins+pinsOf l1=x.pins+pinsOf l2;rw[ih]
 | swap x y l=>show y.pins+(x.pins+pinsOf l)=x.pins+(y.pins+pinsOf l);omega
 | trans _ _ h1 h2=>rw[h1,h2]
theorem pinsOf_bd{l:List Bl}{m:Nat}(h:∀b∈l,0≤b.pins∧b.pins≤m):0≤pinsOf l∧pinsOf l≤l.length * m:=by
 induction l with
 | nil=>simp[pinsOf]
 | cons x r ih =>
  have h1:=ih (fun b hb=>h b (List.mem_cons_of_mem _ hb))
  have h2:=h x (List.mem_cons_self ..)
  have e2:pinsOf (x::r)=x.pins+pinsOf r:=rfl
  rw[e2]
  refine⟨by omega,?_⟩
  rw[List.length_cons,Int.natCast_add,Int.add_mul]
  simp;omega
def onR(v:Int)(l:List BR):List Bl:=(l.filter fun r=>onV v r.b).map BR.b
theorem onR_snoc(v:Int)(l:List BR)(r:BR):onR v (l++[r])=onR v l++if onV v r.b then [r.b]else []:=by
 unfold onR
 rw[List.filter_append,List.map_append]
 congr 1
 cases h:onV v r.b <;> simp[h]
theorem onR_perm{v:Int}{l l':List BR}(h:l.Perm l'):(onR v l).Perm (onR v l'):=(h.filter _).map _
theorem Rep.perm{C:Ct}{P:Pm}{n:Nat}(h:Rep C P)(hi:PInv n P):(C.rows.map BR.b).Perm P.L:=by
 have n1:(C.rows.map BR.b).Nodup:=by
  have h2:=List.pairwise_map.1 h.rows.idn
  exact List.pairwise_map.2 (h2.imp fun {x y} e e'=>e (by rw[e']))
 have n2:P.L.Nodup:=hi.asc.imp fun {x y} e e'=>by subst e';omega
 exact(List.perm_ext_iff_of_nodup n1 n2).2 h.rows.mem
theorem Rep.onVol{C:Ct}{P:Pm}{n:Nat}(h:Rep C P)(hi:PInv n P)(v:Int):(onR v C.rows).Perm (P.onVol v):=by
 have:=(h.perm hi).filter (onV v)
 rw[List.filter_map]at this
 exact this
theorem RangeAt.perm{κ ν : Type}{K:KeyWay κ}{vv : ν → Value}{w:World}{b r:Nat}{L left left':List (κ × ν)}(h:RangeAt K vv w b r L left)(hp:left.Perm left'):RangeAt K vv w b r L left':=by
 obtain⟨es,clk,seen,h1,h2,h3,h4,h5⟩:=h
 exact⟨es,clk,seen,h1,h2,h3,h4,h5.trans (hp.map _)⟩
abbrev pairR(r:BR):Int×Nat:=((r.b.id:Int),r.g)
set_option maxRecDepth 100000 in
set_option maxHeartbeats 4000000 in
theorem liveR_any(w:World)(B:Nat→Prop)(c mb mn:Nat)(C:Ct)(h:CtAt w B c mb mn C)(v:Nat)(hv:v<12)(N:Nat)(hN:N≤1000000)(hl:C.rows.length≤1000000)(hp:∀r∈C.rows,0≤r.b.pins∧r.b.pins≤N) :
 Calls Tryz.prog 124 #[.pointer (some ⟨c,0,none⟩),.int .i64 v] w fun e w'=>e=.returned (.tuple #[.int .i64 (onR v C.rows).length,.int .i64 (pinsOf (onR v C.rows))])∧Ext w w':=by
 obtain⟨c0,c1⟩:=h.c0
 obtain⟨w0,hrun,hR,hE⟩:=h.bm.range map_blobs
 have HP:=Lib.hid hp
 clear hp
 go_enter Tryz.func124,Tryz.ntmps124
 go_wp2_with fail
 clear hrun c0 c1
 obtain⟨r,hr⟩:∃r,r=w.heap.size:=⟨_,rfl⟩
 rw[←hr]at hR⊢
 have hrg:w.heap.size≤r:=by omega
 clear hr
 go_loopg [6,7] C.rows.length (fun k n p wr=>∃rest done,rest.length=k∧C.rows.Perm (done++rest)∧n=.int .i64 (onR v done).length∧p=.int .i64 (pinsOf (onR v done))∧RangeAt u64Way ptrV wr mb r C.idx (rest.map pairR)∧Ext w wr)
 case atStart=>exact⟨C.rows,[],rfl,List.Perm.refl _,rfl,rfl,hR,hE⟩
 case round =>
  obtain⟨rest,done,rfl,hpm,rfl,rfl,hRk,hEk⟩:=hrel
  clear hR hE
  have hbd:=pinsOf_bd (l:=onR v done) (m:=N) (fun b hb=>by
   obtain⟨r',hr',rfl⟩:=List.mem_map.1 hb
   exact HP.out r' (hpm.mem_iff.2 (List.mem_append_left _ (List.mem_filter.1 hr').1)))
  have hln:(onR v done).length≤C.rows.length:=by
   unfold onR
   rw[List.length_map,hpm.length_eq,List.length_append]
   have:=List.length_filter_le (fun r:BR=>onV v r.b) done
   omega
  have hbd2:pinsOf (onR v done)≤1000000000000:=by
   refine Int.le_trans hbd.2 ?_
   have:(onR v done).length * N≤1000000 * 1000000:=Nat.mul_le_mul (by omega) hN
   rw[←Int.natCast_mul]
   omega
  have hb0:=hbd.1
  have HPM:=Lib.hid hpm
  clear hbd hpm
  rcases hRk.next (P:=Tryz.prog) 0 with⟨hrest,hrun⟩|⟨p,left',w1,hperm,hrun,hR1,hC1,hent⟩
  ·have hrun':∀ty,(Instr.next (.pointer (some ⟨r,0,none⟩)) false ty).run Tryz.prog wr=.ok (.tuple #[.bool false]) wr:=fun _=>hrun
   have hr0:rest=[]:=List.map_eq_nil_iff.1 hrest
   subst hr0
   have hq:=onR_perm (v:=(v:Int)) HPM.out
   rw[List.append_nil]at hq
   have HQ:=Lib.hid hq
   clear hrun hrest hq
   go_wp2_with fail
   go_ret2
   refine⟨?_,hEk⟩
   rw[HQ.out.length_eq,pinsOf_perm HQ.out]
   rfl
  ·have hmem:p∈rest.map pairR:=hperm.mem_iff.2 (List.mem_cons_self ..)
   obtain⟨q,hq,rfl⟩:=List.mem_map.1 hmem
   obtain⟨s,t,rfl⟩:=List.append_of_mem hq
   have hleft:left'.Perm ((s++t).map pairR):=by
    have h1:((s++q::t).map pairR).Perm (pairR q::(s++t).map pairR):=by
     rw[List.map_append,List.map_cons,List.map_append];exact List.perm_middle
    exact(List.perm_cons _).1 (hperm.symm.trans h1)
   have hpm2:C.rows.Perm ((done++[q])++(s++t)):=by
    refine HPM.out.trans ?_
    rw[List.append_assoc]
    exact(List.perm_middle (l₁:=s)).append_left done
   have hqC:q∈C.rows:=hpm2.mem_iff.2 (by simp)
   have hpq:=HP.out q hqC
   have hrun':∀ty,(Instr.next (.pointer (some ⟨r,0,none⟩)) false ty).run Tryz.prog wr=.ok (.tuple #[.bool true,.int .u64 (q.b.id:Int),.pointer (some ⟨q.g,0,none⟩)]) w1:=fun _=>hrun
   have hent':(Instr.entry (.pointer (some ⟨r,0,none⟩))).run Tryz.prog w1=.ok (.tuple #[.int .u64 (q.b.id:Int),.pointer (some ⟨q.g,0,none⟩)]) w1:=hent
   have hE1:Ext w w1:=Chg.trans hEk hC1 (fun k hk h=>by have h':k=r:=h;omega)
   have hR2:=hR1.perm hleft
   have hC2:=h.ext hE1
   have HPM2:=Lib.hid hpm2
   have hlen:(s++t).length<(s++q::t).length:=by simp
   have hsn:=onR_snoc (v:Int) done q
   have HSN:=Lib.hid hsn
   clear hrun hent hperm hleft hpm2 hRk hEk hC1 hR1 HPM hmem hq hsn
   have hbq:=(hC2.bl q hqC).1
   have HON:=Lib.hid (on_any w1 q.g q.b q.dv hbq v hv)
   go_wp2_with fail
   refine HON.out.mono ?_
   rintro e w2 ⟨rfl,hE2⟩
   have b11:=(hbq.ext hE2).cell 11
   simp at b11
   have hE3:=hE1.trans hE2
   have hR3:=hR2.ext hE2
   clear HON hE1 hE2 hR2 hrun' hent' hC2
   cases hon:onV (v:Int) q.b
   ·rw[hon,if_neg (by simp),List.append_nil]at HSN
    go_wp2_with fail
    go_roundg (s++t).length
    case measure=>exact hlen
    case rel=>exact⟨s++t,done++[q],rfl,HPM2.out,by rw[HSN.out],by rw[HSN.out],hR3,hE3⟩
   ·rw[hon,if_pos rfl]at HSN
    go_wp2_with fail
    go_roundg (s++t).length
    case measure=>exact hlen
    case rel=>exact⟨s++t,done++[q],rfl,HPM2.out,by rw[HSN.out,List.length_append];go_num,by rw[HSN.out,pinsOf_append];congr 1;simp[pinsOf],hR3,hE3⟩
end Go.Proofs.YtkkbfdencgdbhaaGreatDoor
namespace Go.Proofs.YtkkbfdencgdbhaaGreatDoor
open Go.RowKit Go.Sort
theorem vol_flat(vs:List Vl)(v j:Nat)(hj:j<3):(vs.map vlRow).flatten[3 * v+j]? = (vs[v]?).bind fun x=>(vlRow x)[j]? := by
 induction vs generalizing v with
 | nil=>simp
 | cons x r ih =>
  rw[List.map_cons,List.flatten_cons]
  cases v with
  | zero =>
   rw[List.getElem?_append_left (by simp[vlRow];omega)]
   simp
  | succ v =>
   rw[List.getElem?_append_right (by simp[vlRow];omega)]
   have e:3 * (v+1)+j - (vlRow x).length=3 * v+j:=by simp[vlRow];omega
   rw[e,ih v]
   simp
theorem vol_cells{w:World}{B:Nat→Prop}{c mb mn:Nat}{C:Ct}(h:CtAt w B c mb mn C)(v:Nat)(hv:v<12) :
 w.cell? ⟨c,2+v * 3,none⟩=some (.bool (C.vols.getD v Vl.zero).closed)∧w.cell? ⟨c,2+v * 3+1,none⟩=some (.bool (C.vols.getD v Vl.zero).erase)∧w.cell? ⟨c,2+v * 3+2,none⟩=some (.int .i64 (C.vols.getD v Vl.zero).gen):=by
 have hl:=h.vlen
 have hx:C.vols[v]? = some (C.vols.getD v Vl.zero):=by
  rw[List.getD_eq_getElem?_getD,List.getElem?_eq_getElem (by omega)];rfl
 have hg:∀j,j<3→w.cell? ⟨c,2+v * 3+j,none⟩=(vlRow (C.vols.getD v Vl.zero))[j]? := fun j hj=>by
  rw[h.blk.cell]
  have e1:2+v * 3+j=(3 * v+j)+2:=by omega
  rw[e1,List.getElem?_toArray]
  show(Value.map (some mb)::Value.map (some mn)::(C.vols.map vlRow).flatten)[(3 * v+j)+2]? = _
  rw[List.getElem?_cons_succ,List.getElem?_cons_succ,vol_flat _ _ _ hj,hx]
  rfl
 exact⟨hg 0 (by omega),hg 1 (by omega),hg 2 (by omega)⟩
theorem vol_set(vs:List Vl)(v j:Nat)(x x':Vl)(u:Value)(hj:j<3)(hx:vs[v]? = some x)(hr:vlRow x'=(vlRow x).set j u):((vs.map vlRow).flatten).set (3 * v+j) u=((vs.set v x').map vlRow).flatten:=by
 induction vs generalizing v with
 | nil=>cases hx
 | cons y r ih =>
  rw[List.map_cons,List.flatten_cons]
  cases v with
  | zero =>
   injection hx with hx
   subst hx
   rw[List.set_append_left _ _ (by simp[vlRow];omega),List.set_cons_zero,List.map_cons,List.flatten_cons,hr]
   simp
  | succ v =>
   have e:3 * (v+1)+j - (vlRow y).length=3 * v+j:=by simp[vlRow];omega
   rw[List.set_append_right _ _ (by simp[vlRow];omega),e,ih v hx,List.set_cons_succ,List.map_cons,List.flatten_cons]
abbrev ctCells(mb mn:Nat)(vs:List Vl):Array Value:=(.map (some mb) :: .map (some mn)::(vs.map vlRow).flatten).toArray
theorem At.setVol{w:World}{c mb mn v j:Nat}{vs:List Vl}{x x':Vl}{u:Value}(h:At w c 137 (ctCells mb mn vs))(hj:j<3)(hx:vs[v]? = some x)(hr:vlRow x'=(vlRow x).set j u) :
 At (w.setCell ⟨c,2+v * 3+j,none⟩ u) c 137 (ctCells mb mn (vs.set v x')):=by
 have h1:=At.set h (2+v * 3+j) u
 have e:(ctCells mb mn vs).setIfInBounds (2+v * 3+j) u=ctCells mb mn (vs.set v x'):=by
  unfold ctCells
  rw[List.setIfInBounds_toArray,show 2+v * 3+j=(3 * v+j)+1+1 by omega,List.set_cons_succ,List.set_cons_succ,vol_set vs v j x x' u hj hx hr]
 rw[e]at h1
 exact h1
def Ct.setVols(C:Ct)(vs:List Vl):Ct := { C with vols:=vs }
theorem CtAt.chgVols{w w':World}{B:Nat→Prop}{c mb mn:Nat}{C:Ct}{vs:List Vl}(h:CtAt w B c mb mn C)(hC:Chg (· = c) w w')(hA:At w' c 137 (ctCells mb mn vs))(hl:vs.length=12):CtAt w' B c mb mn (C.setVols vs) where
 blk:=hA
 bm:=h.bm.chg hC (fun e=>h.bm.ne_at h.blk e)
 nm:=h.nm.chg hC (fun e=>h.nm.ne_at h.blk e)
 bl:=fun r hr=>⟨(h.bl r hr).1.chg hC (fun e=>At.ne h.blk (h.bl r hr).1 (by decide) (Eq.symm e)),own_keep (h.bl r hr).2 hC (fun k hk e=>own_apart' (h.bl r hr).2 h.blk (by decide) k hk e)⟩
 inj:=h.inj
 vlen:=hl
 mne:=h.mne
 up:=up_chg h.up hC
 lo:=h.lo
 dl:=h.dl
end Go.Proofs.YtkkbfdencgdbhaaGreatDoor
namespace Go.Proofs.YtkkbfdencgdbhaaGreatDoor
open Go.RowKit Go.Sort
theorem vols_get{C:Ct}{v:Nat}(h:C.vols.length=12)(hv:v<12):C.vols[v]? = some (C.vols.getD v Vl.zero):=by
 rw[List.getD_eq_getElem?_getD,List.getElem?_eq_getElem (by omega)];rfl
section volume
variable(w:World)(B:Nat→Prop)(c mb mn:Nat)(C:Ct)(h:CtAt w B c mb mn C)(x:Cmd)(dv:Value)(v:Nat)(hv:v<12)(hxv:x.vol=(v:Int))
include h hv hxv
set_option maxRecDepth 100000 in
set_option maxHeartbeats 4000000 in
theorem vol_close(hk:x.kind=11)  :
 Calls Tryz.prog 75 #[.pointer (some ⟨c,0,none⟩),cmdVal x dv] w fun e w'=>e=.returned (.int .i64 0)∧CtAt w' B c mb mn (C.setVols (C.vols.set v { C.vols.getD v Vl.zero with closed:=true }))∧Chg (· = c) w w':=by
 have HK:=Lib.hid hk
 have HXV:=Lib.hid hxv
 clear hk hxv
 have hvl:=vols_get h.vlen hv
 generalize hy:C.vols.getD v Vl.zero=y at *
 unfold cmdVal
 go_enter Tryz.func75,Tryz.ntmps75
 have hX:=At.new w 39 (cmdCells x dv)
 have hE:=(Ext.refl w).alloc (.cells (cmdCells x dv) 39)
 have HVL:=Lib.hid hvl
 have HY:=Lib.hid hy
 clear hvl hy
 go_upto_region 1 with fail
 generalize hxb:w.heap.size=xb at *
 generalize World.alloc _ _=W at *
 have hC:=h.ext hE
 obtain⟨v0,v1,v2⟩:=vol_cells hC v hv
 rw[HY.out]at v0 v1 v2
 have x9:=hX.cell 9
 have x0:=hX.cell 0
 simp at x9 x0
 rw[HXV.out]at x9
 rw[HK.out]at x0
 go_region
 clear x9 x0 v0 v1 v2
 have hX1:=hX.drew
 have hC1:=hC.ext ((Ext.refl W).drew)
 have hE1:=hE.drew
 clear hX hC hE
 generalize World.drew _=W1 at *
 obtain⟨v0,v1,v2⟩:=vol_cells hC1 v hv
 rw[HY.out]at v0 v1 v2
 have x9:=hX1.cell 9
 have x0:=hX1.cell 0
 simp at x9 x0
 rw[HXV.out]at x9
 rw[HK.out]at x0
 have f0:=hC1.blk.frozen (2+v * 3)
 have f1:=hC1.blk.frozen (2+v * 3+1)
 have f2:=hC1.blk.frozen (2+v * 3+2)
 have hcB:=hC1.lo.1
 have hA:=At.setVol (j:=0) (x' := { y with closed:=true }) (u:=.bool true) hC1.blk (by omega) HVL.out rfl
 have hCs:=(hE1.chg (S:=(· = c))).setCell (p:=⟨c,2+v * 3+0,none⟩) (.inl rfl) (.bool true)
 have hC2:=hC1.chgVols ((Chg.refl (· = c) W1).setCell (p:=⟨c,2+v * 3+0,none⟩) (.inl rfl) (.bool true)) hA (by rw[List.length_set];exact hC1.vlen)
 rw[Nat.add_zero]at hCs hC2
 have HR:=Lib.hid (show _∧_ from⟨hCs,hC2⟩)
 clear hA hCs hC2 h
 go_wp2_with fail
 go_ret
 obtain⟨hCs,hC2⟩:=HR.out
 refine⟨rfl,?_,hCs⟩
 exact hC2
set_option maxRecDepth 100000 in
set_option maxHeartbeats 4000000 in
theorem vol_erase_ok(hk:x.kind=12)(N:Nat)(hN:N≤1000000)(hl:C.rows.length≤1000000)(hp:∀r∈C.rows,0≤r.b.pins∧r.b.pins≤N)(ho:onR v C.rows=[]) :
 Calls Tryz.prog 75 #[.pointer (some ⟨c,0,none⟩),cmdVal x dv] w fun e w'=>e=.returned (.int .i64 0)∧CtAt w' B c mb mn (C.setVols (C.vols.set v { C.vols.getD v Vl.zero with closed:=true,erase:=true }))∧Chg (· = c) w w':=by
 have HK:=Lib.hid hk
 have HXV:=Lib.hid hxv
 clear hk hxv
 have hvl:=vols_get h.vlen hv
 generalize hy:C.vols.getD v Vl.zero=y at *
 unfold cmdVal
 go_enter Tryz.func75,Tryz.ntmps75
 have hX:=At.new w 39 (cmdCells x dv)
 have hE:=(Ext.refl w).alloc (.cells (cmdCells x dv) 39)
 have HVL:=Lib.hid hvl
 have HY:=Lib.hid hy
 clear hvl hy
 go_upto_region 1 with fail
 generalize hxb:w.heap.size=xb at *
 generalize World.alloc _ _=W at *
 have hC:=h.ext hE
 obtain⟨v0,v1,v2⟩:=vol_cells hC v hv
 rw[HY.out]at v0 v1 v2
 have x9:=hX.cell 9
 have x0:=hX.cell 0
 simp at x9 x0
 rw[HXV.out]at x9
 rw[HK.out]at x0
 go_region
 clear x9 x0 v0 v1 v2
 have hX1:=hX.drew
 have hC1:=hC.ext ((Ext.refl W).drew)
 have hE1:=hE.drew
 clear hX hC hE
 generalize World.drew _=W1 at *
 obtain⟨v0,v1,v2⟩:=vol_cells hC1 v hv
 rw[HY.out]at v0 v1 v2
 have x9:=hX1.cell 9
 have x0:=hX1.cell 0
 simp at x9 x0
 rw[HXV.out]at x9
 rw[HK.out]at x0
 have f0:=hC1.blk.frozen (2+v * 3)
 have f1:=hC1.blk.frozen (2+v * 3+1)
 have f2:=hC1.blk.frozen (2+v * 3+2)
 have hcB:=hC1.lo.1
 have HL:=Lib.hid (liveR_any W1 B c mb mn C hC1 v hv N hN hl hp)
 have HP:=Lib.hid hp
 clear hp v0 v1 v2
 rw[ho]at HL
 go_wp2_with fail
 refine HL.out.mono ?_
 rintro e W2 ⟨rfl,hE2⟩
 have hC2:=hC1.ext hE2
 have hE3:=hE1.trans hE2
 clear HL hC1 hE1 hE2 f0 f1 f2 x0 x9 hX1
 have f0:=hC2.blk.frozen (2+v * 3)
 have f1:=hC2.blk.frozen (2+v * 3+1)
 obtain⟨v0,v1,v2⟩:=vol_cells hC2 v hv
 rw[HY.out]at v0 v1 v2
 have hA1:=At.setVol (j:=0) (x' := { y with closed:=true }) (u:=.bool true) hC2.blk (by omega) HVL.out rfl
 have hg1:(C.vols.set v { y with closed:=true })[v]? = some { y with closed:=true } := by
  rw[List.getElem?_set,if_pos rfl,if_pos (by have:=hC2.vlen;omega)]
 have hA2:=At.setVol (j:=1) (x' := { y with closed:=true,erase:=true }) (u:=.bool true) hA1 (by omega) hg1 rfl
 rw[List.set_set]at hA2
 have hCs0:=((Chg.refl (· = c) W2).setCell (p:=⟨c,2+v * 3+0,none⟩) (.inl rfl) (.bool true)).setCell (p:=⟨c,2+v * 3+1,none⟩) (.inl rfl) (.bool true)
 have hC3:=hC2.chgVols hCs0 hA2 (by rw[List.length_set];exact hC2.vlen)
 have hCs:=hE3.chg_trans hCs0
 rw[Nat.add_zero]at hCs hC3
 have HR:=Lib.hid (show _∧_ from⟨hCs,hC3⟩)
 clear hA1 hA2 hg1 hCs0 hCs hC3 h
 go_wp2_with fail
 go_ret
 obtain⟨hCs,hC3⟩:=HR.out
 refine⟨rfl,?_,hCs⟩
 exact hC3
set_option maxRecDepth 100000 in
set_option maxHeartbeats 4000000 in
theorem vol_erase_no(hk:x.kind=12)(N:Nat)(hN:N≤1000000)(hl:C.rows.length≤1000000)(hp:∀r∈C.rows,0≤r.b.pins∧r.b.pins≤N)(ho:onR v C.rows≠[]) :
 Calls Tryz.prog 75 #[.pointer (some ⟨c,0,none⟩),cmdVal x dv] w fun e w'=>e=.returned (.int .i64 10)∧Ext w w':=by
 have HK:=Lib.hid hk
 have HXV:=Lib.hid hxv
 clear hk hxv
 have hvl:=vols_get h.vlen hv
 generalize hy:C.vols.getD v Vl.zero=y at *
 unfold cmdVal
 go_enter Tryz.func75,Tryz.ntmps75
 have hX:=At.new w 39 (cmdCells x dv)
 have hE:=(Ext.refl w).alloc (.cells (cmdCells x dv) 39)
 have HVL:=Lib.hid hvl
 have HY:=Lib.hid hy
 clear hvl hy
 go_upto_region 1 with fail
 generalize hxb:w.heap.size=xb at *
 generalize World.alloc _ _=W at *
 have hC:=h.ext hE
 obtain⟨v0,v1,v2⟩:=vol_cells hC v hv
 rw[HY.out]at v0 v1 v2
 have x9:=hX.cell 9
 have x0:=hX.cell 0
 simp at x9 x0
 rw[HXV.out]at x9
 rw[HK.out]at x0
 go_region
 clear x9 x0 v0 v1 v2
 have hX1:=hX.drew
 have hC1:=hC.ext ((Ext.refl W).drew)
 have hE1:=hE.drew
 clear hX hC hE
 generalize World.drew _=W1 at *
 obtain⟨v0,v1,v2⟩:=vol_cells hC1 v hv
 rw[HY.out]at v0 v1 v2
 have x9:=hX1.cell 9
 have x0:=hX1.cell 0
 simp at x9 x0
 rw[HXV.out]at x9
 rw[HK.out]at x0
 have f0:=hC1.blk.frozen (2+v * 3)
 have f1:=hC1.blk.frozen (2+v * 3+1)
 have f2:=hC1.blk.frozen (2+v * 3+2)
 have hcB:=hC1.lo.1
 have HL:=Lib.hid (liveR_any W1 B c mb mn C hC1 v hv N hN hl hp)
 have HP:=Lib.hid hp
 clear hp v0 v1 v2
 go_wp2_with fail
 refine HL.out.mono ?_
 rintro e W2 ⟨rfl,hE2⟩
 have hC2:=hC1.ext hE2
 have hE3:=hE1.trans hE2
 clear HL hC1 hE1 hE2 f0 f1 f2 x0 x9 hX1
 have f0:=hC2.blk.frozen (2+v * 3)
 have f1:=hC2.blk.frozen (2+v * 3+1)
 obtain⟨v0,v1,v2⟩:=vol_cells hC2 v hv
 rw[HY.out]at v0 v1 v2
 have hlen:0<(onR v C.rows).length:=List.length_pos_iff.2 ho
 generalize (onR v C.rows).length=q at *
 clear ho h
 go_wp2_with fail
 go_ret
 exact⟨rfl,hE3⟩
set_option maxRecDepth 100000 in
set_option maxHeartbeats 4000000 in
theorem vol_erased_no(hk:x.kind=13)(he:(C.vols.getD v Vl.zero).erase=false) :
 Calls Tryz.prog 75 #[.pointer (some ⟨c,0,none⟩),cmdVal x dv] w fun e w'=>e=.returned (.int .i64 16)∧Ext w w':=by
 have HK:=Lib.hid hk
 have HXV:=Lib.hid hxv
 clear hk hxv
 have hvl:=vols_get h.vlen hv
 generalize hy:C.vols.getD v Vl.zero=y at *
 unfold cmdVal
 go_enter Tryz.func75,Tryz.ntmps75
 have hX:=At.new w 39 (cmdCells x dv)
 have hE:=(Ext.refl w).alloc (.cells (cmdCells x dv) 39)
 have HE:=Lib.hid he
 clear he
 have HVL:=Lib.hid hvl
 have HY:=Lib.hid hy
 clear hvl hy
 go_upto_region 1 with fail
 generalize hxb:w.heap.size=xb at *
 generalize World.alloc _ _=W at *
 have hC:=h.ext hE
 obtain⟨v0,v1,v2⟩:=vol_cells hC v hv
 rw[HY.out]at v0 v1 v2
 have x9:=hX.cell 9
 have x0:=hX.cell 0
 simp at x9 x0
 rw[HXV.out]at x9
 rw[HK.out]at x0
 go_region
 clear x9 x0 v0 v1 v2
 have hX1:=hX.drew
 have hC1:=hC.ext ((Ext.refl W).drew)
 have hE1:=hE.drew
 clear hX hC hE
 generalize World.drew _=W1 at *
 obtain⟨v0,v1,v2⟩:=vol_cells hC1 v hv
 rw[HY.out]at v0 v1 v2
 have x9:=hX1.cell 9
 have x0:=hX1.cell 0
 simp at x9 x0
 rw[HXV.out]at x9
 rw[HK.out]at x0
 have f0:=hC1.blk.frozen (2+v * 3)
 have f1:=hC1.blk.frozen (2+v * 3+1)
 have f2:=hC1.blk.frozen (2+v * 3+2)
 have hcB:=hC1.lo.1
 rw[HE.out]at v1
 clear h
 go_wp2_with fail
 go_ret
 exact⟨rfl,hE1⟩
set_option maxRecDepth 100000 in
set_option maxHeartbeats 4000000 in
theorem vol_erased_ok(hk:x.kind=13)(he:(C.vols.getD v Vl.zero).erase=true)(hg:0≤(C.vols.getD v Vl.zero).gen∧(C.vols.getD v Vl.zero).gen≤4611686018427387904) :
 Calls Tryz.prog 75 #[.pointer (some ⟨c,0,none⟩),cmdVal x dv] w fun e w'=>e=.returned (.int .i64 0)∧CtAt w' B c mb mn (C.setVols (C.vols.set v ⟨false,false,(C.vols.getD v Vl.zero).gen+1⟩))∧Chg (· = c) w w':=by
 have HK:=Lib.hid hk
 have HXV:=Lib.hid hxv
 clear hk hxv
 have hvl:=vols_get h.vlen hv
 generalize hy:C.vols.getD v Vl.zero=y at *
 unfold cmdVal
 go_enter Tryz.func75,Tryz.ntmps75
 have hX:=At.new w 39 (cmdCells x dv)
 have hE:=(Ext.refl w).alloc (.cells (cmdCells x dv) 39)
 have HE:=Lib.hid he
 clear he
 have HVL:=Lib.hid hvl
 have HY:=Lib.hid hy
 clear hvl hy
 go_upto_region 1 with fail
 generalize hxb:w.heap.size=xb at *
 generalize World.alloc _ _=W at *
 have hC:=h.ext hE
 obtain⟨v0,v1,v2⟩:=vol_cells hC v hv
 rw[HY.out]at v0 v1 v2
 have x9:=hX.cell 9
 have x0:=hX.cell 0
 simp at x9 x0
 rw[HXV.out]at x9
 rw[HK.out]at x0
 go_region
 clear x9 x0 v0 v1 v2
 have hX1:=hX.drew
 have hC1:=hC.ext ((Ext.refl W).drew)
 have hE1:=hE.drew
 clear hX hC hE
 generalize World.drew _=W1 at *
 obtain⟨v0,v1,v2⟩:=vol_cells hC1 v hv
 rw[HY.out]at v0 v1 v2
 have x9:=hX1.cell 9
 have x0:=hX1.cell 0
 simp at x9 x0
 rw[HXV.out]at x9
 rw[HK.out]at x0
 have f0:=hC1.blk.frozen (2+v * 3)
 have f1:=hC1.blk.frozen (2+v * 3+1)
 have f2:=hC1.blk.frozen (2+v * 3+2)
 have hcB:=hC1.lo.1
 rw[HE.out]at v1
 have hA1:=At.setVol (j:=0) (x' := { y with closed:=false }) (u:=.bool false) hC1.blk (by omega) HVL.out rfl
 have hg1:(C.vols.set v { y with closed:=false })[v]? = some { y with closed:=false } := by
  rw[List.getElem?_set,if_pos rfl,if_pos (by have:=hC1.vlen;omega)]
 have hA2:=At.setVol (j:=1) (x' := { y with closed:=false,erase:=false }) (u:=.bool false) hA1 (by omega) hg1 rfl
 rw[List.set_set]at hA2
 have hg2:(C.vols.set v { y with closed:=false,erase:=false })[v]? = some { y with closed:=false,erase:=false } := by
  rw[List.getElem?_set,if_pos rfl,if_pos (by have:=hC1.vlen;omega)]
 have hA3:=At.setVol (j:=2) (x':=⟨false,false,y.gen+1⟩) (u:=.int .i64 (y.gen+1)) hA2 (by omega) hg2 rfl
 rw[List.set_set]at hA3
 have hCs0:=(((Chg.refl (· = c) W1).setCell (p:=⟨c,2+v * 3+0,none⟩) (.inl rfl) (.bool false)).setCell (p:=⟨c,2+v * 3+1,none⟩) (.inl rfl) (.bool false)).setCell (p:=⟨c,2+v * 3+2,none⟩) (.inl rfl) (.int .i64 (y.gen+1))
 have hC3:=hC1.chgVols hCs0 hA3 (by rw[List.length_set];exact hC1.vlen)
 have hCs:=hE1.chg_trans hCs0
 rw[Nat.add_zero]at hCs hC3
 have HR:=Lib.hid (show _∧_ from⟨hCs,hC3⟩)
 clear hA1 hA2 hA3 hg1 hg2 hCs0 hCs hC3 h
 go_wp2_with fail
 go_ret
 obtain⟨hCs,hC3⟩:=HR.out
 refine⟨rfl,?_,hCs⟩
 exact hC3
end volume
end Go.Proofs.YtkkbfdencgdbhaaGreatDoor
