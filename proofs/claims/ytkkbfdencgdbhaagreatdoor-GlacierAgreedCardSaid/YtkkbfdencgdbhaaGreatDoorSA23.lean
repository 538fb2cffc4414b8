/-
  Part 23 of what the law leans on.
-/
import Derived.Test.YtkkbfdencgdbhaaGreatDoorSA15
import Derived.Test.YtkkbfdencgdbhaaGreatDoorSA18
import Derived.Test.YtkkbfdencgdbhaaGreatDoorSA21
import Derived.Test.YtkkbfdencgdbhaaGreatDoorSA22
set_option linter.unusedVariables false
set_option linter.unusedSimpArgs false
set_option linter.unusedSectionVars false
namespace Go.Proofs.YtkkbfdencgdbhaaGreatDoor
open Go.RowKit Go.Sort
section change
variable(w:World)(B:Nat→Prop)(c mb mn:Nat)(C:Ct)(h:CtAt w B c mb mn C){r:BR}(hr:r∈C.rows)(x:Cmd)(dv:Value)
include h hr
set_option maxRecDepth 100000 in
set_option maxHeartbeats 4000000 in
theorem spread_arg(hk:x.kind=7)(hdv:∃A cp,dv=.slice A 0 cp) :
 Calls Tryz.prog 77 #[.pointer (some ⟨c,0,none⟩),.pointer (some ⟨r.g,0,none⟩),cmdVal x dv] w fun e w'=>e=.returned (.int .i64 1)∧Ext w w':=by
 have HK:=Lib.hid hk
 clear hk
 obtain⟨dA,dc,hdv⟩:=hdv
 have HDV:=Lib.hid hdv
 clear hdv
 unfold cmdVal
 go_enter Tryz.func77,Tryz.ntmps77
 have hX:=At.new w 39 (cmdCells x dv)
 have hE:=(Ext.refl w).alloc (.cells (cmdCells x dv) 39)
 go_upto_region 1 with fail
 generalize hxb:w.heap.size=xb at *
 generalize World.alloc _ _=W at *
 have hC:=h.ext hE
 have hB:=(hC.bl r hr).1
 have hO:=(hC.bl r hr).2
 have hgB:=hC.lo.2.2.2 r hr
 have x0:=hX.cell 0
 have x7:=hX.cell 7
 simp at x0 x7
 rw[HK.out]at x0
 rw[HDV.out]at x7
 clear h hC hB hO hX HDV
 go_wp2_with fail
 go_ret
 exact⟨rfl,hE⟩
set_option maxRecDepth 100000 in
set_option maxHeartbeats 4000000 in
theorem spread_no(hk:x.kind=7)(hdv:∃A cp,dv=.slice A x.disks.length cp)(hd:x.disks≠[])(hb:r.b.disks=[]) :
 Calls Tryz.prog 77 #[.pointer (some ⟨c,0,none⟩),.pointer (some ⟨r.g,0,none⟩),cmdVal x dv] w fun e w'=>e=.returned (.int .i64 16)∧Ext w w':=by
 have HK:=Lib.hid hk
 clear hk
 obtain⟨dA,dc,hdv⟩:=hdv
 have HDV:=Lib.hid hdv
 clear hdv
 have hl:((x.disks.length:Int) == 0)=false:=by
  have:=List.length_pos_iff.2 hd
  rw[beq_eq_false_iff_ne];omega
 have hbl:r.b.disks.length=0:=by rw[hb];rfl
 have HBL:=Lib.hid hbl
 clear hd hb hbl
 unfold cmdVal
 go_enter Tryz.func77,Tryz.ntmps77
 have hX:=At.new w 39 (cmdCells x dv)
 have hE:=(Ext.refl w).alloc (.cells (cmdCells x dv) 39)
 go_upto_region 1 with fail
 generalize hxb:w.heap.size=xb at *
 generalize World.alloc _ _=W at *
 have hC:=h.ext hE
 have hB:=(hC.bl r hr).1
 have hO:=(hC.bl r hr).2
 have hgB:=hC.lo.2.2.2 r hr
 have x0:=hX.cell 0
 have x7:=hX.cell 7
 simp at x0 x7
 rw[HK.out]at x0
 obtain⟨bA,bc,hdv⟩:=own_slc hO
 have b4:=hB.cell 4
 simp at b4
 rw[hdv,HBL.out]at b4
 rw[HDV.out]at x7
 clear hdv HDV h hC hB hO hX
 go_wp2_with fail
 go_ret
 exact⟨rfl,hE⟩
set_option maxRecDepth 100000 in
set_option maxHeartbeats 4000000 in
theorem spread_ok(hk:x.kind=7)(hdv:w.ownsRow 0 3 1 dv x.disks.length (x.disks.map (Value.int .i64)))(hdl:x.disks.length≤17592186043904)(hd:x.disks≠[])(hb:r.b.disks≠[]) :
 Calls Tryz.prog 77 #[.pointer (some ⟨c,0,none⟩),.pointer (some ⟨r.g,0,none⟩),cmdVal x dv] w fun e w'=>∃dv',e=.returned (.int .i64 0)∧CtAt w' B c mb mn (C.upd r.g { r.b with disks:=x.disks } dv')∧Chg (C.S c mb mn) w w':=by
 have HK:=Lib.hid hk
 clear hk
 have hl:((x.disks.length:Int) == 0)=false:=by
  have:=List.length_pos_iff.2 hd
  rw[beq_eq_false_iff_ne];omega
 have hbl:((r.b.disks.length:Int) == 0)=false:=by
  have:=List.length_pos_iff.2 hb
  rw[beq_eq_false_iff_ne];omega
 clear hd hb
 obtain⟨dA,dc,hdv2⟩:=own_slc hdv
 have HDV:=Lib.hid hdv2
 clear hdv2
 unfold cmdVal
 go_enter Tryz.func77,Tryz.ntmps77
 have hX:=At.new w 39 (cmdCells x dv)
 have hE:=(Ext.refl w).alloc (.cells (cmdCells x dv) 39)
 go_upto_region 1 with fail
 generalize hxb:w.heap.size=xb at *
 generalize World.alloc _ _=W at *
 have hC:=h.ext hE
 have hB:=(hC.bl r hr).1
 have hO:=(hC.bl r hr).2
 have hgB:=hC.lo.2.2.2 r hr
 have x0:=hX.cell 0
 have x7:=hX.cell 7
 simp at x0 x7
 rw[HK.out]at x0
 obtain⟨bA,bc,hdb⟩:=own_slc hO
 have hS2:=Sl.of_own (own_keep hdv hE (fun _ _ hh=>hh))
 have b4:=hB.cell 4
 simp at b4
 rw[hdb]at b4
 have HCL:=Lib.hid (clone_any W _ x.disks hS2 hdl)
 rw[HDV.out]at x7 HCL
 clear hS2 hdb hdv HDV
 go_wp2_with fail
 refine HCL.out.mono ?_
 rintro e W2 ⟨v',rfl,hOc,hEc⟩
 have hC2:=hC.ext hEc
 have hB2:=hB.ext hEc
 have hE2:=hE.trans hEc
 obtain⟨vA,vc,rfl⟩:=own_slc hOc
 have hb4:∃q,W2.cell? ⟨r.g,4,none⟩=some q:=⟨_,hB2.cell 4⟩
 obtain⟨q4,hq4⟩:=hb4
 have f4:=hB2.frozen 4
 have hCs:=(Chg.refl (· = r.g) W2).setCell (p:=⟨r.g,4,none⟩) (.inl rfl) (.slice vA x.disks.length vc)
 have hB3:At (W2.setCell ⟨r.g,4,none⟩ (.slice vA x.disks.length vc)) r.g 161 (blCells { r.b with disks:=x.disks } (.slice vA x.disks.length vc)):=hB2.set 4 _
 have hC3:=hC2.chgBlob hr (b := { r.b with disks:=x.disks }) (dv:=.slice vA x.disks.length vc) rfl hCs hB3 (own_keep (own_base0 hOc) hCs (fun k hk e=>own_apart' (own_base0 hOc) hB2 (by decide) k hk e)) (fun k hk=>hC.up k (hOc.lt k hk.symm).1)
 have HR:=Lib.hid (show _∧_ from⟨hC3,Chg.trans (S:=C.S c mb mn) (Chg.mono hE2 (fun _ _ hh=>hh.elim)) hCs (fun k _ e=>by have e':k=r.g:=e;exact .inr (.inr (.inr ⟨r,hr,e'⟩)))⟩)
 clear hC hB hO hX hC2 hB2 hCs hB3 hC3 HCL hEc hE2 hE hOc h b4 x0 x7
 go_wp2_with fail
 go_ret
 exact⟨_,rfl,HR.out⟩
set_option maxRecDepth 100000 in
set_option maxHeartbeats 4000000 in
theorem free_no(hk:x.kind=9)(hn:(!r.b.a.there || !r.b.b.there||decide (r.b.disks=[]))=true) :
 Calls Tryz.prog 77 #[.pointer (some ⟨c,0,none⟩),.pointer (some ⟨r.g,0,none⟩),cmdVal x dv] w fun e w'=>e=.returned (.int .i64 16)∧Ext w w':=by
 have HK:=Lib.hid hk
 clear hk
 have HN:=Lib.hid hn
 clear hn
 have hbl:((r.b.disks.length:Int) == 0)=decide (r.b.disks=[]):=by
  rw[Bool.eq_iff_iff,beq_iff_eq,decide_eq_true_eq]
  exact⟨fun e=>List.eq_nil_of_length_eq_zero (by omega),fun e=>by rw[e];rfl⟩
 unfold cmdVal
 go_enter Tryz.func77,Tryz.ntmps77
 have hX:=At.new w 39 (cmdCells x dv)
 have hE:=(Ext.refl w).alloc (.cells (cmdCells x dv) 39)
 go_upto_region 1 with fail
 generalize hxb:w.heap.size=xb at *
 generalize World.alloc _ _=W at *
 have hC:=h.ext hE
 have hB:=(hC.bl r hr).1
 have hO:=(hC.bl r hr).2
 have hgB:=hC.lo.2.2.2 r hr
 have x0:=hX.cell 0
 simp at x0
 rw[HK.out]at x0
 obtain⟨bA,bc,hdb⟩:=own_slc hO
 have b4:=hB.cell 4
 have b5:=hB.cell 5
 have b8:=hB.cell 8
 simp at b4 b5 b8
 rw[hdb]at b4
 clear hdb h hC hB hO hX
 cases ha:r.b.a.there
 ·rw[ha]at b5
  go_wp2_with fail
  go_ret
  exact⟨rfl,hE⟩
 ·cases hb:r.b.b.there
  ·rw[ha]at b5
   rw[hb]at b8
   go_wp2_with fail
   go_ret
   exact⟨rfl,hE⟩
  ·have hd:decide (r.b.disks=[])=true:=by
    have:=HN.out
    rw[ha,hb]at this
    simpa using this
   rw[hd]at hbl
   rw[ha]at b5
   rw[hb]at b8
   clear hd HN ha hb
   go_wp2_with fail
   go_ret
   exact⟨rfl,hE⟩
set_option maxRecDepth 100000 in
set_option maxHeartbeats 4000000 in
theorem free_ok(hk:x.kind=9)(hn:(!r.b.a.there || !r.b.b.there||decide (r.b.disks=[]))=false) :
 Calls Tryz.prog 77 #[.pointer (some ⟨c,0,none⟩),.pointer (some ⟨r.g,0,none⟩),cmdVal x dv] w fun e w'=>e=.returned (.int .i64 0)∧CtAt w' B c mb mn (C.upd r.g { r.b with disks:=[] } (.slice none 0 0))∧Chg (C.S c mb mn) w w':=by
 have HK:=Lib.hid hk
 clear hk
 have HN:=Lib.hid hn
 clear hn
 have hbl:((r.b.disks.length:Int) == 0)=decide (r.b.disks=[]):=by
  rw[Bool.eq_iff_iff,beq_iff_eq,decide_eq_true_eq]
  exact⟨fun e=>List.eq_nil_of_length_eq_zero (by omega),fun e=>by rw[e];rfl⟩
 unfold cmdVal
 go_enter Tryz.func77,Tryz.ntmps77
 have hX:=At.new w 39 (cmdCells x dv)
 have hE:=(Ext.refl w).alloc (.cells (cmdCells x dv) 39)
 go_upto_region 1 with fail
 generalize hxb:w.heap.size=xb at *
 generalize World.alloc _ _=W at *
 have hC:=h.ext hE
 have hB:=(hC.bl r hr).1
 have hO:=(hC.bl r hr).2
 have hgB:=hC.lo.2.2.2 r hr
 have x0:=hX.cell 0
 simp at x0
 rw[HK.out]at x0
 have hn:=HN.out
 simp only[Bool.or_eq_false_iff,Bool.not_eq_eq_eq_not,Bool.not_false]at hn
 obtain⟨⟨ha,hb⟩,hd⟩:=hn
 obtain⟨bA,bc,hdb⟩:=own_slc hO
 have b4:=hB.cell 4
 have b5:=hB.cell 5
 have b8:=hB.cell 8
 have f4:=hB.frozen 4
 simp at b4 b5 b8
 rw[hdb]at b4
 rw[ha]at b5
 rw[hb]at b8
 rw[hd]at hbl
 have hCs:=(Chg.refl (· = r.g) W).setCell (p:=⟨r.g,4,none⟩) (.inl rfl) (.slice none 0 0)
 have hB3:At (W.setCell ⟨r.g,4,none⟩ (.slice none 0 0)) r.g 161 (blCells { r.b with disks:=[] } (.slice none 0 0)):=hB.set 4 _
 have hC3:=hC.chgBlob hr (b := { r.b with disks:=[] }) (dv:=.slice none 0 0) rfl hCs hB3 ⟨rfl,.inl ⟨rfl,rfl⟩⟩ (fun k hk=>by cases hk)
 have HR:=Lib.hid (show _∧_ from⟨hC3,Chg.trans (S:=C.S c mb mn) (Chg.mono hE (fun _ _ hh=>hh.elim)) hCs (fun k _ e=>by have e':k=r.g:=e;exact .inr (.inr (.inr ⟨r,hr,e'⟩)))⟩)
 clear HN hdb hd ha hb hC hB hO hX hCs hB3 hC3 hE h
 go_wp2_with fail
 go_ret
 exact⟨rfl,HR.out⟩
end change
end Go.Proofs.YtkkbfdencgdbhaaGreatDoor
namespace Go.Proofs.YtkkbfdencgdbhaaGreatDoor
open Go.RowKit Go.Sort
section change
variable(w:World)(B:Nat→Prop)(c mb mn:Nat)(C:Ct)(h:CtAt w B c mb mn C){r:BR}(hr:r∈C.rows)(x:Cmd)(dv:Value)
include h hr
set_option maxRecDepth 100000 in
set_option maxHeartbeats 4000000 in
theorem taped_closed(hk:x.kind=8)(v:Nat)(hv:v<12)(hxv:x.vol=(v:Int))(hcl:(C.vols.getD v Vl.zero).closed=true) :
 Calls Tryz.prog 77 #[.pointer (some ⟨c,0,none⟩),.pointer (some ⟨r.g,0,none⟩),cmdVal x dv] w fun e w'=>e=.returned (.int .i64 16)∧Ext w w':=by
 have HK:=Lib.hid hk
 clear hk
 have HXV:=Lib.hid hxv
 clear hxv
 have HCL:=Lib.hid hcl
 clear hcl
 unfold cmdVal
 go_enter Tryz.func77,Tryz.ntmps77
 have hX:=At.new w 39 (cmdCells x dv)
 have hE:=(Ext.refl w).alloc (.cells (cmdCells x dv) 39)
 go_upto_region 1 with fail
 generalize hxb:w.heap.size=xb at *
 generalize World.alloc _ _=W at *
 have hC:=h.ext hE
 have hB:=(hC.bl r hr).1
 have hO:=(hC.bl r hr).2
 have hgB:=hC.lo.2.2.2 r hr
 have x0:=hX.cell 0
 have x9:=hX.cell 9
 simp at x0 x9
 rw[HK.out]at x0
 rw[HXV.out]at x9
 obtain⟨v0,v1,v2⟩:=vol_cells hC v hv
 rw[HCL.out]at v0
 clear v1 v2 h hC hB hO hX
 go_upto_region 13 with fail
 go_region
 go_wp2_with fail
 go_ret
 exact⟨rfl,hE.drew⟩
set_option maxRecDepth 100000 in
set_option maxHeartbeats 4000000 in
theorem taped_there(hk:x.kind=8)(v:Nat)(hv:v<12)(hxv:x.vol=(v:Int))(hcl:(C.vols.getD v Vl.zero).closed=false)(hon:onV v r.b=true) :
 Calls Tryz.prog 77 #[.pointer (some ⟨c,0,none⟩),.pointer (some ⟨r.g,0,none⟩),cmdVal x dv] w fun e w'=>e=.returned (.int .i64 6)∧Ext w w':=by
 have HK:=Lib.hid hk
 clear hk
 have HXV:=Lib.hid hxv
 clear hxv
 have HCL:=Lib.hid hcl
 have HO:=Lib.hid hon
 clear hcl hon
 unfold cmdVal
 go_enter Tryz.func77,Tryz.ntmps77
 have hX:=At.new w 39 (cmdCells x dv)
 have hE:=(Ext.refl w).alloc (.cells (cmdCells x dv) 39)
 go_upto_region 1 with fail
 generalize hxb:w.heap.size=xb at *
 generalize World.alloc _ _=W at *
 have hC:=h.ext hE
 have hB:=(hC.bl r hr).1
 have hO:=(hC.bl r hr).2
 have hgB:=hC.lo.2.2.2 r hr
 have x0:=hX.cell 0
 have x9:=hX.cell 9
 simp at x0 x9
 rw[HK.out]at x0
 rw[HXV.out]at x9
 obtain⟨v0,v1,v2⟩:=vol_cells hC v hv
 rw[HCL.out]at v0
 clear v1 v2
 go_upto_region 13 with fail
 go_region
 clear v0 x0 x9
 have hX1:=hX.drew
 have hE1:=hE.drew
 have hC1:=hC.ext ((Ext.refl W).drew)
 clear hX hE hC hB hO
 generalize World.drew _=W1 at *
 have x9:=hX1.cell 9
 simp at x9
 rw[HXV.out]at x9
 have HON:=Lib.hid (on_any W1 r.g r.b r.dv (hC1.bl r hr).1 v hv)
 rw[HO.out]at HON
 go_wp2_with fail
 refine HON.out.mono ?_
 rintro e W2 ⟨rfl,hE2⟩
 go_wp2_with fail
 go_ret
 exact⟨rfl,hE1.trans hE2⟩
set_option maxRecDepth 100000 in
set_option maxHeartbeats 4000000 in
theorem taped_ok0(hk:x.kind=8)(v:Nat)(hv:v<12)(hxv:x.vol=(v:Int))(hcl:(C.vols.getD v Vl.zero).closed=false)(hon:onV v r.b=false)(hpar:v % 2=0) :
 Calls Tryz.prog 77 #[.pointer (some ⟨c,0,none⟩),.pointer (some ⟨r.g,0,none⟩),cmdVal x dv] w fun e w'=>e=.returned (.int .i64 0)∧CtAt w' B c mb mn (C.upd r.g { r.b with a:=⟨true,x.vol,x.at_⟩ } r.dv)∧Chg (C.S c mb mn) w w':=by
 have HK:=Lib.hid hk
 clear hk
 have HXV:=Lib.hid hxv
 clear hxv
 have HCL:=Lib.hid hcl
 have HO:=Lib.hid hon
 clear hcl hon
 have HPAR:=Lib.hid hpar
 clear hpar
 unfold cmdVal
 go_enter Tryz.func77,Tryz.ntmps77
 have hX:=At.new w 39 (cmdCells x dv)
 have hE:=(Ext.refl w).alloc (.cells (cmdCells x dv) 39)
 go_upto_region 1 with fail
 generalize hxb:w.heap.size=xb at *
 generalize World.alloc _ _=W at *
 have hC:=h.ext hE
 have hB:=(hC.bl r hr).1
 have hO:=(hC.bl r hr).2
 have hgB:=hC.lo.2.2.2 r hr
 have x0:=hX.cell 0
 have x9:=hX.cell 9
 simp at x0 x9
 rw[HK.out]at x0
 rw[HXV.out]at x9
 obtain⟨v0,v1,v2⟩:=vol_cells hC v hv
 rw[HCL.out]at v0
 clear v1 v2
 go_upto_region 13 with fail
 go_region
 clear v0 x0 x9
 have hX1:=hX.drew
 have hE1:=hE.drew
 have hC1:=hC.ext ((Ext.refl W).drew)
 clear hX hE hC hB hO
 generalize World.drew _=W1 at *
 have x9:=hX1.cell 9
 simp at x9
 rw[HXV.out]at x9
 have HON:=Lib.hid (on_any W1 r.g r.b r.dv (hC1.bl r hr).1 v hv)
 rw[HO.out]at HON
 go_wp2_with fail
 refine HON.out.mono ?_
 rintro e W2 ⟨rfl,hE2⟩
 have hC2:=hC1.ext hE2
 have hX2:=hX1.ext hE2
 have hE3:=hE1.trans hE2
 clear x9 hX1 hC1 hE1 hE2 HON h
 have x9:=hX2.cell 9
 have x10:=hX2.cell 10
 simp at x9 x10
 rw[HXV.out]at x9
 have hB:=(hC2.bl r hr).1
 have hO:=(hC2.bl r hr).2
 have b0:=hB.cell 5
 have b1:=hB.cell 6
 have b2:=hB.cell 7
 have f0:=hB.frozen 5
 have f1:=hB.frozen 6
 have f2:=hB.frozen 7
 simp at b0 b1 b2
 have hpl:∀W,Calls Tryz.prog 126 #[.int .i64 v] W fun e w'=>e=.returned (.int .i64 (0:Int))∧W=w':=fun W=>by
  have:=pool_any W v hv
  rw[HPAR.out]at this
  exact this
 have HP:=Lib.hid hpl
 clear hpl
 have hne:xb≠r.g:=At.ne hX2 hB (by decide)
 go_upto_region 17 with fail
 go_region_with ((go_at_call 126;refine(HP.out _).mono ?_;rintro e w' ⟨rfl,rfl⟩))
 all_goals
  have hCs:=(((Chg.refl (· = r.g) W2).setCell (p:=⟨r.g,5,none⟩) (.inl rfl) (.bool true)).setCell (p:=⟨r.g,6,none⟩) (.inl rfl) (.int .i64 (v:Int))).setCell (p:=⟨r.g,7,none⟩) (.inl rfl) (.int .i64 x.at_)
  have hB1:=At.set hB 5 (.bool true)
  have hB2:=At.set hB1 6 (.int .i64 (v:Int))
  have hB3:At (((W2.setCell ⟨r.g,5,none⟩ (.bool true)).setCell ⟨r.g,6,none⟩ (.int .i64 (v:Int))).setCell ⟨r.g,7,none⟩ (.int .i64 x.at_)) r.g 161 (blCells { r.b with a:=⟨true,(v:Int),x.at_⟩ } r.dv):=At.set hB2 7 (.int .i64 x.at_)
  have hC3:=hC2.chgBlob hr (b := { r.b with a:=⟨true,(v:Int),x.at_⟩ }) (dv:=r.dv) rfl hCs hB3 (own_keep hO hCs (fun k hk e=>own_apart' hO hB (by decide) k hk e)) (hC2.dl r hr)
  have HR:=Lib.hid (show _∧_ from⟨hC3,Chg.trans (S:=C.S c mb mn) (Chg.mono hE3 (fun _ _ hh=>hh.elim)) hCs (fun k _ e=>by have e':k=r.g:=e;exact .inr (.inr (.inr ⟨r,hr,e'⟩)))⟩)
  clear hCs hB1 hB2 hB3 hC3
  go_wp2_with fail
  go_ret
  rw[HXV.out]
  exact⟨rfl,HR.out.1.ext ((Ext.refl _).drew),HR.out.2.drew⟩
set_option maxRecDepth 100000 in
set_option maxHeartbeats 4000000 in
theorem taped_ok1(hk:x.kind=8)(v:Nat)(hv:v<12)(hxv:x.vol=(v:Int))(hcl:(C.vols.getD v Vl.zero).closed=false)(hon:onV v r.b=false)(hpar:v % 2=1) :
 Calls Tryz.prog 77 #[.pointer (some ⟨c,0,none⟩),.pointer (some ⟨r.g,0,none⟩),cmdVal x dv] w fun e w'=>e=.returned (.int .i64 0)∧CtAt w' B c mb mn (C.upd r.g { r.b with b:=⟨true,x.vol,x.at_⟩ } r.dv)∧Chg (C.S c mb mn) w w':=by
 have HK:=Lib.hid hk
 clear hk
 have HXV:=Lib.hid hxv
 clear hxv
 have HCL:=Lib.hid hcl
 have HO:=Lib.hid hon
 clear hcl hon
 have HPAR:=Lib.hid hpar
 clear hpar
 unfold cmdVal
 go_enter Tryz.func77,Tryz.ntmps77
 have hX:=At.new w 39 (cmdCells x dv)
 have hE:=(Ext.refl w).alloc (.cells (cmdCells x dv) 39)
 go_upto_region 1 with fail
 generalize hxb:w.heap.size=xb at *
 generalize World.alloc _ _=W at *
 have hC:=h.ext hE
 have hB:=(hC.bl r hr).1
 have hO:=(hC.bl r hr).2
 have hgB:=hC.lo.2.2.2 r hr
 have x0:=hX.cell 0
 have x9:=hX.cell 9
 simp at x0 x9
 rw[HK.out]at x0
 rw[HXV.out]at x9
 obtain⟨v0,v1,v2⟩:=vol_cells hC v hv
 rw[HCL.out]at v0
 clear v1 v2
 go_upto_region 13 with fail
 go_region
 clear v0 x0 x9
 have hX1:=hX.drew
 have hE1:=hE.drew
 have hC1:=hC.ext ((Ext.refl W).drew)
 clear hX hE hC hB hO
 generalize World.drew _=W1 at *
 have x9:=hX1.cell 9
 simp at x9
 rw[HXV.out]at x9
 have HON:=Lib.hid (on_any W1 r.g r.b r.dv (hC1.bl r hr).1 v hv)
 rw[HO.out]at HON
 go_wp2_with fail
 refine HON.out.mono ?_
 rintro e W2 ⟨rfl,hE2⟩
 have hC2:=hC1.ext hE2
 have hX2:=hX1.ext hE2
 have hE3:=hE1.trans hE2
 clear x9 hX1 hC1 hE1 hE2 HON h
 have x9:=hX2.cell 9
 have x10:=hX2.cell 10
 simp at x9 x10
 rw[HXV.out]at x9
 have hB:=(hC2.bl r hr).1
 have hO:=(hC2.bl r hr).2
 have b0:=hB.cell 8
 have b1:=hB.cell 9
 have b2:=hB.cell 10
 have f0:=hB.frozen 8
 have f1:=hB.frozen 9
 have f2:=hB.frozen 10
 simp at b0 b1 b2
 have hpl:∀W,Calls Tryz.prog 126 #[.int .i64 v] W fun e w'=>e=.returned (.int .i64 (1:Int))∧W=w':=fun W=>by
  have:=pool_any W v hv
  rw[HPAR.out]at this
  exact this
 have HP:=Lib.hid hpl
 clear hpl
 have hne:xb≠r.g:=At.ne hX2 hB (by decide)
 go_upto_region 17 with fail
 go_region_with ((go_at_call 126;refine(HP.out _).mono ?_;rintro e w' ⟨rfl,rfl⟩))
 all_goals
  have hCs:=(((Chg.refl (· = r.g) W2).setCell (p:=⟨r.g,8,none⟩) (.inl rfl) (.bool true)).setCell (p:=⟨r.g,9,none⟩) (.inl rfl) (.int .i64 (v:Int))).setCell (p:=⟨r.g,10,none⟩) (.inl rfl) (.int .i64 x.at_)
  have hB1:=At.set hB 8 (.bool true)
  have hB2:=At.set hB1 9 (.int .i64 (v:Int))
  have hB3:At (((W2.setCell ⟨r.g,8,none⟩ (.bool true)).setCell ⟨r.g,9,none⟩ (.int .i64 (v:Int))).setCell ⟨r.g,10,none⟩ (.int .i64 x.at_)) r.g 161 (blCells { r.b with b:=⟨true,(v:Int),x.at_⟩ } r.dv):=At.set hB2 10 (.int .i64 x.at_)
  have hC3:=hC2.chgBlob hr (b := { r.b with b:=⟨true,(v:Int),x.at_⟩ }) (dv:=r.dv) rfl hCs hB3 (own_keep hO hCs (fun k hk e=>own_apart' hO hB (by decide) k hk e)) (hC2.dl r hr)
  have HR:=Lib.hid (show _∧_ from⟨hC3,Chg.trans (S:=C.S c mb mn) (Chg.mono hE3 (fun _ _ hh=>hh.elim)) hCs (fun k _ e=>by have e':k=r.g:=e;exact .inr (.inr (.inr ⟨r,hr,e'⟩)))⟩)
  clear hCs hB1 hB2 hB3 hC3
  go_wp2_with fail
  go_ret
  rw[HXV.out]
  exact⟨rfl,HR.out.1.ext ((Ext.refl _).drew),HR.out.2.drew⟩
end change
end Go.Proofs.YtkkbfdencgdbhaaGreatDoor
namespace Go.Proofs.YtkkbfdencgdbhaaGreatDoor
open Go.RowKit Go.Sort
section change
variable(w:World)(B:Nat→Prop)(c mb mn:Nat)(C:Ct)(h:CtAt w B c mb mn C){r:BR}(hr:r∈C.rows)(x:Cmd)(dv:Value)
include h hr
set_option maxRecDepth 100000 in
set_option maxHeartbeats 4000000 in
theorem untape_no0(hk:x.kind=14)(hp:x.pool=0)(hn:(!r.b.a.there||decide (r.b.disks=[]) && !r.b.b.there)=true) :
 Calls Tryz.prog 77 #[.pointer (some ⟨c,0,none⟩),.pointer (some ⟨r.g,0,none⟩),cmdVal x dv] w fun e w'=>e=.returned (.int .i64 16)∧Ext w w':=by
 have HK:=Lib.hid hk
 clear hk
 have HPO:=Lib.hid hp
 have HN:=Lib.hid hn
 clear hp hn
 have hbl:((r.b.disks.length:Int) == 0)=decide (r.b.disks=[]):=by
  rw[Bool.eq_iff_iff,beq_iff_eq,decide_eq_true_eq]
  exact⟨fun e=>List.eq_nil_of_length_eq_zero (by omega),fun e=>by rw[e];rfl⟩
 unfold cmdVal
 go_enter Tryz.func77,Tryz.ntmps77
 have hX:=At.new w 39 (cmdCells x dv)
 have hE:=(Ext.refl w).alloc (.cells (cmdCells x dv) 39)
 go_upto_region 1 with fail
 generalize hxb:w.heap.size=xb at *
 generalize World.alloc _ _=W at *
 have hC:=h.ext hE
 have hB:=(hC.bl r hr).1
 have hO:=(hC.bl r hr).2
 have hgB:=hC.lo.2.2.2 r hr
 have x0:=hX.cell 0
 have x8:=hX.cell 8
 simp at x0 x8
 rw[HK.out]at x0
 rw[HPO.out]at x8
 obtain⟨bA,bc,hdb⟩:=own_slc hO
 have b4:=hB.cell 4
 have b5:=hB.cell 5
 have b8:=hB.cell 8
 simp at b4 b5 b8
 rw[hdb]at b4
 have hcb:=hB.lt
 clear hdb
 have w1:IntKind.i64.wrap (1 - 0:Int)=1:=by decide
 have ways:r.b.a.there=false∨r.b.a.there=true∧(decide (r.b.disks=[])=false∨decide (r.b.disks=[])=true∧(r.b.b.there=false∨r.b.b.there=true)):=by
  cases r.b.a.there <;> cases decide (r.b.disks=[]) <;> cases r.b.b.there <;> simp
 rcases ways with k1|⟨k1,k2|⟨k2,k3|k3⟩⟩
 ·rw[k1]at b5
  go_upto_region 23 with fail
  go_quiet (fail)
  go_wp2_with fail
  go_ret
  exact⟨rfl,hE.drewN _⟩
 ·rw[k1]at b5
  rw[k2]at hbl
  have hno:=HN.out
  simp[k1,k2]at hno
  try simp_all
 ·rw[k1]at b5
  rw[k2]at hbl
  rw[k3]at b8
  go_upto_region 23 with fail
  go_quiet (fail)
  go_wp2_with fail
  go_ret
  exact⟨rfl,hE.drewN _⟩
 ·rw[k1]at b5
  rw[k2]at hbl
  rw[k3]at b8
  have hno:=HN.out
  simp[k1,k2,k3]at hno
  try simp_all
set_option maxRecDepth 100000 in
set_option maxHeartbeats 4000000 in
theorem untape_ok0(hk:x.kind=14)(hp:x.pool=0)(hn:(!r.b.a.there||decide (r.b.disks=[]) && !r.b.b.there)=false) :
 Calls Tryz.prog 77 #[.pointer (some ⟨c,0,none⟩),.pointer (some ⟨r.g,0,none⟩),cmdVal x dv] w fun e w'=>e=.returned (.int .i64 0)∧CtAt w' B c mb mn (C.upd r.g { r.b with a:=Cp.none } r.dv)∧Chg (C.S c mb mn) w w':=by
 have HK:=Lib.hid hk
 clear hk
 have HPO:=Lib.hid hp
 have HN:=Lib.hid hn
 clear hp hn
 have hbl:((r.b.disks.length:Int) == 0)=decide (r.b.disks=[]):=by
  rw[Bool.eq_iff_iff,beq_iff_eq,decide_eq_true_eq]
  exact⟨fun e=>List.eq_nil_of_length_eq_zero (by omega),fun e=>by rw[e];rfl⟩
 unfold cmdVal
 go_enter Tryz.func77,Tryz.ntmps77
 have hX:=At.new w 39 (cmdCells x dv)
 have hE:=(Ext.refl w).alloc (.cells (cmdCells x dv) 39)
 go_upto_region 1 with fail
 generalize hxb:w.heap.size=xb at *
 generalize World.alloc _ _=W at *
 have hC:=h.ext hE
 have hB:=(hC.bl r hr).1
 have hO:=(hC.bl r hr).2
 have hgB:=hC.lo.2.2.2 r hr
 have x0:=hX.cell 0
 have x8:=hX.cell 8
 simp at x0 x8
 rw[HK.out]at x0
 rw[HPO.out]at x8
 obtain⟨bA,bc,hdb⟩:=own_slc hO
 have b4:=hB.cell 4
 have b5:=hB.cell 5
 have b8:=hB.cell 8
 simp at b4 b5 b8
 rw[hdb]at b4
 have hcb:=hB.lt
 clear hdb
 have w1:IntKind.i64.wrap (1 - 0:Int)=1:=by decide
 have ways:r.b.a.there=false∨r.b.a.there=true∧(decide (r.b.disks=[])=false∨decide (r.b.disks=[])=true∧(r.b.b.there=false∨r.b.b.there=true)):=by
  cases r.b.a.there <;> cases decide (r.b.disks=[]) <;> cases r.b.b.there <;> simp
 rcases ways with k1|⟨k1,k2|⟨k2,k3|k3⟩⟩
 ·rw[k1]at b5
  have hno:=HN.out
  simp[k1]at hno
 ·rw[k1]at b5
  rw[k2]at hbl
  go_upto_region 23 with fail
  go_quiet (fail)
  go_upto_region 25 with fail
  have hE1:=hE.drewN nq
  have hC1:=hC.ext ((Ext.refl W).drewN nq)
  have hX1:=At.drewN hX nq
  generalize W.drewN nq=W1 at *
  clear x0 x8 b4 b5 b8 hX hB hO hC hE h
  have x8:=hX1.cell 8
  simp at x8
  rw[HPO.out]at x8
  have hB:=(hC1.bl r hr).1
  have hO:=(hC1.bl r hr).2
  have c0:=hB.cell 5
  have c1:=hB.cell 6
  have c2:=hB.cell 7
  have f0:=hB.frozen 5
  have f1:=hB.frozen 6
  have f2:=hB.frozen 7
  simp at c0 c1 c2
  have hne:xb≠r.g:=At.ne hX1 hB (by decide)
  go_region
  have hCs:=(((Chg.refl (· = r.g) W1).setCell (p:=⟨r.g,5,none⟩) (.inl rfl) (.bool false)).setCell (p:=⟨r.g,6,none⟩) (.inl rfl) (.int .i64 0)).setCell (p:=⟨r.g,7,none⟩) (.inl rfl) (.int .i64 0)
  have hB1:=At.set hB 5 (.bool false)
  have hB2:=At.set hB1 6 (.int .i64 0)
  have hB3:At (((W1.setCell ⟨r.g,5,none⟩ (.bool false)).setCell ⟨r.g,6,none⟩ (.int .i64 0)).setCell ⟨r.g,7,none⟩ (.int .i64 0)) r.g 161 (blCells { r.b with a:=Cp.none } r.dv):=At.set hB2 7 (.int .i64 0)
  have hC3:=hC1.chgBlob hr (b := { r.b with a:=Cp.none }) (dv:=r.dv) rfl hCs hB3 (own_keep hO hCs (fun k hk e=>own_apart' hO hB (by decide) k hk e)) (hC1.dl r hr)
  have HR:=Lib.hid (show _∧_ from⟨hC3,Chg.trans (S:=C.S c mb mn) (Chg.mono hE1 (fun _ _ hh=>hh.elim)) hCs (fun k _ e=>by have e':k=r.g:=e;exact .inr (.inr (.inr ⟨r,hr,e'⟩)))⟩)
  clear hCs hB1 hB2 hB3 hC3
  go_wp2_with fail
  go_ret
  exact⟨rfl,HR.out.1.ext ((Ext.refl _).drew),HR.out.2.drew⟩
 ·rw[k1]at b5
  rw[k2]at hbl
  rw[k3]at b8
  have hno:=HN.out
  simp[k1,k2,k3]at hno
  try simp_all
 ·rw[k1]at b5
  rw[k2]at hbl
  rw[k3]at b8
  go_upto_region 23 with fail
  go_quiet (fail)
  go_upto_region 25 with fail
  have hE1:=hE.drewN nq
  have hC1:=hC.ext ((Ext.refl W).drewN nq)
  have hX1:=At.drewN hX nq
  generalize W.drewN nq=W1 at *
  clear x0 x8 b4 b5 b8 hX hB hO hC hE h
  have x8:=hX1.cell 8
  simp at x8
  rw[HPO.out]at x8
  have hB:=(hC1.bl r hr).1
  have hO:=(hC1.bl r hr).2
  have c0:=hB.cell 5
  have c1:=hB.cell 6
  have c2:=hB.cell 7
  have f0:=hB.frozen 5
  have f1:=hB.frozen 6
  have f2:=hB.frozen 7
  simp at c0 c1 c2
  have hne:xb≠r.g:=At.ne hX1 hB (by decide)
  go_region
  have hCs:=(((Chg.refl (· = r.g) W1).setCell (p:=⟨r.g,5,none⟩) (.inl rfl) (.bool false)).setCell (p:=⟨r.g,6,none⟩) (.inl rfl) (.int .i64 0)).setCell (p:=⟨r.g,7,none⟩) (.inl rfl) (.int .i64 0)
  have hB1:=At.set hB 5 (.bool false)
  have hB2:=At.set hB1 6 (.int .i64 0)
  have hB3:At (((W1.setCell ⟨r.g,5,none⟩ (.bool false)).setCell ⟨r.g,6,none⟩ (.int .i64 0)).setCell ⟨r.g,7,none⟩ (.int .i64 0)) r.g 161 (blCells { r.b with a:=Cp.none } r.dv):=At.set hB2 7 (.int .i64 0)
  have hC3:=hC1.chgBlob hr (b := { r.b with a:=Cp.none }) (dv:=r.dv) rfl hCs hB3 (own_keep hO hCs (fun k hk e=>own_apart' hO hB (by decide) k hk e)) (hC1.dl r hr)
  have HR:=Lib.hid (show _∧_ from⟨hC3,Chg.trans (S:=C.S c mb mn) (Chg.mono hE1 (fun _ _ hh=>hh.elim)) hCs (fun k _ e=>by have e':k=r.g:=e;exact .inr (.inr (.inr ⟨r,hr,e'⟩)))⟩)
  clear hCs hB1 hB2 hB3 hC3
  go_wp2_with fail
  go_ret
  exact⟨rfl,HR.out.1.ext ((Ext.refl _).drew),HR.out.2.drew⟩
set_option maxRecDepth 100000 in
set_option maxHeartbeats 4000000 in
theorem untape_no1(hk:x.kind=14)(hp:x.pool=1)(hn:(!r.b.b.there||decide (r.b.disks=[]) && !r.b.a.there)=true) :
 Calls Tryz.prog 77 #[.pointer (some ⟨c,0,none⟩),.pointer (some ⟨r.g,0,none⟩),cmdVal x dv] w fun e w'=>e=.returned (.int .i64 16)∧Ext w w':=by
 have HK:=Lib.hid hk
 clear hk
 have HPO:=Lib.hid hp
 have HN:=Lib.hid hn
 clear hp hn
 have hbl:((r.b.disks.length:Int) == 0)=decide (r.b.disks=[]):=by
  rw[Bool.eq_iff_iff,beq_iff_eq,decide_eq_true_eq]
  exact⟨fun e=>List.eq_nil_of_length_eq_zero (by omega),fun e=>by rw[e];rfl⟩
 unfold cmdVal
 go_enter Tryz.func77,Tryz.ntmps77
 have hX:=At.new w 39 (cmdCells x dv)
 have hE:=(Ext.refl w).alloc (.cells (cmdCells x dv) 39)
 go_upto_region 1 with fail
 generalize hxb:w.heap.size=xb at *
 generalize World.alloc _ _=W at *
 have hC:=h.ext hE
 have hB:=(hC.bl r hr).1
 have hO:=(hC.bl r hr).2
 have hgB:=hC.lo.2.2.2 r hr
 have x0:=hX.cell 0
 have x8:=hX.cell 8
 simp at x0 x8
 rw[HK.out]at x0
 rw[HPO.out]at x8
 obtain⟨bA,bc,hdb⟩:=own_slc hO
 have b4:=hB.cell 4
 have b5:=hB.cell 5
 have b8:=hB.cell 8
 simp at b4 b5 b8
 rw[hdb]at b4
 have hcb:=hB.lt
 clear hdb
 have w1:IntKind.i64.wrap (1 - 1:Int)=0:=by decide
 have ways:r.b.b.there=false∨r.b.b.there=true∧(decide (r.b.disks=[])=false∨decide (r.b.disks=[])=true∧(r.b.a.there=false∨r.b.a.there=true)):=by
  cases r.b.b.there <;> cases decide (r.b.disks=[]) <;> cases r.b.a.there <;> simp
 rcases ways with k1|⟨k1,k2|⟨k2,k3|k3⟩⟩
 ·rw[k1]at b8
  go_upto_region 23 with fail
  go_quiet (fail)
  go_wp2_with fail
  go_ret
  exact⟨rfl,hE.drewN _⟩
 ·rw[k1]at b8
  rw[k2]at hbl
  have hno:=HN.out
  simp[k1,k2]at hno
  try simp_all
 ·rw[k1]at b8
  rw[k2]at hbl
  rw[k3]at b5
  go_upto_region 23 with fail
  go_quiet (fail)
  go_wp2_with fail
  go_ret
  exact⟨rfl,hE.drewN _⟩
 ·rw[k1]at b8
  rw[k2]at hbl
  rw[k3]at b5
  have hno:=HN.out
  simp[k1,k2,k3]at hno
  try simp_all
set_option maxRecDepth 100000 in
set_option maxHeartbeats 4000000 in
theorem untape_ok1(hk:x.kind=14)(hp:x.pool=1)(hn:(!r.b.b.there||decide (r.b.disks=[]) && !r.b.a.there)=false) :
 Calls Tryz.prog 77 #[.pointer (some ⟨c,0,none⟩),.pointer (some ⟨r.g,0,none⟩),cmdVal x dv] w fun e w'=>e=.returned (.int .i64 0)∧CtAt w' B c mb mn (C.upd r.g { r.b with b:=Cp.none } r.dv)∧Chg (C.S c mb mn) w w':=by
 have HK:=Lib.hid hk
 clear hk
 have HPO:=Lib.hid hp
 have HN:=Lib.hid hn
 clear hp hn
 have hbl:((r.b.disks.length:Int) == 0)=decide (r.b.disks=[]):=by
  rw[Bool.eq_iff_iff,beq_iff_eq,decide_eq_true_eq]
  exact⟨fun e=>List.eq_nil_of_length_eq_zero (by omega),fun e=>by rw[e];rfl⟩
 unfold cmdVal
 go_enter Tryz.func77,Tryz.ntmps77
 have hX:=At.new w 39 (cmdCells x dv)
 have hE:=(Ext.refl w).alloc (.cells (cmdCells x dv) 39)
 go_upto_region 1 with fail
 generalize hxb:w.heap.size=xb at *
 generalize World.alloc _ _=W at *
 have hC:=h.ext hE
 have hB:=(hC.bl r hr).1
 have hO:=(hC.bl r hr).2
 have hgB:=hC.lo.2.2.2 r hr
 have x0:=hX.cell 0
 have x8:=hX.cell 8
 simp at x0 x8
 rw[HK.out]at x0
 rw[HPO.out]at x8
 obtain⟨bA,bc,hdb⟩:=own_slc hO
 have b4:=hB.cell 4
 have b5:=hB.cell 5
 have b8:=hB.cell 8
 simp at b4 b5 b8
 rw[hdb]at b4
 have hcb:=hB.lt
 clear hdb
 have w1:IntKind.i64.wrap (1 - 1:Int)=0:=by decide
 have ways:r.b.b.there=false∨r.b.b.there=true∧(decide (r.b.disks=[])=false∨decide (r.b.disks=[])=true∧(r.b.a.there=false∨r.b.a.there=true)):=by
  cases r.b.b.there <;> cases decide (r.b.disks=[]) <;> cases r.b.a.there <;> simp
 rcases ways with k1|⟨k1,k2|⟨k2,k3|k3⟩⟩
 ·rw[k1]at b8
  have hno:=HN.out
  simp[k1]at hno
 ·rw[k1]at b8
  rw[k2]at hbl
  go_upto_region 23 with fail
  go_quiet (fail)
  go_upto_region 25 with fail
  have hE1:=hE.drewN nq
  have hC1:=hC.ext ((Ext.refl W).drewN nq)
  have hX1:=At.drewN hX nq
  generalize W.drewN nq=W1 at *
  clear x0 x8 b4 b5 b8 hX hB hO hC hE h
  have x8:=hX1.cell 8
  simp at x8
  rw[HPO.out]at x8
  have hB:=(hC1.bl r hr).1
  have hO:=(hC1.bl r hr).2
  have c0:=hB.cell 8
  have c1:=hB.cell 9
  have c2:=hB.cell 10
  have f0:=hB.frozen 8
  have f1:=hB.frozen 9
  have f2:=hB.frozen 10
  simp at c0 c1 c2
  have hne:xb≠r.g:=At.ne hX1 hB (by decide)
  go_region
  have hCs:=(((Chg.refl (· = r.g) W1).setCell (p:=⟨r.g,8,none⟩) (.inl rfl) (.bool false)).setCell (p:=⟨r.g,9,none⟩) (.inl rfl) (.int .i64 0)).setCell (p:=⟨r.g,10,none⟩) (.inl rfl) (.int .i64 0)
  have hB1:=At.set hB 8 (.bool false)
  have hB2:=At.set hB1 9 (.int .i64 0)
  have hB3:At (((W1.setCell ⟨r.g,8,none⟩ (.bool false)).setCell ⟨r.g,9,none⟩ (.int .i64 0)).setCell ⟨r.g,10,none⟩ (.int .i64 0)) r.g 161 (blCells { r.b with b:=Cp.none } r.dv):=At.set hB2 10 (.int .i64 0)
  have hC3:=hC1.chgBlob hr (b := { r.b with b:=Cp.none }) (dv:=r.dv) rfl hCs hB3 (own_keep hO hCs (fun k hk e=>own_apart' hO hB (by decide) k hk e)) (hC1.dl r hr)
  have HR:=Lib.hid (show _∧_ from⟨hC3,Chg.trans (S:=C.S c mb mn) (Chg.mono hE1 (fun _ _ hh=>hh.elim)) hCs (fun k _ e=>by have e':k=r.g:=e;exact .inr (.inr (.inr ⟨r,hr,e'⟩)))⟩)
  clear hCs hB1 hB2 hB3 hC3
  go_wp2_with fail
  go_ret
  exact⟨rfl,HR.out.1.ext ((Ext.refl _).drew),HR.out.2.drew⟩
 ·rw[k1]at b8
  rw[k2]at hbl
  rw[k3]at b5
  have hno:=HN.out
  simp[k1,k2,k3]at hno
  try simp_all
 ·rw[k1]at b8
  rw[k2]at hbl
  rw[k3]at b5
  go_upto_region 23 with fail
  go_quiet (fail)
  go_upto_region 25 with fail
  have hE1:=hE.drewN nq
  have hC1:=hC.ext ((Ext.refl W).drewN nq)
  have hX1:=At.drewN hX nq
  generalize W.drewN nq=W1 at *
  clear x0 x8 b4 b5 b8 hX hB hO hC hE h
  have x8:=hX1.cell 8
  simp at x8
  rw[HPO.out]at x8
  have hB:=(hC1.bl r hr).1
  have hO:=(hC1.bl r hr).2
  have c0:=hB.cell 8
  have c1:=hB.cell 9
  have c2:=hB.cell 10
  have f0:=hB.frozen 8
  have f1:=hB.frozen 9
  have f2:=hB.frozen 10
  simp at c0 c1 c2
  have hne:xb≠r.g:=At.ne hX1 hB (by decide)
  go_region
  have hCs:=(((Chg.refl (· = r.g) W1).setCell (p:=⟨r.g,8,none⟩) (.inl rfl) (.bool false)).setCell (p:=⟨r.g,9,none⟩) (.inl rfl) (.int .i64 0)).setCell (p:=⟨r.g,10,none⟩) (.inl rfl) (.int .i64 0)
  have hB1:=At.set hB 8 (.bool false)
  have hB2:=At.set hB1 9 (.int .i64 0)
  have hB3:At (((W1.setCell ⟨r.g,8,none⟩ (.bool false)).setCell ⟨r.g,9,none⟩ (.int .i64 0)).setCell ⟨r.g,10,none⟩ (.int .i64 0)) r.g 161 (blCells { r.b with b:=Cp.none } r.dv):=At.set hB2 10 (.int .i64 0)
  have hC3:=hC1.chgBlob hr (b := { r.b with b:=Cp.none }) (dv:=r.dv) rfl hCs hB3 (own_keep hO hCs (fun k hk e=>own_apart' hO hB (by decide) k hk e)) (hC1.dl r hr)
  have HR:=Lib.hid (show _∧_ from⟨hC3,Chg.trans (S:=C.S c mb mn) (Chg.mono hE1 (fun _ _ hh=>hh.elim)) hCs (fun k _ e=>by have e':k=r.g:=e;exact .inr (.inr (.inr ⟨r,hr,e'⟩)))⟩)
  clear hCs hB1 hB2 hB3 hC3
  go_wp2_with fail
  go_ret
  exact⟨rfl,HR.out.1.ext ((Ext.refl _).drew),HR.out.2.drew⟩
end change
end Go.Proofs.YtkkbfdencgdbhaaGreatDoor
namespace Go.Proofs.YtkkbfdencgdbhaaGreatDoor
open Go.RowKit
theorem own_nil(w:World)(base:Nat)(e:TypeId):w.ownsRow base e 1 (.slice none 0 0) 0 []:=⟨rfl,.inl ⟨rfl,rfl⟩⟩
def AppOut(P:Pm)(x:Cmd)(B:Nat→Prop)(c mb mn:Nat)(S:Nat→Prop)(w:World)(e:Ending)(w':World):Prop :=
 ∃nv,e=.returned (resV (P.app x).2.err (P.app x).2.blob (P.app x).2.size (P.app x).2.sum nv)∧w'.ownsRow 0 9 1 nv (P.app x).2.names.length ((P.app x).2.names.map Value.string) ∧
  ∃C',CtAt w' B c mb mn C'∧Rep C' (P.app x).1∧Chg S w w'
section
variable{P:Pm}{x:Cmd}
theorem app_bad(hg:x.good=false):P.app x=(P,Rs.er 3):=by unfold Pm.app;rw[if_pos hg]
theorem app_1(hg:x.good=true)(hk:x.kind=1):P.app x=rs1 (P.put x):=by unfold Pm.app;rw[if_neg (by rw[hg];simp),if_pos hk]
theorem app_4(hg:x.good=true)(hk:x.kind=4):P.app x=(P,⟨0,0,0,0,namesL P.L⟩):=by unfold Pm.app;rw[if_neg (by rw[hg];simp),if_neg (by omega),if_pos hk]
theorem app_n(hg:x.good=true)(hk:x.kind=2∨x.kind=3∨x.kind=5):P.app x=P.byName x:=by unfold Pm.app;rw[if_neg (by rw[hg];simp),if_neg (by omega),if_neg (by omega),if_pos (by omega)]
theorem app_v(hg:x.good=true)(hk:x.kind=11∨x.kind=12∨x.kind=13):P.app x=rs1 (P.volume x):=by unfold Pm.app;rw[if_neg (by rw[hg];simp),if_neg (by omega),if_neg (by omega),if_neg (by omega),if_pos (by omega)]
theorem app_b(hg:x.good=true)(hk:x.kind=6∨x.kind=7∨x.kind=8∨x.kind=9∨x.kind=10∨x.kind=14):P.app x=rs1 (P.byBlob x):=by
 unfold Pm.app;rw[if_neg (by rw[hg];simp),if_neg (by omega),if_neg (by omega),if_neg (by omega),if_neg (by omega)]
theorem good_kind(hg:x.good=true):1≤x.kind∧x.kind≤14:=by
 have:=hg
 unfold Cmd.good upB at this
 simp only[Bool.and_eq_true,decide_eq_true_eq,bne_iff_ne,ne_eq]at this
 omega
theorem good_parts(hg:x.good=true):(0≤x.vol∧x.vol≤11)∧(x.pool=0∨x.pool=1)∧x.disks.length≤6∧x.name.size≤32:=by
 have:=hg
 unfold Cmd.good upB at this
 simp only[Bool.and_eq_true,decide_eq_true_eq,bne_iff_ne,ne_eq]at this
 refine⟨by omega,by omega,?_,by omega⟩
 exact rises_len this.1.1.1.1.1.1.1.2
end
theorem rows_len{C:Ct}{P:Pm}{n:Nat}(hR:Rep C P)(hi:PInv n P):C.rows.length≤n:=by
 have:=(hR.perm hi).length_eq
 rw[List.length_map]at this
 have:=hi.len
 omega
theorem row_of{C:Ct}{P:Pm}{n:Nat}(hR:Rep C P)(hi:PInv n P){b:Bl}(b1:b∈P.L):∃r,r∈C.rows∧r.b=b∧C.find b.id=some r:=by
 obtain⟨r,hr,rfl⟩:=List.mem_map.1 ((hR.rows.mem b).2 b1)
 refine⟨r,hr,rfl,?_⟩
 have h4:=hR.find hi r.b.id
 rw[(pfind_some hi.asc).2 ⟨b1,rfl⟩]at h4
 cases hq:C.find r.b.id with
 | none=>rw[hq]at h4;cases h4
 | some q =>
  obtain⟨q1,q2⟩:=find_mem hq
  rw[nodup_eq (f:=fun r:BR=>r.b.id) hR.rows.idn q1 hr q2]
theorem out_of{w:World}{B:Nat→Prop}{c mb mn:Nat}{C:Ct}{P:Pm}{x:Cmd}{dv:Value}{err:Int}{Q:Pm×Int}(hQ:P.app x=rs1 Q)(he:Q.2=err)
 (hc:Calls Tryz.prog 32 #[.pointer (some ⟨c,0,none⟩),cmdVal x dv] w fun e w'=>e=.returned (resV err 0 0 0 (.slice none 0 0))∧∃C',Rep C' Q.1∧CtAt w' B c mb mn C'∧Chg (C.S c mb mn) w w') :
 Calls Tryz.prog 32 #[.pointer (some ⟨c,0,none⟩),cmdVal x dv] w (AppOut P x B c mb mn (C.S c mb mn) w):=by
 refine hc.mono ?_
 rintro e w' ⟨rfl,C',h1,h2,h3⟩
 subst he
 refine⟨.slice none 0 0,?_,?_,C',h2,?_,h3⟩
 ·rw[hQ];rfl
 ·rw[hQ];exact own_nil _ _ _
 ·rw[hQ];exact h1
section app
variable(w:World)(B:Nat→Prop)(c mb mn:Nat)(C:Ct)(P:Pm)(n:Nat)(h:CtAt w B c mb mn C)(hR:Rep C P)(hi:PInv n P)(hn:n≤1000000)(x:Cmd)(dv:Value)(hS:w.ownsRow 0 3 1 dv x.disks.length (x.disks.map (Value.int .i64)))(hdl:x.disks.length≤17592186043904)(hnl:x.name.size≤9223372036854775807)
include h hR hi hS hdl hnl
theorem app_put(_hx:x.Wf)(hg:x.good=true)(hk:x.kind=1):Calls Tryz.prog 32 #[.pointer (some ⟨c,0,none⟩),cmdVal x dv] w (AppOut P x B c mb mn (C.S c mb mn) w):=by
 refine out_of (app_1 hg hk) rfl (apply_put w B c mb mn C h x dv hS hdl hnl hg hk (fun C'=>Rep C' (P.put x).1) (P.put x).2 fun W hE=>?_)
 have hW:=h.ext hE
 have hSW:=own_keep hS hE (fun _ _ hh=>hh)
 have same:∀ {err:Int},P.put x=(P,err)→Calls Tryz.prog 71 #[.pointer (some ⟨c,0,none⟩),cmdVal x dv] W (fun e w'=>e=.returned (.int .i64 err)∧Ext W w') →
  Calls Tryz.prog 71 #[.pointer (some ⟨c,0,none⟩),cmdVal x dv] W fun e w'=>e=.returned (.int .i64 (P.put x).2)∧∃C',Rep C' (P.put x).1∧CtAt w' B c mb mn C'∧Chg (C.S c mb mn) W w':=fun he hc=>by
  refine hc.mono ?_
  rintro e w' ⟨rfl,hE2⟩
  rw[he]
  exact⟨rfl,C,hR,hW.ext hE2,hE2.chg⟩
 by_cases ha:x.name=ByteArray.empty∨x.blob=0∨x.disks=[]
 ·exact same (by unfold Pm.put;rw[if_pos ha]) (put_arg W c x dv hSW ha)
 have h1:x.name≠ByteArray.empty:=fun e=>ha (.inl e)
 have h2:x.blob≠0:=fun e=>ha (.inr (.inl e))
 have h3:x.disks≠[]:=fun e=>ha (.inr (.inr e))
 cases hf:C.find x.blob with
 | some r =>
  refine same ?_ (put_there W B c mb mn C hW x dv hSW h1 h2 h3 hf)
  unfold Pm.put
  rw[if_neg ha,if_pos (by rw[hR.find hi,hf];rfl)]
 | none =>
  have hPf:P.find x.blob=none:=by rw[hR.find hi,hf];rfl
  have hnid:∀b∈P.L,b.id≠x.blob:=pfind_none.1 hPf
  have hput:∀o,P.named x.name=o→P.put x=((match (generalizing:=false) o with|some b=>P.set { b with dead:=true } | none=>P).set (newB x),0):=by
   rintro o rfl
   unfold Pm.put
   rw[if_neg ha,if_neg (by rw[hPf];simp)]
   rfl
  have hnm:=Rep.named h hR hi x.name
  cases hb:P.named x.name with
  | none =>
   have hput2:P.put x=(P.set (newB x),0):=hput _ hb
   rw[hb]at hnm
   refine(cput_ok W B c mb mn C hW x dv hSW h1 h2 h3 hf none (fun id hid=>by rw[hnm]at hid;cases hid) (fun _=>rfl) hdl).mono ?_
   rintro e w' ⟨g,dv',rfl,hC',hCh⟩
   rw[hput2]
   refine⟨rfl,((deadCt C none).add (newBl x) g dv').setNames ((x.name,x.blob)::ldel x.name C.names),⟨?_,?_,hR.vols⟩,hC',hCh⟩
   ·exact hR.rows.add (b:=newB x) g
   ·exact hR.names.add (b:=newB x) rfl (pnamed_none.1 hb) hnid
  | some b =>
   obtain⟨b1,b2,b3⟩:=find_live hi hb
   obtain⟨r,hr,rfl⟩:=List.mem_map.1 ((hR.rows.mem b).2 b1)
   have hput2:P.put x=((P.set { r.b with dead:=true }).set (newB x),0):=hput _ hb
   rw[hb]at hnm
   have hfr:C.find r.b.id=some r:=by
    have h4:=hR.find hi r.b.id
    rw[(pfind_some hi.asc).2 ⟨b1,rfl⟩]at h4
    cases hq:C.find r.b.id with
    | none=>rw[hq]at h4;cases h4
    | some q =>
     obtain⟨q1,q2⟩:=find_mem hq
     rw[nodup_eq (f:=fun r:BR=>r.b.id) hR.rows.idn q1 hr q2]
   refine(cput_ok W B c mb mn C hW x dv hSW h1 h2 h3 hf (some r) (fun id hid=>by
    rw[hnm]at hid
    injection hid with hid
    subst hid
    exact⟨hfr,by simp⟩) (fun h0=>by rw[hnm]at h0;cases h0) hdl).mono ?_
   rintro e w' ⟨g,dv',rfl,hC',hCh⟩
   rw[hput2]
   refine⟨rfl,((deadCt C (some r)).add (newBl x) g dv').setNames ((x.name,x.blob)::ldel x.name C.names),⟨?_,?_,hR.vols⟩,hC',hCh⟩
   ·exact(hR.rows.upd h.inj hr (b := { r.b with dead:=true }) (dv:=r.dv) rfl).add (b:=newB x) g
   ·have h5:=(hR.names.dead hi hb).add (b:=newB x) rfl (fun q hq hd hname=>by
     rcases mem_pset.1 hq with rfl|⟨q1,q2⟩
     ·cases hd
     ·exact q2 (hi.uniq q q1 r.b b1 hd b2 (by rw[hname,b3];rfl))) (fun q hq=>by
     rcases mem_pset.1 hq with rfl|⟨q1,_⟩
     ·exact(hnid r.b b1:r.b.id≠x.blob)
     ·exact hnid q q1)
    have h6:=ldel_ldel x.name C.names
    show RepN ((x.name,x.blob)::ldel x.name C.names) _
    rw[←h6]
    exact h5
include hn in
theorem app_named(hg:x.good=true)(hk:x.kind=2∨x.kind=3∨x.kind=5):Calls Tryz.prog 32 #[.pointer (some ⟨c,0,none⟩),cmdVal x dv] w (AppOut P x B c mb mn (C.S c mb mn) w):=by
 have hnm:=Rep.named h hR hi x.name
 cases hb:P.named x.name with
 | none =>
  rw[hb]at hnm
  have hby:P.byName x=(P,Rs.er 5):=by unfold Pm.byName;rw[hb]
  refine(apply_named w B c mb mn C h x dv hS hdl hnl hg hk (fun C'=>Rep C' P) 5 0 0 0 fun W hE=>(named_none W B c mb mn C (h.ext hE) x dv hnm).mono ?_).mono ?_
  ·rintro e w' ⟨rfl,hE2⟩
   exact⟨rfl,C,hR,(h.ext hE).ext hE2,hE2.chg⟩
  ·rintro e w' ⟨rfl,C',h1,h2,h3⟩
   unfold AppOut
   rw[app_n hg hk,hby]
   exact⟨_,rfl,own_nil _ _ _,C',h2,h1,h3⟩
 | some b =>
  rw[hb]at hnm
  obtain⟨b1,b2,b3⟩:=find_live hi hb
  obtain⟨r,hr,rfl,hf⟩:=row_of hR hi b1
  have hbo:=hi.bl r.b b1
  have hby:P.byName x=(if x.kind=2 then P.set { r.b with pins:=r.b.pins+1 } else if x.kind=3 then P.set { r.b with dead:=true } else P,⟨0,r.b.id,r.b.size,r.b.sum,[]⟩):=by unfold Pm.byName;rw[hb]
  refine(apply_named w B c mb mn C h x dv hS hdl hnl hg hk (fun C'=>Rep C' (P.byName x).1) 0 r.b.id r.b.size r.b.sum fun W hE=>(named_some W B c mb mn C (h.ext hE) x dv hnm hf ⟨hbo.pins.1,by have:=hbo.pins.2;omega⟩ hk).mono ?_).mono ?_
  ·rintro e w' ⟨rfl,hC',hCh⟩
   refine⟨rfl,namedCt C x r,?_,hC',hCh⟩
   rw[hby]
   unfold namedCt
   by_cases k2:x.kind=2
   ·rw[if_pos k2,if_pos k2]
    exact hR.upd h hi hr rfl rfl rfl
   ·rw[if_neg k2,if_neg k2]
    by_cases k3:x.kind=3
    ·rw[if_pos k3,if_pos k3]
     exact⟨hR.rows.upd h.inj hr rfl,hR.names.dead hi hb,hR.vols⟩
    ·rw[if_neg k3,if_neg k3]
     exact hR
  ·rintro e w' ⟨rfl,C',h1,h2,h3⟩
   unfold AppOut
   rw[app_n hg hk]
   refine⟨.slice none 0 0,?_,?_,C',h2,h1,h3⟩
   ·rw[hby]
   ·rw[hby];exact own_nil _ _ _
include hn in
theorem app_vol(hg:x.good=true)(hk:x.kind=11∨x.kind=12∨x.kind=13):Calls Tryz.prog 32 #[.pointer (some ⟨c,0,none⟩),cmdVal x dv] w (AppOut P x B c mb mn (C.S c mb mn) w):=by
 obtain⟨⟨v0,v1⟩,_⟩:=good_parts hg
 obtain⟨v,hxv⟩:=Int.eq_ofNat_of_zero_le v0
 have hv:v<12:=by omega
 have hvn:x.vol.toNat=v:=by rw[hxv];rfl
 have hvol:P.vol v=C.vols.getD v Vl.zero:=by unfold Pm.vol;rw[hR.vols]
 have hon:(onR v C.rows=[])↔P.onVol v=[]:=by
  have hp:=hR.onVol hi v
  constructor
  ·intro e;rw[e]at hp;exact List.Perm.eq_nil hp.symm
  ·intro e;rw[e]at hp;exact List.Perm.eq_nil hp
 have hrl:=rows_len hR hi
 have hpins:∀r∈C.rows,0≤r.b.pins∧r.b.pins≤(n:Int):=fun r hr=>(hi.bl r.b ((hR.rows.mem _).1 (List.mem_map.2 ⟨r,hr,rfl⟩))).pins
 have hgen:=vol_gen hi v
 refine out_of (app_v hg hk) rfl (apply_volume w B c mb mn C h x dv hS hdl hnl hg hk (fun C'=>Rep C' (P.volume x).1) (P.volume x).2 fun W hE=>?_)
 have hW:=h.ext hE
 have okv:∀ {vl:Vl},P.volume x=(P.setVol v vl,0)→Calls Tryz.prog 75 #[.pointer (some ⟨c,0,none⟩),cmdVal x dv] W (fun e w'=>e=.returned (.int .i64 0)∧CtAt w' B c mb mn (C.setVols (C.vols.set v vl))∧Chg (· = c) W w') →
  Calls Tryz.prog 75 #[.pointer (some ⟨c,0,none⟩),cmdVal x dv] W fun e w'=>e=.returned (.int .i64 (P.volume x).2)∧∃C',Rep C' (P.volume x).1∧CtAt w' B c mb mn C'∧Chg (C.S c mb mn) W w':=fun {vl} he hc=>by
  refine hc.mono ?_
  rintro e w' ⟨rfl,h1,h2⟩
  rw[he]
  refine⟨rfl,C.setVols (C.vols.set v vl),⟨hR.rows,hR.names,?_⟩,h1,h2.mono (fun k _ e=>.inl e)⟩
  show C.vols.set v vl=P.vols.set v vl
  rw[hR.vols]
 have same:∀ {err:Int},P.volume x=(P,err)→Calls Tryz.prog 75 #[.pointer (some ⟨c,0,none⟩),cmdVal x dv] W (fun e w'=>e=.returned (.int .i64 err)∧Ext W w') →
  Calls Tryz.prog 75 #[.pointer (some ⟨c,0,none⟩),cmdVal x dv] W fun e w'=>e=.returned (.int .i64 (P.volume x).2)∧∃C',Rep C' (P.volume x).1∧CtAt w' B c mb mn C'∧Chg (C.S c mb mn) W w':=fun he hc=>by
  refine hc.mono ?_
  rintro e w' ⟨rfl,hE2⟩
  rw[he]
  exact⟨rfl,C,hR,hW.ext hE2,hE2.chg⟩
 rcases hk with hk|hk|hk
 ·refine okv ?_ (vol_close W B c mb mn C hW x dv v hv hxv hk)
  unfold Pm.volume
  rw[if_pos hk,hvn,hvol]
 ·by_cases ho:P.onVol x.vol=[]
  ·rw[hxv]at ho
   refine okv ?_ (vol_erase_ok W B c mb mn C hW x dv v hv hxv hk n hn (by omega) hpins (hon.2 ho))
   unfold Pm.volume
   rw[if_neg (by omega),if_pos hk,hxv,if_pos ho,Int.toNat_natCast,hvol]
  ·rw[hxv]at ho
   refine same ?_ (vol_erase_no W B c mb mn C hW x dv v hv hxv hk n hn (by omega) hpins (fun e=>ho (hon.1 e)))
   unfold Pm.volume
   rw[if_neg (by omega),if_pos hk,hxv,if_neg ho]
 ·cases he:(P.vol v).erase
  ·refine same ?_ (vol_erased_no W B c mb mn C hW x dv v hv hxv hk (by rw[←hvol];exact he))
   unfold Pm.volume
   rw[if_neg (by omega),if_neg (by omega),hvn,if_neg (by rw[he];simp)]
  ·refine okv ?_ (vol_erased_ok W B c mb mn C hW x dv v hv hxv hk (by rw[←hvol];exact he) ⟨by rw[←hvol];exact hgen.1,by rw[←hvol];have:=hgen.2;omega⟩)
   unfold Pm.volume
   rw[if_neg (by omega),if_neg (by omega),hvn,if_pos he,hvol]
end app
end Go.Proofs.YtkkbfdencgdbhaaGreatDoor
namespace Go.Proofs.YtkkbfdencgdbhaaGreatDoor
open Go.RowKit
section app
variable(w:World)(B:Nat→Prop)(c mb mn:Nat)(C:Ct)(P:Pm)(n:Nat)(h:CtAt w B c mb mn C)(hR:Rep C P)(hi:PInv n P)(hn:n≤1000000)(x:Cmd)(dv:Value)(hS:w.ownsRow 0 3 1 dv x.disks.length (x.disks.map (Value.int .i64)))(hdl:x.disks.length≤17592186043904)(hnl:x.name.size≤9223372036854775807)
include h hR hi hn hS hdl
theorem chg_any{r:BR}(hr:r∈C.rows)(hf:C.find r.b.id=some r)(hg:x.good=true)(hk:x.kind=6∨x.kind=7∨x.kind=8∨x.kind=9∨x.kind=14) :
 Calls Tryz.prog 77 #[.pointer (some ⟨c,0,none⟩),.pointer (some ⟨r.g,0,none⟩),cmdVal x dv] w fun e w'=>e=.returned (.int .i64 (chgB (P.vol x.vol.toNat).closed r.b x).2) ∧
  ∃C',Rep C' (if(chgB (P.vol x.vol.toNat).closed r.b x).2=0 then P.set (chgB (P.vol x.vol.toNat).closed r.b x).1 else P)∧CtAt w' B c mb mn C'∧Chg (C.S c mb mn) w w':=by
 obtain⟨⟨v0,v1⟩,hpool,_⟩:=good_parts hg
 obtain⟨v,hxv⟩:=Int.eq_ofNat_of_zero_le v0
 have hv:v<12:=by omega
 have hvn:x.vol.toNat=v:=by rw[hxv];rfl
 have hvol:P.vol v=C.vols.getD v Vl.zero:=by unfold Pm.vol;rw[hR.vols]
 have hbo:=hi.bl r.b ((hR.rows.mem _).1 (List.mem_map.2 ⟨r,hr,rfl⟩))
 have hks:=chgB_keeps (P.vol x.vol.toNat).closed r.b x
 have okc:∀ {b:Bl} {dv':Value} {w':World},chgB (P.vol x.vol.toNat).closed r.b x=(b,0)→CtAt w' B c mb mn (C.upd r.g b dv')→Chg (C.S c mb mn) w w'→((Ending.returned (.int .i64 0))=Ending.returned (.int .i64 (chgB (P.vol x.vol.toNat).closed r.b x).2) ∧
  ∃C',Rep C' (if(chgB (P.vol x.vol.toNat).closed r.b x).2=0 then P.set (chgB (P.vol x.vol.toNat).closed r.b x).1 else P)∧CtAt w' B c mb mn C'∧Chg (C.S c mb mn) w w'):=fun {b dv' w'} he h1 h2=>by
  rw[he]at hks
  rw[he]
  refine⟨rfl,C.upd r.g b dv',?_,h1,h2⟩
  rw[if_pos rfl]
  exact hR.upd h hi hr hks.1 hks.2.1 hks.2.2
 have noc:∀ {err:Int} {w':World},chgB (P.vol x.vol.toNat).closed r.b x=(r.b,err)→err≠0→Ext w w'→((Ending.returned (.int .i64 err))=Ending.returned (.int .i64 (chgB (P.vol x.vol.toNat).closed r.b x).2) ∧
  ∃C',Rep C' (if(chgB (P.vol x.vol.toNat).closed r.b x).2=0 then P.set (chgB (P.vol x.vol.toNat).closed r.b x).1 else P)∧CtAt w' B c mb mn C'∧Chg (C.S c mb mn) w w'):=fun {err w'} he h0 h2=>by
  rw[he]
  refine⟨rfl,C,?_,h.ext h2,h2.chg⟩
  rw[if_neg h0]
  exact hR
 rcases hk with hk|hk|hk|hk|hk
 ·by_cases hp:r.b.pins=0
  ·refine(unpin_no w B c mb mn C h hf x dv hk hp).mono ?_
   rintro e w' ⟨rfl,hE⟩
   exact noc (by unfold chgB;rw[if_pos hk,if_pos hp]) (by decide) hE
  ·refine(unpin_ok w B c mb mn C h hf x dv hk ⟨by have:=hbo.pins.1;omega,by have:=hbo.pins.2;omega⟩).mono ?_
   rintro e w' ⟨rfl,h1,h2⟩
   exact okc (by unfold chgB;rw[if_pos hk,if_neg hp]) h1 h2
 ·have e0:chgB (P.vol x.vol.toNat).closed r.b x=if x.disks=[]then(r.b,1)else if r.b.disks=[]then(r.b,16)else({ r.b with disks:=x.disks },0):=by unfold chgB;rw[if_neg (by omega),if_pos hk]
  by_cases hd:x.disks=[]
  ·refine(spread_arg w B c mb mn C h hr x dv hk (by obtain⟨A,cp,e⟩:=own_slc hS;exact⟨A,cp,by rw[e,hd];rfl⟩)).mono ?_
   rintro e w' ⟨rfl,hE⟩
   exact noc (by rw[e0,if_pos hd]) (by decide) hE
  ·by_cases hb:r.b.disks=[]
   ·refine(spread_no w B c mb mn C h hr x dv hk (own_slc hS) hd hb).mono ?_
    rintro e w' ⟨rfl,hE⟩
    exact noc (by rw[e0,if_neg hd,if_pos hb]) (by decide) hE
   ·refine(spread_ok w B c mb mn C h hr x dv hk hS hdl hd hb).mono ?_
    rintro e w' ⟨dv',rfl,h1,h2⟩
    exact okc (by rw[e0,if_neg hd,if_neg hb]) h1 h2
 ·have e0:chgB (P.vol x.vol.toNat).closed r.b x=if(P.vol x.vol.toNat).closed then(r.b,16)else if(cpOf r.b (x.vol % 2)).there&&decide ((cpOf r.b (x.vol % 2)).vol=x.vol)then(r.b,6)else(setCp r.b (x.vol % 2) ⟨true,x.vol,x.at_⟩,0):=by
   unfold chgB;rw[if_neg (by omega),if_neg (by omega),if_pos hk]
  have hon:((cpOf r.b (x.vol % 2)).there&&decide ((cpOf r.b (x.vol % 2)).vol=x.vol))=onV v r.b:=by rw[hxv];rfl
  rw[hon,hvn,hvol]at e0
  rw[←hvn]at e0
  rw[hvn]at e0
  cases hcl:(C.vols.getD v Vl.zero).closed
  ·cases ho:onV v r.b
   ·rcases(show v % 2=0∨v % 2=1 by omega)with hpar|hpar
    ·refine(taped_ok0 w B c mb mn C h hr x dv hk v hv hxv hcl ho hpar).mono ?_
     rintro e w' ⟨rfl,h1,h2⟩
     refine okc ?_ h1 h2
     rw[hvn,hvol,e0,hcl,ho]
     have:x.vol % 2≠1:=by omega
     simp[setCp,this]
    ·refine(taped_ok1 w B c mb mn C h hr x dv hk v hv hxv hcl ho hpar).mono ?_
     rintro e w' ⟨rfl,h1,h2⟩
     refine okc ?_ h1 h2
     rw[hvn,hvol,e0,hcl,ho]
     have:x.vol % 2=1:=by omega
     simp[setCp,this]
   ·refine(taped_there w B c mb mn C h hr x dv hk v hv hxv hcl ho).mono ?_
    rintro e w' ⟨rfl,hE⟩
    exact noc (by rw[hvn,hvol,e0,hcl,ho];simp) (by decide) hE
  ·refine(taped_closed w B c mb mn C h hr x dv hk v hv hxv hcl).mono ?_
   rintro e w' ⟨rfl,hE⟩
   exact noc (by rw[hvn,hvol,e0,hcl];simp) (by decide) hE
 ·have e0:chgB (P.vol x.vol.toNat).closed r.b x=if !r.b.a.there || !r.b.b.there||decide (r.b.disks=[])then(r.b,16)else({ r.b with disks:=[] },0):=by
   unfold chgB;rw[if_neg (by omega),if_neg (by omega),if_neg (by omega),if_pos hk]
  cases hcnd:(!r.b.a.there || !r.b.b.there||decide (r.b.disks=[]))
  ·refine(free_ok w B c mb mn C h hr x dv hk hcnd).mono ?_
   rintro e w' ⟨rfl,h1,h2⟩
   exact okc (by rw[e0,hcnd];rfl) h1 h2
  ·refine(free_no w B c mb mn C h hr x dv hk hcnd).mono ?_
   rintro e w' ⟨rfl,hE⟩
   exact noc (by rw[e0,hcnd];rfl) (by decide) hE
 ·have e0:chgB (P.vol x.vol.toNat).closed r.b x=if !(cpOf r.b x.pool).there||decide (r.b.disks=[]) && !(cpOf r.b (1 - x.pool)).there then(r.b,16)else(setCp r.b x.pool Cp.none,0):=by
   unfold chgB;rw[if_neg (by omega),if_neg (by omega),if_neg (by omega),if_neg (by omega)]
  rcases hpool with hp|hp
  ·have e1:cpOf r.b x.pool=r.b.a:=by rw[hp];rfl
   have e2:cpOf r.b (1 - x.pool)=r.b.b:=by rw[hp];rfl
   have e3:setCp r.b x.pool Cp.none = { r.b with a:=Cp.none } := by rw[hp];rfl
   rw[e1,e2,e3]at e0
   cases hcnd:(!r.b.a.there||decide (r.b.disks=[]) && !r.b.b.there)
   ·refine(untape_ok0 w B c mb mn C h hr x dv hk hp hcnd).mono ?_
    rintro e w' ⟨rfl,h1,h2⟩
    exact okc (by rw[e0,hcnd];rfl) h1 h2
   ·refine(untape_no0 w B c mb mn C h hr x dv hk hp hcnd).mono ?_
    rintro e w' ⟨rfl,hE⟩
    exact noc (by rw[e0,hcnd];rfl) (by decide) hE
  ·have e1:cpOf r.b x.pool=r.b.b:=by rw[hp];rfl
   have e2:cpOf r.b (1 - x.pool)=r.b.a:=by rw[hp];rfl
   have e3:setCp r.b x.pool Cp.none = { r.b with b:=Cp.none } := by rw[hp];rfl
   rw[e1,e2,e3]at e0
   cases hcnd:(!r.b.b.there||decide (r.b.disks=[]) && !r.b.a.there)
   ·refine(untape_ok1 w B c mb mn C h hr x dv hk hp hcnd).mono ?_
    rintro e w' ⟨rfl,h1,h2⟩
    exact okc (by rw[e0,hcnd];rfl) h1 h2
   ·refine(untape_no1 w B c mb mn C h hr x dv hk hp hcnd).mono ?_
    rintro e w' ⟨rfl,hE⟩
    exact noc (by rw[e0,hcnd];rfl) (by decide) hE
include hnl
theorem app_blob(hg:x.good=true)(hk:x.kind=6∨x.kind=7∨x.kind=8∨x.kind=9∨x.kind=10∨x.kind=14):Calls Tryz.prog 32 #[.pointer (some ⟨c,0,none⟩),cmdVal x dv] w (AppOut P x B c mb mn (C.S c mb mn) w):=by
 have hPf:=hR.find hi x.blob
 cases hf:C.find x.blob with
 | none =>
  rw[hf]at hPf
  have hq:P.byBlob x=(P,5):=by unfold Pm.byBlob;rw[hPf];rfl
  refine out_of (app_b hg hk) (err:=5) (by rw[hq]) ?_
  refine(apply_gone w B c mb mn C h x dv hS hdl hnl hg (by omega) hf).mono ?_
  rintro e w' ⟨rfl,hE⟩
  rw[hq]
  exact⟨rfl,C,hR,h.ext hE,hE.chg⟩
 | some r =>
  rw[hf]at hPf
  obtain⟨hr,hid⟩:=find_mem hf
  have hf':C.find r.b.id=some r:=by rw[hid];exact hf
  have hbo:=hi.bl r.b ((hR.rows.mem _).1 (List.mem_map.2 ⟨r,hr,rfl⟩))
  have hq:P.byBlob x=if x.kind=10 then(if !r.b.dead||decide (0<r.b.pins)then(P,16)else(P.drop r.b.id,0))
   else if(chgB (P.vol x.vol.toNat).closed r.b x).2=0 then(P.set (chgB (P.vol x.vol.toNat).closed r.b x).1,0)else(P,(chgB (P.vol x.vol.toNat).closed r.b x).2):=by unfold Pm.byBlob;rw[hPf];rfl
  by_cases hk10:x.kind=10
  ·rw[if_pos hk10]at hq
   refine out_of (app_b hg hk) rfl (apply_forget w B c mb mn C h x dv hS hdl hnl hg hk10 (fun C'=>Rep C' (P.byBlob x).1) (P.byBlob x).2 hf fun W hE=>?_)
   rw[hq]
   cases hcnd:(!r.b.dead||decide (0<r.b.pins))
   ·simp only[Bool.or_eq_false_iff,Bool.not_eq_eq_eq_not,Bool.not_false,decide_eq_false_iff_not]at hcnd
    refine(forget_ok W B c mb mn C (h.ext hE) hf' hcnd.1 hcnd.2).mono ?_
    rintro e w' ⟨rfl,h1,h2⟩
    exact⟨rfl,C.del r.b.id,⟨hR.rows.del r.b.id,hR.names.drop hi ((hR.rows.mem _).1 (List.mem_map.2 ⟨r,hr,rfl⟩)) hcnd.1,hR.vols⟩,h1,h2⟩
   ·refine(forget_no W B c mb mn C (h.ext hE) hf' (by
     rcases Bool.or_eq_true_iff.1 hcnd with h1|h1
     ·exact .inl (by simpa using h1)
     ·exact .inr (by simpa using h1))).mono ?_
    rintro e w' ⟨rfl,hE2⟩
    exact⟨rfl,C,hR,(h.ext hE).ext hE2,hE2.chg⟩
  ·rw[if_neg hk10]at hq
   have hk2:x.kind=6∨x.kind=7∨x.kind=8∨x.kind=9∨x.kind=14:=by omega
   refine out_of (app_b hg hk) rfl (apply_change w B c mb mn C h x dv hS hdl hnl hg hk2 (fun C'=>Rep C' (P.byBlob x).1) (P.byBlob x).2 hf fun W hE=>?_)
   refine(chg_any W B c mb mn C P n (h.ext hE) hR hi hn x dv (own_keep hS hE (fun _ _ hh=>hh)) hdl hr hf' hg hk2).mono ?_
   rintro e w' ⟨rfl,C',h1,h2,h3⟩
   rw[hq]
   by_cases h0:(chgB (P.vol x.vol.toNat).closed r.b x).2=0
   ·rw[if_pos h0]at h1⊢
    exact⟨by rw[h0],C',h1,h2,h3⟩
   ·rw[if_neg h0]at h1⊢
    exact⟨rfl,C',h1,h2,h3⟩
theorem app_any(hx:x.Wf):Calls Tryz.prog 32 #[.pointer (some ⟨c,0,none⟩),cmdVal x dv] w (AppOut P x B c mb mn (C.S c mb mn) w):=by
 cases hg:x.good
 ·refine(apply_bad w c x dv hS hdl hnl hg).mono ?_
  rintro e w' ⟨rfl,hE⟩
  unfold AppOut
  rw[app_bad hg]
  exact⟨_,rfl,own_nil _ _ _,C,h.ext hE,hR,hE.chg⟩
 ·have hk:=good_kind hg
  by_cases h1:x.kind=1
  ·exact app_put w B c mb mn C P n h hR hi x dv hS hdl hnl hx hg h1
  by_cases h4:x.kind=4
  ·have hnk:=Rep.nameKeys h hR hi
   have hlen:C.names.length≤n:=by
    have e1:=hnk.length_eq
    rw[List.length_map,List.length_map]at e1
    have e2:=List.length_filter_le (fun b:Bl => !b.dead) P.L
    have e3:=hi.len
    omega
   refine(apply_list w B c mb mn C h x dv hS hdl hnl hg h4 (fun p hp=>?_) (by omega)).mono ?_
   ·obtain⟨b,b1,b2,b3,_⟩:=(hR.names p.1 p.2).1 hp
    have:=(hi.bl b b1).name.2
    rw[b3]at this
    unfold maxLen
    omega
   ·rintro e w' ⟨nv,rfl,hON,hE⟩
    unfold AppOut
    rw[app_4 hg h4]
    have hnl2:=namesL_perm hnk
    have hlen2:C.names.length=(namesL P.L).length:=by rw[←hnl2];simp
    refine⟨nv,rfl,?_,C,h.ext hE,hR,hE.chg⟩
    rw[hnl2,hlen2]at hON
    exact own_base0 hON
  by_cases hkn:x.kind=2∨x.kind=3∨x.kind=5
  ·exact app_named w B c mb mn C P n h hR hi hn x dv hS hdl hnl hg hkn
  by_cases hkv:x.kind=11∨x.kind=12∨x.kind=13
  ·exact app_vol w B c mb mn C P n h hR hi hn x dv hS hdl hnl hg hkv
  ·exact app_blob w B c mb mn C P n h hR hi hn x dv hS hdl hnl hg (by omega)
end app
end Go.Proofs.YtkkbfdencgdbhaaGreatDoor
