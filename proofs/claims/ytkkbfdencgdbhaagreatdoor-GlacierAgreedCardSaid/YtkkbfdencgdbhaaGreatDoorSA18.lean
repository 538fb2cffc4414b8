/-
  Part 18 of what the law leans on.
-/
import Derived.Test.YtkkbfdencgdbhaaGreatDoorSA2
import Derived.Test.YtkkbfdencgdbhaaGreatDoorSA3
import Derived.Test.YtkkbfdencgdbhaaGreatDoorSA5
import Derived.Test.YtkkbfdencgdbhaaGreatDoorSA17
set_option linter.unusedVariables false
set_option linter.unusedSimpArgs false
set_option linter.unusedSectionVars false
namespace Go.Proofs.YtkkbfdencgdbhaaGreatDoor
open Go.RowKit Go.Sort
theorem clone_any(w:World)(v:Value)(hl:List Int)(hH:Sl w v (hl.map (Value.int .i64)))(hb:hl.length≤17592186043904) :
 Calls Tryz.prog 120 #[v] w fun e w'=>∃v',e=.returned v'∧w'.ownsRow w.heap.size 3 1 v' hl.length (hl.map (Value.int .i64))∧Ext w w':=by
 obtain⟨A,c,rfl,hx⟩:=hH
 rw[List.length_map]
 by_cases hne:hl=[]
 ·subst hne
  cases A with
  | none =>
   refine(Tryz.slices_Clone_int_nil _ _ _).mono ?_
   rintro e w' ⟨rfl,rfl⟩
   exact⟨_,rfl,⟨rfl,.inl ⟨rfl,rfl⟩⟩,Ext.refl _⟩
  | some a =>
   refine(Tryz.slices_Clone_int_zero a c w).mono ?_
   rintro e w' ⟨v',rfl,h1,_,h2⟩
   exact⟨_,rfl,h1,Ext.of_below h2⟩
 ·obtain⟨b,o,rfl,hc⟩:=hx (by simpa using hne)
  refine(Tryz.slices_Clone_int b o hl.length c hl w (Nat.le_refl _) (by omega) (fun j hj=>?_)).mono ?_
  ·exact hc j _ (by rw[List.getElem?_map,List.getElem?_eq_getElem hj,List.getD_eq_getElem?_getD,List.getElem?_eq_getElem hj];rfl)
  ·rintro e w' ⟨v',rfl,h1,_,h2⟩
   rw[List.take_length]at h1
   exact⟨_,rfl,h1,Ext.of_below h2⟩
end Go.Proofs.YtkkbfdencgdbhaaGreatDoor
namespace Go.Proofs.YtkkbfdencgdbhaaGreatDoor
open Go.RowKit
def newBl(x:Cmd):Bl:=⟨x.blob,x.name,x.size,x.sum,x.disks,Cp.none,Cp.none,0,false⟩
theorem own_slc{w:World}{base:Nat}{e:TypeId}{size:Nat}{v:Value}{n:Nat}{xs:List Value}(h:w.ownsRow base e size v n xs):∃A c,v=.slice A n c:=by
 rcases h.2 with⟨rfl,rfl⟩|⟨g,cap,cur,rfl,_⟩
 ·exact⟨none,0,rfl⟩
 ·exact⟨_,_,rfl⟩
theorem own_base0{w:World}{base:Nat}{e:TypeId}{size:Nat}{v:Value}{n:Nat}{xs:List Value}(h:w.ownsRow base e size v n xs):w.ownsRow 0 e size v n xs:=by
 refine⟨h.1,?_⟩
 rcases h.2 with h2|⟨g,cap,cur,h2,_,h4⟩
 ·exact .inl h2
 ·exact .inr ⟨g,cap,cur,h2,Nat.zero_le _,h4⟩
theorem own_low{w:World}{base base':Nat}{e:TypeId}{size:Nat}{v:Value}{n:Nat}{xs:List Value}(h:w.ownsRow base e size v n xs)(hb:base'≤base):w.ownsRow base' e size v n xs:=by
 refine⟨h.1,?_⟩
 rcases h.2 with h2|⟨g,cap,cur,h2,h3,h4⟩
 ·exact .inl h2
 ·exact .inr ⟨g,cap,cur,h2,Nat.le_trans hb h3,h4⟩
def GPut(W:World)(B:Nat→Prop)(c mb mn:Nat)(C:Ct)(x:Cmd)(γ : Nat→Value)(L:Nat→Bool)(w:World):Prop :=
 if L 19=true then ∃g,CtAt w B c mb mn (C.add (newBl x) g (γ 0))∧(∀xb cs,At W xb 39 cs→At w xb 39 cs)∧Chg (· = mb) W w
 else if L 18=true then ∃g, γ 2=ptrV g∧W.heap.size≤g∧At w g 161 (blCells (newBl x) (γ 0))∧w.ownsRow W.heap.size 3 1 (γ 0) x.disks.length (x.disks.map (Value.int .i64))∧Ext W w
 else if L 17=true then γ 1=.agg (blCells (newBl x) (γ 0))∧w.ownsRow W.heap.size 3 1 (γ 0) x.disks.length (x.disks.map (Value.int .i64))∧Ext W w
 else if L 16=true then w.ownsRow W.heap.size 3 1 (γ 0) x.disks.length (x.disks.map (Value.int .i64))∧Ext W w
 else Ext W w
theorem GPut.keep{W:World}{B:Nat→Prop}{c mb mn:Nat}{C:Ct}{x:Cmd}{j:Nat}(h1:16≠j)(h2:17≠j)(h3:18≠j)(h4:19≠j):∀γ L w,GPut W B c mb mn C x γ L w→L j=false→GPut W B c mb mn C x γ (fun i=>i == j||L i) w:=by
 intro γ L w h _
 unfold GPut at *
 have e1:((16:Nat) == j)=false:=by simp[h1]
 have e2:((17:Nat) == j)=false:=by simp[h2]
 have e3:((18:Nat) == j)=false:=by simp[h3]
 have e4:((19:Nat) == j)=false:=by simp[h4]
 simpa[e1,e2,e3,e4]using h
theorem GPut.ext{W:World}{B:Nat→Prop}{c mb mn:Nat}{C:Ct}{x:Cmd}{γ : Nat→Value}{L:Nat→Bool}{w:World}(h:GPut W B c mb mn C x γ L w)(h19:L 19=false):Ext W w:=by
 unfold GPut at h
 rw[if_neg (by rw[h19];simp)]at h
 split at h
 ·obtain⟨_,_,_,_,_,h⟩:=h;exact h
 ·split at h
  ·exact h.2.2
  ·split at h
   ·exact h.2
   ·exact h
theorem GPut.cell0{W:World}{B:Nat→Prop}{c mb mn:Nat}{C:Ct}{x:Cmd}{γ : Nat→Value}{L:Nat→Bool}{w:World}(h:GPut W B c mb mn C x γ L w)(hC:CtAt W B c mb mn C)(h19:L 19=false):w.cell? ⟨c,0,none⟩=some (.map (some mb)):=(hC.ext (h.ext h19)).c0.1
section put
variable(w:World)(B:Nat→Prop)(c mb mn:Nat)(C:Ct)(h:CtAt w B c mb mn C)(x:Cmd)(dv:Value)(hS:w.ownsRow 0 3 1 dv x.disks.length (x.disks.map (Value.int .i64)))
include h hS
omit h in
set_option maxRecDepth 100000 in
set_option maxHeartbeats 2000000 in
theorem put_arg(hb:x.name=ByteArray.empty∨x.blob=0∨x.disks=[]) :
 Calls Tryz.prog 71 #[.pointer (some ⟨c,0,none⟩),cmdVal x dv] w fun e w'=>e=.returned (.int .i64 1)∧Ext w w':=by
 obtain⟨dA,dc,rfl⟩:=own_slc hS
 unfold cmdVal
 go_enter Tryz.func71,Tryz.ntmps71
 have hX:=At.new w 39 (cmdCells x (.slice dA x.disks.length dc))
 have hE:=(Ext.refl w).alloc (.cells (cmdCells x (.slice dA x.disks.length dc)) 39)
 go_upto_region 1 with fail
 generalize hxb:w.heap.size=xb at *
 generalize World.alloc _ _=W at *
 have x3:=hX.cell 3
 have x4:=hX.cell 4
 have x7:=hX.cell 7
 simp at x3 x4 x7
 have hd:x.name.toList.isEmpty=true∨x.name.toList.isEmpty=false∧((((x.blob:Int) == 0)=true)∨(((x.blob:Int) == 0)=false)∧(((x.disks.length:Int) == 0)=true)):=by
  by_cases h1:x.name=ByteArray.empty
  ·left;rw[h1,Lib.toList_data];rfl
  ·have e1:x.name.toList.isEmpty=false:=by
    cases he:x.name.toList.isEmpty
    ·rfl
    ·exact absurd (toList_inj.1 (by rw[List.isEmpty_iff.1 he,Lib.toList_data];rfl)) h1
   by_cases h2:x.blob=0
   ·right;exact⟨e1,.inl (by rw[h2];rfl)⟩
   ·right
    refine⟨e1,.inr ⟨by rw[beq_eq_false_iff_ne];omega,?_⟩⟩
    rcases hb with hb|hb|hb
    ·exact absurd hb h1
    ·exact absurd hb h2
    ·rw[hb];rfl
 clear hb hS
 rcases hd with hd|⟨hd,hd2|⟨hd2,hd3⟩⟩
 all_goals
  go_wp2_with fail
  go_ret
  exact⟨rfl,hE⟩
set_option maxRecDepth 100000 in
set_option maxHeartbeats 2000000 in
theorem put_there(hn:x.name≠ByteArray.empty)(hb:x.blob≠0)(hd:x.disks≠[]){r:BR}(hf:C.find x.blob=some r) :
 Calls Tryz.prog 71 #[.pointer (some ⟨c,0,none⟩),cmdVal x dv] w fun e w'=>e=.returned (.int .i64 6)∧Ext w w':=by
 obtain⟨dA,dc,rfl⟩:=own_slc hS
 unfold cmdVal
 go_enter Tryz.func71,Tryz.ntmps71
 have hX:=At.new w 39 (cmdCells x (.slice dA x.disks.length dc))
 have hE:=(Ext.refl w).alloc (.cells (cmdCells x (.slice dA x.disks.length dc)) 39)
 go_upto_region 1 with fail
 generalize hxb:w.heap.size=xb at *
 generalize World.alloc _ _=W at *
 have hC:=h.ext hE
 have x3:=hX.cell 3
 have x4:=hX.cell 4
 have x7:=hX.cell 7
 simp at x3 x4 x7
 have t1:x.name.toList.isEmpty=false:=by
  cases he:x.name.toList.isEmpty
  ·rfl
  ·exact absurd (toList_inj.1 (by rw[List.isEmpty_iff.1 he,Lib.toList_data];rfl)) hn
 have t2:((x.blob:Int) == 0)=false:=by rw[beq_eq_false_iff_ne];omega
 have t3:((x.disks.length:Int) == 0)=false:=by
  have:=List.length_pos_iff.2 hd
  rw[beq_eq_false_iff_ne];omega
 clear hn hb hd h hS
 go_upto_region 3 with fail
 clear x3 x4 x7 t1 t2 t3
 obtain⟨c0,c1⟩:=hC.c0
 have hlk:=(hC.ext ((Ext.refl W).drew)).look x.blob
 rw[hf]at hlk
 simp only[ptrO]at hlk
 have x4:=hX.cell 4
 simp at x4
 go_region
 go_wp2_with fail
 go_ret
 exact⟨rfl,hE.drew⟩
def deadCt(C:Ct)(r:Option BR):Ct:=match r with
 | some r=>C.upd r.g { r.b with dead:=true } r.dv
 | none=>C
set_option maxRecDepth 100000 in
set_option maxHeartbeats 4000000 in
theorem cput_ok(hn:x.name≠ByteArray.empty)(hb:x.blob≠0)(hd:x.disks≠[])(hf:C.find x.blob=none)(r:Option BR)(hr:∀id,lget x.name C.names=some id→C.find id=r∧r≠none)(hr0:lget x.name C.names=none→r=none)(hdl:x.disks.length≤17592186043904) :
 Calls Tryz.prog 71 #[.pointer (some ⟨c,0,none⟩),cmdVal x dv] w fun e w'=>∃g dv',e=.returned (.int .i64 0)∧CtAt w' B c mb mn (((deadCt C r).add (newBl x) g dv').setNames ((x.name,x.blob)::ldel x.name C.names))∧Chg (C.S c mb mn) w w':=by
 obtain⟨dA,dc,rfl⟩:=own_slc hS
 unfold cmdVal
 go_enter Tryz.func71,Tryz.ntmps71
 have hX:=At.new w 39 (cmdCells x (.slice dA x.disks.length dc))
 have hE:=(Ext.refl w).alloc (.cells (cmdCells x (.slice dA x.disks.length dc)) 39)
 go_upto_region 1 with fail
 generalize hxb:w.heap.size=xb at *
 generalize World.alloc _ _=W at *
 have hBw:B xb:=h.up xb (by omega)
 have hC:=h.ext hE
 have hS1:=own_keep hS hE (fun _ _ hh=>hh)
 have x3:=hX.cell 3
 have x4:=hX.cell 4
 have x7:=hX.cell 7
 simp at x3 x4 x7
 have t1:x.name.toList.isEmpty=false:=by
  cases he:x.name.toList.isEmpty
  ·rfl
  ·exact absurd (toList_inj.1 (by rw[List.isEmpty_iff.1 he,Lib.toList_data];rfl)) hn
 have t2:((x.blob:Int) == 0)=false:=by rw[beq_eq_false_iff_ne];omega
 have t3:((x.disks.length:Int) == 0)=false:=by
  have:=List.length_pos_iff.2 hd
  rw[beq_eq_false_iff_ne];omega
 clear hn hb hd h hS
 go_upto_region 3 with fail
 clear x3 x4 x7 t1 t2 t3
 obtain⟨c0,c1⟩:=hC.c0
 have hlk:=(hC.ext ((Ext.refl W).drew)).look x.blob
 rw[hf]at hlk
 simp only[ptrO]at hlk
 have x4:=hX.cell 4
 simp at x4
 go_region
 clear hlk c0 c1 x4
 have hX1:=hX.drew
 have hC1:=hC.ext ((Ext.refl W).drew)
 have hE1:=hE.drew
 have hS2:=own_keep hS1 ((Ext.refl W).drew) (fun _ _ hh=>hh)
 clear hX hC hE hS1
 generalize World.drew _=W1 at *
 go_upto_region 5 with fail
 obtain⟨c0,c1⟩:=hC1.c0
 have hlk:=(hC1.ext ((Ext.refl W1).drew)).lookName x.name
 have x3:=hX1.cell 3
 simp at x3
 go_region
 clear hlk c0 c1 x3
 have hX2:=hX1.drew
 have hC2:=hC1.ext ((Ext.refl W1).drew)
 have hE2:=hE1.drew
 have hS3:=own_keep hS2 ((Ext.refl W1).drew) (fun _ _ hh=>hh)
 clear hX1 hC1 hE1 hS2
 generalize World.drew _=W2 at *
 generalize hon:lget x.name C.names=on at *
 have HON:=Lib.hid hon
 clear hon
 go_upto_if 39 with fail
 have hwl:w.heap.size≤xb:=by omega
 go_cut [5,6]from 29 to 47 (fun _ _ wx=>CtAt wx B c mb mn (deadCt C r)∧At wx xb 39 (cmdCells x (.slice dA x.disks.length dc))∧wx.ownsRow 0 3 1 (.slice dA x.disks.length dc) x.disks.length (x.disks.map (Value.int .i64))∧Chg (C.S c mb mn) w wx)
 case first =>
  have hEB:Chg (C.S c mb mn) w W2:=Chg.mono hE2 (fun _ _ hh=>hh.elim)
  cases on with
  | none =>
   obtain rfl:r=none:=hr0 rfl
   go_wp2_with fail
   go_meet
   case rel=>exact⟨hC2,hX2,hS3,hEB⟩
  | some id =>
   obtain⟨h1,h2⟩:=hr id rfl
   obtain⟨r0,rfl⟩:=Option.ne_none_iff_exists'.1 h2
   obtain⟨c0,c1⟩:=hC2.c0
   have hlk:=hC2.look id
   rw[h1]at hlk
   simp only[ptrO]at hlk
   have hrm:=(find_mem h1).1
   have hB:=(hC2.bl r0 hrm).1
   have hO:=(hC2.bl r0 hrm).2
   have hgB:=hC2.lo.2.2.2 r0 hrm
   have b12:=hB.cell 12
   have f12:=hB.frozen 12
   have hbl:=hB.lt
   simp at b12
   have hCs:=(Chg.refl (· = r0.g) W2).setCell (p:=⟨r0.g,12,none⟩) (.inl rfl) (.bool true)
   have hB2:At (W2.setCell ⟨r0.g,12,none⟩ (.bool true)) r0.g 161 (blCells { r0.b with dead:=true } r0.dv):=hB.set 12 _
   have hC3:=hC2.chgBlob hrm (b := { r0.b with dead:=true }) (dv:=r0.dv) rfl hCs hB2 (own_keep hO hCs (fun k hk e=>own_apart' hO hB (by decide) k hk e)) (hC2.dl r0 hrm)
   have hX3:=hX2.far (p:=⟨r0.g,12,none⟩) (At.ne hX2 hB (by decide)) (.bool true)
   have hS4:=own_keep hS3 hCs (fun k hk e=>own_apart' hS3 hB (by decide) k hk e)
   clear hr hr0
   go_wp2_with fail
   go_meet
   case rel=>exact⟨hC3,hX3,hS4,Chg.trans hEB hCs (fun k _ e=>by have e':k=r0.g:=e;exact .inr (.inr (.inr ⟨r0,hrm,e'⟩)))⟩
 case rest =>
  clear hX2 hC2 hE2 hS3
  obtain⟨hC4,hX4,hS4,hCh4⟩:=hcut
  generalize hC1e:deadCt C r=C1 at *
  have HC1:=Lib.hid hC1e
  clear hC1e
  go_upto_region 8 with fail
  obtain⟨W4,hW4⟩:∃W4,W4=wc:=⟨_,rfl⟩
  subst hW4
  have hB4:B W4.heap.size:=hC4.up _ (Nat.le_refl _)
  have hmB:=hC4.lo.2.1
  refine wp_region_phi (Γ := Nat→Value) (sgφ [.val (.pointer (some ⟨c,0,none⟩)),.val (.pointer (some ⟨c,0,none⟩)),.val (.pointer (some ⟨c,0,none⟩)),.val (.map (some mb)),.val (.pointer (some ⟨xb,4,none⟩)),.val (.int .u64 (x.blob:Int)),.val (.pointer (some ⟨xb,4,none⟩)),.val (.int .u64 (x.blob:Int)),.val (.pointer (some ⟨xb,3,none⟩)),.val (.string x.name),.val (.pointer (some ⟨xb,5,none⟩)),.val (.int .i64 x.size),.val (.pointer (some ⟨xb,6,none⟩)),.val (.int .u32 (x.sum:Int)),.val (.pointer (some ⟨xb,7,none⟩)),.val (.slice dA x.disks.length dc),.g 0,.g 1,.g 2,.any])
   (GPut W4 B c mb mn C1 x) (by kernel_rfl) (by kernel_rfl) (by kernel_rfl) (fun _=>undef) ((Ext.refl W4).drew) ?steps ?fin
  case steps =>
   show StepsTo _ _ _ _ _ _ 20
   refine⟨⟨⟨⟨⟨⟨⟨⟨⟨⟨⟨⟨⟨⟨⟨⟨⟨⟨⟨⟨trivial,?s0⟩,?s1⟩,?s2⟩,?s3⟩,?s4⟩,?s5⟩,?s6⟩,?s7⟩,?s8⟩,?s9⟩,?s10⟩,?s11⟩,?s12⟩,?s13⟩,?s14⟩,?s15⟩,?s16⟩,?s17⟩,?s18⟩,?s19⟩
   case s0 =>
    refine sg_val (x:=.pointer (some ⟨c,0,none⟩)) rfl rfl rfl (GPut.keep (j:=0) (by decide) (by decide) (by decide) (by decide)) fun γ L v a w st=>?_
    have e0:=st.far 0 (by kernel_rfl)
    simp at e0
    go_simp
   case s1 =>
    refine sg_val (x:=.pointer (some ⟨c,0,none⟩)) rfl rfl rfl (GPut.keep (j:=1) (by decide) (by decide) (by decide) (by decide)) fun γ L v a w st=>?_
    have e0:=st.val 0 48 rfl (by kernel_rfl)
    rw[(st.φ 0 (by kernel_rfl):v 0=_)]at e0
    simp at e0
    go_simp
   case s2 =>
    refine sg_val (x:=.pointer (some ⟨c,0,none⟩)) rfl rfl rfl (GPut.keep (j:=2) (by decide) (by decide) (by decide) (by decide)) fun γ L v a w st=>?_
    have e1:=st.val 1 49 rfl (by kernel_rfl)
    rw[(st.φ 1 (by kernel_rfl):v 1=_)]at e1
    simp at e1
    go_simp
   case s3 =>
    refine sg_val (x:=.map (some mb)) rfl rfl rfl (GPut.keep (j:=3) (by decide) (by decide) (by decide) (by decide)) fun γ L v a w st=>?_
    have e2:=st.val 2 50 rfl (by kernel_rfl)
    rw[(st.φ 2 (by kernel_rfl):v 2=_)]at e2
    simp at e2
    have h19:L 19=false:=by
     cases hq:L 19 with
     | false=>rfl
     | true =>
      have q3:=st.down 19 3 hq (by kernel_rfl)
      have q99:=st.off;rw[q3]at q99;cases q99
    have hc:=st.inv.cell0 hC4 h19
    go_simp
   case s4 =>
    refine sg_val (x:=.pointer (some ⟨xb,4,none⟩)) rfl rfl rfl (GPut.keep (j:=4) (by decide) (by decide) (by decide) (by decide)) fun γ L v a w st=>?_
    have e3:=st.far 3 (by kernel_rfl)
    simp at e3
    go_simp
   case s6 =>
    refine sg_val (x:=.pointer (some ⟨xb,4,none⟩)) rfl rfl rfl (GPut.keep (j:=6) (by decide) (by decide) (by decide) (by decide)) fun γ L v a w st=>?_
    have e3:=st.far 3 (by kernel_rfl)
    simp at e3
    go_simp
   case s8 =>
    refine sg_val (x:=.pointer (some ⟨xb,3,none⟩)) rfl rfl rfl (GPut.keep (j:=8) (by decide) (by decide) (by decide) (by decide)) fun γ L v a w st=>?_
    have e3:=st.far 3 (by kernel_rfl)
    simp at e3
    go_simp
   case s10 =>
    refine sg_val (x:=.pointer (some ⟨xb,5,none⟩)) rfl rfl rfl (GPut.keep (j:=10) (by decide) (by decide) (by decide) (by decide)) fun γ L v a w st=>?_
    have e3:=st.far 3 (by kernel_rfl)
    simp at e3
    go_simp
   case s12 =>
    refine sg_val (x:=.pointer (some ⟨xb,6,none⟩)) rfl rfl rfl (GPut.keep (j:=12) (by decide) (by decide) (by decide) (by decide)) fun γ L v a w st=>?_
    have e3:=st.far 3 (by kernel_rfl)
    simp at e3
    go_simp
   case s14 =>
    refine sg_val (x:=.pointer (some ⟨xb,7,none⟩)) rfl rfl rfl (GPut.keep (j:=14) (by decide) (by decide) (by decide) (by decide)) fun γ L v a w st=>?_
    have e3:=st.far 3 (by kernel_rfl)
    simp at e3
    go_simp
   case s5 =>
    refine sg_val (x:=.int .u64 (x.blob:Int)) rfl rfl rfl (GPut.keep (j:=5) (by decide) (by decide) (by decide) (by decide)) fun γ L v a w st=>?_
    have e4:=st.val 4 52 rfl (by kernel_rfl)
    rw[(st.φ 4 (by kernel_rfl):v 4=_)]at e4
    simp at e4
    have h19:L 19=false:=by
     cases hq:L 19 with
     | false=>rfl
     | true =>
      have q5:=st.down 19 5 hq (by kernel_rfl)
      have q99:=st.off;rw[q5]at q99;cases q99
    have hc:=(hX4.ext (st.inv.ext h19)).cell 4
    simp at hc
    go_simp
   case s7 =>
    refine sg_val (x:=.int .u64 (x.blob:Int)) rfl rfl rfl (GPut.keep (j:=7) (by decide) (by decide) (by decide) (by decide)) fun γ L v a w st=>?_
    have e6:=st.val 6 54 rfl (by kernel_rfl)
    rw[(st.φ 6 (by kernel_rfl):v 6=_)]at e6
    simp at e6
    have h19:L 19=false:=by
     cases hq:L 19 with
     | false=>rfl
     | true =>
      have q18:=st.down 19 18 hq (by kernel_rfl)
      have q17:=st.down 18 17 q18 (by kernel_rfl)
      have q7:=st.down 17 7 q17 (by kernel_rfl)
      have q99:=st.off;rw[q7]at q99;cases q99
    have hc:=(hX4.ext (st.inv.ext h19)).cell 4
    simp at hc
    go_simp
   case s9 =>
    refine sg_val (x:=.string x.name) rfl rfl rfl (GPut.keep (j:=9) (by decide) (by decide) (by decide) (by decide)) fun γ L v a w st=>?_
    have e8:=st.val 8 56 rfl (by kernel_rfl)
    rw[(st.φ 8 (by kernel_rfl):v 8=_)]at e8
    simp at e8
    have h19:L 19=false:=by
     cases hq:L 19 with
     | false=>rfl
     | true =>
      have q18:=st.down 19 18 hq (by kernel_rfl)
      have q17:=st.down 18 17 q18 (by kernel_rfl)
      have q9:=st.down 17 9 q17 (by kernel_rfl)
      have q99:=st.off;rw[q9]at q99;cases q99
    have hc:=(hX4.ext (st.inv.ext h19)).cell 3
    simp at hc
    go_simp
   case s11 =>
    refine sg_val (x:=.int .i64 x.size) rfl rfl rfl (GPut.keep (j:=11) (by decide) (by decide) (by decide) (by decide)) fun γ L v a w st=>?_
    have e10:=st.val 10 58 rfl (by kernel_rfl)
    rw[(st.φ 10 (by kernel_rfl):v 10=_)]at e10
    simp at e10
    have h19:L 19=false:=by
     cases hq:L 19 with
     | false=>rfl
     | true =>
      have q18:=st.down 19 18 hq (by kernel_rfl)
      have q17:=st.down 18 17 q18 (by kernel_rfl)
      have q11:=st.down 17 11 q17 (by kernel_rfl)
      have q99:=st.off;rw[q11]at q99;cases q99
    have hc:=(hX4.ext (st.inv.ext h19)).cell 5
    simp at hc
    go_simp
   case s13 =>
    refine sg_val (x:=.int .u32 (x.sum:Int)) rfl rfl rfl (GPut.keep (j:=13) (by decide) (by decide) (by decide) (by decide)) fun γ L v a w st=>?_
    have e12:=st.val 12 60 rfl (by kernel_rfl)
    rw[(st.φ 12 (by kernel_rfl):v 12=_)]at e12
    simp at e12
    have h19:L 19=false:=by
     cases hq:L 19 with
     | false=>rfl
     | true =>
      have q18:=st.down 19 18 hq (by kernel_rfl)
      have q17:=st.down 18 17 q18 (by kernel_rfl)
      have q13:=st.down 17 13 q17 (by kernel_rfl)
      have q99:=st.off;rw[q13]at q99;cases q99
    have hc:=(hX4.ext (st.inv.ext h19)).cell 6
    simp at hc
    go_simp
   case s15 =>
    refine sg_val (x:=.slice dA x.disks.length dc) rfl rfl rfl (GPut.keep (j:=15) (by decide) (by decide) (by decide) (by decide)) fun γ L v a w st=>?_
    have e14:=st.val 14 62 rfl (by kernel_rfl)
    rw[(st.φ 14 (by kernel_rfl):v 14=_)]at e14
    simp at e14
    have h19:L 19=false:=by
     cases hq:L 19 with
     | false=>rfl
     | true =>
      have q18:=st.down 19 18 hq (by kernel_rfl)
      have q17:=st.down 18 17 q18 (by kernel_rfl)
      have q16:=st.down 17 16 q17 (by kernel_rfl)
      have q15:=st.down 16 15 q16 (by kernel_rfl)
      have q99:=st.off;rw[q15]at q99;cases q99
    have hc:=(hX4.ext (st.inv.ext h19)).cell 7
    simp at hc
    go_simp
   case s16 =>
    refine sg_call (k:=0) (f:=120) rfl rfl rfl (by kernel_rfl) fun γ L v a w st=>?_
    have e15:=st.val 15 63 rfl (by kernel_rfl)
    rw[(st.φ 15 (by kernel_rfl):v 15=_)]at e15
    simp at e15
    have h19:L 19=false:=by
     cases hq:L 19 with
     | false=>rfl
     | true =>
      have q18:=st.down 19 18 hq (by kernel_rfl)
      have q17:=st.down 18 17 q18 (by kernel_rfl)
      have q16:=st.down 17 16 q17 (by kernel_rfl)
      have q99:=st.off;rw[q16]at q99;cases q99
    have h18:L 18=false:=by
     cases hq:L 18 with
     | false=>rfl
     | true =>
      have q17:=st.down 18 17 hq (by kernel_rfl)
      have q16:=st.down 17 16 q17 (by kernel_rfl)
      have q99:=st.off;rw[q16]at q99;cases q99
    have h17:L 17=false:=by
     cases hq:L 17 with
     | false=>rfl
     | true =>
      have q16:=st.down 17 16 hq (by kernel_rfl)
      have q99:=st.off;rw[q16]at q99;cases q99
    have h16:L 16=false:=st.off
    have hE:=st.inv.ext h19
    refine⟨#[.slice dA x.disks.length dc],by go_simp,?_⟩
    refine(clone_any w _ x.disks (Sl.of_own (own_keep hS4 hE (fun _ _ hh=>hh))) hdl).mono ?_
    rintro r w' ⟨v',rfl,hO,hEc⟩
    refine⟨v',rfl,?_⟩
    unfold GPut
    rw[if_neg (by simp[h19]),if_neg (by simp[h18]),if_neg (by simp[h17]),if_pos (by simp)]
    exact⟨own_low hO hE.size,hE.trans hEc⟩
   case s17 =>
    refine sg_new (k:=1) rfl rfl rfl (by kernel_rfl) fun γ L v a w st=>?_
    have e7:=st.val 7 55 rfl (by kernel_rfl)
    rw[(st.φ 7 (by kernel_rfl):v 7=_)]at e7
    simp at e7
    have e9:=st.val 9 57 rfl (by kernel_rfl)
    rw[(st.φ 9 (by kernel_rfl):v 9=_)]at e9
    simp at e9
    have e11:=st.val 11 59 rfl (by kernel_rfl)
    rw[(st.φ 11 (by kernel_rfl):v 11=_)]at e11
    simp at e11
    have e13:=st.val 13 61 rfl (by kernel_rfl)
    rw[(st.φ 13 (by kernel_rfl):v 13=_)]at e13
    simp at e13
    have e16:=st.val 16 64 rfl (by kernel_rfl)
    rw[(st.φ 16 (by kernel_rfl):v 16=_)]at e16
    simp at e16
    have h19:L 19=false:=by
     cases hq:L 19 with
     | false=>rfl
     | true =>
      have q18:=st.down 19 18 hq (by kernel_rfl)
      have q17:=st.down 18 17 q18 (by kernel_rfl)
      have q99:=st.off;rw[q17]at q99;cases q99
    have h18:L 18=false:=by
     cases hq:L 18 with
     | false=>rfl
     | true =>
      have q17:=st.down 18 17 hq (by kernel_rfl)
      have q99:=st.off;rw[q17]at q99;cases q99
    have h17:L 17=false:=st.off
    have hinv:=st.inv
    unfold GPut at hinv
    rw[if_neg (by rw[h19];simp),if_neg (by rw[h18];simp),if_neg (by rw[h17];simp),if_pos (st.dep 16 (by kernel_rfl))]at hinv
    obtain⟨gA,gc,hγ⟩:=own_slc hinv.1
    refine⟨.agg (blCells (newBl x) (γ 0)),w,by rw[hγ]at e16⊢;go_simp;exact⟨rfl,rfl,rfl,rfl,rfl,rfl,rfl,rfl,rfl,rfl,rfl,rfl⟩,?_⟩
    unfold GPut
    rw[if_neg (by simp[h19]),if_neg (by simp[h18]),if_pos (by simp)]
    exact⟨rfl,by simpa[upd]using hinv.1,hinv.2⟩
   case s18 =>
    refine sg_new (k:=2) rfl rfl rfl (by kernel_rfl) fun γ L v a w st=>?_
    have h19:L 19=false:=by
     cases hq:L 19 with
     | false=>rfl
     | true =>
      have q18:=st.down 19 18 hq (by kernel_rfl)
      have q99:=st.off;rw[q18]at q99;cases q99
    have h18:L 18=false:=st.off
    have hinv:=st.inv
    unfold GPut at hinv
    rw[if_neg (by rw[h19];simp),if_neg (by rw[h18];simp),if_pos (st.dep 17 (by kernel_rfl))]at hinv
    obtain⟨hg1,hO,hE⟩:=hinv
    have e17:=st.val 17 65 rfl (by kernel_rfl)
    rw[(st.φ 17 (by kernel_rfl):v 17=_),hg1]at e17
    simp at e17
    refine⟨.pointer (some ⟨w.heap.size,0,none⟩),w.alloc (.cells (blCells (newBl x) (γ 0)) 161),by go_simp,?_⟩
    unfold GPut
    rw[if_neg (by simp[h19]),if_pos (by simp)]
    exact⟨w.heap.size,by simp[upd,ptrV],hE.size,At.new w _ _,by simpa[upd]using hO.alloc _,hE.alloc _⟩
   case s19 =>
    refine sg_skip rfl rfl rfl fun γ L v a w st=>?_
    have e3:=st.val 3 51 rfl (by kernel_rfl)
    rw[(st.φ 3 (by kernel_rfl):v 3=_)]at e3
    simp at e3
    have e5:=st.val 5 53 rfl (by kernel_rfl)
    rw[(st.φ 5 (by kernel_rfl):v 5=_)]at e5
    simp at e5
    have h19:L 19=false:=st.off
    have hinv:=st.inv
    unfold GPut at hinv
    rw[if_neg (by rw[h19];simp),if_pos (st.dep 18 (by kernel_rfl))]at hinv
    obtain⟨g,hg2,hgW,hB,hO,hE⟩:=hinv
    have e18:=st.val 18 66 rfl (by kernel_rfl)
    rw[(st.φ 18 (by kernel_rfl):v 18=_),hg2]at e18
    simp[ptrV]at e18
    obtain⟨w',hrun,hC',hCh⟩:=(hC4.ext hE).addRow (b:=newBl x) (dv := γ 0) hB (own_base0 hO) (fun r hr e=>by have:=(hC4.bl r hr).1.lt;omega) (hC4.up _ (by omega)) (fun k hk=>hC4.up k (hO.lt k hk.symm).1)
    have hrun':(Instr.mapUpdate 131 (.map (some mb)) (.int .u64 (x.blob:Int)) (.pointer (some ⟨g,0,none⟩))).run Tryz.prog w=.ok () w':=hrun
    refine⟨w',by go_simp,?_⟩
    unfold GPut
    rw[if_pos (by simp)]
    exact⟨g,hC',(fun xb cs hA=>(hA.ext hE).chg hCh (fun e=>(hC4.ext hE).bm.ne_at (hA.ext hE) (Eq.symm e))),Chg.trans (S:=(· = mb)) (Chg.mono hE (fun _ _ hh=>hh.elim)) hCh (fun k _ e=>e)⟩
  case fin =>
   intro γ L v wx hall hG hφ
   unfold GPut at hG
   rw[if_pos (hall 19 (by decide))]at hG
   obtain⟨g,hC5,hX5',hCh5⟩:=hG
   have hX5:=hX5' xb _ hX4
   clear hX5'
   generalize γ 0=dv' at *
   clear hall hφ hX4 hC4 hS4
   change Exit.then _ _ _ (putAll _ v _ 20) wx
   simp only[putAll,dstOf,Act.put]
   simp only[List.getElem?_toArray,List.getElem?_cons_zero,List.getElem?_cons_succ,Option.bind_some,List.setIfInBounds_toArray,List.set_cons_zero,List.set_cons_succ]
   have hnms:(C1.add (newBl x) g dv').names=C.names:=by rw[←HC1.out];cases r <;> rfl
   obtain⟨w6,hup,hC6,hCh6⟩:=(hC5.ext ((Ext.refl wx).drew)).addName x.name x.blob
   rw[hnms,←HC1.out]at hC6
   obtain⟨c0,c1⟩:=hC5.c0
   have x3:=hX5.cell 3
   have x4:=hX5.cell 4
   have hmnB:=hC5.lo.2.2.1
   simp at x3 x4
   clear hX5 hC5 hnms
   go_upto_region 9 with fail
   go_region
   go_wp2_with fail
   go_ret
   exact⟨g,dv',rfl,hC6,Chg.trans (Chg.trans hCh4 hCh5 (fun k _ e=>by have e':k=mb:=e;exact .inr (.inl e'))).drew hCh6 (fun k _ e=>by have e':k=mn:=e;exact .inr (.inr (.inl e')))⟩
end put
end Go.Proofs.YtkkbfdencgdbhaaGreatDoor
namespace Go.Proofs.YtkkbfdencgdbhaaGreatDoor
open Go.RowKit
section forget
variable(w:World)(B:Nat→Prop)(c mb mn:Nat)(C:Ct)(h:CtAt w B c mb mn C){r:BR}(hf:C.find r.b.id=some r)
include h hf
set_option maxRecDepth 100000 in
set_option maxHeartbeats 2000000 in
theorem forget_no(hk:r.b.dead=false∨0<r.b.pins) :
 Calls Tryz.prog 76 #[.pointer (some ⟨c,0,none⟩),.pointer (some ⟨r.g,0,none⟩)] w fun e w'=>e=.returned (.int .i64 16)∧Ext w w':=by
 have hB:=(h.bl r (find_mem hf).1).1
 have b11:=hB.cell 11
 have b12:=hB.cell 12
 simp at b11 b12
 have hk2:r.b.dead=false∨r.b.dead=true∧0<r.b.pins:=by
  cases hd:r.b.dead
  ·exact .inl rfl
  ·rcases hk with hk|hk
   ·rw[hd]at hk;cases hk
   ·exact .inr ⟨rfl,hk⟩
 go_enter Tryz.func76,Tryz.ntmps76
 clear hk h hf hB
 rcases hk2 with hk|⟨hk,hk2⟩
 all_goals
  go_wp2_with fail
  go_ret
  exact⟨rfl,Ext.refl _⟩
set_option maxRecDepth 100000 in
set_option maxHeartbeats 2000000 in
theorem forget_ok(hd:r.b.dead=true)(hp:¬ 0<r.b.pins) :
 Calls Tryz.prog 76 #[.pointer (some ⟨c,0,none⟩),.pointer (some ⟨r.g,0,none⟩)] w fun e w'=>e=.returned (.int .i64 0)∧CtAt w' B c mb mn (C.del r.b.id)∧Chg (C.S c mb mn) w w':=by
 have hB:=(h.bl r (find_mem hf).1).1
 have b0:=hB.cell 0
 have b11:=hB.cell 11
 have b12:=hB.cell 12
 simp at b0 b11 b12
 obtain⟨c0,c1⟩:=h.c0
 obtain⟨w',hdel,hC',hCh⟩:=(h.ext ((Ext.refl w).drew)).delRow r.b.id
 have hdel':=hdel 0
 have hmB:=h.lo.2.1
 go_enter Tryz.func76,Tryz.ntmps76
 clear h hf hB
 go_upto_region 3 with fail
 go_region
 go_wp2_with fail
 go_ret
 exact⟨rfl,hC',Chg.trans (S:=C.S c mb mn) (Chg.mono ((Ext.refl w).drew) (fun _ _ hh=>hh.elim)) hCh (fun k _ e=>by have e':k=mb:=e;exact .inr (.inl e'))⟩
set_option maxRecDepth 100000 in
set_option maxHeartbeats 2000000 in
theorem unpin_no(x:Cmd)(dv:Value)(hk:x.kind=6)(hp:r.b.pins=0) :
 Calls Tryz.prog 77 #[.pointer (some ⟨c,0,none⟩),.pointer (some ⟨r.g,0,none⟩),cmdVal x dv] w fun e w'=>e=.returned (.int .i64 16)∧Ext w w':=by
 have HK:=Lib.hid hk
 clear hk
 unfold cmdVal
 go_enter Tryz.func77,Tryz.ntmps77
 have hX:=At.new w 39 (cmdCells x dv)
 have hE:=(Ext.refl w).alloc (.cells (cmdCells x dv) 39)
 go_upto_region 1 with fail
 generalize World.alloc _ _=W at *
 have hB:=((h.ext hE).bl r (find_mem hf).1).1
 have b11:=hB.cell 11
 have x0:=hX.cell 0
 simp at b11 x0
 rw[hp]at b11
 rw[HK.out]at x0
 clear h hf hB hX
 go_wp2_with fail
 go_ret
 exact⟨rfl,hE⟩
set_option maxRecDepth 100000 in
set_option maxHeartbeats 2000000 in
theorem unpin_ok(x:Cmd)(dv:Value)(hk:x.kind=6)(hp:0<r.b.pins∧r.b.pins<4611686018427387904) :
 Calls Tryz.prog 77 #[.pointer (some ⟨c,0,none⟩),.pointer (some ⟨r.g,0,none⟩),cmdVal x dv] w fun e w'=>e=.returned (.int .i64 0)∧CtAt w' B c mb mn (C.upd r.g { r.b with pins:=r.b.pins - 1 } r.dv)∧Chg (C.S c mb mn) w w':=by
 have HK:=Lib.hid hk
 clear hk
 unfold cmdVal
 go_enter Tryz.func77,Tryz.ntmps77
 have hX:=At.new w 39 (cmdCells x dv)
 have hE:=(Ext.refl w).alloc (.cells (cmdCells x dv) 39)
 go_upto_region 1 with fail
 generalize World.alloc _ _=W at *
 have hC:=h.ext hE
 have hrm:=(find_mem hf).1
 have hB:=(hC.bl r hrm).1
 have hO:=(hC.bl r hrm).2
 have hgB:=hC.lo.2.2.2 r hrm
 have b11:=hB.cell 11
 have f11:=hB.frozen 11
 have hbl:=hB.lt
 have x0:=hX.cell 0
 simp at b11 x0
 rw[HK.out]at x0
 have hp0:(r.b.pins == 0)=false:=by rw[beq_eq_false_iff_ne];omega
 have hCs:=(Chg.refl (· = r.g) W).setCell (p:=⟨r.g,11,none⟩) (.inl rfl) (.int .i64 (r.b.pins - 1))
 have hB2:At (W.setCell ⟨r.g,11,none⟩ (.int .i64 (r.b.pins - 1))) r.g 161 (blCells { r.b with pins:=r.b.pins - 1 } r.dv):=hB.set 11 _
 have hC2:=hC.chgBlob hrm (b := { r.b with pins:=r.b.pins - 1 }) (dv:=r.dv) rfl hCs hB2 (own_keep hO hCs (fun k hk e=>own_apart' hO hB (by decide) k hk e)) (hC.dl r hrm)
 clear h hf hB hX hC hO hB2
 go_wp2_with fail
 go_ret
 exact⟨rfl,hC2,Chg.trans (S:=C.S c mb mn) (Chg.mono hE (fun _ _ hh=>hh.elim)) hCs (fun k _ e=>by have e':k=r.g:=e;exact .inr (.inr (.inr ⟨r,hrm,e'⟩)))⟩
end forget
end Go.Proofs.YtkkbfdencgdbhaaGreatDoor
namespace Go.Proofs.YtkkbfdencgdbhaaGreatDoor
open Go.RowKit
end Go.Proofs.YtkkbfdencgdbhaaGreatDoor
