/-
  Part 40 of what the law leans on.
-/
import Derived.Test.YtkkbfdencgdbhaaGreatDoorSS14
import Derived.Test.YtkkbfdencgdbhaaGreatDoorSS36
import Derived.Test.YtkkbfdencgdbhaaGreatDoorSS39
set_option linter.unusedVariables false
set_option linter.unusedSimpArgs false
set_option linter.unusedSectionVars false
namespace Go.Proofs.YtkkbfdencgdbhaaGreatDoor
open Go.RowKit Go.Sort
theorem riseB_adj:∀l:List Int,riseB l=true↔∀i,i+1<l.length→l.getD i 0<l.getD (i+1) 0
 | []=>⟨fun _ i h=>by simp at h,fun _=>rfl⟩
 | [a]=>⟨fun _ i h=>by simp at h,fun _=>rfl⟩
 | a::b::r=>by
  unfold riseB
  rw[Bool.and_eq_true,riseB_adj (b::r),decide_eq_true_eq]
  constructor
  ·rintro⟨h1,h2⟩ i hi
   cases i with
   | zero=>exact h1
   | succ i=>exact h2 i (by simpa using hi)
  ·intro h
   exact⟨h 0 (by simp),fun i hi=>h (i+1) (by simpa using hi)⟩
set_option maxRecDepth 100000 in
theorem rising_any(w:World)(v:Value)(l:List Int)(hS:Sl w v (l.map (Value.int .i64)))(hl:l.length≤1048576) :
 Calls Tryz.prog 146 #[v] w fun e w'=>e=.returned (.bool (riseB l))∧Ext w w':=by
 obtain⟨A,c,rfl,hx⟩:=hS
 rw[List.length_map]
 go_enter Tryz.func146,Tryz.ntmps146
 go_wp2_with fail
 go_loopw [3] (fun kv wr=>∃k:Nat,kv=.int .i64 (k:Int)∧1≤k∧(k=1∨k≤l.length)∧(∀i,i+1<k→l.getD i 0<l.getD (i+1) 0)∧Ext w wr) (fun kv _=>l.length+1 - (intOf kv).toNat)
 case atStart=>exact⟨1,rfl,Nat.le_refl _,.inl rfl,fun i h=>by omega,Ext.refl w⟩
 case round =>
  obtain⟨k,rfl,hk1,hk2,hk,hE⟩:=hrel
  by_cases hlt:k<l.length
  ·obtain⟨b,o,rfl,hcell⟩:=hx (by intro e;rw[List.map_eq_nil_iff]at e;subst e;simp at hlt)
   obtain⟨x,hxx⟩:∃x,l[k]? = some x:=⟨_,List.getElem?_eq_getElem hlt⟩
   obtain⟨y,hyy⟩:∃y,l[k - 1]? = some y:=⟨_,List.getElem?_eq_getElem (by omega)⟩
   have r0:=hcell k (.int .i64 x) (by rw[List.getElem?_map,hxx];rfl)
   have r1:=hcell (k - 1) (.int .i64 y) (by rw[List.getElem?_map,hyy];rfl)
   have hb:b<w.heap.size:=cell_lt r0
   have q0:wr.drew.cell? ⟨b,o+k,none⟩=some (.int .i64 x):=(hE.drew.cell (p:=⟨b,o+k,none⟩) hb).trans r0
   have q1:wr.drew.cell? ⟨b,o+(k - 1),none⟩=some (.int .i64 y):=(hE.drew.cell (p:=⟨b,o+(k - 1),none⟩) hb).trans r1
   have ex:l.getD k 0=x:=by rw[List.getD_eq_getElem?_getD,hxx];rfl
   have ey:l.getD (k - 1) 0=y:=by rw[List.getD_eq_getElem?_getD,hyy];rfl
   have hk0:((k:Int) - 1).toNat=k - 1:=by omega
   have hk1':(0:Int)≤(k:Int) - 1:=by omega
   have hk2':(k:Int) - 1<(l.length:Int):=by omega
   have hkl:(k:Int)<(l.length:Int):=by omega
   have hw:IntKind.i64.wrap ((k:Int) - 1)=(k:Int) - 1:=IntWalk.i64_in _ (by omega)
   clear hx hcell r0 r1
   go_upto_region 4 with fail
   go_region
   by_cases hxy:x≤y
   ·go_wp2_with fail
    go_ret
    refine⟨?_,hE.drew⟩
    have:riseB l=false:=by
     cases h:riseB l
     ·rfl
     ·have:=(riseB_adj l).1 h (k - 1) (by omega)
      rw[show k - 1+1=k by omega,ex,ey]at this
      omega
    rw[this];rfl
   ·go_wp2_with fail
    go_roundw
    case rel =>
     refine⟨k+1,by go_num,by omega,.inr (by omega),fun i hi=>?_,hE.drew⟩
     by_cases e:i+1<k
     ·exact hk i e
     ·have:i=k - 1:=by omega
      subst this
      rw[show k - 1+1=k by omega,ex,ey];omega
    case measure=>simp[intOf];omega
  ·go_wp2_with fail
   go_ret
   refine⟨?_,hE⟩
   rw[(riseB_adj l).2 fun i hi=>hk i (by omega)];rfl
theorem own_low{w:World}{b b':Nat}{e:TypeId}{size:Nat}{v:Value}{n:Nat}{xs:List Value}(h:w.ownsRow b e size v n xs)(hb:b'≤b):w.ownsRow b' e size v n xs:=by
 obtain⟨h1,h2⟩:=h
 refine⟨h1,?_⟩
 rcases h2 with h2|⟨g,cap,cur,h3,h4,h5⟩
 ·exact .inl h2
 ·exact .inr ⟨g,cap,cur,h3,Nat.le_trans hb h4,h5⟩
structure Rst (w0 w:World) (dB:Nat) (s:ByteArray) (d:Dc) (g:Nat) (b:Bl) (dv:Value):Prop where
 chg:Chg (· = dB) w0 w
 dec:DecAt w dB s d
 at_:At w g 161 (blCells b dv)
 own:w.ownsRow w0.heap.size 3 1 dv b.disks.length (b.disks.map (Value.int .i64))
 new:w0.heap.size≤g
theorem DecAt.apart{w:World}{b:Nat}{s:ByteArray}{d:Dc}(h:DecAt w b s d){g:Nat}{t:TypeId}{cs:Array Value}(hA:At w g t cs)(ht:175≠t):b≠g:=by
 obtain⟨_,_,_,k,_,_,h6⟩:=h
 exact At.ne h6 hA ht
theorem DecAt.ownApart{w:World}{b:Nat}{s:ByteArray}{d:Dc}(h:DecAt w b s d){base size n:Nat}{t:TypeId}{v:Value}{xs:List Value}(hO:w.ownsRow base t size v n xs)(ht:t≠175):∀k,some k=v.ownBlock→k≠b:=by
 obtain⟨_,_,_,k,_,_,h6⟩:=h
 exact own_apart' hO h6 ht
section
variable{w0 w w':World}{dB g:Nat}{s:ByteArray}{d d':Dc}{b b':Bl}{dv dv':Value}
theorem Rst.call(h:Rst w0 w dB s d g b dv)(hT:DecTo w w' dB s d'):Rst w0 w' dB s d' g b dv :=
 ⟨h.chg.trans hT.1 (fun _ _ e=>e),hT.2,h.at_.chg hT.1 (fun e=>h.dec.apart h.at_ (by decide) e.symm),own_keep h.own hT.1 (h.dec.ownApart h.own (by decide)),h.new⟩
theorem Rst.ext(h:Rst w0 w dB s d g b dv)(hE:Ext w w'):Rst w0 w' dB s d g b dv :=
 ⟨Chg.trans h.chg hE (fun _ _ e=>e.elim),h.dec.chg hE (fun e=>e),h.at_.ext hE,own_keep h.own hE (fun _ _ hh=>hh),h.new⟩
theorem Rst.set(h:Rst w0 w dB s d g b dv)(k:Nat)(v:Value)(he:(blCells b dv).setIfInBounds k v=blCells b' dv')(hO:w.ownsRow w0.heap.size 3 1 dv' b'.disks.length (b'.disks.map (Value.int .i64))) :
 Rst w0 (w.setCell ⟨g,k,none⟩ v) dB s d g b' dv':=by
 have hA:=h.at_.set k v
 rw[he]at hA
 have hc:Chg (· = g) w (w.setCell ⟨g,k,none⟩ v):=Chg.setCell (p:=⟨g,k,none⟩) (Chg.refl (· = g) w) (.inl rfl) v
 exact⟨Chg.setCell h.chg (.inr h.new) v,h.dec.chg hc (fun e=>h.dec.apart h.at_ (by decide) e),hA,own_keep hO hc (own_apart' hO h.at_ (by decide)),h.new⟩
end
def RdOut(w:World)(dB:Nat)(s:ByteArray)(d:Dc)(e:Ending)(w':World):Prop :=
 ∃(g:Nat) (dv:Value),e=.returned (.pointer (some ⟨g,0,none⟩))∧Rst w w' dB s (rdB d).pn.2 g (rdB d).bl dv
theorem rd_all{d:Dc}{id:Nat×Dc}{nm:List UInt8×Dc}{lv:Bool×Dc}{sz su:Nat×Dc}{dk:List Int×Dc}{a b:Cp×Dc}{pn:Nat×Dc}(h1:d.u=id)(h2:id.2.s 32=nm)(h3:nm.2.b=lv)(h4:lv.2.i 4000=sz)(h5:sz.2.u=su)
 (h6:(sumF su).list 6 5=dk) (h7:rdCp 0 (disF dk)=a) (h8:rdCp 1 a.2=b) (h9:b.2.i 1073741824=pn):rdB d=⟨id,nm,lv,sz,su,dk,a,b,pn⟩:=by
 subst h1 h2 h3 h4 h5 h6 h7 h8 h9;rfl
def cpFail(p:Int)(t:Bool)(v a:Nat)(d:Dc):Dc:=if((t && !decide ((v:Int) % 2=p))||(!t&&(!decide (v=0) || !decide (a=0))))=true then d.fail 3 else d
theorem rdCp_all{p:Int}{d:Dc}{t:Bool×Dc}{v a:Nat×Dc}(h1:d.b=t)(h2:t.2.i 11=v)(h3:v.2.i 1073741824=a):rdCp p d=(⟨t.1,v.1,a.1⟩,cpFail p t.1 v.1 a.1 a.2):=by
 subst h1 h2 h3;rfl
theorem dk_len{d:Dc} : ((d.list 6 5).1).length≤6:=by
 have:∀(n:Nat) (d:Dc),((listLoop 5 n d).1.getD []).length≤n:=fun n=>by
  induction n with
  | zero=>intro d;simp[listLoop]
  | succ n ih =>
   intro d
   unfold listLoop
   split
   ·split
    ·simp
    ·rename_i l e hl
     have:=ih (d.i 5).2
     rw[hl]at this
     simpa using this
   ·simp
 have h2:((d.i 6).1:Int)≤6:=by
  unfold Dc.i
  split
  ·show(0:Int)≤6
   decide
  ·rename_i h
   have:max (6:Int) 0=6:=by decide
   omega
 have h3:=this (d.i 6).1 (d.i 6).2
 unfold Dc.list
 simp only
 omega
theorem di_le(d:Dc)(m:Int)(hm:0≤m):((d.i m).1:Int)≤m:=by
 unfold Dc.i
 rw[Int.max_eq_left hm]
 split
 ·exact hm
 ·omega
set_option maxRecDepth 100000 in
set_option maxHeartbeats 8000000 in
theorem readBlob_any(w:World)(dB:Nat)(s:ByteArray)(d:Dc)(h:DecAt w dB s d) :
 Calls Tryz.prog 99 #[.pointer (some ⟨dB,0,none⟩)] w (RdOut w dB s d):=by
 go_enter Tryz.func99,Tryz.ntmps99
 go_upto_region 2 with fail
 have h0:Rst w (w.alloc (.cells #[.int .u64 0,.string ⟨#[]⟩,.int .i64 0,.int .u32 0,.slice none 0 0,.bool false,.int .i64 0,.int .i64 0,.bool false,.int .i64 0,.int .i64 0,.int .i64 0,.bool false] 161)) dB s d w.heap.size ⟨0,⟨#[]⟩,0,0,[],Cp.none,Cp.none,0,false⟩ (.slice none 0 0):=⟨(Chg.refl _ w).alloc _,h.alloc _,At.new w _ _,own_nil _ _ _,Nat.le_refl _⟩
 clear h
 generalize w.heap.size=g at h0⊢
 generalize w.alloc (.cells #[.int .u64 0,.string ⟨#[]⟩,.int .i64 0,.int .u32 0,.slice none 0 0,.bool false,.int .i64 0,.int .i64 0,.bool false,.int .i64 0,.int .i64 0,.int .i64 0,.bool false] 161)=W at *
 go_wp2_with fail
 refine(du_any _ dB s _ h0.dec).mono ?_
 rintro e w1 ⟨rfl,hT⟩
 have h1:=h0.call hT
 generalize hv:d.u=idd at h1⊢
 have Hidd:=Lib.hid hv
 clear h0 hT hv
 have c0:=h1.at_.cell 0
 have f0:=h1.at_.frozen 0
 simp at c0
 go_wp2_with fail
 have h0:=h1.set (b':=⟨idd.1,⟨#[]⟩,0,0,[],Cp.none,Cp.none,0,false⟩) (dv':=(.slice none 0 0)) 0 (.int .u64 (idd.1:Int)) rfl h1.own
 generalize World.setCell _ _ _=W at h0⊢
 clear h1 c0 f0
 refine(ds_any _ dB s _ h0.dec 32 (by decide) (by decide)).mono ?_
 rintro e w1 ⟨rfl,hT⟩
 have h1:=h0.call hT
 generalize hv:idd.2.s 32=nm at h1⊢
 have Hnm:=Lib.hid hv
 clear h0 hT hv
 have c0:=h1.at_.cell 1
 have f0:=h1.at_.frozen 1
 simp at c0
 go_wp2_with fail
 have h0:=h1.set (b':=⟨idd.1,⟨nm.1.toArray⟩,0,0,[],Cp.none,Cp.none,0,false⟩) (dv':=(.slice none 0 0)) 1 (.string ⟨nm.1.toArray⟩) rfl h1.own
 generalize World.setCell _ _ _=W at h0⊢
 clear h1 c0 f0
 refine(db_any _ dB s _ h0.dec).mono ?_
 rintro e w1 ⟨rfl,hT⟩
 have h1:=h0.call hT
 generalize hv:nm.2.b=lv at h1⊢
 have Hlv:=Lib.hid hv
 clear h0 hT hv
 have c0:=h1.at_.cell 12
 have f0:=h1.at_.frozen 12
 simp at c0
 go_wp2_with fail
 have h0:=h1.set (b':=⟨idd.1,⟨nm.1.toArray⟩,0,0,[],Cp.none,Cp.none,0, !lv.1⟩) (dv':=(.slice none 0 0)) 12 (.bool (!lv.1)) rfl h1.own
 generalize World.setCell _ _ _=W at h0⊢
 clear h1 c0 f0
 refine(di_any _ dB s _ h0.dec 4000 (by decide) (by decide)).mono ?_
 rintro e w1 ⟨rfl,hT⟩
 have h1:=h0.call hT
 generalize hv:lv.2.i 4000=sz at h1⊢
 have Hsz:=Lib.hid hv
 clear h0 hT hv
 have c0:=h1.at_.cell 2
 have f0:=h1.at_.frozen 2
 simp at c0
 go_wp2_with fail
 have h0:=h1.set (b':=⟨idd.1,⟨nm.1.toArray⟩,sz.1,0,[],Cp.none,Cp.none,0, !lv.1⟩) (dv':=(.slice none 0 0)) 2 (.int .i64 (sz.1:Int)) rfl h1.own
 generalize World.setCell _ _ _=W at h0⊢
 clear h1 c0 f0
 refine(du_any _ dB s _ h0.dec).mono ?_
 rintro e w1 ⟨rfl,hT⟩
 have h1:=h0.call hT
 generalize hv:sz.2.u=su at h1⊢
 have Hsu:=Lib.hid hv
 clear h0 hT hv
 go_upto_if 33 with fail
 go_cut []from 32 to 35 (fun wx=>Rst w wx dB s (sumF su) g ⟨idd.1,⟨nm.1.toArray⟩,sz.1,0,[],Cp.none,Cp.none,0, !lv.1⟩ (.slice none 0 0))
 case first =>
  by_cases hs:su.1≤4294967295
  ·have e1:sumF su=su.2:=by
    unfold sumF
    rw[if_neg]
    simp;omega
   have hs2:¬ (4294967295:Int)<(su.1:Int):=by omega
   go_wp2_with fail
   go_meet
   case rel=>rw[e1];exact h1
  ·have e1:sumF su=su.2.fail 3:=by
    unfold sumF
    rw[if_pos]
    simp;omega
   have hs2:(4294967295:Int)<(su.1:Int):=by omega
   go_wp2_with fail
   refine(dfail_any _ dB s _ h1.dec 3 (by decide)).mono ?_
   rintro e w2 ⟨rfl,hT⟩
   have h2:=h1.call hT
   go_wp2_with fail
   go_meet
   case rel=>rw[e1];exact h2
 case rest =>
 clear h1
 rename_i wc
 have h1:=hcut
 clear hcut
 have hw:IntKind.u32.wrap (su.1:Int)=((su.1 % 4294967296:Nat):Int):=by simp[IntKind.wrap,IntKind.bits,IntKind.signed]
 have c0:=h1.at_.cell 3
 have f0:=h1.at_.frozen 3
 simp at c0
 go_wp2_with fail
 have h0:=h1.set (b':=⟨idd.1,⟨nm.1.toArray⟩,sz.1,su.1 % 4294967296,[],Cp.none,Cp.none,0, !lv.1⟩) (dv':=(.slice none 0 0)) 3 (.int .u32 ((su.1:Int) % 4294967296)) rfl h1.own
 generalize World.setCell _ _ _=W at h0⊢
 clear h1 c0 f0
 clear hw
 refine(dlist_any _ dB s _ h0.dec 6 5 (by decide) (by decide) (by decide) (by decide)).mono ?_
 rintro e w1 ⟨v,rfl,hO,_,hT⟩
 have hlen:=dk_len (d:=sumF su)
 have hO:=own_low hO h0.chg.size
 have h1:=h0.call hT
 generalize hv:(sumF su).list 6 5=dk at h1 hO hlen⊢
 have Hdk:=Lib.hid hv
 obtain⟨dA,dc,rfl⟩:=own_slc hO
 clear h0 hT hv
 have c0:=h1.at_.cell 4
 have f0:=h1.at_.frozen 4
 simp at c0
 go_upto_region 11 with fail
 have h0:=h1.set (b':=⟨idd.1,⟨nm.1.toArray⟩,sz.1,su.1 % 4294967296,dk.1,Cp.none,Cp.none,0, !lv.1⟩) (dv':=(.slice dA dk.1.length dc)) 4 (.slice dA dk.1.length dc) rfl hO
 generalize World.setCell _ _ _=W at h0⊢
 clear h1 c0 f0
 clear hO
 have c4:=h0.at_.cell 4
 simp at c4
 go_wp2_with fail
 refine(rising_any _ _ dk.1 (own_sl h0.own) (by omega)).mono ?_
 rintro e w1 ⟨rfl,hE⟩
 have h1:=h0.ext hE
 clear h0 hE c4 hlen
 go_upto_if 51 with fail
 go_cut []from 50 to 53 (fun wx=>Rst w wx dB s (disF dk) g ⟨idd.1,⟨nm.1.toArray⟩,sz.1,su.1 % 4294967296,dk.1,Cp.none,Cp.none,0, !lv.1⟩ (.slice dA dk.1.length dc))
 case first =>
  cases hs:riseB dk.1
  ·have e1:disF dk=dk.2.fail 3:=by
    unfold disF
    rw[hs];rfl
   go_wp2_with fail
   refine(dfail_any _ dB s _ h1.dec 3 (by decide)).mono ?_
   rintro e w2 ⟨rfl,hT⟩
   have h2:=h1.call hT
   go_wp2_with fail
   go_meet
   case rel=>rw[e1];exact h2
  ·have e1:disF dk=dk.2:=by
    unfold disF
    rw[hs];rfl
   go_wp2_with fail
   go_meet
   case rel=>rw[e1];exact h1
 case rest =>
 clear h1
 have h1:=hcut
 clear hcut
 go_wp2_with fail
 generalize hda:rdCp 0 (disF dk)=ra
 generalize hdb:rdCp 1 ra.2=rb
 have Hra:=Lib.hid hda
 have Hrb:=Lib.hid hdb
 clear hda hdb
 go_loopw [54] (fun jv wr=>∃j:Nat,jv=.int .i64 (j:Int)∧j≤2∧(j=0→Rst w wr dB s (disF dk) g ⟨idd.1,⟨nm.1.toArray⟩,sz.1,su.1 % 4294967296,dk.1,Cp.none,Cp.none,0, !lv.1⟩ (.slice dA dk.1.length dc))∧(j=1→Rst w wr dB s ra.2 g ⟨idd.1,⟨nm.1.toArray⟩,sz.1,su.1 % 4294967296,dk.1,ra.1,Cp.none,0, !lv.1⟩ (.slice dA dk.1.length dc))∧(j=2→Rst w wr dB s rb.2 g ⟨idd.1,⟨nm.1.toArray⟩,sz.1,su.1 % 4294967296,dk.1,ra.1,rb.1,0, !lv.1⟩ (.slice dA dk.1.length dc))) (fun jv _=>2 - (intOf jv).toNat)
 case atStart=>exact⟨0,rfl,by omega,fun _=>h1,fun e=>by omega,fun e=>by omega⟩
 case round =>
  clear h1
  obtain⟨j,rfl,hj,k0,k1,k2⟩:=hrel
  have hj3:j=0∨j=1∨j=2:=by omega
  rcases hj3 with rfl|rfl|rfl
  ·have h0:=k0 rfl
   clear k0 k1 k2
   go_upto_region 17 with fail
   go_wp2_with fail
   refine(db_any _ dB s _ h0.dec).mono ?_
   rintro e w1 ⟨rfl,hT⟩
   have h1:=h0.call hT
   generalize hv:(disF dk).b=tb at h1⊢
   have Htb:=Lib.hid hv
   have c0:=h1.at_.cell 5
   have f0:=h1.at_.frozen 5
   simp at c0
   clear h0 hT hv
   go_wp2_with fail
   have h0:=h1.set (b':=⟨idd.1,⟨nm.1.toArray⟩,sz.1,su.1 % 4294967296,dk.1,⟨tb.1,0,0⟩,Cp.none,0, !lv.1⟩) (dv':=(.slice dA dk.1.length dc)) 5 (.bool tb.1) rfl h1.own
   generalize World.setCell _ _ _=W at h0⊢
   clear h1 c0 f0
   refine(di_any _ dB s _ h0.dec 11 (by decide) (by decide)).mono ?_
   rintro e w1 ⟨rfl,hT⟩
   have h1:=h0.call hT
   have hvl:=di_le tb.2 11 (by decide)
   generalize hv:(tb.2).i 11=vb at h1 hvl⊢
   have Hvb:=Lib.hid hv
   have c0:=h1.at_.cell 6
   have f0:=h1.at_.frozen 6
   simp at c0
   clear h0 hT hv
   go_wp2_with fail
   have h0:=h1.set (b':=⟨idd.1,⟨nm.1.toArray⟩,sz.1,su.1 % 4294967296,dk.1,⟨tb.1,vb.1,0⟩,Cp.none,0, !lv.1⟩) (dv':=(.slice dA dk.1.length dc)) 6 (.int .i64 (vb.1:Int)) rfl h1.own
   generalize World.setCell _ _ _=W at h0⊢
   clear h1 c0 f0
   refine(di_any _ dB s _ h0.dec 1073741824 (by decide) (by decide)).mono ?_
   rintro e w1 ⟨rfl,hT⟩
   have h1:=h0.call hT
   generalize hv:(vb.2).i 1073741824=ab at h1⊢
   have Hab:=Lib.hid hv
   have c0:=h1.at_.cell 7
   have f0:=h1.at_.frozen 7
   simp at c0
   clear h0 hT hv
   go_upto_region 20 with fail
   have h0:=h1.set (b':=⟨idd.1,⟨nm.1.toArray⟩,sz.1,su.1 % 4294967296,dk.1,⟨tb.1,vb.1,ab.1⟩,Cp.none,0, !lv.1⟩) (dv':=(.slice dA dk.1.length dc)) 7 (.int .i64 (ab.1:Int)) rfl h1.own
   generalize World.setCell _ _ _=W at h0⊢
   clear h1 c0 f0
   have Hr:Hid (ra=(⟨tb.1,vb.1,ab.1⟩,cpFail 0 tb.1 vb.1 ab.1 ab.2)):=Lib.hid (by rw[←Hra.out];exact rdCp_all Htb.out Hvb.out Hab.out)
   clear Hra Htb Hvb Hab
   have d0:=h0.at_.cell 5
   have d1:=h0.at_.cell 6
   have d2:=h0.at_.cell 7
   simp at d0 d1 d2
   have hpv:vb.1≤11:=by omega
   have HP:=Lib.hid (fun X=>pool_any X vb.1 (by omega))
   obtain⟨fb,hfb⟩:∃fb:Bool,fb=((tb.1 && !decide ((vb.1:Int) % 2=0))||(!tb.1&&(!decide (vb.1=0) || !decide (ab.1=0)))):=⟨_,rfl⟩
   have HFB:=Lib.hid hfb
   obtain⟨wo,hwo⟩:∃wo:World,wo=W:=⟨_,rfl⟩
   go_cut [110]from 77 to 110 (fun tv wx=>tv=.bool fb∧wx=wo)
   case first =>
    clear h0
    rcases(Bool.eq_false_or_eq_true tb.1).symm with ht|ht
    ·rw[ht]at d0 hfb
     clear ht
     by_cases hv0:vb.1=0
     ·rw[hv0]at d1 hfb
      clear hv0 hvl hpv
      by_cases ha0:ab.1=0
      ·rw[ha0]at d2 hfb
       simp at hfb
       subst hfb
       clear HFB HP ha0
       go_wp2_with fail
       go_meet
       case rel=>exact⟨rfl,hwo.symm⟩
      ·have ha1:((ab.1:Int) == 0)=false:=by rw[beq_eq_false_iff_ne];omega
       simp[ha0]at hfb
       subst hfb
       clear HFB HP
       go_wp2_with fail
       go_meet
       case rel=>exact⟨by first|rfl|(simp;omega),hwo.symm⟩
     ·have hv1:((vb.1:Int) == 0)=false:=by rw[beq_eq_false_iff_ne];omega
      simp[hv0]at hfb
      subst hfb
      clear HFB HP
      go_wp2_with fail
      go_meet
      case rel=>exact⟨by first|rfl|(simp;omega),hwo.symm⟩
    ·rw[ht]at d0 hfb
     clear ht
     simp only[Bool.true_and,Bool.not_true,Bool.false_and,Bool.or_false]at hfb
     go_wp2_with fail
     refine(HP.out _).mono ?_
     rintro e w2 ⟨rfl,hw2⟩
     subst hw2
     clear HFB HP
     have hm:vb.1 % 2=0∨vb.1 % 2=1:=by omega
     rcases hm with hm|hm
     ·have hfb2:fb=false:=by rw[hfb];simp;omega
      subst hfb2
      rw[hm]
      clear hfb hm
      go_wp2_with fail
      go_meet
      case rel=>exact⟨by first|rfl|(simp <;> omega),hwo.symm⟩
     ·have hfb2:fb=true:=by rw[hfb];simp;omega
      subst hfb2
      rw[hm]
      clear hfb hm
      go_wp2_with fail
      go_meet
      case rel=>exact⟨by first|rfl|(simp <;> omega),hwo.symm⟩
   case rest =>
    obtain⟨rfl,hwc⟩:=hcut
    subst hwc
    subst hwo
    clear HP d0 d1 d2 hfb
    cases fb
    ·have e1:cpFail 0 tb.1 vb.1 ab.1 ab.2=ab.2:=by unfold cpFail;rw[←HFB.out];rfl
     have e2:ra=(⟨tb.1,vb.1,ab.1⟩,ab.2):=by rw[Hr.out,e1]
     clear HFB e1
     subst e2
     go_wp2_with fail
     go_roundw
     case rel=>exact⟨0+1,by go_num,by omega,fun e=>by omega,fun _=>h0,fun e=>by omega⟩
     case measure=>simp[intOf]
    ·have e1:cpFail 0 tb.1 vb.1 ab.1 ab.2=ab.2.fail 3:=by unfold cpFail;rw[←HFB.out];rfl
     have e2:ra=(⟨tb.1,vb.1,ab.1⟩,ab.2.fail 3):=by rw[Hr.out,e1]
     clear HFB e1
     subst e2
     go_wp2_with fail
     refine(dfail_any _ dB s _ h0.dec 3 (by decide)).mono ?_
     rintro e w2 ⟨rfl,hT⟩
     have h2:=h0.call hT
     clear h0 hT
     go_wp2_with fail
     go_roundw
     case rel=>exact⟨0+1,by go_num,by omega,fun e=>by omega,fun _=>h2,fun e=>by omega⟩
     case measure=>simp[intOf]
  ·have h0:=k1 rfl
   clear k0 k1 k2
   go_upto_region 17 with fail
   go_wp2_with fail
   refine(db_any _ dB s _ h0.dec).mono ?_
   rintro e w1 ⟨rfl,hT⟩
   have h1:=h0.call hT
   generalize hv:(ra.2).b=tb at h1⊢
   have Htb:=Lib.hid hv
   have c0:=h1.at_.cell 8
   have f0:=h1.at_.frozen 8
   simp at c0
   clear h0 hT hv
   go_wp2_with fail
   have h0:=h1.set (b':=⟨idd.1,⟨nm.1.toArray⟩,sz.1,su.1 % 4294967296,dk.1,ra.1,⟨tb.1,0,0⟩,0, !lv.1⟩) (dv':=(.slice dA dk.1.length dc)) 8 (.bool tb.1) rfl h1.own
   generalize World.setCell _ _ _=W at h0⊢
   clear h1 c0 f0
   refine(di_any _ dB s _ h0.dec 11 (by decide) (by decide)).mono ?_
   rintro e w1 ⟨rfl,hT⟩
   have h1:=h0.call hT
   have hvl:=di_le tb.2 11 (by decide)
   generalize hv:(tb.2).i 11=vb at h1 hvl⊢
   have Hvb:=Lib.hid hv
   have c0:=h1.at_.cell 9
   have f0:=h1.at_.frozen 9
   simp at c0
   clear h0 hT hv
   go_wp2_with fail
   have h0:=h1.set (b':=⟨idd.1,⟨nm.1.toArray⟩,sz.1,su.1 % 4294967296,dk.1,ra.1,⟨tb.1,vb.1,0⟩,0, !lv.1⟩) (dv':=(.slice dA dk.1.length dc)) 9 (.int .i64 (vb.1:Int)) rfl h1.own
   generalize World.setCell _ _ _=W at h0⊢
   clear h1 c0 f0
   refine(di_any _ dB s _ h0.dec 1073741824 (by decide) (by decide)).mono ?_
   rintro e w1 ⟨rfl,hT⟩
   have h1:=h0.call hT
   generalize hv:(vb.2).i 1073741824=ab at h1⊢
   have Hab:=Lib.hid hv
   have c0:=h1.at_.cell 10
   have f0:=h1.at_.frozen 10
   simp at c0
   clear h0 hT hv
   go_upto_region 20 with fail
   have h0:=h1.set (b':=⟨idd.1,⟨nm.1.toArray⟩,sz.1,su.1 % 4294967296,dk.1,ra.1,⟨tb.1,vb.1,ab.1⟩,0, !lv.1⟩) (dv':=(.slice dA dk.1.length dc)) 10 (.int .i64 (ab.1:Int)) rfl h1.own
   generalize World.setCell _ _ _=W at h0⊢
   clear h1 c0 f0
   have Hr:Hid (rb=(⟨tb.1,vb.1,ab.1⟩,cpFail 1 tb.1 vb.1 ab.1 ab.2)):=Lib.hid (by rw[←Hrb.out];exact rdCp_all Htb.out Hvb.out Hab.out)
   clear Hrb Htb Hvb Hab
   have d0:=h0.at_.cell 8
   have d1:=h0.at_.cell 9
   have d2:=h0.at_.cell 10
   simp at d0 d1 d2
   have hpv:vb.1≤11:=by omega
   have HP:=Lib.hid (fun X=>pool_any X vb.1 (by omega))
   obtain⟨fb,hfb⟩:∃fb:Bool,fb=((tb.1 && !decide ((vb.1:Int) % 2=1))||(!tb.1&&(!decide (vb.1=0) || !decide (ab.1=0)))):=⟨_,rfl⟩
   have HFB:=Lib.hid hfb
   obtain⟨wo,hwo⟩:∃wo:World,wo=W:=⟨_,rfl⟩
   go_cut [110]from 77 to 110 (fun tv wx=>tv=.bool fb∧wx=wo)
   case first =>
    clear h0
    rcases(Bool.eq_false_or_eq_true tb.1).symm with ht|ht
    ·rw[ht]at d0 hfb
     clear ht
     by_cases hv0:vb.1=0
     ·rw[hv0]at d1 hfb
      clear hv0 hvl hpv
      by_cases ha0:ab.1=0
      ·rw[ha0]at d2 hfb
       simp at hfb
       subst hfb
       clear HFB HP ha0
       go_wp2_with fail
       go_meet
       case rel=>exact⟨rfl,hwo.symm⟩
      ·have ha1:((ab.1:Int) == 0)=false:=by rw[beq_eq_false_iff_ne];omega
       simp[ha0]at hfb
       subst hfb
       clear HFB HP
       go_wp2_with fail
       go_meet
       case rel=>exact⟨by first|rfl|(simp;omega),hwo.symm⟩
     ·have hv1:((vb.1:Int) == 0)=false:=by rw[beq_eq_false_iff_ne];omega
      simp[hv0]at hfb
      subst hfb
      clear HFB HP
      go_wp2_with fail
      go_meet
      case rel=>exact⟨by first|rfl|(simp;omega),hwo.symm⟩
    ·rw[ht]at d0 hfb
     clear ht
     simp only[Bool.true_and,Bool.not_true,Bool.false_and,Bool.or_false]at hfb
     go_wp2_with fail
     refine(HP.out _).mono ?_
     rintro e w2 ⟨rfl,hw2⟩
     subst hw2
     clear HFB HP
     have hm:vb.1 % 2=1∨vb.1 % 2=0:=by omega
     rcases hm with hm|hm
     ·have hfb2:fb=false:=by rw[hfb];simp;omega
      subst hfb2
      rw[hm]
      clear hfb hm
      go_wp2_with fail
      go_meet
      case rel=>exact⟨by first|rfl|(simp <;> omega),hwo.symm⟩
     ·have hfb2:fb=true:=by rw[hfb];simp;omega
      subst hfb2
      rw[hm]
      clear hfb hm
      go_wp2_with fail
      go_meet
      case rel=>exact⟨by first|rfl|(simp <;> omega),hwo.symm⟩
   case rest =>
    obtain⟨rfl,hwc⟩:=hcut
    subst hwc
    subst hwo
    clear HP d0 d1 d2 hfb
    cases fb
    ·have e1:cpFail 1 tb.1 vb.1 ab.1 ab.2=ab.2:=by unfold cpFail;rw[←HFB.out];rfl
     have e2:rb=(⟨tb.1,vb.1,ab.1⟩,ab.2):=by rw[Hr.out,e1]
     clear HFB e1
     subst e2
     go_wp2_with fail
     go_roundw
     case rel=>exact⟨1+1,by go_num,by omega,fun e=>by omega,fun e=>by omega,fun _=>h0⟩
     case measure=>simp[intOf]
    ·have e1:cpFail 1 tb.1 vb.1 ab.1 ab.2=ab.2.fail 3:=by unfold cpFail;rw[←HFB.out];rfl
     have e2:rb=(⟨tb.1,vb.1,ab.1⟩,ab.2.fail 3):=by rw[Hr.out,e1]
     clear HFB e1
     subst e2
     go_wp2_with fail
     refine(dfail_any _ dB s _ h0.dec 3 (by decide)).mono ?_
     rintro e w2 ⟨rfl,hT⟩
     have h2:=h0.call hT
     clear h0 hT
     go_wp2_with fail
     go_roundw
     case rel=>exact⟨1+1,by go_num,by omega,fun e=>by omega,fun e=>by omega,fun _=>h2⟩
     case measure=>simp[intOf]
  ·have h0:=k2 rfl
   clear k0 k1 k2
   go_wp2_with fail
   refine(di_any _ dB s _ h0.dec 1073741824 (by decide) (by decide)).mono ?_
   rintro e w1 ⟨rfl,hT⟩
   have h1:=h0.call hT
   generalize hv:(rb.2).i 1073741824=pn at h1⊢
   have Hpn:=Lib.hid hv
   have c0:=h1.at_.cell 11
   have f0:=h1.at_.frozen 11
   simp at c0
   clear h0 hT hv
   have h2:=h1.set (b':=⟨idd.1,⟨nm.1.toArray⟩,sz.1,su.1 % 4294967296,dk.1,ra.1,rb.1,pn.1, !lv.1⟩) (dv':=(.slice dA dk.1.length dc)) 11 (.int .i64 (pn.1:Int)) rfl h1.own
   have hall:=rd_all Hidd.out Hnm.out Hlv.out Hsz.out Hsu.out Hdk.out Hra.out Hrb.out Hpn.out
   have hfin:RdOut w dB s d (.returned (.pointer (some ⟨g,0,none⟩))) (World.setCell w1 ⟨g,11,none⟩ (.int .i64 (pn.1:Int))):=⟨g,(.slice dA dk.1.length dc),rfl,by rw[hall];exact h2⟩
   have HF:=Lib.hid hfin
   clear h1 h2 hall hfin
   go_wp2_with fail
   go_ret
   exact HF.out
end Go.Proofs.YtkkbfdencgdbhaaGreatDoor
namespace Go.Proofs.YtkkbfdencgdbhaaGreatDoor
open Go.RowKit Go.Sort
theorem derr_any(w:World)(dB:Nat)(s:ByteArray)(d:Dc)(h:DecAt w dB s d) :
 Calls Tryz.prog 56 #[.pointer (some ⟨dB,0,none⟩)] w fun e w'=>e=.returned (.int .i64 d.err)∧w'=w:=by
 obtain⟨_,_,_,k,_,_,h6⟩:=h
 have c2:=h6.cell 2
 simp at c2
 clear h6
 go_enter Tryz.func56,Tryz.ntmps56
 go_wp2
 go_ret
 exact⟨rfl,rfl⟩
theorem DecAt.drew{w:World}{b:Nat}{s:ByteArray}{d:Dc}(h:DecAt w b s d):DecAt w.drew b s d:=by
 obtain⟨h1,h2,h3,k,h4,h5,h6⟩:=h
 exact⟨h1,h2,h3,k,h4,h5,h6.drew⟩
theorem CtAt.dec{w w':World}{B:Nat→Prop}{c mb mn dB:Nat}{C:Ct}{s:ByteArray}{d:Dc}(h:CtAt w B c mb mn C)(hD:DecAt w dB s d)(hc:Chg (· = dB) w w'):CtAt w' B c mb mn C:=by
 obtain⟨_,_,_,k,_,_,h6⟩:=hD
 exact h.far hc h6 (by decide) (by decide) (by decide)
theorem RepN.skip{N:List (ByteArray×Nat)}{L:List Bl}{b:Bl}(h:RepN N L)(hd:b.dead=true)(hid:∀c∈L,c.id≠b.id):RepN N (pset L b):=by
 intro k id
 rw[h k id]
 constructor
 ·rintro⟨c,h1,h2,h3,h4⟩
  exact⟨c,mem_pset.2 (.inr ⟨h1,hid c h1⟩),h2,h3,h4⟩
 ·rintro⟨c,h1,h2,h3,h4⟩
  rcases mem_pset.1 h1 with rfl|⟨h5,_⟩
  ·rw[hd]at h2;cases h2
  ·exact⟨c,h5,h2,h3,h4⟩
theorem pset_last{L:List Bl}{b:Bl}(h:∀c∈L,c.id<b.id):pset L b=L++[b]:=by
 unfold pset
 have e1:L.filter (fun c=>decide (c.id<b.id))=L:=List.filter_eq_self.2 fun c hc=>by have:=h c hc;simpa using this
 have e2:L.filter (fun c=>decide (b.id<c.id))=[]:=List.filter_eq_nil_iff.2 fun c hc=>by have:=h c hc;simp;omega
 rw[e1,e2]
theorem LsW.inv{L:List Bl}(h:LsW L)(hl:L.length≤1073741824){V:List Vl}(hV:V.length=12)(hg:∀v∈V,0≤v.gen∧v.gen≤1073741824):PInv 1073741824 ⟨L,V⟩ where
 asc:=h.asc
 bl:=fun b hb=>by
  have k:=h.bl b hb
  have hp:0<b.id:=h.pos b hb
  exact⟨⟨by omega,k.id⟩,⟨h.nm b hb,k.name⟩,k.size,k.sum,k.rises,k.ca,k.cb,⟨k.pins.1,k.pins.2⟩⟩
 uniq:=h.uniq
 vlen:=hV
 gen:=hg
 len:=hl
theorem lt_of_last{L:List Bl}{n:Nat}(h:LsW L)(hn:lastId L<n):∀c∈L,c.id<n:=fun c hc=>by have:=last_le h.asc c hc;omega
theorem Rep.more{C:Ct}{L:List Bl}{V:List Vl}{b:Bl}{g:Nat}{dv:Value}(h:Rep C ⟨L,V⟩)(hw:LsW L)(hid:lastId L<b.id)(hn:b.dead=false→takenB b.name L=false) :
 Rep ((C.setNames (if b.dead=true then C.names else(b.name,b.id)::ldel b.name C.names)).add b g dv) ⟨L++[b],V⟩:=by
 have hlt:=lt_of_last hw hid
 have hne:∀c∈L,c.id≠b.id:=fun c hc=>by have:=hlt c hc;omega
 have hp:=pset_last hlt
 refine⟨?_,?_,h.vols⟩
 ·rw[←hp]
  exact h.rows.add (b:=b) (dv:=dv) g
 ·rw[←hp]
  cases hd:b.dead
  ·exact h.names.add hd (taken_false (hn hd)).2 hne
  ·exact h.names.skip hd hne
def zerosV(n:Nat):List Vl:=List.replicate n Vl.zero
theorem rdVls_succ(n:Nat)(d:Dc):rdVls (n+1) d=((rdVl d).1::(rdVls n (rdVl d).2).1,(rdVls n (rdVl d).2).2):=rfl
theorem rdVls_zero(d:Dc):rdVls 0 d=([],d):=rfl
theorem rdVl_all{d:Dc}{c e:Bool×Dc}{g:Nat×Dc}(h1:d.b=c)(h2:c.2.b=e)(h3:e.2.i 1073741824=g):rdVl d=(⟨c.1,e.1,g.1⟩,g.2):=by subst h1 h2 h3;rfl
theorem rdCat_end{s:List UInt8}{L:List Bl}{d:Dc}(h:rdEnd ⟨s,0⟩=(L,d)){V:List Vl}{d':Dc}(hv:rdVls 12 d=(V,d')):rdCat s=if d'.done.err=0 then(⟨L,V⟩,0)else(Pm.empty,d'.done.err):=by
 unfold rdCat
 rw[h]
 simp only
 rw[hv]
theorem Rep.vset{C:Ct}{L:List Bl}{V:List Vl}(h:Rep C ⟨L,V⟩)(vs:List Vl):Rep (C.setVols vs) ⟨L,vs⟩:=⟨h.rows,h.names,rfl⟩
theorem zeros_set(V:List Vl)(m:Nat)(x:Vl):(V++zerosV (m+1)).set V.length x=(V++[x])++zerosV m:=by
 rw[List.set_append_right _ _ (Nat.le_refl _),Nat.sub_self]
 unfold zerosV
 rw[List.replicate_succ,List.set_cons_zero]
 simp
theorem set_get{vs:List Vl}{j:Nat}{y:Vl}(h:vs[j]? = some y)(x:Vl):(vs.set j x)[j]? = some x:=by
 rw[List.getElem?_set,if_pos rfl,if_pos (List.getElem?_eq_some_iff.1 h).1]
theorem CtAt.volStore{w:World}{B:Nat→Prop}{c mb mn:Nat}{C:Ct}(h:CtAt w B c mb mn C){j k:Nat}{x x':Vl}{u:Value}(hk:k<3)(hx:C.vols[j]? = some x)(hr:vlRow x'=(vlRow x).set k u) :
 CtAt (w.setCell ⟨c,2+j * 3+k,none⟩ u) B c mb mn (C.setVols (C.vols.set j x'))∧Chg (· = c) w (w.setCell ⟨c,2+j * 3+k,none⟩ u):=by
 have hA:=At.setVol (j:=k) (x':=x') (u:=u) h.blk hk hx hr
 have hC:=(Chg.refl (· = c) w).setCell (p:=⟨c,2+j * 3+k,none⟩) (.inl rfl) u
 exact⟨h.chgVols hC hA (by rw[List.length_set];exact h.vlen),hC⟩
theorem pair_eta(q:List Vl×Dc):q=([]++q.1,q.2):=rfl
def RdCatOut(w:World)(s:ByteArray)(e:Ending)(w':World):Prop :=
 ((rdCat s.data.toList).2=0→∃B c mb mn,w.heap.size≤B∧e=.returned (.tuple #[.pointer (some ⟨c,0,none⟩),.int .i64 0])∧CatIn w' (Hi B) c mb mn (rdCat s.data.toList).1) ∧
 ((rdCat s.data.toList).2≠0→e=.returned (.tuple #[.pointer none,.int .i64 (rdCat s.data.toList).2]))∧Ext w w'
theorem rdCat_bad{s:List UInt8}{L:List Bl}{d:Dc}(h:rdEnd ⟨s,0⟩=(L,d))(hd:d.err≠0):rdCat s=(Pm.empty,d.err):=by
 unfold rdCat
 rw[h]
 simp only
 rw[vls_err 12 d hd,Dc.done_stays hd,if_neg hd]
set_option maxRecDepth 100000 in
set_option maxHeartbeats 8000000 in
theorem cread_any(w:World)(s:ByteArray)(hs:s.size≤140737488355328):Calls Tryz.prog 57 #[.string s] w (RdCatOut w s):=by
 go_enter Tryz.func57,Tryz.ntmps57
 go_wp2_with fail
 refine(from_any w s hs).mono ?_
 rintro e w1 ⟨dB,rfl,hdB,hD1,hE1⟩
 have hdlt:=hD1.lt
 go_wp2_with fail
 obtain⟨B,hBe⟩:∃B,w1.heap.size=B:=⟨_,rfl⟩
 have hN:=cnew_any w1
 rw[hBe]at hN
 have hwB:w.heap.size≤B:=by have:=hE1.size;omega
 have hdB2:dB<B:=by omega
 clear hBe hdlt
 refine hN.mono ?_
 rintro e w2 ⟨c,mb,mn,rfl,hC2,hE2⟩
 have hD2:=hD1.chg hE2 (fun e=>e)
 have X2:=hE1.trans hE2
 clear hN hD1 hE1 hE2
 go_wp2_with fail
 refine(di_any _ dB s _ hD2 100000 (by decide) (by decide)).mono ?_
 rintro e w3 ⟨rfl,hT⟩
 obtain⟨C3,hC3,hR3⟩:=hC2
 have hC3:=hC3.dec hD2 hT.1
 have hD3:=hT.2
 have X3:Ext w w3:=Chg.mono (Chg.trans (Ext.chg (S:=(· = dB)) X2) hT.1 (fun _ _ e=>e)) (fun k hk e=>by have e':k=dB:=e;omega)
 have hNl:=di_le ⟨s.data.toList,0⟩ 100000 (by decide)
 have hRE:rdEnd ⟨s.data.toList,0⟩=rdBlobs (Dc.i ⟨s.data.toList,0⟩ 100000).1 [] (Dc.i ⟨s.data.toList,0⟩ 100000).2:=rfl
 clear hT hD2 X2
 generalize Dc.i ⟨s.data.toList,0⟩ 100000=nd at *
 obtain⟨N,d0⟩:=nd
 simp only at hNl hRE hD3
 obtain⟨RB,hRB⟩:∃RB,rdBlobs N [] d0=RB:=⟨_,rfl⟩
 rw[hRB]at hRE
 have HRE:=Lib.hid hRE
 clear hRE
 go_wp2_with fail
 go_loopw [7,21] (fun lv kv wr=>∃(k:Nat) (L:List Bl) (d:Dc) (C:Ct),kv=.int .i64 (k:Int)∧lv=.int .u64 (lastId L:Int)∧k≤N∧L.length=k∧Hid (rdBlobs (N - k) L d=RB)∧LsW L∧DecAt wr dB s d∧CtAt wr (Hi B) c mb mn C∧Rep C ⟨L,zerosV 12⟩∧Ext w wr) (fun _ kv _=>N - (intOf kv).toNat)
 case atStart=>exact⟨0,[],d0,C3,rfl,rfl,Nat.zero_le _,rfl,Lib.hid hRB,LsW.nil,hD3,hC3,hR3,X3⟩
 case round =>
  clear hD3 hC3 hR3 X3 hRB
  obtain⟨k,L,d,C,rfl,rfl,hk,hLl,HB,hL,hD,hC,hR,X⟩:=hrel
  by_cases hlt:k<N
  ·obtain⟨m,hm⟩:∃m,N - k=m+1:=⟨N - k - 1,by omega⟩
   have hB1:=HB.out
   have HM:=Lib.hid hm
   rw[hm]at hB1
   unfold rdBlobs at hB1
   go_wp2_with fail
   refine(readBlob_any wr dB s d hD).mono ?_
   rintro e w4 ⟨g,dv,rfl,hR4⟩
   have hC4:=hC.dec hD hR4.chg
   have hgr:∀r∈C.rows,r.g≠g:=fun r hr e=>by have:=(hC.bl r hr).1.lt;have:=hR4.new;omega
   have hgB:Hi B g:=by show B≤g;have:=hR4.new;have hcB:B≤c:=hC.lo.1;have:=hC.blk.lt;omega
   have X4:Ext w w4:=Chg.mono (Chg.trans (Ext.chg (S:=(· = dB)) X) hR4.chg (fun _ _ e=>e)) (fun k hk e=>by have e':k=dB:=e;omega)
   have hD4:=hR4.dec
   have hA4:=hR4.at_
   have hO4:w4.ownsRow 0 3 1 dv (rdB d).bl.disks.length ((rdB d).bl.disks.map (Value.int .i64)):=own_low hR4.own (Nat.zero_le _)
   have hdg:dB≠g:=hD4.apart hA4 (by decide)
   clear hR4 hC hD X HB hm
   have hblw:((rdB d).pn.2).err=0→BlW (rdB d).bl:=fun e=>(bl_step e).2.2
   generalize (rdB d).bl=b at *
   generalize (rdB d).pn.2=d1 at *
   have HB1:=Lib.hid hB1
   have HLW:=Lib.hid hblw
   clear hB1 hblw
   have c0:=hA4.cell 0
   simp at c0
   go_upto_if 30 with fail
   go_cut []from 25 to 32 (fun wx=>DecAt wx dB s (ckId L b d1)∧At wx g 161 (blCells b dv)∧wx.ownsRow 0 3 1 dv b.disks.length (b.disks.map (Value.int .i64))∧CtAt wx (Hi B) c mb mn C∧Ext w wx)
   case first =>
    by_cases hid:b.id≤lastId L
    ·have e1:ckId L b d1=d1.fail 3:=by unfold ckId;rw[if_pos (by simpa using hid)]
     go_wp2_with fail
     refine(dfail_any _ dB s _ hD4 3 (by decide)).mono ?_
     rintro e w5 ⟨rfl,hT⟩
     have hA5:=hA4.chg hT.1 (fun e=>hdg e.symm)
     have hO5:=own_keep hO4 hT.1 (hD4.ownApart hO4 (by decide))
     have hC5:=hC4.dec hD4 hT.1
     have X5:Ext w w5:=Chg.mono (Chg.trans (Ext.chg (S:=(· = dB)) X4) hT.1 (fun _ _ e=>e)) (fun k hk e=>by have e':k=dB:=e;omega)
     go_wp2_with fail
     go_meet
     case rel=>exact⟨by rw[e1];exact hT.2,hA5,hO5,hC5,X5⟩
    ·have e1:ckId L b d1=d1:=by unfold ckId;rw[if_neg (by simpa using hid)]
     go_wp2_with fail
     go_meet
     case rel=>exact⟨by rw[e1];exact hD4,hA4,hO4,hC4,X4⟩
   case rest =>
    clear hD4 hA4 hO4 hC4 X4 c0
    obtain⟨hD5,hA5,hO5,hC5,X5⟩:=hcut
    have HCK:Hid (ckB L b d1=ckNm L b (ckId L b d1)):=Lib.hid rfl
    generalize ckId L b d1=d2 at hD5 HCK
    have c12:=hA5.cell 12
    simp at c12
    obtain⟨fl,hfl⟩:∃fl,b.dead=fl:=⟨_,rfl⟩
    rw[hfl]at c12
    have HFL:=Lib.hid hfl
    clear hfl
    go_upto_if 37 with fail
    go_cut [9,10]from 33 to 71 (fun _ _ wx=>DecAt wx dB s (ckNm L b d2)∧At wx g 161 (blCells b dv)∧wx.ownsRow 0 3 1 dv b.disks.length (b.disks.map (Value.int .i64))∧CtAt wx (Hi B) c mb mn (C.setNames (if b.dead=true then C.names else(b.name,b.id)::ldel b.name C.names))∧Ext w wx)
    case first =>
     cases fl
     rotate_left
     ·have hd:=HFL.out
      have e1:ckNm L b d2=d2:=by unfold ckNm;rw[hd];rfl
      have HD:=Lib.hid hd
      clear hd
      go_wp2_with fail
      go_meet
      case rel=>exact⟨by rw[e1];exact hD5,hA5,hO5,by rw[if_pos HD.out];exact hC5,X5⟩
     ·have HD:=HFL
      have hlk:=(hC5.ext (Ext.refl wc).drew).lookName b.name
      obtain⟨c0,c1⟩:=hC5.c0
      have a1:=hA5.cell 1
      simp at a1
      go_upto_region 11 with fail
      go_region
      have hDd:DecAt wc.drew dB s d2:=hD5.drew
      have hAd:=hA5.drew
      have hOd:=own_keep hO5 (Ext.refl wc).drew (fun _ _ hh=>hh)
      have hCd:=hC5.ext (Ext.refl wc).drew
      have Xd:=X5.drew
      clear hlk c0 c1 a1 c12 hD5 hA5 hO5 hC5 X5
      generalize wc.drew=wd at *
      have htk:takenB b.name L=((lget b.name C.names).isSome||decide (b.name=ByteArray.empty)):=by
       unfold takenB
       rw[Rep.named hCd hR (hL.inv (by omega) (by rfl) (fun v hv=>by rw[List.eq_of_mem_replicate hv];decide)) b.name]
       unfold Pm.named
       simp only
       congr 1
       rw[Option.isSome_map]
       cases h:L.find? (liveB b.name)with
       | none =>
        rw[List.find?_eq_none]at h
        exact List.any_eq_false.2 h
       | some x=>exact List.any_eq_true.2 ⟨x,List.mem_of_find?_eq_some h,List.find?_some h⟩
      have he1:b.name.toList.isEmpty=decide (b.name=ByteArray.empty):=by
       by_cases hn:b.name=ByteArray.empty
       ·rw[hn,Lib.toList_data];rfl
       ·rw[decide_eq_false hn]
        cases he:b.name.toList.isEmpty
        ·rfl
        ·exact absurd (toList_inj.1 (by rw[List.isEmpty_iff.1 he,Lib.toList_data];rfl)) hn
      have a1:=hAd.cell 1
      simp at a1
      generalize lget b.name C.names=lo at htk⊢
      have HTK:=Lib.hid htk
      clear htk
      have HE1:=Lib.hid he1
      obtain⟨tk,htk2⟩:∃tk,takenB b.name L=tk:=⟨_,rfl⟩
      have HT2:=Lib.hid htk2
      rw[htk2]at HTK
      clear htk2
      obtain⟨wo,hwo⟩:∃wo:World,wo=wd:=⟨_,rfl⟩
      go_upto_region 12 with fail
      go_cut [57]from 50 to 57 (fun tv wx=>tv=.bool tk∧wx=wo)
      case first =>
       clear hDd hAd hOd hCd Xd
       cases lo with
       | some q =>
        obtain rfl:tk=true:=HTK.out
        clear he1
        go_wp2_with fail
        go_meet
        case rel=>exact⟨by first|rfl|simp,hwo.symm⟩
       | none =>
        by_cases hn:b.name=ByteArray.empty
        ·obtain rfl:tk=true:=by rw[HTK.out,hn];rfl
         have he2:b.name.toList.isEmpty=true:=by rw[HE1.out,hn];rfl
         clear he1 hn
         go_wp2_with fail
         go_meet
         case rel=>exact⟨by first|rfl|simp[he2]|simp,hwo.symm⟩
        ·obtain rfl:tk=false:=by rw[HTK.out,decide_eq_false hn];rfl
         have he2:b.name.toList.isEmpty=false:=by rw[HE1.out,decide_eq_false hn]
         clear he1 hn
         go_wp2_with fail
         go_meet
         case rel=>exact⟨by first|rfl|simp[he2]|simp,hwo.symm⟩
      case rest =>
       obtain⟨rfl,hwc⟩:=hcut
       subst hwc
       subst hwo
       clear a1 he1 HTK HE1
       go_upto_if 57 with fail
       go_cut []from 58 to 59 (fun wx=>DecAt wx dB s (ckNm L b d2)∧At wx g 161 (blCells b dv)∧wx.ownsRow 0 3 1 dv b.disks.length (b.disks.map (Value.int .i64))∧CtAt wx (Hi B) c mb mn C∧Ext w wx)
       case first =>
        cases tk
        ·have e1:ckNm L b d2=d2:=by unfold ckNm;rw[HT2.out,HD.out];rfl
         go_wp2_with fail
         go_meet
         case rel=>exact⟨by rw[e1];exact hDd,hAd,hOd,hCd,Xd⟩
        ·have e1:ckNm L b d2=d2.fail 3:=by unfold ckNm;rw[HT2.out,HD.out];rfl
         go_wp2_with fail
         refine(dfail_any _ dB s _ hDd 3 (by decide)).mono ?_
         rintro e w5 ⟨rfl,hT⟩
         have hA5:=hAd.chg hT.1 (fun e=>hdg e.symm)
         have hO5:=own_keep hOd hT.1 (hDd.ownApart hOd (by decide))
         have hC5:=hCd.dec hDd hT.1
         have X5:Ext w w5:=Chg.mono (Chg.trans (Ext.chg (S:=(· = dB)) Xd) hT.1 (fun _ _ e=>e)) (fun k hk e=>by have e':k=dB:=e;omega)
         go_wp2_with fail
         go_meet
         case rel=>exact⟨by rw[e1];exact hT.2,hA5,hO5,hC5,X5⟩
       case rest =>
        clear hDd hAd hOd hCd Xd
        obtain⟨hD6,hA6,hO6,hC6,X6⟩:=hcut
        obtain⟨w7,hup,hC7,hCh7⟩:=(hC6.ext ((Ext.refl wc).drew)).addName b.name b.id
        obtain⟨c0,c1⟩:=hC6.c0
        have a0:=hA6.cell 0
        have a1:=hA6.cell 1
        simp at a0 a1
        have hmnB:B≤mn:=hC6.lo.2.2.1
        have hD7:DecAt w7 dB s (ckNm L b d2):=DecAt.chg hD6.drew hCh7 (fun e=>by have e':dB=mn:=e;omega)
        have hA7:=hA6.drew.chg hCh7 (fun e=>hC6.nm.ne_at hA6 e.symm)
        have hO7:=own_keep (own_keep hO6 (Ext.refl wc).drew (fun _ _ hh=>hh)) hCh7 (fun k hk e=>own_map hO6 hC6.nm k hk e)
        have X7:Ext w w7:=Chg.mono (Chg.trans (Ext.chg (S:=(· = mn)) X6.drew) hCh7 (fun _ _ e=>e)) (fun k hk e=>by have e':k=mn:=e;omega)
        have HALL:=Lib.hid (And.intro hD7 (And.intro hA7 (And.intro hO7 (And.intro hC7 X7))))
        clear hD6 hA6 hO6 hC6 X6 hD7 hA7 hO7 hC7 X7 hCh7
        go_upto_region 14 with fail
        go_region
        go_wp2_with fail
        go_meet
        case rel =>
         obtain⟨h1,h2,h3,h4,h5⟩:=HALL.out
         exact⟨h1,h2,h3,by rw[HD.out];exact h4,h5⟩
    case rest =>
     clear hD5 hA5 hO5 hC5 X5 c12 HFL
     obtain⟨hD7,hA7,hO7,hC7,X7⟩:=hcut
     rw[←HCK.out]at hD7
     clear HCK
     generalize hd3:ckB L b d1=d3 at hD7
     have HD3:=Lib.hid hd3
     clear hd3
     have hB2:=HB1.out
     rw[HD3.out]at hB2
     go_wp2_with fail
     refine(derr_any _ dB s _ hD7).mono ?_
     rintro e w8 ⟨rfl,hw8⟩
     subst hw8
     by_cases he:d3.err=0
     ·rw[if_pos he]at hB2
      have hck:=ck_step (L:=L) (b:=b) (d:=d1) (by rw[HD3.out];exact he)
      have hL2:=hL.snoc (HLW.out hck.1) hck.2.2.1 hck.2.2.2
      obtain⟨w9,hup,hC9,hCh9⟩:=(hC7.ext ((Ext.refl w8).drew)).addRow (b:=b) (g:=g) (dv:=dv) hA7.drew (own_keep hO7 (Ext.refl w8).drew (fun _ _ hh=>hh)) hgr hgB
      obtain⟨c0,c1⟩:=hC7.c0
      have a0:=hA7.cell 0
      simp at a0
      have hmbB:B≤mb:=hC7.lo.2.1
      have hD9:DecAt w9 dB s d3:=DecAt.chg hD7.drew hCh9 (fun e=>by have e':dB=mb:=e;omega)
      have X9:Ext w w9:=Chg.mono (Chg.trans (Ext.chg (S:=(· = mb)) X7.drew) hCh9 (fun _ _ e=>e)) (fun k hk e=>by have e':k=mb:=e;omega)
      have hR9:=Rep.more (g:=g) (dv:=dv) hR hL hck.2.2.1 hck.2.2.2
      have hlast:lastId (L++[b])=b.id:=by
       unfold lastId
       rw[List.getLast?_append]
       simp only[List.getLast?_singleton,Option.some_or]
      have HALL:=Lib.hid (And.intro hD9 (And.intro hC9 (And.intro hR9 (And.intro hL2 (And.intro hB2 (And.intro X9 hlast))))))
      clear hD7 hA7 hO7 hC7 X7 hD9 hC9 hR9 hL2 hB2 X9 hlast hCh9 hck hR hL
      go_upto_region 19 with fail
      go_region
      go_wp2_with fail
      go_roundw
      case rel =>
       obtain⟨h1,h2,h3,h4,h5,h6,h7⟩:=HALL.out
       exact⟨k+1,L++[b],d3,_,by go_num,by rw[h7],by omega,by simp[hLl],Lib.hid (by rw[show N - (k+1)=m by have:=HM.out;omega];exact h5),h4,h1,h2,h3,h6⟩
      case measure=>simp[intOf];omega
     ·rw[if_neg he]at hB2
      have hbad:=rdCat_bad (L:=L) (d:=d3) (by rw[HRE.out];exact hB2.symm) he
      have hF:RdCatOut w s (.returned (.tuple #[.pointer none,.int .i64 d3.err])) w8:=by
       unfold RdCatOut
       rw[hbad]
       exact⟨fun e=>absurd e he,fun _=>rfl,X7⟩
      have HF:=Lib.hid hF
      clear hbad hB2 hD7 hA7 hO7 hC7 X7 hR hL hF
      go_wp2_with fail
      refine bodyPost_ret (v:=.tuple #[.pointer none,.int .i64 d3.err]) (by simp[results,Tryz.results57,go_sem]) rfl ?_
      exact HF.out
  ·obtain rfl:k=N:=by omega
   have hB1:=HB.out
   rw[Nat.sub_self]at hB1
   have hRE:rdEnd ⟨s.data.toList,0⟩=(L,d):=by rw[HRE.out];exact hB1.symm
   have HREQ:=Lib.hid hRE
   obtain⟨VS,hVS⟩:∃VS,VS=rdVls 12 d:=⟨_,rfl⟩
   have HVS:=Lib.hid hVS
   have HVS2:Hid (VS=([]++(rdVls 12 d).1,(rdVls 12 d).2)):=Lib.hid (hVS.trans (pair_eta _))
   have hlenL:L.length≤100000:=by omega
   clear HB hB1 hRE HRE hVS
   go_wp2_with fail
   go_loopw [91] (fun jv wr=>∃(j n:Nat) (V:List Vl) (d':Dc) (C:Ct),jv=.int .i64 (j:Int)∧n+j=12∧V.length=j∧Hid (VS=(V++(rdVls n d').1,(rdVls n d').2))∧(∀v∈V,0≤v.gen∧v.gen≤1073741824)∧DecAt wr dB s d'∧CtAt wr (Hi B) c mb mn C∧Rep C ⟨L,V++zerosV n⟩∧Ext w wr) (fun jv _=>12 - (intOf jv).toNat)
   case atStart=>exact⟨0,12,[],d,C,rfl,rfl,rfl,HVS2,fun v hv=>(by cases hv),hD,hC,hR,X⟩
   case round =>
    clear hD hC hR X
    obtain⟨j,n,V,d',C',rfl,hj,hVl,HB,hVg,hD,hC,hR,X⟩:=hrel
    by_cases hj2:j<12
    ·have hVs:C'.vols=V++zerosV n:=hR.vols
     have hget:C'.vols[j]? = some Vl.zero:=by
      rw[hVs,List.getElem?_append_right (by omega),hVl,Nat.sub_self]
      unfold zerosV
      rw[List.getElem?_replicate,if_pos (by omega)]
     have hgetD:C'.vols.getD j Vl.zero=Vl.zero:=by rw[List.getD_eq_getElem?_getD,hget];rfl
     have hdc:dB≠c:=fun e=>by have hcB:B≤c:=hC.lo.1;omega
     obtain⟨m,rfl⟩:∃m,n=m+1:=⟨n - 1,by omega⟩
     have HBV:=Lib.hid HB.out
     clear HB hgetD
     have HVEQ:Hid (C'.vols=V++zerosV (m+1)):=Lib.hid hVs
     clear hVs
     go_wp2_with fail
     refine(db_any _ dB s d' hD).mono ?_
     rintro e w1 ⟨rfl,hT⟩
     have hC1:=hC.dec hD hT.1
     have X1:Ext w w1:=Chg.mono (Chg.trans (Ext.chg (S:=(· = dB)) X) hT.1 (fun _ _ e=>e)) (fun k hk e=>by have e':k=dB:=e;omega)
     have hD1:=hT.2
     generalize ht1:d'.b=t1 at hD1⊢
     have HT1:=Lib.hid ht1
     have v0:=(vol_cells hC1 j hj2).1
     have f0:=hC1.blk.frozen (2+j * 3)
     obtain⟨hC2,hc2⟩:=hC1.volStore (j:=j) (k:=0) (x':=⟨t1.1,false,0⟩) (u:=.bool t1.1) (by omega) hget rfl
     rw[Nat.add_zero]at hC2 hc2
     have hD2:DecAt _ dB s t1.2:=hD1.chg hc2 (fun e=>hdc e)
     have X2:Ext w _:=Chg.mono (Chg.trans (Ext.chg (S:=(· = c)) X1) hc2 (fun _ _ e=>e)) (fun k hk e=>by have e':k=c:=e;have hcB:B≤c:=hC.lo.1;omega)
     have hg2:(C'.setVols (C'.vols.set j ⟨t1.1,false,0⟩)).vols[j]? = some ⟨t1.1,false,0⟩:=set_get hget _
     have HJ:=Lib.hid (And.intro hC2 (And.intro hD2 X2))
     clear hD hT ht1 hC1 X1 hD1 hC2 hc2 hD2 X2 X
     go_wp2_with fail
     obtain⟨hC2,hD2,X2⟩:=HJ.out
     clear HJ v0 f0
     generalize World.setCell _ _ _=W2 at hC2 hD2 X2⊢
     refine(db_any _ dB s t1.2 hD2).mono ?_
     rintro e w1 ⟨rfl,hT⟩
     have hC1:=hC2.dec hD2 hT.1
     have X1:Ext w w1:=Chg.mono (Chg.trans (Ext.chg (S:=(· = dB)) X2) hT.1 (fun _ _ e=>e)) (fun k hk e=>by have e':k=dB:=e;omega)
     have hD1:=hT.2
     generalize ht1:t1.2.b=t2 at hD1⊢
     have HTt2:=Lib.hid ht1
     have v0:=(vol_cells hC1 j hj2).2.1
     have f0:=hC1.blk.frozen (2+j * 3+1)
     obtain⟨hCn,hcn⟩:=hC1.volStore (j:=j) (k:=1) (x':=⟨t1.1,t2.1,0⟩) (u:=.bool t2.1) (by omega) hg2 rfl
     have hDn:DecAt _ dB s t2.2:=hD1.chg hcn (fun e=>hdc e)
     have Xn:Ext w _:=Chg.mono (Chg.trans (Ext.chg (S:=(· = c)) X1) hcn (fun _ _ e=>e)) (fun k hk e=>by have e':k=c:=e;have hcB:B≤c:=hC2.lo.1;omega)
     have hgn:=set_get hg2 ⟨t1.1,t2.1,0⟩
     have HJ:=Lib.hid (And.intro hCn (And.intro hDn Xn))
     clear hC2 hD2 X2 hT ht1 hC1 X1 hD1 hCn hcn hDn Xn hg2
     have hg2:=hgn
     clear hgn
     go_wp2_with fail
     obtain⟨hC3,hD3,X3⟩:=HJ.out
     clear HJ v0 f0
     generalize World.setCell _ _ _=W3 at hC3 hD3 X3⊢
     refine(di_any _ dB s t2.2 hD3 1073741824 (by decide) (by decide)).mono ?_
     rintro e w1 ⟨rfl,hT⟩
     have hC1:=hC3.dec hD3 hT.1
     have X1:Ext w w1:=Chg.mono (Chg.trans (Ext.chg (S:=(· = dB)) X3) hT.1 (fun _ _ e=>e)) (fun k hk e=>by have e':k=dB:=e;omega)
     have hD1:=hT.2
     generalize ht1:t2.2.i 1073741824=t3 at hD1⊢
     have ht3l:=di_le t2.2 1073741824 (by decide)
     rw[ht1]at ht3l
     have HTt3:=Lib.hid ht1
     have v0:=(vol_cells hC1 j hj2).2.2
     have f0:=hC1.blk.frozen (2+j * 3+2)
     obtain⟨hCn,hcn⟩:=hC1.volStore (j:=j) (k:=2) (x':=⟨t1.1,t2.1,t3.1⟩) (u:=.int .i64 (t3.1:Int)) (by omega) hg2 rfl
     have hDn:DecAt _ dB s t3.2:=hD1.chg hcn (fun e=>hdc e)
     have Xn:Ext w _:=Chg.mono (Chg.trans (Ext.chg (S:=(· = c)) X1) hcn (fun _ _ e=>e)) (fun k hk e=>by have e':k=c:=e;have hcB:B≤c:=hC3.lo.1;omega)
     have hgn:=set_get hg2 ⟨t1.1,t2.1,t3.1⟩
     have HJ:=Lib.hid (And.intro hCn (And.intro hDn Xn))
     clear hC3 hD3 X3 hT ht1 hC1 X1 hD1 hCn hcn hDn Xn hg2
     have hg2:=hgn
     clear hgn
     obtain⟨hC4,hD4,X4⟩:=HJ.out
     clear HJ
     have hvl:rdVl d'=(⟨t1.1,t2.1,t3.1⟩,t3.2):=rdVl_all HT1.out HTt2.out HTt3.out
     have hR4:=(((hR.vset (C'.vols.set j ⟨t1.1,false,0⟩)).vset ((C'.vols.set j ⟨t1.1,false,0⟩).set j ⟨t1.1,t2.1,0⟩)).vset (((C'.vols.set j ⟨t1.1,false,0⟩).set j ⟨t1.1,t2.1,0⟩).set j ⟨t1.1,t2.1,t3.1⟩))
     have hvs:((C'.vols.set j ⟨t1.1,false,0⟩).set j ⟨t1.1,t2.1,0⟩).set j ⟨t1.1,t2.1,t3.1⟩=(V++[⟨t1.1,t2.1,t3.1⟩])++zerosV m:=by
      rw[List.set_set,List.set_set,HVEQ.out,←hVl,zeros_set]
     have hB4:VS=((V++[⟨t1.1,t2.1,t3.1⟩])++(rdVls m t3.2).1,(rdVls m t3.2).2):=by
      have:=HBV.out
      rw[rdVls_succ,hvl]at this
      rw[this]
      simp only[List.append_assoc,List.singleton_append]
     have hg4:∀v∈V++[⟨t1.1,t2.1,(t3.1:Int)⟩],0≤v.gen∧v.gen≤1073741824:=fun v hv=>by
      rcases List.mem_append.1 hv with hv|hv
      ·exact hVg v hv
      ·rw[List.mem_singleton]at hv;subst hv;exact⟨Int.natCast_nonneg _,ht3l⟩
     have HALL:=Lib.hid (And.intro hC4 (And.intro hD4 (And.intro X4 (And.intro hR4 (And.intro hvs (And.intro hB4 hg4))))))
     clear hC4 hD4 X4 hR4 hvs hB4 hg4 hvl hg2 hget hR hVg ht3l
     go_wp2_with fail
     go_roundw
     case rel =>
      obtain⟨h1,h2,h3,h4,h5,h6,h7⟩:=HALL.out
      refine⟨j+1,m,V++[⟨t1.1,t2.1,t3.1⟩],t3.2,_,by go_num,by omega,by simp[hVl],Lib.hid h6,h7,h2,h1,?_,h3⟩
      rw[←h5]
      exact h4
     case measure=>simp[intOf];omega
    ·obtain⟨rfl,hj12⟩:n=0∧j=12:=by omega
     subst hj12
     have hB2:=HB.out
     rw[rdVls_zero,List.append_nil]at hB2
     have hcat:=rdCat_end HREQ.out (HVS.out.symm.trans hB2)
     have hR2:Rep C' ⟨L,V⟩:=by
      have:V++zerosV 0=V:=List.append_nil V
      rw[this]at hR
      exact hR
     have HCAT:=Lib.hid hcat
     clear HB hB2 hcat hR HREQ HVS HVS2
     go_wp2_with fail
     refine(ddone_any _ dB s d' hD).mono ?_
     rintro e w1 ⟨rfl,hT⟩
     have hC1:=hC.dec hD hT.1
     have X1:Ext w w1:=Chg.mono (Chg.trans (Ext.chg (S:=(· = dB)) X) hT.1 (fun _ _ e=>e)) (fun k hk e=>by have e':k=dB:=e;omega)
     clear hC X hD hT
     by_cases he:d'.done.err=0
     ·have hF:RdCatOut w s (.returned (.tuple #[.pointer (some ⟨c,0,none⟩),.int .i64 0])) w1:=by
       unfold RdCatOut
       rw[HCAT.out,if_pos he]
       exact⟨fun _=>⟨B,c,mb,mn,hwB,rfl,C',hC1,hR2⟩,fun e=>absurd rfl e,X1⟩
      have HF:=Lib.hid hF
      clear hF hC1 X1 hR2 HCAT
      go_wp2_with fail
      refine bodyPost_ret (v:=.tuple #[.pointer (some ⟨c,0,none⟩),.int .i64 0]) (by simp[results,Tryz.results57,go_sem]) rfl ?_
      exact HF.out
     ·have hF:RdCatOut w s (.returned (.tuple #[.pointer none,.int .i64 d'.done.err])) w1:=by
       unfold RdCatOut
       rw[HCAT.out,if_neg he]
       exact⟨fun e=>absurd e he,fun _=>rfl,X1⟩
      have HF:=Lib.hid hF
      clear hF hC1 X1 hR2 HCAT
      go_wp2_with fail
      refine bodyPost_ret (v:=.tuple #[.pointer none,.int .i64 d'.done.err]) (by simp[results,Tryz.results57,go_sem]) rfl ?_
      exact HF.out
end Go.Proofs.YtkkbfdencgdbhaaGreatDoor
