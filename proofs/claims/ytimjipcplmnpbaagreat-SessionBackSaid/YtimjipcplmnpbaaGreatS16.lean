/-
  Part 16 of what the law leans on.
-/
import Derived.Test.YtimjipcplmnpbaaGreatS6
import Derived.Test.YtimjipcplmnpbaaGreatS10
import Derived.Test.YtimjipcplmnpbaaGreatS11
import Derived.Test.YtimjipcplmnpbaaGreatS14
import Derived.Test.YtimjipcplmnpbaaGreatS15
namespace Go.Proofs.YtimjipcplmnpbaaGreat
set_option maxRecDepth 100000
set_option maxHeartbeats 8000000
set_option linter.unusedVariables false
set_option linter.unusedSimpArgs false
set_option linter.unusedSectionVars false
open _root_.Go.Proofs.Tryz
open Go.RowKit Go.Sort
theorem riseB_adj:∀l:List Int,qJv l=true↔∀i,i+1<l.length→l.getD i 0<l.getD (i+1) 0
 | []=>⟨fun _ i h=>by simp at h,fun _=>rfl⟩
 | [a]=>⟨fun _ i h=>by simp at h,fun _=>rfl⟩
 | a::b::r=>by
  unfold qJv;rw[Bool.and_eq_true,riseB_adj (b::r),decide_eq_true_eq]
  constructor
  ·rintro⟨h1,h2⟩ i hi
   cases i with
   | zero=>exact h1
   | succ i=>exact h2 i (by simpa using hi)
  ·intro h;exact⟨h 0 (by simp),fun i hi=>h (i+1) (by simpa using hi)⟩
theorem rising_any(w:World)(v:Value)(l:List Int)(hS:Sl w v (l.map (Value.int .i64)))(hl:l.length≤1048576) :
 Calls prog 111 #[v] w fun e w'=>e=.returned (.bool (qJv l))∧Ext w w':=by
 obtain⟨A,c,rfl,hx⟩:=hS;rw[List.length_map]
 go_enter func111,ntmps111
 go_wp2_with fail
 go_loopw [3] (fun kv wr=>∃k:Nat,kv=.int .i64 (k:Int)∧1≤k∧(k=1∨k≤l.length)∧(∀i,i+1<k→l.getD i 0<l.getD (i+1) 0)∧Ext w wr) (fun kv _=>l.length+1 - (intOf kv).toNat)
 case atStart=>exact⟨1,rfl,Nat.le_refl _,.inl rfl,fun i h=>by omega,Er w⟩
 case round =>
  obtain⟨k,rfl,hk1,hk2,hk,hE⟩:=hrel
  by_cases hlt:k<l.length
  ·obtain⟨b,o,rfl,hcell⟩:=hx (by intro e;rw[List.map_eq_nil_iff]at e;subst e;simp at hlt);obtain⟨x,hxx⟩:∃x,l[k]? = some x:=⟨_,List.getElem?_eq_getElem hlt⟩;obtain⟨y,hyy⟩:∃y,l[k - 1]? = some y:=⟨_,List.getElem?_eq_getElem (by omega)⟩;have r0:=hcell k (.int .i64 x) (by rw[List.getElem?_map,hxx];rfl);have r1:=hcell (k - 1) (.int .i64 y) (by rw[List.getElem?_map,hyy];rfl);have hb:b<w.heap.size:=qZl r0;have q0:wr.drew.cell? ⟨b,o+k,none⟩=some (.int .i64 x):=(hE.drew.cell (p:=⟨b,o+k,none⟩) hb).trans r0;have q1:wr.drew.cell? ⟨b,o+(k - 1),none⟩=some (.int .i64 y):=(hE.drew.cell (p:=⟨b,o+(k - 1),none⟩) hb).trans r1;have ex:l.getD k 0=x:=by rw[List.getD_eq_getElem?_getD,hxx];rfl
   have ey:l.getD (k - 1) 0=y:=by rw[List.getD_eq_getElem?_getD,hyy];rfl
   have hk0:((k:Int) - 1).toNat=k - 1:=by omega
   have hk1':(0:Int)≤(k:Int) - 1:=by omega
   have hk2':(k:Int) - 1<(l.length:Int):=by omega
   have hkl:(k:Int)<(l.length:Int):=by omega
   have hw:IntKind.i64.wrap ((k:Int) - 1)=(k:Int) - 1:=IntWalk.i64_in _ (by omega);clear hx hcell r0 r1
   go_upto_region 4 with fail
   go_region
   by_cases hxy:x≤y
   ·go_wp2_with fail
    go_ret
    refine⟨?_,hE.drew⟩
    have:qJv l=false:=by
     cases h:qJv l
     ·rfl
     ·have:=(riseB_adj l).1 h (k - 1) (by omega)
      rw[show k - 1+1=k by omega,ex,ey]at this;omega
    rw[this];rfl
   ·go_wp2_with fail
    go_roundw
    case rel =>
     refine⟨k+1,by go_num,by omega,.inr (by omega),fun i hi=>?_,hE.drew⟩
     by_cases e:i+1<k
     ·exact hk i e
     ·have:i=k - 1:=by omega
      subst this;rw[show k - 1+1=k by omega,ex,ey];omega
    case measure=>simp[intOf];omega
  ·go_wp2_with fail
   go_ret
   refine⟨?_,hE⟩
   rw[(riseB_adj l).2 fun i hi=>hk i (by omega)];rfl
theorem own_low{w:World}{b b':Nat}{e:TypeId}{size:Nat}{v:Value}{n:Nat}{xs:List Value}(h:w.ownsRow b e size v n xs)(hb:b'≤b):w.ownsRow b' e size v n xs:=by
 obtain⟨h1,h2⟩:=h;refine⟨h1,?_⟩
 rcases h2 with h2|⟨g,cap,cur,h3,h4,h5⟩
 ·exact .inl h2
 ·exact .inr ⟨g,cap,cur,h3,Nat.le_trans hb h4,h5⟩
structure Rst (w0 w:World) (dB:Nat) (s:ByteArray) (d:Dc) (g:Nat) (b:Bl) (dv:Value):Prop where
 chg:Chg (· = dB) w0 w
 dec:qQM w dB s d
 at_:At w g 108 (blCells b dv)
 own:w.ownsRow w0.heap.size 3 1 dv b.disks.length (b.disks.map (Value.int .i64))
 new:w0.heap.size≤g
theorem qQM.apart{w:World}{b:Nat}{s:ByteArray}{d:Dc}(h:qQM w b s d){g:Nat}{t:TypeId}{cs:Array Value}(hA:At w g t cs)(ht:142≠t):b≠g:=by
 obtain⟨_,_,_,k,_,_,h6⟩:=h;exact At.ne h6 hA ht
theorem qQM.ownApart{w:World}{b:Nat}{s:ByteArray}{d:Dc}(h:qQM w b s d){base size n:Nat}{t:TypeId}{v:Value}{xs:List Value}(hO:w.ownsRow base t size v n xs)(ht:t≠142):∀k,some k=v.ownBlock→k≠b:=by
 obtain⟨_,_,_,k,_,_,h6⟩:=h;exact qQb hO h6 ht
section
variable{w0 w w':World}{dB g:Nat}{s:ByteArray}{d d':Dc}{b b':Bl}{dv dv':Value}
theorem Rst.call(h:Rst w0 w dB s d g b dv)(hT:qXg w w' dB s d'):Rst w0 w' dB s d' g b dv :=
 ⟨h.chg.trans hT.1 (fun _ _ e=>e),hT.2,h.at_.chg hT.1 (fun e=>h.dec.apart h.at_ (by decide) e.symm),qQa h.own hT.1 (h.dec.ownApart h.own (by decide)),h.new⟩
theorem Rst.ext(h:Rst w0 w dB s d g b dv)(hE:Ext w w'):Rst w0 w' dB s d g b dv :=
 ⟨Chg.trans h.chg hE (fun _ _ e=>e.elim),h.dec.chg hE (fun e=>e),h.at_.ext hE,own_kx h.own hE,h.new⟩
theorem Rst.set(h:Rst w0 w dB s d g b dv)(k:Nat)(v:Value)(he:(blCells b dv).setIfInBounds k v=blCells b' dv')(hO:w.ownsRow w0.heap.size 3 1 dv' b'.disks.length (b'.disks.map (Value.int .i64))) :
 Rst w0 (w.setCell ⟨g,k,none⟩ v) dB s d g b' dv':=by
 have hA:=h.at_.set k v;rw[he]at hA;have hc:Chg (· = g) w (w.setCell ⟨g,k,none⟩ v):=Chg.setCell (p:=⟨g,k,none⟩) (Chg.refl (· = g) w) (.inl rfl) v;exact⟨Chg.setCell h.chg (.inr h.new) v,h.dec.chg hc (fun e=>h.dec.apart h.at_ (by decide) e),hA,qQa hO hc (qQb hO h.at_ (by decide)),h.new⟩
end
def RdOut(w:World)(dB:Nat)(s:ByteArray)(d:Dc)(e:Ending)(w':World):Prop :=
 ∃(g:Nat) (dv:Value),e=.returned (.pointer (some ⟨g,0,none⟩))∧Rst w w' dB s (rdB d).pn.2 g (rdB d).bl dv
theorem rd_all{d:Dc}{id:Nat×Dc}{nm:List UInt8×Dc}{lv:Bool×Dc}{sz su:Nat×Dc}{dk:List Int×Dc}{a b:Cp×Dc}{pn:Nat×Dc}(h1:d.u=id)(h2:id.2.s 32=nm)(h3:nm.2.b=lv)(h4:lv.2.i 4000=sz)(h5:sz.2.u=su)
 (h6:(qJs su).list 6 5=dk) (h7:rdCp 0 (disF dk)=a) (h8:rdCp 1 a.2=b) (h9:b.2.i 1073741824=pn):rdB d=⟨id,nm,lv,sz,su,dk,a,b,pn⟩:=by
 subst h1 h2 h3 h4 h5 h6 h7 h8 h9;rfl
def qXR(p:Int)(t:Bool)(v a:Nat)(d:Dc):Dc:=if((t && !decide ((v:Int) % 2=p))||(!t&&(!decide (v=0) || !decide (a=0))))=true then d.fail 3 else d
theorem rdCp_all{p:Int}{d:Dc}{t:Bool×Dc}{v a:Nat×Dc}(h1:d.b=t)(h2:t.2.i 11=v)(h3:v.2.i 1073741824=a):rdCp p d=(⟨t.1,v.1,a.1⟩,qXR p t.1 v.1 a.1 a.2):=by
 subst h1 h2 h3;rfl
theorem dk_len{d:Dc} : ((d.list 6 5).1).length≤6:=by
 have:∀(n:Nat) (d:Dc),((qQt 5 n d).1.getD []).length≤n:=fun n=>by
  induction n with
  | zero=>intro d;simp[qQt]
  | succ n ih =>
   intro d;unfold qQt;split
   ·split
    ·simp
    ·rename_i l e hl
     have:=ih (d.i 5).2
     rw[hl]at this;simpa using this
   ·simp
 have h2:((d.i 6).1:Int)≤6:=by
  unfold Dc.i;split
  ·show(0:Int)≤6
   decide
  ·rename_i h
   have:max (6:Int) 0=6:=by decide
   omega
 have h3:=this (d.i 6).1 (d.i 6).2;unfold Dc.list;simp only;omega
theorem di_le(d:Dc)(m:Int)(hm:0≤m):((d.i m).1:Int)≤m:=by
 unfold Dc.i;rw[Int.max_eq_left hm];split
 ·exact hm
 ·omega
theorem readBlob_any(w:World)(dB:Nat)(s:ByteArray)(d:Dc)(h:qQM w dB s d) :
 Calls prog 78 #[.pointer (some ⟨dB,0,none⟩)] w (RdOut w dB s d):=by
 go_enter func78,ntmps78
 go_upto_region 2 with fail
 have h0:Rst w (w.alloc (.cells #[.int .u64 0,.string ⟨#[]⟩,.int .i64 0,.int .u32 0,.slice none 0 0,.bool false,.int .i64 0,.int .i64 0,.bool false,.int .i64 0,.int .i64 0,.int .i64 0,.bool false] 108)) dB s d w.heap.size ⟨0,⟨#[]⟩,0,0,[],Cp.none,Cp.none,0,false⟩ (.slice none 0 0):=⟨(Chg.refl _ w).alloc _,h.alloc _,At.new w _ _,qQx _ _ _,Nat.le_refl _⟩;clear h;generalize w.heap.size=g at h0⊢;generalize w.alloc (.cells #[.int .u64 0,.string ⟨#[]⟩,.int .i64 0,.int .u32 0,.slice none 0 0,.bool false,.int .i64 0,.int .i64 0,.bool false,.int .i64 0,.int .i64 0,.int .i64 0,.bool false] 108)=W at *;go_wp2_with fail
 refine(du_any _ dB s _ h0.dec).mono ?_
 rintro e w1 ⟨rfl,hT⟩;have h1:=h0.call hT;generalize hv:d.u=idd at h1⊢;have Hidd:=Hh hv;clear h0 hT hv;have c0:=h1.at_.cell 0;have f0:=h1.at_.frozen 0;simp at c0;go_wp2_with fail
 have h0:=h1.set (b':=⟨idd.1,⟨#[]⟩,0,0,[],Cp.none,Cp.none,0,false⟩) (dv':=(.slice none 0 0)) 0 (.int .u64 (idd.1:Int)) rfl h1.own;generalize World.setCell _ _ _=W at h0⊢;clear h1 c0 f0;refine(ds_any _ dB s _ h0.dec 32 (by decide) (by decide)).mono ?_
 rintro e w1 ⟨rfl,hT⟩;have h1:=h0.call hT;generalize hv:idd.2.s 32=nm at h1⊢;have Hnm:=Hh hv;clear h0 hT hv;have c0:=h1.at_.cell 1;have f0:=h1.at_.frozen 1;simp at c0;go_wp2_with fail
 have h0:=h1.set (b':=⟨idd.1,⟨nm.1.toArray⟩,0,0,[],Cp.none,Cp.none,0,false⟩) (dv':=(.slice none 0 0)) 1 (.string ⟨nm.1.toArray⟩) rfl h1.own;generalize World.setCell _ _ _=W at h0⊢;clear h1 c0 f0;refine(db_any _ dB s _ h0.dec).mono ?_
 rintro e w1 ⟨rfl,hT⟩;have h1:=h0.call hT;generalize hv:nm.2.b=lv at h1⊢;have Hlv:=Hh hv;clear h0 hT hv;have c0:=h1.at_.cell 12;have f0:=h1.at_.frozen 12;simp at c0;go_wp2_with fail
 have h0:=h1.set (b':=⟨idd.1,⟨nm.1.toArray⟩,0,0,[],Cp.none,Cp.none,0, !lv.1⟩) (dv':=(.slice none 0 0)) 12 (.bool (!lv.1)) rfl h1.own;generalize World.setCell _ _ _=W at h0⊢;clear h1 c0 f0;refine(qZk _ dB s _ h0.dec 4000 (by decide) (by decide)).mono ?_
 rintro e w1 ⟨rfl,hT⟩;have h1:=h0.call hT;generalize hv:lv.2.i 4000=sz at h1⊢;have Hsz:=Hh hv;clear h0 hT hv;have c0:=h1.at_.cell 2;have f0:=h1.at_.frozen 2;simp at c0;go_wp2_with fail
 have h0:=h1.set (b':=⟨idd.1,⟨nm.1.toArray⟩,sz.1,0,[],Cp.none,Cp.none,0, !lv.1⟩) (dv':=(.slice none 0 0)) 2 (.int .i64 (sz.1:Int)) rfl h1.own;generalize World.setCell _ _ _=W at h0⊢;clear h1 c0 f0;refine(du_any _ dB s _ h0.dec).mono ?_
 rintro e w1 ⟨rfl,hT⟩;have h1:=h0.call hT;generalize hv:sz.2.u=su at h1⊢;have Hsu:=Hh hv;clear h0 hT hv
 go_upto_if 33 with fail
 go_cut []from 32 to 35 (fun wx=>Rst w wx dB s (qJs su) g ⟨idd.1,⟨nm.1.toArray⟩,sz.1,0,[],Cp.none,Cp.none,0, !lv.1⟩ (.slice none 0 0))
 case first =>
  by_cases hs:su.1≤4294967295
  ·have e1:qJs su=su.2:=by
    unfold qJs;rw[if_neg];simp;omega
   have hs2:¬ (4294967295:Int)<(su.1:Int):=by omega
   go_wp2_with fail
   go_meet
   case rel=>rw[e1];exact h1
  ·have e1:qJs su=su.2.fail 3:=by
    unfold qJs;rw[if_pos];simp;omega
   have hs2:(4294967295:Int)<(su.1:Int):=by omega
   go_wp2_with fail
   refine(qQ7 _ dB s _ h1.dec 3 (by decide)).mono ?_
   rintro e w2 ⟨rfl,hT⟩;have h2:=h1.call hT;go_wp2_with fail
   go_meet
   case rel=>rw[e1];exact h2
 case rest =>
 clear h1;rename_i wc
 have h1:=hcut;clear hcut;have hw:IntKind.u32.wrap (su.1:Int)=((su.1 % 4294967296:Nat):Int):=by simp[IntKind.wrap,IntKind.bits,IntKind.signed]
 have c0:=h1.at_.cell 3;have f0:=h1.at_.frozen 3;simp at c0;go_wp2_with fail
 have h0:=h1.set (b':=⟨idd.1,⟨nm.1.toArray⟩,sz.1,su.1 % 4294967296,[],Cp.none,Cp.none,0, !lv.1⟩) (dv':=(.slice none 0 0)) 3 (.int .u32 ((su.1:Int) % 4294967296)) rfl h1.own;generalize World.setCell _ _ _=W at h0⊢;clear h1 c0 f0;clear hw;refine(dlist_any _ dB s _ h0.dec 6 5 (by decide) (by decide) (by decide) (by decide)).mono ?_
 rintro e w1 ⟨v,rfl,hO,_,hT⟩;have hlen:=dk_len (d:=qJs su);have hO:=own_low hO h0.chg.size;have h1:=h0.call hT;generalize hv:(qJs su).list 6 5=dk at h1 hO hlen⊢;have Hdk:=Hh hv;obtain⟨dA,dc,rfl⟩:=qQc hO;clear h0 hT hv;have c0:=h1.at_.cell 4;have f0:=h1.at_.frozen 4;simp at c0
 go_upto_region 11 with fail
 have h0:=h1.set (b':=⟨idd.1,⟨nm.1.toArray⟩,sz.1,su.1 % 4294967296,dk.1,Cp.none,Cp.none,0, !lv.1⟩) (dv':=(.slice dA dk.1.length dc)) 4 (.slice dA dk.1.length dc) rfl hO;generalize World.setCell _ _ _=W at h0⊢;clear h1 c0 f0;clear hO;have c4:=h0.at_.cell 4;simp at c4;go_wp2_with fail
 refine(rising_any _ _ dk.1 (qX1 h0.own) (by omega)).mono ?_
 rintro e w1 ⟨rfl,hE⟩;have h1:=h0.ext hE;clear h0 hE c4 hlen
 go_upto_if 51 with fail
 go_cut []from 50 to 53 (fun wx=>Rst w wx dB s (disF dk) g ⟨idd.1,⟨nm.1.toArray⟩,sz.1,su.1 % 4294967296,dk.1,Cp.none,Cp.none,0, !lv.1⟩ (.slice dA dk.1.length dc))
 case first =>
  cases hs:qJv dk.1
  ·have e1:disF dk=dk.2.fail 3:=by
    unfold disF;rw[hs];rfl
   go_wp2_with fail
   refine(qQ7 _ dB s _ h1.dec 3 (by decide)).mono ?_
   rintro e w2 ⟨rfl,hT⟩;have h2:=h1.call hT;go_wp2_with fail
   go_meet
   case rel=>rw[e1];exact h2
  ·have e1:disF dk=dk.2:=by
    unfold disF;rw[hs];rfl
   go_wp2_with fail
   go_meet
   case rel=>rw[e1];exact h1
 case rest =>
 clear h1;have h1:=hcut;clear hcut;go_wp2_with fail
 generalize hda:rdCp 0 (disF dk)=ra;generalize hdb:rdCp 1 ra.2=rb;have Hra:=Hh hda;have Hrb:=Hh hdb;clear hda hdb
 go_loopw [54] (fun jv wr=>∃j:Nat,jv=.int .i64 (j:Int)∧j≤2∧(j=0→Rst w wr dB s (disF dk) g ⟨idd.1,⟨nm.1.toArray⟩,sz.1,su.1 % 4294967296,dk.1,Cp.none,Cp.none,0, !lv.1⟩ (.slice dA dk.1.length dc))∧(j=1→Rst w wr dB s ra.2 g ⟨idd.1,⟨nm.1.toArray⟩,sz.1,su.1 % 4294967296,dk.1,ra.1,Cp.none,0, !lv.1⟩ (.slice dA dk.1.length dc))∧(j=2→Rst w wr dB s rb.2 g ⟨idd.1,⟨nm.1.toArray⟩,sz.1,su.1 % 4294967296,dk.1,ra.1,rb.1,0, !lv.1⟩ (.slice dA dk.1.length dc))) (fun jv _=>2 - (intOf jv).toNat)
 case atStart=>exact⟨0,rfl,by omega,fun _=>h1,fun e=>by omega,fun e=>by omega⟩
 case round =>
  clear h1;obtain⟨j,rfl,hj,k0,k1,k2⟩:=hrel;have hj3:j=0∨j=1∨j=2:=by omega
  rcases hj3 with rfl|rfl|rfl
  ·have h0:=k0 rfl;clear k0 k1 k2
   go_upto_region 17 with fail
   go_wp2_with fail
   refine(db_any _ dB s _ h0.dec).mono ?_
   rintro e w1 ⟨rfl,hT⟩;have h1:=h0.call hT;generalize hv:(disF dk).b=tb at h1⊢;have Htb:=Hh hv;have c0:=h1.at_.cell 5;have f0:=h1.at_.frozen 5;simp at c0;clear h0 hT hv;go_wp2_with fail
   have h0:=h1.set (b':=⟨idd.1,⟨nm.1.toArray⟩,sz.1,su.1 % 4294967296,dk.1,⟨tb.1,0,0⟩,Cp.none,0, !lv.1⟩) (dv':=(.slice dA dk.1.length dc)) 5 (.bool tb.1) rfl h1.own;generalize World.setCell _ _ _=W at h0⊢;clear h1 c0 f0;refine(qZk _ dB s _ h0.dec 11 (by decide) (by decide)).mono ?_
   rintro e w1 ⟨rfl,hT⟩;have h1:=h0.call hT;have hvl:=di_le tb.2 11 (by decide);generalize hv:(tb.2).i 11=vb at h1 hvl⊢;have Hvb:=Hh hv;have c0:=h1.at_.cell 6;have f0:=h1.at_.frozen 6;simp at c0;clear h0 hT hv;go_wp2_with fail
   have h0:=h1.set (b':=⟨idd.1,⟨nm.1.toArray⟩,sz.1,su.1 % 4294967296,dk.1,⟨tb.1,vb.1,0⟩,Cp.none,0, !lv.1⟩) (dv':=(.slice dA dk.1.length dc)) 6 (.int .i64 (vb.1:Int)) rfl h1.own;generalize World.setCell _ _ _=W at h0⊢;clear h1 c0 f0;refine(qZk _ dB s _ h0.dec 1073741824 (by decide) (by decide)).mono ?_
   rintro e w1 ⟨rfl,hT⟩;have h1:=h0.call hT;generalize hv:(vb.2).i 1073741824=ab at h1⊢;have Hab:=Hh hv;have c0:=h1.at_.cell 7;have f0:=h1.at_.frozen 7;simp at c0;clear h0 hT hv
   go_upto_region 20 with fail
   have h0:=h1.set (b':=⟨idd.1,⟨nm.1.toArray⟩,sz.1,su.1 % 4294967296,dk.1,⟨tb.1,vb.1,ab.1⟩,Cp.none,0, !lv.1⟩) (dv':=(.slice dA dk.1.length dc)) 7 (.int .i64 (ab.1:Int)) rfl h1.own;generalize World.setCell _ _ _=W at h0⊢;clear h1 c0 f0;have Hr:Hid (ra=(⟨tb.1,vb.1,ab.1⟩,qXR 0 tb.1 vb.1 ab.1 ab.2)):=Hh (by rw[←Hra.out];exact rdCp_all Htb.out Hvb.out Hab.out);clear Hra Htb Hvb Hab;have d0:=h0.at_.cell 5;have d1:=h0.at_.cell 6;have d2:=h0.at_.cell 7;simp at d0 d1 d2;have hpv:vb.1≤11:=by omega
   have HP:=Hh (fun X=>qXU X vb.1 (by omega));obtain⟨fb,hfb⟩:∃fb:Bool,fb=((tb.1 && !decide ((vb.1:Int) % 2=0))||(!tb.1&&(!decide (vb.1=0) || !decide (ab.1=0)))):=⟨_,rfl⟩;have HFB:=Hh hfb;obtain⟨wo,hwo⟩:∃wo:World,wo=W:=⟨_,rfl⟩
   go_cut [110]from 77 to 110 (fun tv wx=>tv=.bool fb∧wx=wo)
   case first =>
    clear h0
    rcases(Bool.eq_false_or_eq_true tb.1).symm with ht|ht
    ·rw[ht]at d0 hfb;clear ht
     by_cases hv0:vb.1=0
     ·rw[hv0]at d1 hfb;clear hv0 hvl hpv
      by_cases ha0:ab.1=0
      ·rw[ha0]at d2 hfb;simp at hfb;subst hfb;clear HFB HP ha0;go_wp2_with fail
       go_meet
       case rel=>exact⟨rfl,hwo.symm⟩
      ·have ha1:((ab.1:Int) == 0)=false:=by rw[beq_eq_false_iff_ne];omega
       simp[ha0]at hfb;subst hfb;clear HFB HP;go_wp2_with fail
       go_meet
       case rel=>exact⟨by first|rfl|(simp;omega),hwo.symm⟩
     ·have hv1:((vb.1:Int) == 0)=false:=by rw[beq_eq_false_iff_ne];omega
      simp[hv0]at hfb;subst hfb;clear HFB HP;go_wp2_with fail
      go_meet
      case rel=>exact⟨by first|rfl|(simp;omega),hwo.symm⟩
    ·rw[ht]at d0 hfb;clear ht;simp only[Bool.true_and,Bool.not_true,Bool.false_and,Bool.or_false]at hfb;go_wp2_with fail
     refine(HP.out _).mono ?_
     rintro e w2 ⟨rfl,hw2⟩;subst hw2;clear HFB HP;have hm:vb.1 % 2=0∨vb.1 % 2=1:=by omega
     rcases hm with hm|hm
     ·have hfb2:fb=false:=by rw[hfb];simp;omega
      subst hfb2;rw[hm];clear hfb hm;go_wp2_with fail
      go_meet
      case rel=>exact⟨by first|rfl|(simp <;> omega),hwo.symm⟩
     ·have hfb2:fb=true:=by rw[hfb];simp;omega
      subst hfb2;rw[hm];clear hfb hm;go_wp2_with fail
      go_meet
      case rel=>exact⟨by first|rfl|(simp <;> omega),hwo.symm⟩
   case rest =>
    obtain⟨rfl,hwc⟩:=hcut;subst hwc;subst hwo;clear HP d0 d1 d2 hfb;cases fb
    ·have e1:qXR 0 tb.1 vb.1 ab.1 ab.2=ab.2:=by unfold qXR;rw[←HFB.out];rfl
     have e2:ra=(⟨tb.1,vb.1,ab.1⟩,ab.2):=by rw[Hr.out,e1]
     clear HFB e1;subst e2;go_wp2_with fail
     go_roundw
     case rel=>exact⟨0+1,by go_num,by omega,fun e=>by omega,fun _=>h0,fun e=>by omega⟩
     case measure=>simp[intOf]
    ·have e1:qXR 0 tb.1 vb.1 ab.1 ab.2=ab.2.fail 3:=by unfold qXR;rw[←HFB.out];rfl
     have e2:ra=(⟨tb.1,vb.1,ab.1⟩,ab.2.fail 3):=by rw[Hr.out,e1]
     clear HFB e1;subst e2;go_wp2_with fail
     refine(qQ7 _ dB s _ h0.dec 3 (by decide)).mono ?_
     rintro e w2 ⟨rfl,hT⟩;have h2:=h0.call hT;clear h0 hT;go_wp2_with fail
     go_roundw
     case rel=>exact⟨0+1,by go_num,by omega,fun e=>by omega,fun _=>h2,fun e=>by omega⟩
     case measure=>simp[intOf]
  ·have h0:=k1 rfl;clear k0 k1 k2
   go_upto_region 17 with fail
   go_wp2_with fail
   refine(db_any _ dB s _ h0.dec).mono ?_
   rintro e w1 ⟨rfl,hT⟩;have h1:=h0.call hT;generalize hv:(ra.2).b=tb at h1⊢;have Htb:=Hh hv;have c0:=h1.at_.cell 8;have f0:=h1.at_.frozen 8;simp at c0;clear h0 hT hv;go_wp2_with fail
   have h0:=h1.set (b':=⟨idd.1,⟨nm.1.toArray⟩,sz.1,su.1 % 4294967296,dk.1,ra.1,⟨tb.1,0,0⟩,0, !lv.1⟩) (dv':=(.slice dA dk.1.length dc)) 8 (.bool tb.1) rfl h1.own;generalize World.setCell _ _ _=W at h0⊢;clear h1 c0 f0;refine(qZk _ dB s _ h0.dec 11 (by decide) (by decide)).mono ?_
   rintro e w1 ⟨rfl,hT⟩;have h1:=h0.call hT;have hvl:=di_le tb.2 11 (by decide);generalize hv:(tb.2).i 11=vb at h1 hvl⊢;have Hvb:=Hh hv;have c0:=h1.at_.cell 9;have f0:=h1.at_.frozen 9;simp at c0;clear h0 hT hv;go_wp2_with fail
   have h0:=h1.set (b':=⟨idd.1,⟨nm.1.toArray⟩,sz.1,su.1 % 4294967296,dk.1,ra.1,⟨tb.1,vb.1,0⟩,0, !lv.1⟩) (dv':=(.slice dA dk.1.length dc)) 9 (.int .i64 (vb.1:Int)) rfl h1.own;generalize World.setCell _ _ _=W at h0⊢;clear h1 c0 f0;refine(qZk _ dB s _ h0.dec 1073741824 (by decide) (by decide)).mono ?_
   rintro e w1 ⟨rfl,hT⟩;have h1:=h0.call hT;generalize hv:(vb.2).i 1073741824=ab at h1⊢;have Hab:=Hh hv;have c0:=h1.at_.cell 10;have f0:=h1.at_.frozen 10;simp at c0;clear h0 hT hv
   go_upto_region 20 with fail
   have h0:=h1.set (b':=⟨idd.1,⟨nm.1.toArray⟩,sz.1,su.1 % 4294967296,dk.1,ra.1,⟨tb.1,vb.1,ab.1⟩,0, !lv.1⟩) (dv':=(.slice dA dk.1.length dc)) 10 (.int .i64 (ab.1:Int)) rfl h1.own;generalize World.setCell _ _ _=W at h0⊢;clear h1 c0 f0;have Hr:Hid (rb=(⟨tb.1,vb.1,ab.1⟩,qXR 1 tb.1 vb.1 ab.1 ab.2)):=Hh (by rw[←Hrb.out];exact rdCp_all Htb.out Hvb.out Hab.out);clear Hrb Htb Hvb Hab;have d0:=h0.at_.cell 8;have d1:=h0.at_.cell 9;have d2:=h0.at_.cell 10;simp at d0 d1 d2;have hpv:vb.1≤11:=by omega
   have HP:=Hh (fun X=>qXU X vb.1 (by omega));obtain⟨fb,hfb⟩:∃fb:Bool,fb=((tb.1 && !decide ((vb.1:Int) % 2=1))||(!tb.1&&(!decide (vb.1=0) || !decide (ab.1=0)))):=⟨_,rfl⟩;have HFB:=Hh hfb;obtain⟨wo,hwo⟩:∃wo:World,wo=W:=⟨_,rfl⟩
   go_cut [110]from 77 to 110 (fun tv wx=>tv=.bool fb∧wx=wo)
   case first =>
    clear h0
    rcases(Bool.eq_false_or_eq_true tb.1).symm with ht|ht
    ·rw[ht]at d0 hfb;clear ht
     by_cases hv0:vb.1=0
     ·rw[hv0]at d1 hfb;clear hv0 hvl hpv
      by_cases ha0:ab.1=0
      ·rw[ha0]at d2 hfb;simp at hfb;subst hfb;clear HFB HP ha0;go_wp2_with fail
       go_meet
       case rel=>exact⟨rfl,hwo.symm⟩
      ·have ha1:((ab.1:Int) == 0)=false:=by rw[beq_eq_false_iff_ne];omega
       simp[ha0]at hfb;subst hfb;clear HFB HP;go_wp2_with fail
       go_meet
       case rel=>exact⟨by first|rfl|(simp;omega),hwo.symm⟩
     ·have hv1:((vb.1:Int) == 0)=false:=by rw[beq_eq_false_iff_ne];omega
      simp[hv0]at hfb;subst hfb;clear HFB HP;go_wp2_with fail
      go_meet
      case rel=>exact⟨by first|rfl|(simp;omega),hwo.symm⟩
    ·rw[ht]at d0 hfb;clear ht;simp only[Bool.true_and,Bool.not_true,Bool.false_and,Bool.or_false]at hfb;go_wp2_with fail
     refine(HP.out _).mono ?_
     rintro e w2 ⟨rfl,hw2⟩;subst hw2;clear HFB HP;have hm:vb.1 % 2=1∨vb.1 % 2=0:=by omega
     rcases hm with hm|hm
     ·have hfb2:fb=false:=by rw[hfb];simp;omega
      subst hfb2;rw[hm];clear hfb hm;go_wp2_with fail
      go_meet
      case rel=>exact⟨by first|rfl|(simp <;> omega),hwo.symm⟩
     ·have hfb2:fb=true:=by rw[hfb];simp;omega
      subst hfb2;rw[hm];clear hfb hm;go_wp2_with fail
      go_meet
      case rel=>exact⟨by first|rfl|(simp <;> omega),hwo.symm⟩
   case rest =>
    obtain⟨rfl,hwc⟩:=hcut;subst hwc;subst hwo;clear HP d0 d1 d2 hfb;cases fb
    ·have e1:qXR 1 tb.1 vb.1 ab.1 ab.2=ab.2:=by unfold qXR;rw[←HFB.out];rfl
     have e2:rb=(⟨tb.1,vb.1,ab.1⟩,ab.2):=by rw[Hr.out,e1]
     clear HFB e1;subst e2;go_wp2_with fail
     go_roundw
     case rel=>exact⟨1+1,by go_num,by omega,fun e=>by omega,fun e=>by omega,fun _=>h0⟩
     case measure=>simp[intOf]
    ·have e1:qXR 1 tb.1 vb.1 ab.1 ab.2=ab.2.fail 3:=by unfold qXR;rw[←HFB.out];rfl
     have e2:rb=(⟨tb.1,vb.1,ab.1⟩,ab.2.fail 3):=by rw[Hr.out,e1]
     clear HFB e1;subst e2;go_wp2_with fail
     refine(qQ7 _ dB s _ h0.dec 3 (by decide)).mono ?_
     rintro e w2 ⟨rfl,hT⟩;have h2:=h0.call hT;clear h0 hT;go_wp2_with fail
     go_roundw
     case rel=>exact⟨1+1,by go_num,by omega,fun e=>by omega,fun e=>by omega,fun _=>h2⟩
     case measure=>simp[intOf]
  ·have h0:=k2 rfl;clear k0 k1 k2;go_wp2_with fail
   refine(qZk _ dB s _ h0.dec 1073741824 (by decide) (by decide)).mono ?_
   rintro e w1 ⟨rfl,hT⟩;have h1:=h0.call hT;generalize hv:(rb.2).i 1073741824=pn at h1⊢;have Hpn:=Hh hv;have c0:=h1.at_.cell 11;have f0:=h1.at_.frozen 11;simp at c0;clear h0 hT hv;have h2:=h1.set (b':=⟨idd.1,⟨nm.1.toArray⟩,sz.1,su.1 % 4294967296,dk.1,ra.1,rb.1,pn.1, !lv.1⟩) (dv':=(.slice dA dk.1.length dc)) 11 (.int .i64 (pn.1:Int)) rfl h1.own;have hall:=rd_all Hidd.out Hnm.out Hlv.out Hsz.out Hsu.out Hdk.out Hra.out Hrb.out Hpn.out;have hfin:RdOut w dB s d (.returned (.pointer (some ⟨g,0,none⟩))) (World.setCell w1 ⟨g,11,none⟩ (.int .i64 (pn.1:Int))):=⟨g,(.slice dA dk.1.length dc),rfl,by rw[hall];exact h2⟩;have HF:=Hh hfin;clear h1 h2 hall hfin;go_wp2_with fail
   go_ret
   exact HF.out
open Go.RowKit Go.Sort
theorem qJr(w:World)(dB:Nat)(s:ByteArray)(d:Dc)(h:qQM w dB s d) :
 Calls prog 50 #[.pointer (some ⟨dB,0,none⟩)] w fun e w'=>e=.returned (.int .i64 d.err)∧w'=w:=by
 obtain⟨_,_,_,k,_,_,h6⟩:=h;have c2:=h6.cell 2;simp at c2;clear h6
 go_enter func50,ntmps50
 go_wp2
 go_ret
 exact⟨rfl,rfl⟩
theorem qQM.drew{w:World}{b:Nat}{s:ByteArray}{d:Dc}(h:qQM w b s d):qQM w.drew b s d:=by
 obtain⟨h1,h2,h3,k,h4,h5,h6⟩:=h;exact⟨h1,h2,h3,k,h4,h5,h6.drew⟩
theorem CtAt.dec{w w':World}{B:Nat→Prop}{c mb mn dB:Nat}{C:Ct}{s:ByteArray}{d:Dc}(h:CtAt w B c mb mn C)(hD:qQM w dB s d)(hc:Chg (· = dB) w w'):CtAt w' B c mb mn C:=by
 obtain⟨_,_,_,k,_,_,h6⟩:=hD;exact h.far hc h6 (by decide) (by decide) (by decide)
theorem RepN.skip{N:List (ByteArray×Nat)}{L:List Bl}{b:Bl}(h:RepN N L)(hd:b.dead=true)(hid:∀c∈L,c.id≠b.id):RepN N (qJT L b):=by
 intro k id;rw[h k id]
 constructor
 ·rintro⟨c,h1,h2,h3,h4⟩
  exact⟨c,qQS.2 (.inr ⟨h1,hid c h1⟩),h2,h3,h4⟩
 ·rintro⟨c,h1,h2,h3,h4⟩
  rcases qQS.1 h1 with rfl|⟨h5,_⟩
  ·rw[hd]at h2;cases h2
  ·exact⟨c,h5,h2,h3,h4⟩
theorem pset_last{L:List Bl}{b:Bl}(h:∀c∈L,c.id<b.id):qJT L b=L++[b]:=by
 unfold qJT;have e1:L.filter (fun c=>decide (c.id<b.id))=L:=List.filter_eq_self.2 fun c hc=>by have:=h c hc;simpa using this
 have e2:L.filter (fun c=>decide (b.id<c.id))=[]:=List.filter_eq_nil_iff.2 fun c hc=>by have:=h c hc;simp;omega
 rw[e1,e2]
theorem LsW.inv{L:List Bl}(h:LsW L)(hl:L.length≤1073741824){V:List Vl}(hV:V.length=12)(hg:∀v∈V,0≤v.gen∧v.gen≤1073741824):PInv 1073741824 ⟨L,V⟩ where
 asc:=h.asc
 bl:=fun b hb=>by
  have k:=h.bl b hb;have hp:0<b.id:=h.pos b hb;exact⟨⟨by omega,k.id⟩,⟨h.nm b hb,k.name⟩,k.size,k.sum,k.rises,k.ca,k.cb,⟨k.pins.1,k.pins.2⟩⟩
 uniq:=h.uniq
 vlen:=hV
 gen:=hg
 len:=hl
theorem lt_of_last{L:List Bl}{n:Nat}(h:LsW L)(hn:qXl L<n):∀c∈L,c.id<n:=fun c hc=>by have:=last_le h.asc c hc;omega
theorem Rep.more{C:Ct}{L:List Bl}{V:List Vl}{b:Bl}{g:Nat}{dv:Value}(h:Rep C ⟨L,V⟩)(hw:LsW L)(hid:qXl L<b.id)(hn:b.dead=false→qXI b.name L=false) :
 Rep ((C.setNames (if b.dead=true then C.names else(b.name,b.id)::qZy b.name C.names)).add b g dv) ⟨L++[b],V⟩:=by
 have hlt:=lt_of_last hw hid;have hne:∀c∈L,c.id≠b.id:=fun c hc=>by have:=hlt c hc;omega
 have hp:=pset_last hlt;refine⟨?_,?_,h.vols⟩
 ·rw[←hp];exact h.rows.add (b:=b) (dv:=dv) g
 ·rw[←hp];cases hd:b.dead
  ·exact h.names.add hd (qXu (hn hd)).2 hne
  ·exact h.names.skip hd hne
def qX2(n:Nat):List Vl:=List.replicate n Vl.zero
theorem rdVls_succ(n:Nat)(d:Dc):qZZ (n+1) d=((rdVl d).1::(qZZ n (rdVl d).2).1,(qZZ n (rdVl d).2).2):=rfl
theorem rdVls_zero(d:Dc):qZZ 0 d=([],d):=rfl
theorem rdVl_all{d:Dc}{c e:Bool×Dc}{g:Nat×Dc}(h1:d.b=c)(h2:c.2.b=e)(h3:e.2.i 1073741824=g):rdVl d=(⟨c.1,e.1,g.1⟩,g.2):=by subst h1 h2 h3;rfl
theorem rdCat_end{s:List UInt8}{L:List Bl}{d:Dc}(h:rdEnd ⟨s,0⟩=(L,d)){V:List Vl}{d':Dc}(hv:qZZ 12 d=(V,d')):qXt s=if d'.done.err=0 then(⟨L,V⟩,0)else(Pm.empty,d'.done.err):=by
 unfold qXt;rw[h];simp only;rw[hv]
theorem Rep.vset{C:Ct}{L:List Bl}{V:List Vl}(h:Rep C ⟨L,V⟩)(vs:List Vl):Rep (C.setVols vs) ⟨L,vs⟩:=⟨h.rows,h.names,rfl⟩
theorem zeros_set(V:List Vl)(m:Nat)(x:Vl):(V++qX2 (m+1)).set V.length x=(V++[x])++qX2 m:=by
 rw[List.set_append_right _ _ (Nat.le_refl _),Nat.sub_self];unfold qX2;rw[List.replicate_succ,List.set_cons_zero];simp
theorem set_get{vs:List Vl}{j:Nat}{y:Vl}(h:vs[j]? = some y)(x:Vl):(vs.set j x)[j]? = some x:=by
 rw[List.getElem?_set,if_pos rfl,if_pos (List.getElem?_eq_some_iff.1 h).1]
theorem CtAt.volStore{w:World}{B:Nat→Prop}{c mb mn:Nat}{C:Ct}(h:CtAt w B c mb mn C){j k:Nat}{x x':Vl}{u:Value}(hk:k<3)(hx:C.vols[j]? = some x)(hr:qQY x'=(qQY x).set k u) :
 CtAt (w.setCell ⟨c,2+j * 3+k,none⟩ u) B c mb mn (C.setVols (C.vols.set j x'))∧Chg (· = c) w (w.setCell ⟨c,2+j * 3+k,none⟩ u):=by
 have hA:=At.setVol (j:=k) (x':=x') (u:=u) h.blk hk hx hr;have hC:=(Chg.refl (· = c) w).setCell (p:=⟨c,2+j * 3+k,none⟩) (.inl rfl) u;exact⟨h.chgVols hC hA (by rw[List.length_set];exact h.vlen),hC⟩
theorem pair_eta(q:List Vl×Dc):q=([]++q.1,q.2):=rfl
def qXb(w:World)(s:ByteArray)(e:Ending)(w':World):Prop :=
 ((qXt s.data.toList).2=0→∃B c mb mn,w.heap.size≤B∧e=.returned (.tuple #[.pointer (some ⟨c,0,none⟩),.int .i64 0])∧qZz w' (Hi B) c mb mn (qXt s.data.toList).1) ∧
 ((qXt s.data.toList).2≠0→e=.returned (.tuple #[.pointer none,.int .i64 (qXt s.data.toList).2]))∧Ext w w'
theorem rdCat_bad{s:List UInt8}{L:List Bl}{d:Dc}(h:rdEnd ⟨s,0⟩=(L,d))(hd:d.err≠0):qXt s=(Pm.empty,d.err):=by
 unfold qXt;rw[h];simp only;rw[vls_err 12 d hd,Dc.done_stays hd,if_neg hd]
theorem cread_any(w:World)(s:ByteArray)(hs:s.size≤140737488355328):Calls prog 51 #[.string s] w (qXb w s):=by
 go_enter func51,ntmps51
 go_wp2_with fail
 refine(from_any w s hs).mono ?_
 rintro e w1 ⟨dB,rfl,hdB,hD1,hE1⟩;have hdlt:=hD1.lt;go_wp2_with fail
 obtain⟨B,hBe⟩:∃B,w1.heap.size=B:=⟨_,rfl⟩;have hN:=cnew_any w1;rw[hBe]at hN;have hwB:w.heap.size≤B:=by have:=hE1.size;omega
 have hdB2:dB<B:=by omega
 clear hBe hdlt;refine hN.mono ?_;rintro e w2 ⟨c,mb,mn,rfl,hC2,hE2⟩;have hD2:=hD1.chg hE2 (fun e=>e);have X2:=hE1.trans hE2;clear hN hD1 hE1 hE2;go_wp2_with fail
 refine(qZk _ dB s _ hD2 100000 (by decide) (by decide)).mono ?_
 rintro e w3 ⟨rfl,hT⟩;obtain⟨C3,hC3,hR3⟩:=hC2;have hC3:=hC3.dec hD2 hT.1;have hD3:=hT.2;have X3:Ext w w3:=Chg.mono (Chg.trans (Ext.chg (S:=(· = dB)) X2) hT.1 (fun _ _ e=>e)) (fun k hk e=>by have e':k=dB:=e;omega);have hNl:=di_le ⟨s.data.toList,0⟩ 100000 (by decide);have hRE:rdEnd ⟨s.data.toList,0⟩=qXs (Dc.i ⟨s.data.toList,0⟩ 100000).1 [] (Dc.i ⟨s.data.toList,0⟩ 100000).2:=rfl;clear hT hD2 X2;generalize Dc.i ⟨s.data.toList,0⟩ 100000=nd at *;obtain⟨N,d0⟩:=nd;simp only at hNl hRE hD3;obtain⟨RB,hRB⟩:∃RB,qXs N [] d0=RB:=⟨_,rfl⟩;rw[hRB]at hRE;have HRE:=Hh hRE;clear hRE;go_wp2_with fail
 go_loopw [7,21] (fun lv kv wr=>∃(k:Nat) (L:List Bl) (d:Dc) (C:Ct),kv=.int .i64 (k:Int)∧lv=.int .u64 (qXl L:Int)∧k≤N∧L.length=k∧Hid (qXs (N - k) L d=RB)∧LsW L∧qQM wr dB s d∧CtAt wr (Hi B) c mb mn C∧Rep C ⟨L,qX2 12⟩∧Ext w wr) (fun _ kv _=>N - (intOf kv).toNat)
 case atStart=>exact⟨0,[],d0,C3,rfl,rfl,Nat.zero_le _,rfl,Hh hRB,LsW.nil,hD3,hC3,hR3,X3⟩
 case round =>
  clear hD3 hC3 hR3 X3 hRB;obtain⟨k,L,d,C,rfl,rfl,hk,hLl,HB,hL,hD,hC,hR,X⟩:=hrel
  by_cases hlt:k<N
  ·obtain⟨m,hm⟩:∃m,N - k=m+1:=⟨N - k - 1,by omega⟩;have hB1:=HB.out;have HM:=Hh hm;rw[hm]at hB1;unfold qXs at hB1;go_wp2_with fail
   refine(readBlob_any wr dB s d hD).mono ?_
   rintro e w4 ⟨g,dv,rfl,hR4⟩;have hC4:=hC.dec hD hR4.chg;have hgr:∀r∈C.rows,r.g≠g:=fun r hr e=>by have:=(hC.bl r hr).1.lt;have:=hR4.new;omega
   have hgB:Hi B g:=by show B≤g;have:=hR4.new;have hcB:B≤c:=hC.lo.1;have:=hC.blk.lt;omega
   have X4:Ext w w4:=Chg.mono (Chg.trans (Ext.chg (S:=(· = dB)) X) hR4.chg (fun _ _ e=>e)) (fun k hk e=>by have e':k=dB:=e;omega);have hD4:=hR4.dec;have hA4:=hR4.at_;have hO4:w4.ownsRow 0 3 1 dv (rdB d).bl.disks.length ((rdB d).bl.disks.map (Value.int .i64)):=own_low hR4.own (Nat.zero_le _);have hdg:dB≠g:=hD4.apart hA4 (by decide);clear hR4 hC hD X HB hm;have hblw:((rdB d).pn.2).err=0→BlW (rdB d).bl:=fun e=>(bl_step e).2.2
   generalize (rdB d).bl=b at *;generalize (rdB d).pn.2=d1 at *;have HB1:=Hh hB1;have HLW:=Hh hblw;clear hB1 hblw;have c0:=hA4.cell 0;simp at c0
   go_upto_if 30 with fail
   go_cut []from 25 to 32 (fun wx=>qQM wx dB s (ckId L b d1)∧At wx g 108 (blCells b dv)∧wx.ownsRow 0 3 1 dv b.disks.length (b.disks.map (Value.int .i64))∧CtAt wx (Hi B) c mb mn C∧Ext w wx)
   case first =>
    by_cases hid:b.id≤qXl L
    ·have e1:ckId L b d1=d1.fail 3:=by unfold ckId;rw[if_pos (by simpa using hid)]
     go_wp2_with fail
     refine(qQ7 _ dB s _ hD4 3 (by decide)).mono ?_
     rintro e w5 ⟨rfl,hT⟩;have hA5:=hA4.chg hT.1 (fun e=>hdg e.symm);have hO5:=qQa hO4 hT.1 (hD4.ownApart hO4 (by decide));have hC5:=hC4.dec hD4 hT.1;have X5:Ext w w5:=Chg.mono (Chg.trans (Ext.chg (S:=(· = dB)) X4) hT.1 (fun _ _ e=>e)) (fun k hk e=>by have e':k=dB:=e;omega);go_wp2_with fail
     go_meet
     case rel=>exact⟨by rw[e1];exact hT.2,hA5,hO5,hC5,X5⟩
    ·have e1:ckId L b d1=d1:=by unfold ckId;rw[if_neg (by simpa using hid)]
     go_wp2_with fail
     go_meet
     case rel=>exact⟨by rw[e1];exact hD4,hA4,hO4,hC4,X4⟩
   case rest =>
    clear hD4 hA4 hO4 hC4 X4 c0;obtain⟨hD5,hA5,hO5,hC5,X5⟩:=hcut;have HCK:Hid (ckB L b d1=ckNm L b (ckId L b d1)):=Hh rfl;generalize ckId L b d1=d2 at hD5 HCK;have c12:=hA5.cell 12;simp at c12;obtain⟨fl,hfl⟩:∃fl,b.dead=fl:=⟨_,rfl⟩;rw[hfl]at c12;have HFL:=Hh hfl;clear hfl
    go_upto_if 37 with fail
    go_cut [9,10]from 33 to 71 (fun _ _ wx=>qQM wx dB s (ckNm L b d2)∧At wx g 108 (blCells b dv)∧wx.ownsRow 0 3 1 dv b.disks.length (b.disks.map (Value.int .i64))∧CtAt wx (Hi B) c mb mn (C.setNames (if b.dead=true then C.names else(b.name,b.id)::qZy b.name C.names))∧Ext w wx)
    case first =>
     cases fl
     rotate_left
     ·have hd:=HFL.out;have e1:ckNm L b d2=d2:=by unfold ckNm;rw[hd];rfl
      have HD:=Hh hd;clear hd;go_wp2_with fail
      go_meet
      case rel=>exact⟨by rw[e1];exact hD5,hA5,hO5,by rw[if_pos HD.out];exact hC5,X5⟩
     ·have HD:=HFL;have hlk:=(hC5.ext (Er wc).drew).lookName b.name;obtain⟨c0,c1⟩:=hC5.c0;have a1:=hA5.cell 1;simp at a1
      go_upto_region 11 with fail
      go_region
      have hDd:qQM wc.drew dB s d2:=hD5.drew;have hAd:=hA5.drew;have hOd:=qQa hO5 (Er wc).drew (fun _ _ hh=>hh);have hCd:=hC5.ext (Er wc).drew;have Xd:=X5.drew;clear hlk c0 c1 a1 c12 hD5 hA5 hO5 hC5 X5;generalize wc.drew=wd at *
      have htk:qXI b.name L=((qZC b.name C.names).isSome||decide (b.name=ByteArray.empty)):=by
       unfold qXI;rw[Rep.named hCd hR (hL.inv (by omega) (by rfl) (fun v hv=>by rw[List.eq_of_mem_replicate hv];decide)) b.name];unfold Pm.named;simp only
       congr 1
       rw[Option.isSome_map];cases h:L.find? (qJQ b.name)with
       | none =>
        rw[List.find?_eq_none]at h;exact List.any_eq_false.2 h
       | some x=>exact List.any_eq_true.2 ⟨x,List.mem_of_find?_eq_some h,List.find?_some h⟩
      have he1:b.name.toList.isEmpty=decide (b.name=ByteArray.empty):=by
       by_cases hn:b.name=ByteArray.empty
       ·rw[hn,Lib.toList_data];rfl
       ·rw[decide_eq_false hn];cases he:b.name.toList.isEmpty
        ·rfl
        ·exact absurd (qZd.1 (by rw[List.isEmpty_iff.1 he,Lib.toList_data];rfl)) hn
      have a1:=hAd.cell 1;simp at a1;generalize qZC b.name C.names=lo at htk⊢;have HTK:=Hh htk;clear htk;have HE1:=Hh he1;obtain⟨tk,htk2⟩:∃tk,qXI b.name L=tk:=⟨_,rfl⟩;have HT2:=Hh htk2;rw[htk2]at HTK;clear htk2;obtain⟨wo,hwo⟩:∃wo:World,wo=wd:=⟨_,rfl⟩
      go_upto_region 12 with fail
      go_cut [57]from 50 to 57 (fun tv wx=>tv=.bool tk∧wx=wo)
      case first =>
       clear hDd hAd hOd hCd Xd;cases lo with
       | some q =>
        obtain rfl:tk=true:=HTK.out;clear he1;go_wp2_with fail
        go_meet
        case rel=>exact⟨by first|rfl|simp,hwo.symm⟩
       | none =>
        by_cases hn:b.name=ByteArray.empty
        ·obtain rfl:tk=true:=by rw[HTK.out,hn];rfl
         have he2:b.name.toList.isEmpty=true:=by rw[HE1.out,hn];rfl
         clear he1 hn;go_wp2_with fail
         go_meet
         case rel=>exact⟨by first|rfl|simp[he2]|simp,hwo.symm⟩
        ·obtain rfl:tk=false:=by rw[HTK.out,decide_eq_false hn];rfl
         have he2:b.name.toList.isEmpty=false:=by rw[HE1.out,decide_eq_false hn]
         clear he1 hn;go_wp2_with fail
         go_meet
         case rel=>exact⟨by first|rfl|simp[he2]|simp,hwo.symm⟩
      case rest =>
       obtain⟨rfl,hwc⟩:=hcut;subst hwc;subst hwo;clear a1 he1 HTK HE1
       go_upto_if 57 with fail
       go_cut []from 58 to 59 (fun wx=>qQM wx dB s (ckNm L b d2)∧At wx g 108 (blCells b dv)∧wx.ownsRow 0 3 1 dv b.disks.length (b.disks.map (Value.int .i64))∧CtAt wx (Hi B) c mb mn C∧Ext w wx)
       case first =>
        cases tk
        ·have e1:ckNm L b d2=d2:=by unfold ckNm;rw[HT2.out,HD.out];rfl
         go_wp2_with fail
         go_meet
         case rel=>exact⟨by rw[e1];exact hDd,hAd,hOd,hCd,Xd⟩
        ·have e1:ckNm L b d2=d2.fail 3:=by unfold ckNm;rw[HT2.out,HD.out];rfl
         go_wp2_with fail
         refine(qQ7 _ dB s _ hDd 3 (by decide)).mono ?_
         rintro e w5 ⟨rfl,hT⟩;have hA5:=hAd.chg hT.1 (fun e=>hdg e.symm);have hO5:=qQa hOd hT.1 (hDd.ownApart hOd (by decide));have hC5:=hCd.dec hDd hT.1;have X5:Ext w w5:=Chg.mono (Chg.trans (Ext.chg (S:=(· = dB)) Xd) hT.1 (fun _ _ e=>e)) (fun k hk e=>by have e':k=dB:=e;omega);go_wp2_with fail
         go_meet
         case rel=>exact⟨by rw[e1];exact hT.2,hA5,hO5,hC5,X5⟩
       case rest =>
        clear hDd hAd hOd hCd Xd;obtain⟨hD6,hA6,hO6,hC6,X6⟩:=hcut;obtain⟨w7,hup,hC7,hCh7⟩:=(hC6.ext ((Er wc).drew)).addName b.name b.id;obtain⟨c0,c1⟩:=hC6.c0;have a0:=hA6.cell 0;have a1:=hA6.cell 1;simp at a0 a1;have hmnB:B≤mn:=hC6.lo.2.2.1;have hD7:qQM w7 dB s (ckNm L b d2):=qQM.chg hD6.drew hCh7 (fun e=>by have e':dB=mn:=e;omega);have hA7:=hA6.drew.chg hCh7 (fun e=>hC6.nm.ne_at hA6 e.symm);have hO7:=qQa (qQa hO6 (Er wc).drew (fun _ _ hh=>hh)) hCh7 (fun k hk e=>qXc hO6 hC6.nm k hk e);have X7:Ext w w7:=Chg.mono (Chg.trans (Ext.chg (S:=(· = mn)) X6.drew) hCh7 (fun _ _ e=>e)) (fun k hk e=>by have e':k=mn:=e;omega);have HALL:=Hh (And.intro hD7 (And.intro hA7 (And.intro hO7 (And.intro hC7 X7))));clear hD6 hA6 hO6 hC6 X6 hD7 hA7 hO7 hC7 X7 hCh7
        go_upto_region 14 with fail
        go_region
        go_wp2_with fail
        go_meet
        case rel =>
         obtain⟨h1,h2,h3,h4,h5⟩:=HALL.out;exact⟨h1,h2,h3,by rw[HD.out];exact h4,h5⟩
    case rest =>
     clear hD5 hA5 hO5 hC5 X5 c12 HFL;obtain⟨hD7,hA7,hO7,hC7,X7⟩:=hcut;rw[←HCK.out]at hD7;clear HCK;generalize hd3:ckB L b d1=d3 at hD7;have HD3:=Hh hd3;clear hd3;have hB2:=HB1.out;rw[HD3.out]at hB2;go_wp2_with fail
     refine(qJr _ dB s _ hD7).mono ?_
     rintro e w8 ⟨rfl,hw8⟩;subst hw8
     by_cases he:d3.err=0
     ·rw[if_pos he]at hB2;have hck:=ck_step (L:=L) (b:=b) (d:=d1) (by rw[HD3.out];exact he);have hL2:=hL.snoc (HLW.out hck.1) hck.2.2.1 hck.2.2.2;obtain⟨w9,hup,hC9,hCh9⟩:=(hC7.ext ((Er w8).drew)).addRow (b:=b) (g:=g) (dv:=dv) hA7.drew (qQa hO7 (Er w8).drew (fun _ _ hh=>hh)) hgr hgB;obtain⟨c0,c1⟩:=hC7.c0;have a0:=hA7.cell 0;simp at a0;have hmbB:B≤mb:=hC7.lo.2.1;have hD9:qQM w9 dB s d3:=qQM.chg hD7.drew hCh9 (fun e=>by have e':dB=mb:=e;omega);have X9:Ext w w9:=Chg.mono (Chg.trans (Ext.chg (S:=(· = mb)) X7.drew) hCh9 (fun _ _ e=>e)) (fun k hk e=>by have e':k=mb:=e;omega);have hR9:=Rep.more (g:=g) (dv:=dv) hR hL hck.2.2.1 hck.2.2.2
      have hlast:qXl (L++[b])=b.id:=by
       unfold qXl;rw[List.getLast?_append];simp only[List.getLast?_singleton,Option.some_or]
      have HALL:=Hh (And.intro hD9 (And.intro hC9 (And.intro hR9 (And.intro hL2 (And.intro hB2 (And.intro X9 hlast))))));clear hD7 hA7 hO7 hC7 X7 hD9 hC9 hR9 hL2 hB2 X9 hlast hCh9 hck hR hL
      go_upto_region 19 with fail
      go_region
      go_wp2_with fail
      go_roundw
      case rel =>
       obtain⟨h1,h2,h3,h4,h5,h6,h7⟩:=HALL.out;exact⟨k+1,L++[b],d3,_,by go_num,by rw[h7],by omega,by simp[hLl],Hh (by rw[show N - (k+1)=m by have:=HM.out;omega];exact h5),h4,h1,h2,h3,h6⟩
      case measure=>simp[intOf];omega
     ·rw[if_neg he]at hB2;have hbad:=rdCat_bad (L:=L) (d:=d3) (by rw[HRE.out];exact hB2.symm) he
      have hF:qXb w s (.returned (.tuple #[.pointer none,.int .i64 d3.err])) w8:=by
       unfold qXb;rw[hbad];exact⟨fun e=>absurd e he,fun _=>rfl,X7⟩
      have HF:=Hh hF;clear hbad hB2 hD7 hA7 hO7 hC7 X7 hR hL hF;go_wp2_with fail
      refine bodyPost_ret (v:=.tuple #[.pointer none,.int .i64 d3.err]) (by simp[results,results51,go_sem]) rfl ?_;exact HF.out
  ·obtain rfl:k=N:=by omega
   have hB1:=HB.out;rw[Nat.sub_self]at hB1;have hRE:rdEnd ⟨s.data.toList,0⟩=(L,d):=by rw[HRE.out];exact hB1.symm
   have HREQ:=Hh hRE;obtain⟨VS,hVS⟩:∃VS,VS=qZZ 12 d:=⟨_,rfl⟩;have HVS:=Hh hVS;have HVS2:Hid (VS=([]++(qZZ 12 d).1,(qZZ 12 d).2)):=Hh (hVS.trans (pair_eta _));have hlenL:L.length≤100000:=by omega
   clear HB hB1 hRE HRE hVS;go_wp2_with fail
   go_loopw [91] (fun jv wr=>∃(j n:Nat) (V:List Vl) (d':Dc) (C:Ct),jv=.int .i64 (j:Int)∧n+j=12∧V.length=j∧Hid (VS=(V++(qZZ n d').1,(qZZ n d').2))∧(∀v∈V,0≤v.gen∧v.gen≤1073741824)∧qQM wr dB s d'∧CtAt wr (Hi B) c mb mn C∧Rep C ⟨L,V++qX2 n⟩∧Ext w wr) (fun jv _=>12 - (intOf jv).toNat)
   case atStart=>exact⟨0,12,[],d,C,rfl,rfl,rfl,HVS2,fun v hv=>(by cases hv),hD,hC,hR,X⟩
   case round =>
    clear hD hC hR X;obtain⟨j,n,V,d',C',rfl,hj,hVl,HB,hVg,hD,hC,hR,X⟩:=hrel
    by_cases hj2:j<12
    ·have hVs:C'.vols=V++qX2 n:=hR.vols
     have hget:C'.vols[j]? = some Vl.zero:=by
      rw[hVs,List.getElem?_append_right (by omega),hVl,Nat.sub_self];unfold qX2;rw[List.getElem?_replicate,if_pos (by omega)]
     have hgetD:C'.vols.getD j Vl.zero=Vl.zero:=by rw[List.getD_eq_getElem?_getD,hget];rfl
     have hdc:dB≠c:=fun e=>by have hcB:B≤c:=hC.lo.1;omega
     obtain⟨m,rfl⟩:∃m,n=m+1:=⟨n - 1,by omega⟩;have HBV:=Hh HB.out;clear HB hgetD;have HVEQ:Hid (C'.vols=V++qX2 (m+1)):=Hh hVs;clear hVs;go_wp2_with fail
     refine(db_any _ dB s d' hD).mono ?_
     rintro e w1 ⟨rfl,hT⟩;have hC1:=hC.dec hD hT.1;have X1:Ext w w1:=Chg.mono (Chg.trans (Ext.chg (S:=(· = dB)) X) hT.1 (fun _ _ e=>e)) (fun k hk e=>by have e':k=dB:=e;omega);have hD1:=hT.2;generalize ht1:d'.b=t1 at hD1⊢;have HT1:=Hh ht1;have v0:=(qQN hC1 j hj2).1;have f0:=hC1.blk.frozen (2+j * 3);obtain⟨hC2,hc2⟩:=hC1.volStore (j:=j) (k:=0) (x':=⟨t1.1,false,0⟩) (u:=.bool t1.1) (by omega) hget rfl;rw[Nat.add_zero]at hC2 hc2;have hD2:qQM _ dB s t1.2:=hD1.chg hc2 (fun e=>hdc e);have X2:Ext w _:=Chg.mono (Chg.trans (Ext.chg (S:=(· = c)) X1) hc2 (fun _ _ e=>e)) (fun k hk e=>by have e':k=c:=e;have hcB:B≤c:=hC.lo.1;omega);have hg2:(C'.setVols (C'.vols.set j ⟨t1.1,false,0⟩)).vols[j]? = some ⟨t1.1,false,0⟩:=set_get hget _;have HJ:=Hh (And.intro hC2 (And.intro hD2 X2));clear hD hT ht1 hC1 X1 hD1 hC2 hc2 hD2 X2 X;go_wp2_with fail
     obtain⟨hC2,hD2,X2⟩:=HJ.out;clear HJ v0 f0;generalize World.setCell _ _ _=W2 at hC2 hD2 X2⊢;refine(db_any _ dB s t1.2 hD2).mono ?_
     rintro e w1 ⟨rfl,hT⟩;have hC1:=hC2.dec hD2 hT.1;have X1:Ext w w1:=Chg.mono (Chg.trans (Ext.chg (S:=(· = dB)) X2) hT.1 (fun _ _ e=>e)) (fun k hk e=>by have e':k=dB:=e;omega);have hD1:=hT.2;generalize ht1:t1.2.b=t2 at hD1⊢;have HTt2:=Hh ht1;have v0:=(qQN hC1 j hj2).2.1;have f0:=hC1.blk.frozen (2+j * 3+1);obtain⟨hCn,hcn⟩:=hC1.volStore (j:=j) (k:=1) (x':=⟨t1.1,t2.1,0⟩) (u:=.bool t2.1) (by omega) hg2 rfl;have hDn:qQM _ dB s t2.2:=hD1.chg hcn (fun e=>hdc e);have Xn:Ext w _:=Chg.mono (Chg.trans (Ext.chg (S:=(· = c)) X1) hcn (fun _ _ e=>e)) (fun k hk e=>by have e':k=c:=e;have hcB:B≤c:=hC2.lo.1;omega);have hgn:=set_get hg2 ⟨t1.1,t2.1,0⟩;have HJ:=Hh (And.intro hCn (And.intro hDn Xn));clear hC2 hD2 X2 hT ht1 hC1 X1 hD1 hCn hcn hDn Xn hg2;have hg2:=hgn;clear hgn;go_wp2_with fail
     obtain⟨hC3,hD3,X3⟩:=HJ.out;clear HJ v0 f0;generalize World.setCell _ _ _=W3 at hC3 hD3 X3⊢;refine(qZk _ dB s t2.2 hD3 1073741824 (by decide) (by decide)).mono ?_
     rintro e w1 ⟨rfl,hT⟩;have hC1:=hC3.dec hD3 hT.1;have X1:Ext w w1:=Chg.mono (Chg.trans (Ext.chg (S:=(· = dB)) X3) hT.1 (fun _ _ e=>e)) (fun k hk e=>by have e':k=dB:=e;omega);have hD1:=hT.2;generalize ht1:t2.2.i 1073741824=t3 at hD1⊢;have ht3l:=di_le t2.2 1073741824 (by decide);rw[ht1]at ht3l;have HTt3:=Hh ht1;have v0:=(qQN hC1 j hj2).2.2;have f0:=hC1.blk.frozen (2+j * 3+2);obtain⟨hCn,hcn⟩:=hC1.volStore (j:=j) (k:=2) (x':=⟨t1.1,t2.1,t3.1⟩) (u:=.int .i64 (t3.1:Int)) (by omega) hg2 rfl;have hDn:qQM _ dB s t3.2:=hD1.chg hcn (fun e=>hdc e);have Xn:Ext w _:=Chg.mono (Chg.trans (Ext.chg (S:=(· = c)) X1) hcn (fun _ _ e=>e)) (fun k hk e=>by have e':k=c:=e;have hcB:B≤c:=hC3.lo.1;omega);have hgn:=set_get hg2 ⟨t1.1,t2.1,t3.1⟩;have HJ:=Hh (And.intro hCn (And.intro hDn Xn));clear hC3 hD3 X3 hT ht1 hC1 X1 hD1 hCn hcn hDn Xn hg2;have hg2:=hgn;clear hgn;obtain⟨hC4,hD4,X4⟩:=HJ.out;clear HJ;have hvl:rdVl d'=(⟨t1.1,t2.1,t3.1⟩,t3.2):=rdVl_all HT1.out HTt2.out HTt3.out;have hR4:=(((hR.vset (C'.vols.set j ⟨t1.1,false,0⟩)).vset ((C'.vols.set j ⟨t1.1,false,0⟩).set j ⟨t1.1,t2.1,0⟩)).vset (((C'.vols.set j ⟨t1.1,false,0⟩).set j ⟨t1.1,t2.1,0⟩).set j ⟨t1.1,t2.1,t3.1⟩))
     have hvs:((C'.vols.set j ⟨t1.1,false,0⟩).set j ⟨t1.1,t2.1,0⟩).set j ⟨t1.1,t2.1,t3.1⟩=(V++[⟨t1.1,t2.1,t3.1⟩])++qX2 m:=by
      rw[List.set_set,List.set_set,HVEQ.out,←hVl,zeros_set]
     have hB4:VS=((V++[⟨t1.1,t2.1,t3.1⟩])++(qZZ m t3.2).1,(qZZ m t3.2).2):=by
      have:=HBV.out
      rw[rdVls_succ,hvl]at this;rw[this];simp only[List.append_assoc,List.singleton_append]
     have hg4:∀v∈V++[⟨t1.1,t2.1,(t3.1:Int)⟩],0≤v.gen∧v.gen≤1073741824:=fun v hv=>by
      rcases List.mem_append.1 hv with hv|hv
      ·exact hVg v hv
      ·rw[List.mem_singleton]at hv;subst hv;exact⟨Int.natCast_nonneg _,ht3l⟩
     have HALL:=Hh (And.intro hC4 (And.intro hD4 (And.intro X4 (And.intro hR4 (And.intro hvs (And.intro hB4 hg4))))));clear hC4 hD4 X4 hR4 hvs hB4 hg4 hvl hg2 hget hR hVg ht3l;go_wp2_with fail
     go_roundw
     case rel =>
      obtain⟨h1,h2,h3,h4,h5,h6,h7⟩:=HALL.out;refine⟨j+1,m,V++[⟨t1.1,t2.1,t3.1⟩],t3.2,_,by go_num,by omega,by simp[hVl],Hh h6,h7,h2,h1,?_,h3⟩
      rw[←h5];exact h4
     case measure=>simp[intOf];omega
    ·obtain⟨rfl,hj12⟩:n=0∧j=12:=by omega
     subst hj12;have hB2:=HB.out;rw[rdVls_zero,List.append_nil]at hB2;have hcat:=rdCat_end HREQ.out (HVS.out.symm.trans hB2)
     have hR2:Rep C' ⟨L,V⟩:=by
      have:V++qX2 0=V:=List.append_nil V
      rw[this]at hR;exact hR
     have HCAT:=Hh hcat;clear HB hB2 hcat hR HREQ HVS HVS2;go_wp2_with fail
     refine(qXP _ dB s d' hD).mono ?_
     rintro e w1 ⟨rfl,hT⟩;have hC1:=hC.dec hD hT.1;have X1:Ext w w1:=Chg.mono (Chg.trans (Ext.chg (S:=(· = dB)) X) hT.1 (fun _ _ e=>e)) (fun k hk e=>by have e':k=dB:=e;omega);clear hC X hD hT
     by_cases he:d'.done.err=0
     ·have hF:qXb w s (.returned (.tuple #[.pointer (some ⟨c,0,none⟩),.int .i64 0])) w1:=by
       unfold qXb;rw[HCAT.out,if_pos he];exact⟨fun _=>⟨B,c,mb,mn,hwB,rfl,C',hC1,hR2⟩,fun e=>absurd rfl e,X1⟩
      have HF:=Hh hF;clear hF hC1 X1 hR2 HCAT;go_wp2_with fail
      refine bodyPost_ret (v:=.tuple #[.pointer (some ⟨c,0,none⟩),.int .i64 0]) (by simp[results,results51,go_sem]) rfl ?_;exact HF.out
     ·have hF:qXb w s (.returned (.tuple #[.pointer none,.int .i64 d'.done.err])) w1:=by
       unfold qXb;rw[HCAT.out,if_neg he];exact⟨fun e=>absurd e he,fun _=>rfl,X1⟩
      have HF:=Hh hF;clear hF hC1 X1 hR2 HCAT;go_wp2_with fail
      refine bodyPost_ret (v:=.tuple #[.pointer none,.int .i64 d'.done.err]) (by simp[results,results51,go_sem]) rfl ?_;exact HF.out
open Go.RowKit Go.Sort
theorem strR_info:(prog.info? 9).map (fun i=>(i.zero,i.size,i.bytes))=some (some (.string ByteArray.empty),1,16):=by kernel_rfl
def qXZ(r:Rs)(nv:Value):Array Value:=#[.int .i64 r.err,.int .u64 (r.blob:Int),.int .i64 r.size,.int .u32 (r.sum:Int),nv]
structure Sst (w0 w:World) (dB:Nat) (s:ByteArray) (d:Dc) (q rb:Nat) (r:Rs) (nv:Value):Prop where
 chg:Chg (· = dB) w0 w
 dec:qQM w dB s d
 box:At w q 36 (qXZ (Rs.er 0) (.slice none 0 0))
 at_:At w rb 36 (qXZ r nv)
 own:w.ownsRow w0.heap.size 9 1 nv r.names.length (r.names.map Value.string)
 new:w0.heap.size≤q∧w0.heap.size≤rb∧q≠rb
 old:dB<w0.heap.size
section
variable{w0 w w':World}{dB q rb:Nat}{s:ByteArray}{d d':Dc}{r r':Rs}{nv nv':Value}
theorem Sst.call(h:Sst w0 w dB s d q rb r nv)(hT:qXg w w' dB s d'):Sst w0 w' dB s d' q rb r nv :=
 ⟨h.chg.trans hT.1 (fun _ _ e=>e),hT.2,h.box.chg hT.1 (fun e=>h.dec.apart h.box (by decide) e.symm),h.at_.chg hT.1 (fun e=>h.dec.apart h.at_ (by decide) e.symm),qQa h.own hT.1 (h.dec.ownApart h.own (by decide)),h.new,h.old⟩
theorem Sst.set(h:Sst w0 w dB s d q rb r nv)(k:Nat)(v:Value)(he:(qXZ r nv).setIfInBounds k v=qXZ r' nv')(hO:w.ownsRow w0.heap.size 9 1 nv' r'.names.length (r'.names.map Value.string)) :
 Sst w0 (w.setCell ⟨rb,k,none⟩ v) dB s d q rb r' nv':=by
 have hA:=h.at_.set k v;rw[he]at hA;have hc:Chg (· = rb) w (w.setCell ⟨rb,k,none⟩ v):=Chg.setCell (p:=⟨rb,k,none⟩) (Chg.refl (· = rb) w) (.inl rfl) v;exact⟨Chg.setCell h.chg (.inr h.new.2.1) v,h.dec.chg hc (fun e=>h.dec.apart h.at_ (by decide) e),h.box.chg hc h.new.2.2,hA,qQa hO hc (qQb hO h.at_ (by decide)),h.new,h.old⟩
end
theorem rdR_all{d:Dc}{er bl sz su n:Nat×Dc}{nm:List ByteArray×Dc}(h1:d.i 17=er)(h2:er.2.u=bl)(h3:bl.2.i 4000=sz)(h4:sz.2.u=su)(h5:(qJs su).i 100000=n)(h6:qJa n.1 [] n.2=nm):rdR d=⟨er,bl,sz,su,n,nm⟩:=by
 subst h1 h2 h3 h4 h5 h6;rfl
def RrOut(w:World)(dB:Nat)(s:ByteArray)(d:Dc)(e:Ending)(w':World):Prop :=
 ∃A c,e=.returned (.agg (qXZ (rdR d).r (.slice A (rdR d).r.names.length c)))∧w'.ownsRow w.heap.size 9 1 (.slice A (rdR d).r.names.length c) (rdR d).r.names.length ((rdR d).r.names.map Value.string)∧qXg w w' dB s (rdR d).nm.2
theorem Sst.out{w0 w:World}{dB q rb:Nat}{s:ByteArray}{d0 d:Dc}{r:Rs}{A:Option Addr}{n c:Nat}(h:Sst w0 w dB s d q rb r (.slice A n c))(hn:n=r.names.length)(hr:(rdR d0).r=r)(hd:(rdR d0).nm.2=d) :
 RrOut w0 dB s d0 (.returned (.agg (qXZ r (.slice A n c)))) (w.setCells q 0 (qXZ r (.slice A n c)).toList)∧(loadVar 36 ⟨q,0,none⟩).run prog (w.setCells q 0 (qXZ r (.slice A n c)).toList)=.ok (.agg (qXZ r (.slice A n c))) (w.setCells q 0 (qXZ r (.slice A n c)).toList):=by
 have hch:Chg (· = q) w (w.setCells q 0 (qXZ r (.slice A n c)).toList):=qQg _ _;have hQ:At (w.setCells q 0 (qXZ r (.slice A n c)).toList) q 36 (qXZ r (.slice A n c)):=At.cells_all h.box rfl;refine⟨⟨A,c,?_,?_,?_,?_⟩,?_⟩
 ·rw[hr,←hn]
 ·rw[hr,←hn]
  have:=qQa h.own hch (qQb h.own h.box (by decide))
  rwa[←hn]at this
 ·exact h.chg.trans hch (fun k hk e=>by have:=h.new.1;have e':k=q:=e;omega)
 ·rw[hd];exact h.dec.chg hch (fun e=>h.dec.apart h.box (by decide) e)
 ·have:=run_loadVar_mid (P:=prog) _ q 0 36 (qXZ r (.slice A n c)).toList _ hQ.range underlying36 rfl qQs
  simpa using this
theorem readRes_any(w:World)(dB:Nat)(s:ByteArray)(d:Dc)(h:qQM w dB s d) :
 Calls prog 52 #[.pointer (some ⟨dB,0,none⟩)] w (RrOut w dB s d):=by
 go_enter func52,ntmps52
 have hQ:=(At.new w 36 (qXZ (Rs.er 0) (.slice none 0 0))).alloc (.cells (qXZ (Rs.er 0) (.slice none 0 0)) 36);have hP:=At.new (w.alloc (.cells (qXZ (Rs.er 0) (.slice none 0 0)) 36)) 36 (qXZ (Rs.er 0) (.slice none 0 0));have hE:=((Er w).alloc (.cells (qXZ (Rs.er 0) (.slice none 0 0)) 36)).alloc (.cells (qXZ (Rs.er 0) (.slice none 0 0)) 36);rw[show(w.alloc (.cells (qXZ (Rs.er 0) (.slice none 0 0)) 36)).heap.size=w.heap.size+1 by simp]at hP
 go_upto_region 2 with fail
 obtain⟨q,hq⟩:∃q,w.heap.size=q:=⟨_,rfl⟩;have h0:Sst w ((w.alloc (.cells (qXZ (Rs.er 0) (.slice none 0 0)) 36)).alloc (.cells (qXZ (Rs.er 0) (.slice none 0 0)) 36)) dB s d q (q+1) (Rs.er 0) (.slice none 0 0):=⟨hE.chg,h.chg hE (fun e=>e),by rw[←hq];exact hQ,by rw[←hq];exact hP,qQx _ _ _,⟨by omega,by omega,by omega⟩,h.lt⟩;rw[hq];clear hQ hP hE h hq;unfold qXZ Rs.er at h0;generalize (w.alloc _).alloc _=W at h0⊢;obtain⟨rb,hrb⟩:∃rb,q+1=rb:=⟨_,rfl⟩;rw[hrb]at h0⊢;clear hrb;go_wp2_with fail
 refine(qZk _ dB s _ h0.dec 17 (by decide) (by decide)).mono ?_
 rintro e w1 ⟨rfl,hT⟩;have h1:=h0.call hT;generalize hv:d.i 17=er at h1⊢;have Her:=Hh hv;clear h0 hT hv;have c0:=h1.at_.cell 0;have f0:=h1.at_.frozen 0;simp[qXZ]at c0;go_wp2_with fail
 have h0:=h1.set (r':=⟨er.1,0,0,0,[]⟩) (nv':=.slice none 0 0) 0 (.int .i64 (er.1:Int)) rfl h1.own;generalize World.setCell _ _ _=W at h0⊢;clear h1 c0 f0;refine(du_any _ dB s _ h0.dec).mono ?_
 rintro e w1 ⟨rfl,hT⟩;have h1:=h0.call hT;generalize hv:er.2.u=bl at h1⊢;have Hbl:=Hh hv;clear h0 hT hv;have c0:=h1.at_.cell 1;have f0:=h1.at_.frozen 1;simp[qXZ]at c0;go_wp2_with fail
 have h0:=h1.set (r':=⟨er.1,bl.1,0,0,[]⟩) (nv':=.slice none 0 0) 1 (.int .u64 (bl.1:Int)) rfl h1.own;generalize World.setCell _ _ _=W at h0⊢;clear h1 c0 f0;refine(qZk _ dB s _ h0.dec 4000 (by decide) (by decide)).mono ?_
 rintro e w1 ⟨rfl,hT⟩;have h1:=h0.call hT;generalize hv:bl.2.i 4000=sz at h1⊢;have Hsz:=Hh hv;clear h0 hT hv;have c0:=h1.at_.cell 2;have f0:=h1.at_.frozen 2;simp[qXZ]at c0;go_wp2_with fail
 have h0:=h1.set (r':=⟨er.1,bl.1,sz.1,0,[]⟩) (nv':=.slice none 0 0) 2 (.int .i64 (sz.1:Int)) rfl h1.own;generalize World.setCell _ _ _=W at h0⊢;clear h1 c0 f0;refine(du_any _ dB s _ h0.dec).mono ?_
 rintro e w1 ⟨rfl,hT⟩;have h1:=h0.call hT;generalize hv:sz.2.u=su at h1⊢;have Hsu:=Hh hv;clear h0 hT hv
 go_upto_if 19 with fail
 go_cut []from 18 to 21 (fun wx=>Sst w wx dB s (qJs su) q rb ⟨er.1,bl.1,sz.1,0,[]⟩ (.slice none 0 0))
 case first =>
  by_cases hbig:4294967295<su.1
  ·have e1:qJs su=su.2.fail 3:=by unfold qJs;rw[if_pos (by simpa using hbig)]
   go_wp2_with fail
   refine(qQ7 _ dB s _ h1.dec 3 (by decide)).mono ?_
   rintro e w2 ⟨rfl,hT⟩;have h2:=h1.call hT;go_wp2_with fail
   go_meet
   case rel=>rw[e1];exact h2
  ·have e1:qJs su=su.2:=by unfold qJs;rw[if_neg (by simpa using hbig)]
   go_wp2_with fail
   go_meet
   case rel=>rw[e1];exact h1
 case rest =>
 clear h1;have h1:=hcut;clear hcut;have hw:IntKind.u32.wrap (su.1:Int)=((su.1 % 4294967296:Nat):Int):=by simp[IntKind.wrap,IntKind.bits,IntKind.signed]
 have c0:=h1.at_.cell 3;have f0:=h1.at_.frozen 3;simp[qXZ]at c0;go_wp2_with fail
 have h0:=h1.set (r':=⟨er.1,bl.1,sz.1,su.1 % 4294967296,[]⟩) (nv':=.slice none 0 0) 3 (.int .u32 ((su.1:Int) % 4294967296)) rfl h1.own;generalize World.setCell _ _ _=W at h0⊢;clear h1 c0 f0;clear hw;obtain⟨sm,hsm⟩:∃sm,su.1 % 4294967296=sm:=⟨_,rfl⟩;rw[hsm]at h0;have HSM:=Hh hsm;clear hsm;refine(qZk _ dB s _ h0.dec 100000 (by decide) (by decide)).mono ?_
 rintro e w1 ⟨rfl,hT⟩;have h1:=h0.call hT;generalize hv:(qJs su).i 100000=nn at h1⊢;have Hnn:=Hh hv;clear h0 hT hv;have hNl:(nn.1:Int)≤100000:=by have:=di_le (qJs su) 100000 (by decide);rw[Hnn.out]at this;exact this
 obtain⟨N,d0⟩:=nn;simp only at hNl h1;obtain⟨NM,hNM⟩:∃NM,qJa N [] d0=NM:=⟨_,rfl⟩;have HNM:=Hh hNM;have HALL:Hid (rdR d=⟨er,bl,sz,su,(N,d0),NM⟩):=Hh (rdR_all Her.out Hbl.out Hsz.out Hsu.out Hnn.out hNM);clear hNM;go_wp2_with fail
 go_loopw [28] (fun kv wr=>∃(k:Nat) (L:List ByteArray) (d':Dc) (A:Option Addr) (c:Nat),kv=.int .i64 (k:Int)∧k≤N∧L.length=k∧Hid (qJa (N - k) L d'=NM)∧Sst w wr dB s d' q rb ⟨er.1,bl.1,sz.1,sm,L⟩ (.slice A k c)) (fun kv _=>N - (intOf kv).toNat)
 case atStart=>exact⟨0,[],d0,none,0,rfl,Nat.zero_le _,rfl,HNM,h1⟩
 case round =>
  clear h1;obtain⟨k,L,d',A,c,rfl,hk,hLk,HB,h0⟩:=hrel
  by_cases hlt:k<N
  ·obtain⟨mm,hm⟩:∃m,N - k=m+1:=⟨N - k - 1,by omega⟩;have hB1:=HB.out;have HM:=Hh hm;rw[hm]at hB1;unfold qJa at hB1;have HB1:=Hh hB1;clear hB1 hm;go_wp2_with fail
   refine(ds_any _ dB s _ h0.dec 32 (by decide) (by decide)).mono ?_
   rintro e w1 ⟨rfl,hT⟩;have h1:=h0.call hT;clear h0 hT;generalize d'.s 32=t at h1 HB1⊢;go_wp2_with fail
   refine(qJr _ dB s _ h1.dec).mono ?_
   rintro e w2 ⟨rfl,hw2⟩;subst hw2
   by_cases he:t.2.err=0
   ·have hB2:=HB1.out;rw[if_pos he]at hB2;have HB2:=Hh hB2;clear hB2;have c4:=h1.at_.cell 4;have f4:=h1.at_.frozen 4;simp[qXZ]at c4;have hsz:w.heap.size≤w2.heap.size:=h1.chg.size;have hOk:=h1.own;rw[show(⟨er.1,bl.1,sz.1,sm,L⟩:Rs).names=L from rfl,hLk]at hOk
    go_wp2_with (at_builtin;refine qZ6 _ hOk 34 underlying34 strR_info rfl rfl (by decide) (by decide) rfl (by omega) hsz rfl _ _ rfl rfl rfl ?_)
    intro v9 w9 hO9 hC9 _;obtain⟨A9,c9,rfl⟩:=qQc hO9;have hdo:=h1.dec.ownApart hOk (by decide);have hD9:qQM w9 dB s t.2:=h1.dec.chg hC9 (fun e=>hdo dB e rfl);have hQ9:=h1.box.chg hC9 (fun e=>qQb hOk h1.box (by decide) q e rfl);have hP9:=h1.at_.chg hC9 (fun e=>qQb hOk h1.at_ (by decide) rb e rfl);have hX9:Chg (· = dB) w w9:=h1.chg.trans hC9 (fun b hb e=>by have:=(hOk.lt b e.symm).1;omega);have hcS:Chg (· = rb) w9 (w9.setCell ⟨rb,4,none⟩ (.slice A9 (k+1) c9)):=Chg.setCell (p:=⟨rb,4,none⟩) (Chg.refl (· = rb) w9) (.inl rfl) _
    have hO9':w9.ownsRow w.heap.size 9 1 (.slice A9 (k+1) c9) (L++[(⟨t.1.toArray⟩:ByteArray)]).length ((L++[(⟨t.1.toArray⟩:ByteArray)]).map Value.string):=by
     have:=hO9
     rw[List.length_append,hLk,List.map_append];exact this
    have h9:Sst w (w9.setCell ⟨rb,4,none⟩ (.slice A9 (k+1) c9)) dB s t.2 q rb ⟨er.1,bl.1,sz.1,sm,L++[⟨t.1.toArray⟩]⟩ (.slice A9 (k+1) c9):=⟨Chg.setCell hX9 (.inr h1.new.2.1) _,hD9.chg hcS (fun e=>h1.dec.apart h1.at_ (by decide) e),hQ9.chg hcS h1.new.2.2,hP9.set 4 _,qQa hO9' hcS (qQb hO9' hP9 (by decide)),h1.new,h1.old⟩;have f9:=hP9.frozen 4;have c9':=hP9.cell 4;simp[qXZ]at c9';have H9:=Hh h9;clear h9 hO9 hO9' hX9 hcS hD9 hQ9 hP9 hC9 hdo hOk h1 c4 f4 hsz;go_wp2_with fail
    go_roundw
    case rel=>exact⟨k+1,L++[⟨t.1.toArray⟩],t.2,A9,c9,by go_num,by omega,by simp[hLk],Hh (by rw[show N - (k+1)=mm by have:=HM.out;omega];exact HB2.out),H9.out⟩
    case measure=>simp[intOf];omega
   ·have hB2:=HB1.out;rw[if_neg he]at hB2;have HN:k=L.length:=hLk.symm;have HR:(⟨er,bl,sz,su,(N,d0),NM⟩:Rr).r=⟨er.1,bl.1,sz.1,sm,L⟩:=by rw[←hB2,←HSM.out];rfl
    have HD:(⟨er,bl,sz,su,(N,d0),NM⟩:Rr).nm.2=t.2:=by rw[←hB2]
    clear hB2;have HOUT:=h1.out (r:=⟨er.1,bl.1,sz.1,sm,L⟩) (d0:=d) HN (by rw[HALL.out];exact HR) (by rw[HALL.out];exact HD);have HRB:=Hh h1.at_.range;have HTQ:Hid (w2.there q 0 5):=Hh h1.box.there;have HF:=Hh HOUT.1;have HL:=Hh HOUT.2;clear HOUT HN HR HD h1;unfold qXZ at HRB HTQ HF HL;simp only at HRB HTQ HF HL;have heb:(t.2.err != 0)=true:=by simp[he]
    go_upto_region 14 with fail
    go_wp2_with (first|(refine wpList_load_mid rfl 36 _ rfl rb 0 rfl _ _ HRB.out underlying36 rfl qQs ?_)|(refine wpList_store_mid rfl 36 _ _ rfl q 0 #[.int .i64 (er.1:Int),.int .u64 (bl.1:Int),.int .i64 (sz.1:Int),.int .u32 (sm:Int),.slice A k c] rfl rfl HTQ.out qQs (by simp[Value.oneCell']) ?_))
    refine bodyPost_ret (v:=.agg #[.int .i64 (er.1:Int),.int .u64 (bl.1:Int),.int .i64 (sz.1:Int),.int .u32 (sm:Int),.slice A k c]) (qQJ results52 _ rfl HL.out) rfl ?_;exact HF.out
  ·obtain rfl:k=N:=by omega
   have hB2:=HB.out;rw[Nat.sub_self]at hB2;have HN:k=L.length:=hLk.symm;have HR:(⟨er,bl,sz,su,(k,d0),NM⟩:Rr).r=⟨er.1,bl.1,sz.1,sm,L⟩:=by rw[←hB2,←HSM.out];rfl
   have HD:(⟨er,bl,sz,su,(k,d0),NM⟩:Rr).nm.2=d':=by rw[←hB2];rfl
   clear hB2;have HOUT:=h0.out (r:=⟨er.1,bl.1,sz.1,sm,L⟩) (d0:=d) HN (by rw[HALL.out];exact HR) (by rw[HALL.out];exact HD);have HRB:=Hh h0.at_.range;have HTQ:Hid (wr.there q 0 5):=Hh h0.box.there;have HF:=Hh HOUT.1;have HL:=Hh HOUT.2;clear HOUT HN HR HD h0;unfold qXZ at HRB HTQ HF HL;simp only at HRB HTQ HF HL
   go_upto_region 17 with fail
   go_wp2_with (first|(refine wpList_load_mid rfl 36 _ rfl rb 0 rfl _ _ HRB.out underlying36 rfl qQs ?_)|(refine wpList_store_mid rfl 36 _ _ rfl q 0 #[.int .i64 (er.1:Int),.int .u64 (bl.1:Int),.int .i64 (sz.1:Int),.int .u32 (sm:Int),.slice A k c] rfl rfl HTQ.out qQs (by simp[Value.oneCell']) ?_))
   refine bodyPost_ret (v:=.agg #[.int .i64 (er.1:Int),.int .u64 (bl.1:Int),.int .i64 (sz.1:Int),.int .u32 (sm:Int),.slice A k c]) (qQJ results52 _ rfl HL.out) rfl ?_;exact HF.out
open Go.RowKit Go.Sort
section
variable{w w':World}{B B' S:Nat→Prop}
theorem own_at{base:Nat}{e:TypeId}{size:Nat}{v:Value}{n:Nat}{xs:List Value}(h:w.ownsRow base e size v n xs)(hI:∀g cs,At w g e cs→At w' g e cs):w'.ownsRow base e size v n xs:=by
 refine⟨h.1,?_⟩
 rcases h.2 with hn|⟨g,cap,cur,hv,hb,hg,rest⟩
 ·exact .inl hn
 ·exact .inr ⟨g,cap,cur,hv,hb,hI g cur hg,rest⟩
theorem CtAt.moved{c mb mn:Nat}{C:Ct}(h:CtAt w B c mb mn C)(hC:Chg S w w')(hS:∀b,B b→¬ S b)(hI:∀g cs,At w g 3 cs→At w' g 3 cs)(h1:∀b,b<w.heap.size→B b→B' b)(h2:∀b,w'.heap.size≤b→B' b):CtAt w' B' c mb mn C where
 blk:=h.blk.chg hC (hS c h.lo.1)
 bm:=h.bm.chg hC (hS mb h.lo.2.1)
 nm:=h.nm.chg hC (hS mn h.lo.2.2.1)
 bl:=fun r hr=>⟨(h.bl r hr).1.chg hC (hS r.g (h.lo.2.2.2 r hr)),own_at (h.bl r hr).2 hI⟩
 inj:=h.inj
 vlen:=h.vlen
 mne:=h.mne
 up:=h2
 lo:=⟨h1 c h.blk.lt h.lo.1,h1 mb h.bm.lt h.lo.2.1,h1 mn h.nm.lt h.lo.2.2.1,fun r hr=>h1 r.g (h.bl r hr).1.lt (h.lo.2.2.2 r hr)⟩
theorem MAt.moved{m c mb mn mc:Nat}{M:Mach}{rows:Rows14}(h:MAt w B m c mb mn mc M rows)(hC:Chg S w w')(hS:∀b,B b→¬ S b)(hI:∀g cs,At w g 3 cs→At w' g 3 cs)(h1:∀b,b<w.heap.size→B b→B' b)(h2:∀b,w'.heap.size≤b→B' b):MAt w' B' m c mb mn mc M rows:=by
 obtain⟨C,hCt,hR⟩:=h.cat;exact⟨h.blk.chg hC (hS m h.lo.1),⟨C,hCt.moved hC hS hI h1 h2,hR⟩,h.cl,h.map.chg hC (hS mc h.lo.2),fun p hp=>qQa (h.nms p hp) hC (fun k hk=>hS k (h.nb p hp k hk)),h.ne,⟨h1 m h.blk.lt h.lo.1,h1 mc h.map.lt h.lo.2⟩,fun p hp k hk=>h1 k ((h.nms p hp).lt k hk.symm).2 (h.nb p hp k hk)⟩
end
open Go.RowKit Go.Sort
section
variable{w w':World}{B:Nat→Prop}{m c mb mn mc dB:Nat}{M:Mach}{rows:Rows14}{s:ByteArray}{d:Dc}
theorem MAt.dec(h:MAt w B m c mb mn mc M rows)(hD:qQM w dB s d)(hC:Chg (· = dB) w w'):MAt w' B m c mb mn mc M rows:=by
 obtain⟨_,_,_,k,_,_,h6⟩:=hD;exact h.away h6 (by decide) (by decide) (by decide) (by decide) (by decide) hC
theorem MAt.setN(h:MAt w B m c mb mn mc M rows)(n:Int):MAt (w.setCell ⟨m,2,none⟩ (.int .i64 n)) B m c mb mn mc { M with n:=n } rows:=by
 have hC:Chg (· = m) w (w.setCell ⟨m,2,none⟩ (.int .i64 n)):=Chg.setCell (S:=(· = m)) (p:=⟨m,2,none⟩) (Er w).chg (.inl rfl) _;exact⟨h.blk.set 2 _,h.cat.away h.blk (by decide) (by decide) (by decide) hC,h.cl,h.map.setCell _ _,fun p hp=>qQa (h.nms p hp) hC (fun k hk e=>qQb (h.nms p hp) h.blk (by decide) k hk e),h.ne,h.lo,h.nb⟩
theorem MAt.setCat(h:MAt w B m c mb mn mc M rows){B':Nat→Prop}{c' mb' mn':Nat}{P:Pm}(hC:qZz w B' c' mb' mn' P)(hB:∀b,B' b→B b)(hne:mc≠mb'∧mc≠mn'):MAt (w.setCell ⟨m,0,none⟩ (.pointer (some ⟨c',0,none⟩))) B m c' mb' mn' mc { M with P:=P } rows:=by
 have hS:Chg (· = m) w (w.setCell ⟨m,0,none⟩ (.pointer (some ⟨c',0,none⟩))):=Chg.setCell (S:=(· = m)) (p:=⟨m,0,none⟩) (Er w).chg (.inl rfl) _
 have hC2:qZz w B c' mb' mn' P:=by
  obtain⟨C,h1,h2⟩:=hC;exact⟨C,h1.moved (S:=fun _=>False) (Er w) (fun _ _ hh=>hh) (fun _ _ hA=>hA) (fun b _ hb=>hB b hb) (fun b hb=>h.cat.up b hb),h2⟩
 exact⟨h.blk.set 0 _,hC2.away h.blk (by decide) (by decide) (by decide) hS,h.cl,h.map.setCell _ _,fun p hp=>qQa (h.nms p hp) hS (fun k hk e=>qQb (h.nms p hp) h.blk (by decide) k hk e),hne,h.lo,h.nb⟩
theorem MAt.put{w1:World}(h:MAt w B m c mb mn mc M rows)(hE:Ext w w1)(hmp:qQE qZM qXo w1 mc rows)(hC:Chg (· = mc) w1 w'){k:Int}{l:Last}{A:Option Addr}{cp:Nat}(hmp2:qQE qZM qXo w' mc ((k,(l,.slice A l.r.names.length cp))::qZy k rows))
 (hO:w.ownsRow 0 9 1 (.slice A l.r.names.length cp) l.r.names.length (l.r.names.map Value.string)) (hb:∀b,some b=(Value.slice A l.r.names.length cp).ownBlock→B b) :
 MAt w' B m c mb mn mc { M with cl:=(k,l)::qZy k M.cl } ((k,(l,.slice A l.r.names.length cp))::qZy k rows):=by
 refine⟨(h.blk.ext hE).chg hC (fun e=>hmp.ne_at (h.blk.ext hE) (Eq.symm e)),(h.cat.ext hE).away_map hmp h.ne.1 h.ne.2 hC,?_,hmp2,fun p hp=>?_,h.ne,h.lo,fun p hp=>?_⟩
 ·show(k,l)::(qZy k rows).map (fun p=>(p.1,p.2.1))=(k,l)::qZy k M.cl
  rw[←(show rows.map (fun p=>(p.1,p.2.1))=M.cl from h.cl)];unfold qZy;rw[List.filter_map];rfl
 ·rcases List.mem_cons.1 hp with rfl|hp
  ·exact qQa (own_kx hO hE) hC (fun k hk e=>qXc (own_kx hO hE) hmp k hk e)
  ·exact qQa (qQa (h.nms p (List.mem_filter.1 hp).1) hE (fun _ _ hh=>hh)) hC (fun k hk e=>qXc (qQa (h.nms p (List.mem_filter.1 hp).1) hE (fun _ _ hh=>hh)) hmp k hk e)
 ·rcases List.mem_cons.1 hp with rfl|hp
  ·exact hb
  ·exact h.nb p (List.mem_filter.1 hp).1
end
structure GPt (W0:World) (mc:Nat) (rows rows':Rows14) (γ : Nat→Value) (L:Nat→Bool) (w:World):Prop where
 pre:L 6=false→Ext W0 w
 put:L 6=true→∃w1,Ext W0 w1∧qQE qZM qXo w1 mc rows∧Chg (· = mc) w1 w∧qQE qZM qXo w mc rows'
theorem GPt.keep{W0:World}{mc:Nat}{rows rows':Rows14}{j:Nat}(hj:j<6):∀γ L w,GPt W0 mc rows rows' γ L w→L j=false→GPt W0 mc rows rows' γ (fun i=>i == j||L i) w:=by
 intro γ L w h _;have k6:((6:Nat) == j||L 6)=L 6:=by rw[show((6:Nat) == j)=false by simp;omega,Bool.false_or]
 exact⟨fun hh=>h.pre (k6 ▸ hh),fun hh=>h.put (k6 ▸ hh)⟩
def SrOut(w:World)(s:ByteArray)(e:Ending)(w':World):Prop :=
 ((qZ3 s.data.toList).2=0→∃m,e=.returned (.tuple #[.pointer (some ⟨m,0,none⟩),.int .i64 0])∧qZo w' (Hi w.heap.size) m (qZ3 s.data.toList).1) ∧
 ((qZ3 s.data.toList).2≠0→e=.returned (.tuple #[.pointer none,.int .i64 (qZ3 s.data.toList).2]))∧Ext w w'
theorem rdH_all{s:List UInt8}{c:Nat×Dc}{t:List UInt8×Dc}{n:Nat×Dc}(h1:(⟨s,0⟩:Dc).i 1099511627776=c)(h2:c.2.s 9223372036854775807=t)(h3:t.2.i 1048576=n):rdH ⟨s,0⟩=⟨c,t,n⟩:=by subst h1 h2 h3;rfl
theorem rdE_all{d:Dc}{k q:Nat×Dc}{r:Rr}(h1:d.i 1073741824=k)(h2:k.2.i 1073741824=q)(h3:rdR q.2=r):rdE d=⟨k,q,r⟩:=by subst h1 h2 h3;rfl
theorem rdMach_head{s:List UInt8}{q:Rh}(h:rdH ⟨s,0⟩=q)(he:q.n.2.err≠0):qZ3 s=(Mach.empty,q.n.2.err):=by
 unfold qZ3;rw[h,if_neg he]
theorem rdMach_cat{s:List UInt8}{q:Rh}(h:rdH ⟨s,0⟩=q)(he:q.n.2.err=0)(hc:(qXt q.t.1).2≠0):qZ3 s=(Mach.empty,(qXt q.t.1).2):=by
 unfold qZ3;rw[h,if_pos he,if_neg hc]
theorem rdMach_end{s:List UInt8}{q:Rh}(h:rdH ⟨s,0⟩=q)(he:q.n.2.err=0)(hc:(qXt q.t.1).2=0){L:List (Int×Last)}{d:Dc}(hE:rdEs q.n.1 [] q.n.2=(L,d)) :
 qZ3 s=if d.done.err=0 then(⟨(qXt q.t.1).1,L.reverse,q.c.1⟩,0)else(Mach.empty,d.done.err):=by
 unfold qZ3;rw[h,if_pos he,if_pos hc,hE]
theorem ldel_asc{L:List (Int×Last)}{k:Int}(h:∀p∈L,p.1<k):qZy k L.reverse=L.reverse:=by
 unfold qZy;refine List.filter_eq_self.2 fun p hp=>?_
 have:=h p (List.mem_reverse.1 hp)
 simp;omega
theorem lastK_snoc(L:List (Int×Last))(e:Int×Last):qXB (L++[e])=e.1:=by
 unfold qXB;rw[List.getLast?_append];simp
theorem sr_err{w w':World}{s:ByteArray}{P:Pm}{n:Int}{RE:List (Int×Last)×Dc}{L:List (Int×Last)}{dd:Dc}(hEnd:qZ3 s.data.toList=if RE.2.done.err=0 then(⟨P,RE.1.reverse,n⟩,0)else(Mach.empty,RE.2.done.err))(hRE:(L,dd)=RE)(he:dd.err≠0)(hX:Ext w w'):SrOut w s (.returned (.tuple #[.pointer none,.int .i64 dd.err])) w':=by
 subst hRE;simp only at hEnd;rw[Dc.done_stays he,if_neg he]at hEnd;unfold SrOut;rw[hEnd];exact⟨fun e=>absurd e he,fun _=>rfl,hX⟩
theorem fail_ne(d:Dc):(d.fail 3).err≠0:=by
 unfold Dc.fail;split
 ·show(3:Int)≠0
  decide
 ·assumption
theorem ckE_true{L:List (Int×Last)}{e:Int×Last}{d:Dc}(h:(decide (e.1≤qXB L)||(e.2.seq == 0))=true):ckE L e d=d.fail 3:=by
 unfold ckE;rw[if_pos];simpa using h
theorem ckE_false{L:List (Int×Last)}{e:Int×Last}{d:Dc}(h:(decide (e.1≤qXB L)||(e.2.seq == 0))=false):ckE L e d=d∧qXB L<e.1∧e.2.seq≠0:=by
 have h2:¬ ((decide (e.1≤qXB L)||decide (e.2.seq=0))=true):=by simp at h⊢;omega
 refine⟨?_,?_,?_⟩
 ·unfold ckE;rw[if_neg h2]
 ·simp at h;omega
 ·simp at h;omega
theorem sread_any(w:World)(s:ByteArray)(hs:s.size≤140737488355328):Calls prog 23 #[.string s] w (SrOut w s):=by
 go_enter func23,ntmps23
 go_wp2_with fail
 refine(from_any w s hs).mono ?_
 rintro e w1 ⟨dB,rfl,hdB,hD1,hE1⟩;go_wp2_with fail
 have hN:=snew_any w1;have hwB:=hE1.size;have hdl:=hD1.lt;refine hN.mono ?_;rintro e w2 ⟨m,rfl,⟨c0,mb0,mn0,mc,rows0,hM2⟩,hE2⟩;have hr0:rows0=[]:=by simpa[Mach.empty]using hM2.cl
 subst hr0;have hD2:=hD1.chg hE2 (fun e=>e);have X2:=hE1.trans hE2;obtain⟨B,hBe⟩:∃B,w1.heap.size=B:=⟨_,rfl⟩;rw[hBe]at hM2 hwB hdl;have HB:=Hh (And.intro hwB (And.intro hdl hdB));clear hN hD1 hE1 hE2 hBe hwB hdl hdB;go_wp2_with fail
 refine(qZk _ dB s _ hD2 1099511627776 (by decide) (by decide)).mono ?_
 rintro e w3 ⟨rfl,hT⟩;have hM3:=hM2.dec hD2 hT.1;have hD3:=hT.2;have X3:Ext w w3:=Chg.mono (Chg.trans (Ext.chg (S:=(· = dB)) X2) hT.1 (fun _ _ e=>e)) (fun k hk e=>by have e':k=dB:=e;have:=HB.out;omega);clear hT hD2 X2 hM2;generalize hv:Dc.i ⟨s.data.toList,0⟩ 1099511627776=cn at hD3⊢;have HC:=Hh hv;clear hv;obtain⟨m0,m1,m2,mf⟩:=hM3.cells;have hdm:dB≠m:=hD3.apart hM3.blk (by decide)
 go_upto_region 4 with fail
 have hM4:=hM3.setN (cn.1:Int);have hmB:w.heap.size≤m:=by have:B≤m:=hM3.lo.1;have:=HB.out;omega
 have hch:Chg (· = m) w3 (w3.setCell ⟨m,2,none⟩ (.int .i64 (cn.1:Int))):=Chg.setCell (S:=(· = m)) (p:=⟨m,2,none⟩) (Er w3).chg (.inl rfl) _;have hD4:=hD3.chg hch (fun e=>hdm e);have X4:Ext w (w3.setCell ⟨m,2,none⟩ (.int .i64 (cn.1:Int))):=X3.setCell (p:=⟨m,2,none⟩) hmB _;clear hM3 hD3 X3 hch m0 m1 m2 mf;generalize w3.setCell ⟨m,2,none⟩ (.int .i64 (cn.1:Int))=w4 at hM4 hD4 X4⊢;go_wp2_with fail
 refine(ds_any _ dB s _ hD4 9223372036854775807 (by decide) (by decide)).mono ?_
 rintro e w5 ⟨rfl,hT⟩;have hM5:=hM4.dec hD4 hT.1;have hD5:=hT.2;have X5:Ext w w5:=Chg.mono (Chg.trans (Ext.chg (S:=(· = dB)) X4) hT.1 (fun _ _ e=>e)) (fun k hk e=>by have e':k=dB:=e;have:=HB.out;omega);clear hT hD4 X4 hM4;generalize hv:cn.2.s 9223372036854775807=tx at hD5⊢;have HTX:=Hh hv;clear hv;go_wp2_with fail
 refine(qZk _ dB s _ hD5 1048576 (by decide) (by decide)).mono ?_
 rintro e w6 ⟨rfl,hT⟩;have hM6:=hM5.dec hD5 hT.1;have hD6:=hT.2;have X6:Ext w w6:=Chg.mono (Chg.trans (Ext.chg (S:=(· = dB)) X5) hT.1 (fun _ _ e=>e)) (fun k hk e=>by have e':k=dB:=e;have:=HB.out;omega);clear hT hD5 X5 hM5;have hNl:=di_le tx.2 1048576 (by decide);generalize hv:tx.2.i 1048576=nn at hD6 hNl⊢;have HH:Hid (rdH ⟨s.data.toList,0⟩=⟨cn,tx,nn⟩):=Hh (rdH_all HC.out HTX.out hv);have HNN:=Hh hv;clear hv;go_wp2_with fail
 refine(qJr _ dB s _ hD6).mono ?_
 rintro e w7 ⟨rfl,hw7⟩;subst hw7
 by_cases hne:nn.2.err=0
 rotate_left
 ·have hF:SrOut w s (.returned (.tuple #[.pointer none,.int .i64 nn.2.err])) w7:=by
   unfold SrOut;rw[rdMach_head HH.out hne];exact⟨fun e=>absurd e hne,fun _=>rfl,X6⟩
  have HF:=Hh hF;have hneb:(nn.2.err != 0)=true:=by simp[hne]
  clear hF hM6 hD6 X6 HH HNN HTX HC hne;go_wp2_with fail
  refine bodyPost_ret (v:=.tuple #[.pointer none,.int .i64 nn.2.err]) (by simp[results,results23,go_sem]) rfl ?_;exact HF.out
 have hsz:tx.1.length≤s.size:=by
  obtain⟨t0,_,_⟩:=qXJ (d:=tx.2) (by rw[HNN.out];exact hne);obtain⟨c0',e2,_⟩:=s_step (d:=cn.2) (by rw[HTX.out];exact t0);obtain⟨_,e1,_⟩:=qXJ (d:=⟨s.data.toList,0⟩) (by rw[HC.out];exact c0');rw[HTX.out]at e2;rw[HC.out,e2]at e1
  have:=congrArg List.length e1
  unfold qZh at this;simp only[List.length_append]at this;have e3:s.data.toList.length=s.size:=by simp
  have e4:(⟨tx.1.toArray⟩:ByteArray).data.toList.length=tx.1.length:=rfl;omega
 have HNE:=Hh hne;have hcr:=cread_any w7 ⟨tx.1.toArray⟩ (by show tx.1.toArray.size≤_;rw[List.size_toArray];omega);have htx:(⟨tx.1.toArray⟩:ByteArray).data.toList=tx.1:=rfl;unfold qXb at hcr;rw[htx]at hcr;obtain⟨rc,hrc⟩:∃q,qXt tx.1=q:=⟨_,rfl⟩;rw[hrc]at hcr;obtain⟨P,ce⟩:=rc;simp only at hcr;have HRC:=Hh hrc;have HCR:=Hh hcr;have hneb:(nn.2.err != 0)=false:=by simp[hne]
 clear hrc hcr htx hsz hne;go_wp2_with fail
 refine HCR.out.mono ?_;rintro e w8 ⟨hok,hno,hE8⟩;have hM8:=hM6.ext hE8;have hD8:=hD6.chg hE8 (fun e=>e);have X8:=X6.trans hE8;have hmc6:=hM6.map.lt;clear HCR hM6 hD6 X6 hE8
 by_cases hc0:ce=0
 rotate_left
 ·rw[hno hc0]
  have hF:SrOut w s (.returned (.tuple #[.pointer none,.int .i64 ce])) w8:=by
   have hcat:=rdMach_cat HH.out (by exact HNE.out) (by rw[HRC.out];exact hc0);simp only[HRC.out]at hcat;unfold SrOut;rw[hcat];exact⟨fun e=>absurd e hc0,fun _=>rfl,X8⟩
  have HF:=Hh hF;have hcb:(ce != 0)=true:=by simp[hc0]
  clear hF hM8 hD8 X8 HH HNN HTX HC hok hno hneb hc0;go_wp2_with fail
  refine bodyPost_ret (v:=.tuple #[.pointer none,.int .i64 ce]) (by simp[results,results23,go_sem]) rfl ?_;exact HF.out
 obtain⟨B',c,mb,mn,hB',rfl,hCI⟩:=hok hc0
 have hnew:mc≠mb∧mc≠mn:=by
  obtain⟨C,hC,_⟩:=hCI;have h1:B'≤mb:=hC.lo.2.1;have h2:B'≤mn:=hC.lo.2.2.1
  constructor <;> omega
 have hBB:∀b,Hi B' b→Hi B b:=fun b hb=>by
  have hb':B'≤b:=hb;have h1:B≤m:=hM8.lo.1;have h2:B≤mc:=hM8.lo.2
  show B≤b
  omega
 have hM9:=hM8.setCat hCI hBB hnew;obtain⟨m0,m1,m2,mf⟩:=hM8.cells;have mf0:=hM8.blk.frozen 0;have hch:Chg (· = m) w8 (w8.setCell ⟨m,0,none⟩ (.pointer (some ⟨c,0,none⟩))):=Chg.setCell (S:=(· = m)) (p:=⟨m,0,none⟩) (Er w8).chg (.inl rfl) _;have hD9:=hD8.chg hch (fun e=>hdm e);have X9:Ext w (w8.setCell ⟨m,0,none⟩ (.pointer (some ⟨c,0,none⟩))):=X8.setCell (p:=⟨m,0,none⟩) hmB _;have HJ:=Hh (And.intro hM9 (And.intro hD9 X9));have HC0:=Hh hc0;have hcb:(ce != 0)=false:=by simp[hc0]
 clear hM8 hD8 X8 hch hM9 hD9 X9 hCI hnew hBB hok hno m1 m2 mf hc0 hneb
 go_upto_region 13 with fail
 obtain⟨hM9,hD9,X9⟩:=HJ.out;clear HJ m0 mf0;generalize w8.setCell ⟨m,0,none⟩ (.pointer (some ⟨c,0,none⟩))=w9 at hM9 hD9 X9⊢;obtain⟨N,d0⟩:=nn;simp only at hNl hD9;obtain⟨RE,hRE⟩:∃RE,rdEs N [] d0=RE:=⟨_,rfl⟩;have HRE:=Hh hRE
 have HEND:Hid (qZ3 s.data.toList=if RE.2.done.err=0 then(⟨P,RE.1.reverse,(cn.1:Int)⟩,0)else(Mach.empty,RE.2.done.err)):=Hh (by
  have:=rdMach_end HH.out HNE.out (by rw[HRC.out];exact HC0.out) (L:=RE.1) (d:=RE.2) hRE
  rw[HRC.out]at this;exact this)
 clear hRE;go_wp2_with fail
 go_loopw [11,46] (fun bv kv wr=>∃(k:Nat) (L:List (Int×Last)) (d:Dc) (rows:Rows14),kv=.int .i64 (k:Int)∧bv=.int .i64 (qXB L)∧k≤N∧L.length=k∧Hid (rdEs (N - k) L d=RE)∧EsW L∧qQM wr dB s d∧MAt wr (Hi B) m c mb mn mc ⟨P,L.reverse,(cn.1:Int)⟩ rows∧Ext w wr) (fun _ kv _=>N - (intOf kv).toNat)
 case atStart=>exact⟨0,[],d0,[],rfl,rfl,Nat.zero_le _,rfl,HRE,EsW.nil,hD9,hM9,X9⟩
 case round =>
  clear hM9 hD9 X9;obtain⟨k,L,d,rows,rfl,rfl,hk,hLk,HBq,hEs,hD0,hM0,X0⟩:=hrel
  by_cases hlt:k<N
  ·obtain⟨mm,hm⟩:∃m,N - k=m+1:=⟨N - k - 1,by omega⟩;have hB1:=HBq.out;have HM:=Hh hm;rw[hm]at hB1;unfold rdEs at hB1;have HB1:=Hh hB1;have HES:=Hh hEs;clear hB1 hm HBq hEs;go_wp2_with fail
   refine(qZk _ dB s d hD0 1073741824 (by decide) (by decide)).mono ?_
   rintro e w1 ⟨rfl,hT⟩;have hM1:=hM0.dec hD0 hT.1;have hD1:=hT.2;have X1:Ext w w1:=Chg.mono (Chg.trans (Ext.chg (S:=(· = dB)) X0) hT.1 (fun _ _ e=>e)) (fun k hk e=>by have e':k=dB:=e;have:=HB.out;omega);clear hT hD0 X0 hM0;generalize hv:d.i 1073741824=ck at hD1⊢;have HCK:=Hh hv;clear hv;go_wp2_with fail
   refine(qZk _ dB s _ hD1 1073741824 (by decide) (by decide)).mono ?_
   rintro e w2 ⟨rfl,hT⟩;have hM2:=hM1.dec hD1 hT.1;have hD2:=hT.2;have X2:Ext w w2:=Chg.mono (Chg.trans (Ext.chg (S:=(· = dB)) X1) hT.1 (fun _ _ e=>e)) (fun k hk e=>by have e':k=dB:=e;have:=HB.out;omega);clear hT hD1 X1 hM1;generalize hv:ck.2.i 1073741824=sq at hD2⊢;have HSQ:=Hh hv;clear hv;go_wp2_with fail
   refine(readRes_any _ dB s _ hD2).mono ?_
   rintro e w3 ⟨rA,rc,rfl,hO3,hT⟩
   have HOG:Hid (∀b,some b=(Value.slice rA (rdR sq.2).r.names.length rc).ownBlock→Hi B b):=Hh fun b hb=>by
    have h1:=qJD hO3 b hb;have h2:B≤w2.heap.size:=hM2.cat.up _ (Nat.le_refl _)
    show B≤b
    omega
   have hO3:=qQR hO3;have hM3:=hM2.dec hD2 hT.1;have hD3:=hT.2;have X3:Ext w w3:=Chg.mono (Chg.trans (Ext.chg (S:=(· = dB)) X2) hT.1 (fun _ _ e=>e)) (fun k hk e=>by have e':k=dB:=e;have:=HB.out;omega);clear hT hD2 X2 hM2;generalize hv:rdR sq.2=rr at hD3 hO3 HOG⊢;have HEE:Hid (rdE d=⟨ck,sq,rr⟩):=Hh (rdE_all HCK.out HSQ.out hv);clear hv HCK HSQ;unfold qXZ;have hB2:B≤w3.heap.size:=hM3.cat.up _ (Nat.le_refl _);have hY:=At.new w3 76 #[.int .i64 (sq.1:Int),.int .i64 rr.r.err,.int .u64 (rr.r.blob:Int),.int .i64 rr.r.size,.int .u32 (rr.r.sum:Int),.slice rA rr.r.names.length rc];have hEy:=(Er w3).alloc (.cells #[.int .i64 (sq.1:Int),.int .i64 rr.r.err,.int .u64 (rr.r.blob:Int),.int .i64 rr.r.size,.int .u32 (rr.r.sum:Int),.slice rA rr.r.names.length rc] 76)
   go_upto_region 18 with fail
   have hM4:=hM3.ext hEy;have hD4:=hD3.chg hEy (fun e=>e);have X4:=X3.trans hEy;have hO4:=own_kx hO3 hEy;generalize w3.alloc _=w4 at hY hM4 hD4 X4 hO4⊢;obtain⟨y,hy⟩:∃y,w3.heap.size=y:=⟨_,rfl⟩;rw[hy]at hY⊢;clear hM3 hD3 X3 hO3 hEy hy;have y0:=hY.cell 0;simp at y0;have HYR:=Hh hY;obtain⟨fk,hfk⟩:∃fk:Bool,fk=(decide ((ck.1:Int)≤qXB L)||((sq.1:Int) == 0)):=⟨_,rfl⟩;have HFK:=Hh hfk;obtain⟨wo,hwo⟩:∃wo:World,wo=w4:=⟨_,rfl⟩;have HJ4:=Hh (And.intro hM4 (And.intro hD4 (And.intro X4 hO4)));clear hM4 hD4 X4 hO4 hY hfk
   go_cut [62]from 55 to 62 (fun tv wx=>tv=.bool fk∧wx=wo)
   case first =>
    by_cases h1:(ck.1:Int)≤qXB L
    ·obtain rfl:fk=true:=by rw[HFK.out];simp[h1]
     go_wp2_with fail
     go_meet
     case rel=>exact⟨by first|rfl|simp,hwo.symm⟩
    ·have h1b:decide ((ck.1:Int)≤qXB L)=false:=by simp;omega
     obtain⟨b2,hb2⟩:∃b2:Bool,((sq.1:Int) == 0)=b2:=⟨_,rfl⟩;have hfb:fk=b2:=by rw[HFK.out,h1b,hb2];simp
     subst hfb;go_wp2_with fail
     go_meet
     case rel=>exact⟨by first|rfl|simp|(rw[hb2])|(simp[hb2]),hwo.symm⟩
   case rest =>
    obtain⟨rfl,hwc⟩:=hcut;subst hwc;subst hwo;obtain⟨hM4,hD4,X4,hO4⟩:=HJ4.out;clear HJ4;cases fk
    ·obtain⟨hck1,hck2,hck3⟩:=ckE_false (L:=L) (e:=(((ck.1:Nat):Int),(⟨((sq.1:Nat):Int),rr.r⟩:Last))) (d:=rr.nm.2) HFK.out.symm;have hB3:=HB1.out;rw[HEE.out]at hB3;rw[show(⟨ck,sq,rr⟩:Re).e=(((ck.1:Nat):Int),(⟨((sq.1:Nat):Int),rr.r⟩:Last))from rfl,show(⟨ck,sq,rr⟩:Re).r=rr from rfl,hck1]at hB3;have HB3:=Hh hB3;have HK2:=Hh hck2;have HK3:=Hh hck3;clear hB3 hck1 hck2 hck3;go_wp2_with fail
     refine(qJr _ dB s _ hD4).mono ?_
     rintro e w5 ⟨rfl,hw5⟩;subst hw5
     by_cases he:rr.nm.2.err=0
     ·have heb:(rr.nm.2.err != 0)=false:=by simp[he]
      have hB4:=HB3.out;rw[if_pos he]at hB4;obtain⟨_,_,b1,b2,b3⟩:=e_step (d:=d) (by rw[HEE.out];exact he);rw[HEE.out]at b1 b2 b3
      have hES2:EsW (L++[(((ck.1:Nat):Int),(⟨((sq.1:Nat):Int),rr.r⟩:Last))]):=HES.out.snoc HK2.out ⟨b1.2,⟨by
       have h1:=b2.1;have h2:=HK3.out;have h3:(0:Int)≤((sq.1:Nat):Int):=h1;have h4:((sq.1:Nat):Int)≠0:=h2
       show(1:Int)≤((sq.1:Nat):Int)
       omega,b2.2⟩,b3⟩
      have HB4:=Hh hB4;have HES2:=Hh hES2;clear hB4 hES2 b1 b2 b3 he HB3;have HMM:=Hh hM4;have HDD:=Hh hD4;have HXX:=Hh X4;have HOO:=Hh hO4;have HOB:=Hh (fun b (hb:some b=(Value.slice rA rr.r.names.length rc).ownBlock)=>HOG.out b hb);have HMC:=Hh (fun w1 (hc:Ext w5 w1)=>((hM4.blk).ext hc).cell 1);have HYR2:=Hh (fun w1 (hc:Ext w5 w1)=>(HYR.out.ext hc).range);have HMP:=Hh (fun w1 (hc:Ext w5 w1)=>hM4.map.ext hc);clear hM4 hD4 X4 hO4 HYR y0
      go_upto_region 23 with fail
      refine qQq (Γ := Nat→Value) (sgφ [.val (.pointer (some ⟨m,0,none⟩)),.val (.pointer (some ⟨m,0,none⟩)),.val (.pointer (some ⟨m,1,none⟩)),.val (.map (some mc)),.val (.int .i64 (ck.1:Int)),.val (.agg #[.int .i64 (sq.1:Int),.int .i64 rr.r.err,.int .u64 (rr.r.blob:Int),.int .i64 rr.r.size,.int .u32 (rr.r.sum:Int),.slice rA rr.r.names.length rc]),.any])
       (GPt w5 mc rows (((ck.1:Int),((⟨(sq.1:Int),rr.r⟩:Last),.slice rA rr.r.names.length rc))::qZy (ck.1:Int) rows)) (by kernel_rfl) (by kernel_rfl) (by kernel_rfl) (fun _=>undef) ?inv ?steps ?fin
      case inv=>exact⟨fun _=>(Er w5).drew,fun hh=>(by cases hh)⟩
      case steps =>
       show qQV _ _ _ _ _ _ 7
       refine⟨⟨⟨⟨⟨⟨⟨trivial,?s0⟩,?s1⟩,?s2⟩,?s3⟩,?s4⟩,?s5⟩,?s6⟩
       case s0 =>
        refine qQi (x:=.pointer (some ⟨m,0,none⟩)) rfl rfl rfl (GPt.keep (j:=0) (by omega)) fun γ L v a w1 st=>?_
        have e5:=st.far 5 (by kernel_rfl);simp at e5;go_simp
       case s1 =>
        refine qQi (x:=.pointer (some ⟨m,0,none⟩)) rfl rfl rfl (GPt.keep (j:=1) (by omega)) fun γ L v a w1 st=>?_
        have e0:=st.val 0 70 rfl (by kernel_rfl);rw[(st.φ 0 (by kernel_rfl):v 0=_)]at e0;simp at e0;go_simp
       case s2 =>
        refine qQi (x:=.pointer (some ⟨m,1,none⟩)) rfl rfl rfl (GPt.keep (j:=2) (by omega)) fun γ L v a w1 st=>?_
        have e1:=st.val 1 71 rfl (by kernel_rfl);rw[(st.φ 1 (by kernel_rfl):v 1=_)]at e1;simp at e1;go_simp
       case s3 =>
        refine qQi (x:=.map (some mc)) rfl rfl rfl (GPt.keep (j:=3) (by omega)) fun γ L v a w1 st=>?_
        have e2:=st.val 2 72 rfl (by kernel_rfl);rw[(st.φ 2 (by kernel_rfl):v 2=_)]at e2;simp at e2
        have h6:L 6=false:=by
         cases hq:L 6 with
         | false=>rfl
         | true =>
          have q3:=st.down 6 3 hq (by kernel_rfl);have q99:=st.off;rw[q3]at q99;cases q99
        have q:=HMC.out w1 (st.inv.pre h6);simp at q;go_simp
       case s4 =>
        refine qQi (x:=.int .i64 (ck.1:Int)) rfl rfl rfl (GPt.keep (j:=4) (by omega)) fun γ L v a w1 st=>?_
        have e12:=st.far 12 (by kernel_rfl);simp at e12;go_simp
       case s5 =>
        refine qQi (x:=.agg #[.int .i64 (sq.1:Int),.int .i64 rr.r.err,.int .u64 (rr.r.blob:Int),.int .i64 rr.r.size,.int .u32 (rr.r.sum:Int),.slice rA rr.r.names.length rc]) rfl rfl rfl (GPt.keep (j:=5) (by omega)) fun γ L v a w1 st=>?_
        have e13:=st.far 13 (by kernel_rfl);simp at e13
        have h6:L 6=false:=by
         cases hq:L 6 with
         | false=>rfl
         | true =>
          have q5:=st.down 6 5 hq (by kernel_rfl);have q99:=st.off;rw[q5]at q99;cases q99
        exact qQk rfl (b:=y) (off:=0) (by simp[Act.eval,e13]) (HYR2.out w1 (st.inv.pre h6)) underlying76 rfl last_info
       case s6 =>
        refine qZa rfl rfl rfl fun γ L v a w1 st=>?_
        have e3:=st.val 3 73 rfl (by kernel_rfl);rw[(st.φ 3 (by kernel_rfl):v 3=_)]at e3;simp at e3;have e4:=st.val 4 74 rfl (by kernel_rfl);rw[(st.φ 4 (by kernel_rfl):v 4=_)]at e4;simp at e4;have e5:=st.val 5 75 rfl (by kernel_rfl);rw[(st.φ 5 (by kernel_rfl):v 5=_)]at e5;simp at e5;have h6:L 6=false:=st.off;have hEx:=st.inv.pre h6;obtain⟨w2,hrun,hmp2,hch⟩:=(HMP.out w1 hEx).update (P:=prog) (K:=qZM) qXp underlying3 (ck.1:Int) ((⟨(sq.1:Int),rr.r⟩:Last),.slice rA rr.r.names.length rc);have hrun2:(Instr.mapUpdate 69 (.map (some mc)) (.int .i64 (ck.1:Int)) (.agg #[.int .i64 (sq.1:Int),.int .i64 rr.r.err,.int .u64 (rr.r.blob:Int),.int .i64 rr.r.size,.int .u32 (rr.r.sum:Int),.slice rA rr.r.names.length rc])).run prog w1=.ok () w2:=hrun;refine⟨w2,by simp[execOp,Act.eval,e3,e4,e5,hrun2,Result.andThen],⟨fun hh=>by simp at hh,fun _=>⟨w1,hEx,HMP.out w1 hEx,hch,hmp2⟩⟩⟩
      case fin =>
       intro γ L' v wz hall hG hφ;obtain⟨w1,hE1,hmp1,hch,hmp2⟩:=hG.put (hall 6 (by decide));have hM:=HMM.out;have hD:=HDD.out;have hbU:∀b,some b=(Value.slice rA rr.r.names.length rc).ownBlock→Hi B b:=fun b hb=>HOB.out b hb
       have hMz:=hM.put hE1 hmp1 hch hmp2 (l:=⟨(sq.1:Int),rr.r⟩) HOO.out hbU;have hDe:=hD.chg hE1 (fun e=>e);obtain⟨_,_,_,d4,_,_,d6⟩:=hDe;have hDz:=(hD.chg hE1 (fun e=>e)).chg hch (fun e=>hmp1.ne_at d6 (Eq.symm e))
       have hXz:Ext w wz:=(HXX.out.trans hE1).chg_trans hch |>.mono (fun k hk e=>by
        have e':k=mc:=e;have h1:B≤mc:=hM.lo.2
        have:=HB.out
        omega)
       have hcl:(((ck.1:Int),(⟨(sq.1:Int),rr.r⟩:Last))::qZy (ck.1:Int) L.reverse)=(L++[((ck.1:Int),(⟨(sq.1:Int),rr.r⟩:Last))]).reverse:=by
        rw[ldel_asc (lastK_lt HES.out HK2.out),List.reverse_append];rfl
       have hMz2:MAt wz (Hi B) m c mb mn mc ⟨P,(L++[((ck.1:Int),(⟨(sq.1:Int),rr.r⟩:Last))]).reverse,(cn.1:Int)⟩ (((ck.1:Int),((⟨(sq.1:Int),rr.r⟩:Last),.slice rA rr.r.names.length rc))::qZy (ck.1:Int) rows):=by rw[←hcl];exact hMz
       have HMz:=Hh hMz2;have HDz:=Hh hDz;have HXz:=Hh hXz;clear hφ hall hG hE1 hmp1 hch hmp2 hM hD hMz d6 hDz hXz hcl hMz2 hbU HMM HDD HXX HOO HMC HYR2 HMP
       change Exit.then _ _ _ (qQC _ v _ 7) wz
       simp only[qQC,qQD,Act.put];simp only[List.getElem?_toArray,List.getElem?_cons_zero,List.getElem?_cons_succ,Option.bind_some,List.setIfInBounds_toArray,List.set_cons_zero,List.set_cons_succ];go_wp2_with fail
       go_roundw
       case rel=>exact⟨k+1,L++[((ck.1:Int),(⟨(sq.1:Int),rr.r⟩:Last))],rr.nm.2,_,by go_num,by rw[lastK_snoc],by omega,by simp[hLk],Hh (by rw[show N - (k+1)=mm by have:=HM.out;omega];exact HB4.out),HES2.out,HDz.out,HMz.out,HXz.out⟩
       case measure=>simp[intOf];omega
     ·have heb:(rr.nm.2.err != 0)=true:=by simp[he]
      have hB4:=HB3.out;rw[if_neg he]at hB4;have HF:=Hh (sr_err HEND.out hB4 he X4);clear hM4 hD4 X4 hO4 HYR y0 hB4 he HB3
      go_upto_region 22 with fail
      go_wp2_with fail
      refine bodyPost_ret (v:=.tuple #[.pointer none,.int .i64 rr.nm.2.err]) (by simp[results,results23,go_sem]) rfl ?_;exact HF.out
    ·have hck:=ckE_true (L:=L) (e:=(((ck.1:Nat):Int),(⟨((sq.1:Nat):Int),rr.r⟩:Last))) (d:=rr.nm.2) HFK.out.symm;have hB3:=HB1.out;rw[HEE.out]at hB3;rw[show(⟨ck,sq,rr⟩:Re).e=(((ck.1:Nat):Int),(⟨((sq.1:Nat):Int),rr.r⟩:Last))from rfl,show(⟨ck,sq,rr⟩:Re).r=rr from rfl,hck,if_neg (fail_ne _)]at hB3;have he:=fail_ne rr.nm.2;have HB3:=Hh hB3;clear hB3 hck;go_wp2_with fail
     refine(qQ7 _ dB s _ hD4 3 (by decide)).mono ?_
     rintro e w5 ⟨rfl,hT⟩;have hD5:=hT.2;have X5:Ext w w5:=Chg.mono (Chg.trans (Ext.chg (S:=(· = dB)) X4) hT.1 (fun _ _ e=>e)) (fun k hk e=>by have e':k=dB:=e;have:=HB.out;omega);generalize rr.nm.2.fail 3=dd at HB3 he hD5⊢;clear hT hM4 hD4 X4 hO4;go_wp2_with fail
     refine(qJr _ dB s _ hD5).mono ?_
     rintro e w6 ⟨rfl,hw6⟩;subst hw6;have heb:(dd.err != 0)=true:=by simp[he]
     have HF:=Hh (sr_err HEND.out HB3.out he X5);clear hD5 X5 HYR y0 he HB3
     go_upto_region 22 with fail
     go_wp2_with fail
     refine bodyPost_ret (v:=.tuple #[.pointer none,.int .i64 dd.err]) (by simp[results,results23,go_sem]) rfl ?_;exact HF.out
  ·obtain rfl:k=N:=by omega
   have hB2:=HBq.out;rw[Nat.sub_self]at hB2;have hB3:(L,d)=RE:=hB2;have HEND2:Hid (qZ3 s.data.toList=if d.done.err=0 then(⟨P,L.reverse,(cn.1:Int)⟩,0)else(Mach.empty,d.done.err)):=Hh (by have:=HEND.out;rw[←hB3]at this;exact this);clear hB2 hB3 HBq;go_wp2_with fail
   refine(qXP _ dB s d hD0).mono ?_
   rintro e w1 ⟨rfl,hT⟩;have hM1:=hM0.dec hD0 hT.1;have X1:Ext w w1:=Chg.mono (Chg.trans (Ext.chg (S:=(· = dB)) X0) hT.1 (fun _ _ e=>e)) (fun k hk e=>by have e':k=dB:=e;have:=HB.out;omega);have HM1:=Hh hM1;have HX1:=Hh X1;clear hM0 X0 hD0 hT hM1 X1
   by_cases he:d.done.err=0
   ·have hF:SrOut w s (.returned (.tuple #[.pointer (some ⟨m,0,none⟩),.int .i64 0])) w1:=by
     unfold SrOut;rw[HEND2.out,if_pos he];refine⟨fun _=>⟨m,rfl,c,mb,mn,mc,rows,HM1.out.moved (S:=fun _=>False) (Er w1).chg (fun _ _ hh=>hh) (fun _ _ hA=>hA) (fun b _ hb=>?_) (fun b hb=>?_)⟩,fun e=>absurd rfl e,HX1.out⟩
     ·have h1:B≤b:=hb
      have:=HB.out
      show w.heap.size≤b
      omega
     ·have:=HX1.out.size
      show w.heap.size≤b
      omega
    have HF:=Hh hF;have heb:(d.done.err != 0)=false:=by simp[he]
    clear hF he HM1 HX1 HEND2
    go_upto_region 29 with fail
    go_wp2_with fail
    refine bodyPost_ret (v:=.tuple #[.pointer (some ⟨m,0,none⟩),.int .i64 0]) (by simp[results,results23,go_sem]) rfl ?_;exact HF.out
   ·have hF:SrOut w s (.returned (.tuple #[.pointer none,.int .i64 d.done.err])) w1:=by
     unfold SrOut;rw[HEND2.out,if_neg he];exact⟨fun e=>absurd e he,fun _=>rfl,HX1.out⟩
    have HF:=Hh hF;have heb:(d.done.err != 0)=true:=by simp[he]
    clear hF he HM1 HX1 HEND2
    go_upto_region 28 with fail
    go_wp2_with fail
    refine bodyPost_ret (v:=.tuple #[.pointer none,.int .i64 d.done.err]) (by simp[results,results23,go_sem]) rfl ?_;exact HF.out
open Go.ChangeShapes Go.WideShapes Go.ChangeAt Go.RowKit
theorem qX3{H:Type}{P:Program}{e:TypeId}{n:Nat}{y:DataW H} : ∀ {l:List (DataW H)},y∈l→n∈y.weights P e→n∈DataW.weightsAll P e l
 | d::r,h,hn=>by
  unfold DataW.weightsAll;rcases List.mem_cons.1 h with rfl|h
  ·exact List.mem_append_left _ hn
  ·exact List.mem_append_right _ (qX3 h hn)
theorem open_cmds_s{H:Type}{enc:TypeId×Value→H}{W:World}{r:Reach}{b0:Nat}{v:Value}{d:DataW H}{p:List MemPlace}
 (hv:Value.okWide prog W r b0 22 v) (h:DataW.Trod enc prog W 0 (fun _=>true) true 22 v d p) :
 ∃l:List CRow,CmdsIn W l v∧((∀n∈d.weights prog 22,n≤reachBytes)→∀x∈l,x.1.disks.length≤17592186043904):=by
 obtain⟨a0,len0,cap0,rfl⟩:=okWide_slice underlying22 hv;obtain⟨fuel,hf⟩:=h;rcases Go.Deep.open_slice underlying22 hf with⟨hcs,_⟩|⟨a,len,cap,m,n,D,Pl,hcs,_,hl,hm,hmm,hd,hx⟩
 ·simp only[Value.cells,List.cons.injEq,and_true]at hcs;rw[hcs];exact⟨[],⟨⟨none,0,rfl,fun h=>absurd rfl h⟩,⟨none,0,rfl,Nat.le_refl _,Nat.zero_le _⟩,by simp,Nat.zero_le _⟩,fun _ x hx=>by cases hx⟩
 ·simp only[Value.cells,List.cons.injEq,and_true]at hcs;rw[hcs];have hlm:len≤m:=by rw[hmm];split <;> omega
  have each:∀i,i<len→∃x:CRow,(∀(j:Nat) (u:Value),(crow x)[j]? = some u→W.cell? (a.add (i * 11+j))=some u)∧x.1.In x.2 W∧((∀n∈(D i).weights prog 32,n≤reachBytes)→x.1.disks.length≤17592186043904):=fun i hi=>by
   obtain⟨cs',h1,h2⟩:=hx i (by omega);rw[show prog.cellsOf 32=11 by kernel_rfl]at h1;obtain⟨_,hlen,hcell⟩:=World.cells?_some h1;obtain⟨x,dv,rfl,hok,hsz⟩:=one_cmd h2;refine⟨(x,dv),fun j u hj=>?_,hok,hsz⟩
   have hj7:j<11:=by
    have:=(List.getElem?_eq_some_iff.1 hj).1
    exact this
   have:=hcell j hj7
   rw[Go.Deep.add_add]at this;rw[this];exact hj
  haveI:Inhabited CRow:=⟨(⟨0,0,0,⟨#[]⟩,0,0,0,[],0,0,0⟩,.bool true)⟩
  obtain⟨f,hfx⟩:=Go.Deep.choose_lt each;refine⟨(List.range len).map f,⟨⟨some a,cap,by simp,fun hne=>?_⟩,⟨some a,cap,by simp,by simp;omega,by omega⟩,?_,by simp;omega⟩,?_⟩
  ·have hpos:0<len:=by
    rcases Nat.eq_zero_or_pos len with h0|h0
    ·subst h0;exact absurd rfl hne
    ·exact h0
   obtain⟨b,off,spot⟩:=a
   have hspot:spot=none:=by
    have:=(hfx 0 hpos).1 0 _ rfl
    simpa[Addr.add]using World.cell?_spot this
   subst hspot;refine⟨b,off,rfl,fun i row hi j u hj=>?_⟩
   rw[List.map_map,List.getElem?_map]at hi
   by_cases hlt:i<len
   ·rw[List.getElem?_range hlt]at hi;simp only[Option.map_some,Option.some.injEq,Function.comp_apply]at hi;subst hi
    have:=(hfx i hlt).1 j u hj
    rw[Go.WideShapes.add_plain]at this;rw[Nat.add_assoc];exact this
   ·rw[List.getElem?_eq_none (by simpa using hlt)]at hi;cases hi
  ·intro x hx;obtain⟨i,hi,rfl⟩:=List.mem_map.1 hx;exact(hfx i (List.mem_range.1 hi)).2.1
  ·intro hw x hx;obtain⟨i,hi,rfl⟩:=List.mem_map.1 hx;refine(hfx i (List.mem_range.1 hi)).2.2 fun n hn=>hw n ?_
   have hd1:d=.slice ((List.range len).map D) ((List.range (m - len)).map fun j=>D (len+j)):=congrArg Prod.fst hd;rw[hd1];simp only[DataW.weights,underlying22];exact List.mem_cons_of_mem _ (List.mem_append_left _ (qX3 (List.mem_map.2 ⟨i,hi,rfl⟩) hn))
end Go.Proofs.YtimjipcplmnpbaaGreat
