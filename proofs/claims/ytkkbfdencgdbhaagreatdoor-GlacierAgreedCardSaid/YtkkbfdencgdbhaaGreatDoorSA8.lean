/-
  Part 8 of what the law leans on.
-/
import Derived.Test.YtkkbfdencgdbhaaGreatDoorSA2
import Derived.Test.YtkkbfdencgdbhaaGreatDoorSA3
import Derived.Test.YtkkbfdencgdbhaaGreatDoorSA5
import Derived.Test.YtkkbfdencgdbhaaGreatDoorSA6
import Derived.Test.YtkkbfdencgdbhaaGreatDoorChecked
import Derived.BigQuiet
import Derived.WalkSpells
import Derived.WalkLawsBesides
import Derived.Deep.LoopGhost
import Derived.Laws.BitsAllLaws
import Derived.Laws.AppendOwn
import Derived.Deep.RegionLaw
import Derived.Lib.AppendStr
import Derived.Laws.IdiomStrings
import Derived.Laws.BytesArg
set_option linter.unusedVariables false
set_option linter.unusedSimpArgs false
set_option linter.unusedSectionVars false
namespace Go.Proofs.YtkkbfdencgdbhaaGreatDoor
open Go.RowKit
def U8(c:UInt8):Value:=.int .u8 (c.toNat:Int)
def EncAt(w:World)(base e:Nat)(bs:List UInt8):Prop :=
 base≤e∧∃v,At w e 63 #[v]∧w.ownsRow base 5 1 v bs.length (bs.map U8)
def EncS(w:World)(base:Nat)(k:Nat):Prop:=base≤k∧∃cs t m,w.heap[k]? = some (.cells cs t m)∧(t=63∨t=5)
def EncChg(w w':World)(base:Nat):Prop:=Chg (EncS w base) w w'
def EncTo(w w':World)(base e:Nat)(bs:List UInt8):Prop:=EncChg w w' base∧EncAt w' base e bs
def SlE(w:World)(base:Nat)(v:Value)(xs:List Value):Prop:=Sl w v xs∧∀b o n c,v=.slice (some ⟨b,o,none⟩) n c→xs≠[]→¬ EncS w base b
section
variable{w w' w1:World}{base e:Nat}{bs:List UInt8}{v:Value}{xs:List Value}
theorem EncS.back(h:EncChg w w' base){k:Nat}(hk:k<w.heap.size)(hs:EncS w' base k):EncS w base k:=by
 classical
 by_cases hn:EncS w base k
 ·exact hn
 ·have e:=h.block k hk hn
  obtain⟨h1,cs,t,m,h2,h3⟩:=hs
  exact⟨h1,cs,t,m,by rw[←e];exact h2,h3⟩
theorem EncChg.refl(w:World)(base:Nat):EncChg w w base:=Chg.refl _ _
theorem EncChg.trans(h:EncChg w w1 base)(h':EncChg w1 w' base):EncChg w w' base:=Chg.trans h h' fun _ hk hs=>EncS.back h hk hs
theorem EncChg.ext(h:Ext w w'):EncChg w w' base:=Ext.chg h
theorem EncChg.below(h:EncChg w w' base)(hb:w.heap.size≤base):Ext w w':=Chg.mono h fun k hk hs=>by have:=hs.1;omega
theorem SlE.chg(h:SlE w base v xs)(hc:EncChg w w' base):SlE w' base v xs:=by
 refine⟨h.1.chg hc h.2,fun b o n c hv hne hs=>?_⟩
 obtain⟨A,c',hv',hx⟩:=h.1
 obtain⟨b',o',rfl,hcell⟩:=hx hne
 rw[hv']at hv
 injection hv with hv1
 injection hv1 with hv1
 injection hv1 with hb ho
 subst hb ho
 cases xs with
 | nil=>exact hne rfl
 | cons y r=>exact h.2 _ _ _ _ hv' (by simp) (EncS.back hc (cell_lt (hcell 0 y rfl)) hs)
theorem SlE.ext(h:SlE w base v xs)(hc:Ext w w'):SlE w' base v xs:=h.chg (EncChg.ext hc)
theorem EncAt.ext(h:EncAt w base e bs)(hc:Ext w w'):EncAt w' base e bs:=by
 obtain⟨h1,v,h2,h3⟩:=h
 exact⟨h1,v,h2.ext hc,own_chg h3 hc (fun _ h=>h.elim)⟩
theorem EncAt.alloc(h:EncAt w base e bs)(o:Obj):EncAt (w.alloc o) base e bs:=h.ext ((Ext.refl w).alloc o)
theorem EncAt.drew(h:EncAt w base e bs):EncAt w.drew base e bs:=h.ext ((Ext.refl w).drew)
theorem EncChg.alloc(h:EncChg w w' base)(o:Obj):EncChg w (w'.alloc o) base:=Chg.alloc h o
theorem EncChg.drew(h:EncChg w w' base):EncChg w w'.drew base:=Chg.drew h
theorem EncS.enc(h:At w e 63 #[v])(hb:base≤e):EncS w base e:=⟨hb,_,_,_,h,.inl rfl⟩
theorem EncS.row{n:Nat}(h:w.ownsRow base 5 1 v n xs){k:Nat}(hk:some k=v.ownBlock):EncS w base k:=by
 rcases h.2 with⟨rfl,_⟩|⟨g,cap,cur,rfl,hb,hg,_⟩
 ·cases hk
 ·cases hk;exact⟨hb,_,_,_,hg,.inr rfl⟩
theorem SlE.new{t:TypeId}{cs:Array Value}{c:Nat}(w:World)(base:Nat)(ht:t≠63∧t≠5) :
 SlE (w.alloc (.cells cs t)) base (.slice (some ⟨w.heap.size,0,none⟩) cs.size c) cs.toList:=by
 refine⟨⟨_,c,by rw[Array.length_toList],fun _=>⟨_,0,rfl,fun i x hi=>?_⟩⟩,fun b o n c' hv _ hs=>?_⟩
 ·rw[(At.new w t cs).cell (0+i),Nat.zero_add];simpa using hi
 ·injection hv with hv1
  injection hv1 with hv1
  injection hv1 with hb ho
  subst hb
  obtain⟨_,cs',t',m,h2,h3⟩:=hs
  have:=At.new w t cs
  unfold At at this
  rw[this]at h2
  injection h2 with h2
  injection h2 with _ h2 _
  subst h2
  rcases h3 with h3|h3
  ·exact ht.1 h3
  ·exact ht.2 h3
end
section
variable{w w' w1:World}{base e:Nat}{v:Value}{xs:List Value}
theorem enc_grown{wA:World}{n:Nat}(hlv:At w e 63 #[v])(hown:w.ownsRow base 5 1 v n xs)(hE:Ext w wA)(hg:wA.grownBy w1 v.ownBlock):At w1 e 63 #[v]:=by
 refine(hlv.ext hE).chg (Chg.of_grown hg) fun he=>?_
 rcases hown.2 with⟨rfl,_⟩|⟨g,cap,cur,rfl,hb,hh,_⟩
 ·cases he
 ·have:e=g:=by simpa[Value.ownBlock]using he
  subst this
  exact At.ne (t:=5) hh hlv (by decide) rfl
theorem own_slice{n:Nat}{e:TypeId}(h:w.ownsRow base e 1 v n xs):∃A m c,v=.slice A m c:=by
 rcases h.2 with⟨rfl,_⟩|⟨g,cap,cur,rfl,_⟩ <;> exact⟨_,_,_,rfl⟩
theorem enc_store{wr wA:World}{n n1:Nat}{lv v1:Value}{xs1:List Value}{out out':List UInt8}(hT:EncTo w wr base e out)(hlv:At wr e 63 #[lv])(hown:wr.ownsRow base 5 1 lv n xs)(hE:Ext wr wA)
 (hg:wA.grownBy w1 lv.ownBlock) (hown1:w1.ownsRow base 5 1 v1 n1 xs1) (hx:xs1=out'.map U8) (hn:n1=out'.length):EncTo w (w1.setCell ⟨e,0,none⟩ v1) base e out':=by
 have h1:=enc_grown hlv hown hE hg
 have hb:=hT.2.1
 refine⟨?_,hb,v1,h1.set 0 v1,?_⟩
 ·have hc1:EncChg wr w1 base:=by
   refine Chg.trans (EncChg.ext hE:EncChg wr wA base) (Chg.of_grown hg) fun k hk hs=>?_
   exact EncS.row hown hs
  exact hT.1.trans (Chg.setCell hc1 (.inl (EncS.enc hlv hb)) _)
 ·rw[hx,hn]at hown1
  obtain⟨q1,q2⟩:=hown1
  refine⟨q1,?_⟩
  rcases q2 with q2|⟨g,cap,cur,rfl,hb',hh,q3⟩
  ·exact .inl q2
  ·refine .inr ⟨g,cap,cur,rfl,hb',?_,q3⟩
   have hne:g≠e:=by
    rintro rfl
    exact At.ne (t:=5) hh h1 (by decide) rfl
   exact(Below.heap_setCell w1 ⟨e,0,none⟩ _ g hne).trans hh
end
theorem u64_inE{x:Nat}(h:x<18446744073709551616):IntKind.u64.wrap (x:Int)=x:=by simp[IntKind.wrap,IntKind.bits,IntKind.signed];omega
theorem u8_info:(Tryz.prog.info? 5).map (fun i=>(i.zero,i.size,i.bytes))=some (some (.int .u8 0),1,1):=by kernel_rfl
theorem toNat_ofNat8{n:Nat}(h:n<256):(UInt8.ofNat n).toNat=n:=by
 simp[UInt8.toNat_ofNat'];omega
theorem bitLenAux_pos(f x:Nat)(hf:0<f)(hx:0<x):0<Lib.bitLenAux f x:=by
 cases f with
 | zero=>omega
 | succ f=>unfold Lib.bitLenAux;rw[if_neg (by omega)];omega
theorem bitLenAux_le(f x:Nat):Lib.bitLenAux f x≤f:=by
 induction f generalizing x with
 | zero=>simp[Lib.bitLenAux]
 | succ f ih=>unfold Lib.bitLenAux;split;omega;have:=ih (x / 2);omega
theorem bitLen_or(n:Nat):1≤Lib.bitLen (n ||| 1)∧Lib.bitLen (n ||| 1)≤64:=by
 have h1:0<n ||| 1:=by have := @Nat.right_le_or n 1;omega
 exact⟨bitLenAux_pos 64 _ (by omega) h1,bitLenAux_le 64 _⟩
theorem uhi_length(n k:Nat):(uhi n k).length=k:=by
 induction k with
 | zero=>rfl
 | succ k ih=>simp[uhi,ih]
theorem ugroups_le(n:Nat):ugroups n≤9:=by
 have:=bitLen_or n
 unfold ugroups;omega
theorem uenc_length(n:Nat):(uenc n).length≤10:=by
 have:=ugroups_le n
 unfold uenc
 simp[uhi_length];omega
theorem flat_length(vs:List Nat):(vs.flatMap uenc).length≤10 * vs.length:=by
 induction vs with
 | nil=>simp
 | cons n r ih=>have:=uenc_length n;simp only[List.flatMap_cons,List.length_append,List.length_cons];omega
theorem wrap_u8n(x:Nat):IntKind.u8.wrap (x:Int)=((x % 256:Nat):Int):=by simp[IntKind.wrap,IntKind.bits,IntKind.signed]
theorem or128(a:Nat):(a % 256) ||| 128=a % 128+128:=by
 have h1:(a % 256) ||| 128=(a % 128) ||| 128:=by
  apply Nat.eq_of_testBit_eq
  intro i
  rw[Nat.testBit_or,Nat.testBit_or,show 256=2 ^ 8 from rfl,show 128=2 ^ 7 from rfl,Nat.testBit_mod_two_pow,Nat.testBit_mod_two_pow,Nat.testBit_two_pow]
  by_cases h7:7=i
  ·simp[h7]
  ·by_cases hi:i<7
   ·have:i<8:=by omega
    simp[hi,this]
   ·have:¬ i<8:=by omega
    simp[hi,this]
 rw[h1,Nat.add_comm]
 have:=Nat.two_pow_add_eq_or_of_lt (i:=7) (b:=a % 128) (by omega) 1
 rw[Nat.or_comm];simpa using this.symm
theorem byte_hi(n j:Nat):bits .or .u8 (IntKind.u8.wrap ((n:Int) / 2 ^ (7 * ((j:Int)+1)).toNat)) 128=((UInt8.ofNat (n / 128 ^ (j+1) % 128+128)).toNat:Int):=by
 have e1:(7 * ((j:Int)+1)).toNat=7 * (j+1):=by omega
 have e2:(n:Int) / 2 ^ (7 * (j+1))=((n / 128 ^ (j+1):Nat):Int):=by
  rw[show(128:Nat)=2 ^ 7 from rfl,←Nat.pow_mul]
  simp
 rw[e1,e2,wrap_u8n,show(128:Int)=((128:Nat):Int)from rfl,u8_or_nat _ _ (by omega) (by omega),or128,toNat_ofNat8 (by omega)]
theorem byte_lo(n:Nat):bits .andNot .u8 (IntKind.u8.wrap (n:Int)) 128=((UInt8.ofNat (n % 128)).toNat:Int):=by
 rw[wrap_u8n,show(128:Int)=((128:Nat):Int)from rfl,u8_andNot_nat _ _ (by omega) (by omega),toNat_ofNat8 (by omega)]
 rw[show 255 - 128=2 ^ 7 - 1 from rfl,Nat.and_two_pow_sub_one_eq_mod]
 omega
section
variable(w:World)(base e:Nat)(bs:List UInt8)
set_option maxRecDepth 100000 in
set_option maxHeartbeats 2000000 in
theorem eu_any(h:EncAt w base e bs)(vv:Value)(vs:List Nat)(hS:SlE w base vv (vs.map fun(n:Nat)=>Value.int .u64 (n:Int)))(hv:∀n∈vs,n<18446744073709551616)(hl:vs.length≤1048576)(hbs:bs.length≤1099511627776) :
 Calls Tryz.prog 21 #[.pointer (some ⟨e,0,none⟩),vv] w fun r w'=>r=.returned (.pointer (some ⟨e,0,none⟩))∧EncTo w w' base e (bs++vs.flatMap uenc):=by
 have hS0:=hS
 obtain⟨A,c,rfl,hx⟩:=hS.1
 rw[List.length_map]
 have hl0:(vs.length:Int)≤1048576:=by omega
 obtain⟨i0,hi,hz0,hz1,hz2⟩:=info_parts u8_info
 go_enter Tryz.func21,Tryz.ntmps21
 go_wp2_with fail
 go_loopw [10] (fun iv wr=>∃k:Nat,k≤vs.length∧iv=.int .i64 (k:Int)∧EncTo w wr base e (bs++(vs.take k).flatMap uenc)) (fun iv _=>vs.length - (intOf iv).toNat)
 case atStart=>exact⟨0,Nat.zero_le _,rfl,EncChg.refl _ _,by simpa using h⟩
 case round =>
  obtain⟨k,hk,rfl,hT⟩:=hrel
  by_cases hlt:k<vs.length
  ·have hSr:=(hS0.chg hT.1).1
   obtain⟨A',c',hv',hx'⟩:=hSr
   injection hv' with q1 q2 q3
   subst q1 q3
   obtain⟨b,o,rfl,hcell⟩:=hx' (by intro e;rw[List.map_eq_nil_iff]at e;subst e;simp at hlt)
   have r0:wr.cell? ⟨b,o+k,none⟩=some (.int .u64 (vs[k]:Int)):=hcell k _ (by rw[List.getElem?_map,List.getElem?_eq_getElem hlt];rfl)
   have hvk:=hv _ (List.getElem_mem hlt)
   have htk:vs.take (k+1)=vs.take k++[vs[k]]:=by rw[List.take_succ_eq_append_getElem hlt]
   generalize vs[k]=n at r0 hvk htk
   clear hx hx' q2 hcell
   have hL:=bitLen_or n
   have cb:=fun W=>Tryz.bits_Len64 ((n ||| 1:Nat):Int) W (by omega) (by have:=Nat.or_lt_two_pow (x:=n) (y:=1) (n:=64) (by omega) (by omega);omega)
   rw[Int.toNat_natCast]at cb
   have eb:bits .or .u64 (n:Int) 1=((n ||| 1:Nat):Int):=by rw[show(1:Int)=((1:Nat):Int)from rfl,u64_or_nat _ _ (by omega) (by omega)]
   have eG:(((Lib.bitLen (n ||| 1):Nat):Int) - 1) / 7 * 7=7 * ((ugroups n:Nat):Int):=by unfold ugroups;omega
   have EB:=Lib.hid eb
   have EG:=Lib.hid eG
   clear eb eG
   have hG:=ugroups_le n
   generalize Lib.bitLen (n ||| 1)=L at hL cb EG
   generalize hpre:bs++(vs.take k).flatMap uenc=pre at hT
   have hpl:pre.length≤1099511627776+10 * 1048576:=by
    rw[←hpre]
    have:=flat_length (vs.take k)
    have h2:(vs.take k).length≤k:=List.length_take_le _ _
    simp only[List.length_append];omega
   have HP:=Lib.hid hpre
   have HTK:=Lib.hid htk
   clear hpre htk
   go_wp2_with fail
   rw[EB.out]
   refine(cb _).mono ?_
   rintro r w1 ⟨rfl,rfl⟩
   clear cb EB
   have hL0:(1:Int)≤(L:Int):=by omega
   have hL1:(L:Int)≤64:=by omega
   go_wp2_with fail
   go_loopw [7] (fun av wx=>∃(j:Nat) (out:List UInt8),j≤ugroups n∧av=.int .i64 (7 * (j:Int))∧EncTo w wx base e out∧out++uhi n j=pre++uhi n (ugroups n)) (fun av _=>(intOf av).toNat)
   case atStart=>exact⟨ugroups n,pre,Nat.le_refl _,by rw[←EG.out],hT,rfl⟩
   case round =>
    clear hT
    obtain⟨j,out,hj,rfl,hT,hout⟩:=hrel
    have hol:out.length+j≤1099511627776+10 * 1048576+9:=by
     have:=congrArg List.length hout
     simp only[List.length_append,uhi_length]at this;omega
    cases j with
    | zero =>
     have hfin:bs++(vs.take (k+1)).flatMap uenc=out++[UInt8.ofNat (n % 128)]:=by
      rw[HTK.out,List.flatMap_append,←List.append_assoc,HP.out]
      have h0:out=pre++uhi n (ugroups n):=by simpa[uhi]using hout
      rw[h0];simp[uenc]
     have HF:=Lib.hid hfin
     clear hfin hout
     obtain⟨he,lv,hlv,hown⟩:=hT.2
     have d0:wr.cell? ⟨e,0,none⟩=some lv:=hlv.cell 0
     have df:wr.frozen? ⟨e,0,none⟩=false:=hlv.frozen 0
     have ey:bits .andNot .u8 (IntKind.u8.wrap (n:Int)) 128=((UInt8.ofNat (n % 128)).toNat:Int):=byte_lo n
     have EY:=Lib.hid ey
     clear ey
     have hlt':=hlv.lt
     go_wp2_with (at_builtin;refine wpList_append_own _ rfl _ _ 61 rfl base 5 i0 (.int .u8 0) 1 1 Tryz.underlying61 hi hz0 hz1 hz2 rfl (by decide) _ _ _ rfl (hown.alloc _) ⟨wr.heap.size,0,none⟩ 1 1 [.int .u8 (bits .andNot .u8 (IntKind.u8.wrap (n:Int)) 128)] rfl rfl ?c1 ?c2 ?c3 ?c4 ?c5 ?_)
     case c1=>exact cell_one
     case c2=>simp[Value.oneCell']
     case c3=>unfold maxLen;omega
     case c4=>omega
     case c5=>simp;omega
     intro v1 w1 hown1 hgrow1 _
     obtain⟨A1,n1,c1,rfl⟩:=own_slice hown1
     have hlv1:=enc_grown hlv hown ((Ext.refl wr).alloc _) hgrow1
     have d1:=hlv1.cell 0
     have f1:=hlv1.frozen 0
     have hT1:=enc_store (out':=out++[UInt8.ofNat (n % 128)]) hT hlv hown ((Ext.refl wr).alloc _) hgrow1 hown1 (by rw[List.map_append,EY.out];rfl) (by simp)
     go_wp2_with fail
     go_roundw
     case rel=>exact⟨k+1,by omega,by go_num,by rw[HF.out];exact hT1⟩
     case measure=>simp[intOf];omega
    | succ j =>
     have hstep:(out++[UInt8.ofNat (n / 128 ^ (j+1) % 128+128)])++uhi n j=pre++uhi n (ugroups n):=by
      rw[←hout,uhi,List.append_assoc];rfl
     have HS:=Lib.hid hstep
     clear hstep hout
     go_wp2_with fail
     obtain⟨he,lv,hlv,hown⟩:=hT.2
     have d0:wr.cell? ⟨e,0,none⟩=some lv:=hlv.cell 0
     have df:wr.frozen? ⟨e,0,none⟩=false:=hlv.frozen 0
     have ey:bits .or .u8 (IntKind.u8.wrap ((n:Int) / 2 ^ (7 * ((j:Int)+1)).toNat)) 128=((UInt8.ofNat (n / 128 ^ (j+1) % 128+128)).toNat:Int):=byte_hi n j
     have EY:=Lib.hid ey
     clear ey
     have hlt':=hlv.lt
     go_region_law (refine step_append_own rfl (.tmp 28) (.tmp 34) _ rfl base 5 i0 _ 1 Tryz.underlying61 hi hz0 hz1 hz2 rfl lv out.length (out.map U8) (by simp[Act.eval]) (own_chg hown ((Ext.refl wr).drew.alloc _) (fun _ h=>h.elim)) ⟨wr.heap.size,0,none⟩ 1 1 [.int .u8 (bits .or .u8 (IntKind.u8.wrap ((n:Int) / 2 ^ (7 * ((j:Int)+1)).toNat)) 128)] (by simp[Act.eval]) rfl (cell_one (w:=wr)) (by simp[Value.oneCell']) (by unfold maxLen;omega) (by omega) (by simp;omega) ?_;intro v1 w1 hown1 hgrow1;obtain⟨A1,n1,c1,rfl⟩:=own_slice hown1;have hlv1:=enc_grown hlv hown (((Ext.refl wr).alloc _).drew) hgrow1;have d1:=hlv1.cell 0;have f1:=hlv1.frozen 0)
     all_goals
      have hT1:=enc_store (out':=out++[UInt8.ofNat (n / 128 ^ (j+1) % 128+128)]) hT hlv hown (((Ext.refl wr).alloc _).drew) hgrow1 hown1 (by rw[List.map_append,EY.out];rfl) (by simp)
      go_wp2_with fail
      go_roundw
      case rel=>exact⟨j,out++[UInt8.ofNat (n / 128 ^ (j+1) % 128+128)],by omega,by go_num,hT1,HS.out⟩
      case measure=>simp[intOf];omega
  ·have hge:vs.length≤k:=by omega
   go_wp2_with fail
   go_ret
   rw[List.take_of_length_le (by omega)]at hT
   exact⟨rfl,hT⟩
set_option maxHeartbeats 1000000 in
theorem ei_any(h:EncAt w base e bs)(vv:Value)(vs:List Int)(hS:SlE w base vv (vs.map (Value.int .i64)))(hv:∀n∈vs, -9223372036854775808≤n∧n≤9223372036854775807)(hl:vs.length≤1048576)(hbs:bs.length+10 * vs.length≤1099511627776) :
 Calls Tryz.prog 44 #[.pointer (some ⟨e,0,none⟩),vv] w fun r w'=>r=.returned (.pointer (some ⟨e,0,none⟩))∧EncTo w w' base e (bs++vs.flatMap ienc):=by
 have hS0:=hS
 obtain⟨A,c,rfl,hx⟩:=hS.1
 rw[List.length_map]
 have hl0:(vs.length:Int)≤1048576:=by omega
 go_enter Tryz.func44,Tryz.ntmps44
 go_wp2_with fail
 go_loopw [9] (fun iv wr=>∃k:Nat,k≤vs.length∧iv=.int .i64 (k:Int)∧EncTo w wr base e (bs++(vs.take k).flatMap ienc)) (fun iv _=>vs.length - (intOf iv).toNat)
 case atStart=>exact⟨0,Nat.zero_le _,rfl,EncChg.refl _ _,by simpa using h⟩
 case round =>
  obtain⟨k,hk,rfl,hT⟩:=hrel
  by_cases hlt:k<vs.length
  ·have hSr:=(hS0.chg hT.1).1
   obtain⟨A',c',hv',hx'⟩:=hSr
   injection hv' with q1 q2 q3
   subst q1 q3
   obtain⟨b,o,rfl,hcell⟩:=hx' (by intro e;rw[List.map_eq_nil_iff]at e;subst e;simp at hlt)
   have r0:wr.cell? ⟨b,o+k,none⟩=some (.int .i64 vs[k]):=hcell k _ (by rw[List.getElem?_map,List.getElem?_eq_getElem hlt];rfl)
   have hvk:=hv _ (List.getElem_mem hlt)
   have htk:bs++(vs.take (k+1)).flatMap ienc=(bs++(vs.take k).flatMap ienc)++[(max vs[k] 0).toNat].flatMap uenc:=by
    rw[List.take_succ_eq_append_getElem hlt,List.flatMap_append,List.append_assoc];simp[ienc]
   have hlen:(bs++(vs.take k).flatMap ienc).length≤1099511627776:=by
    have h1:∀l:List Int,(l.flatMap ienc).length≤10 * l.length:=by
     intro l
     induction l with
     | nil=>simp
     | cons n r ih=>have:=uenc_length (max n 0).toNat;simp only[List.flatMap_cons,List.length_append,List.length_cons,ienc]at ih⊢;omega
    have h2:=h1 (vs.take k)
    have h3:(vs.take k).length≤k:=List.length_take_le _ _
    simp only[List.length_append];omega
   generalize vs[k]=n at r0 hvk htk
   generalize bs++(vs.take k).flatMap ienc=pre at htk hT hlen
   have HTK:=Lib.hid htk
   clear hx hx' q2 hcell htk
   have cu:=fun W h v hS=>eu_any W base e pre h v [(max n 0).toNat] hS (by intro m hm;rw[List.mem_singleton]at hm;omega) (by simp) hlen
   have em:(((max n 0).toNat:Nat):Int)=max n 0:=by omega
   go_wp2_with fail
   have hS1:SlE (wr.alloc (.cells #[.int .u64 (max n 0)] 30)) base (.slice (some ⟨wr.heap.size,0,none⟩) 1 1) ([(max n 0).toNat].map fun(n:Nat)=>Value.int .u64 (n:Int)):=by
    have:=SlE.new (t:=30) (cs:=#[.int .u64 (max n 0)]) (c:=1) wr base (by decide)
    simpa[em]using this
   refine(cu _ (hT.2.alloc _) _ hS1).mono ?_
   rintro r w2 ⟨rfl,hT2⟩
   go_wp2_with fail
   go_roundw
   case rel=>exact⟨k+1,by omega,by go_num,by rw[HTK.out];exact⟨(hT.1.alloc _).trans hT2.1,hT2.2⟩⟩
   case measure=>simp[intOf];omega
  ·have hge:vs.length≤k:=by omega
   go_wp2_with fail
   go_ret
   rw[List.take_of_length_le (by omega)]at hT
   exact⟨rfl,hT⟩
end
end Go.Proofs.YtkkbfdencgdbhaaGreatDoor
namespace Go.Proofs.YtkkbfdencgdbhaaGreatDoor
open Go.RowKit
theorem ienc_length(n:Int):(ienc n).length≤10:=uenc_length _
theorem iflat_length(l:List Int):(l.flatMap ienc).length≤10 * l.length:=by
 induction l with
 | nil=>simp
 | cons n r ih=>have:=ienc_length n;simp only[List.flatMap_cons,List.length_append,List.length_cons];omega
section
variable(w:World)(base e:Nat)(bs:List UInt8)
set_option maxRecDepth 100000 in
theorem bytes_any(h:EncAt w base e bs) :
 Calls Tryz.prog 22 #[.pointer (some ⟨e,0,none⟩)] w fun r w'=>r=.returned (.string ⟨bs.toArray⟩)∧w'=w:=by
 obtain⟨hb,v,hv,hown⟩:=h
 have d0:w.cell? ⟨e,0,none⟩=some v:=hv.cell 0
 obtain⟨A,m,c,rfl⟩:=own_slice hown
 have hrun:(convert 61 9 (.slice A m c)).run Tryz.prog w=.ok (.string ⟨bs.toArray⟩) w:=by
  rcases hown.2 with⟨h1,h2⟩|⟨g,cap,cur,h1,_⟩
  ·injection h1 with q1 q2 q3
   subst q1
   rw[run_convert_bytes_nil w 61 5 Tryz.underlying61 Tryz.underlying5 _ c 9 Tryz.underlying9]
   rw[List.eq_nil_of_length_eq_zero h2];rfl
  ·injection h1 with q1 q2 q3
   subst q1 q2 q3
   refine run_convert_bytes_back w 61 9 5 ⟨g,0,none⟩ _ bs Tryz.underlying61 Tryz.underlying5 Tryz.underlying9 fun j hj=>?_
   have:=hown.cells (g:=g) rfl j (U8 bs[j]) (by rw[List.getElem?_map,List.getElem?_eq_getElem hj];rfl)
   exact this
 clear hown
 go_enter Tryz.func22,Tryz.ntmps22
 go_wp2
 go_ret
 exact⟨rfl,rfl⟩
theorem elist_any(h:EncAt w base e bs)(vv:Value)(vs:List Int)(hS:SlE w base vv (vs.map (Value.int .i64)))(hv:∀n∈vs, -9223372036854775808≤n∧n≤9223372036854775807)(hl:vs.length≤1048576)(hbs:bs.length+10 * vs.length+20≤1099511627776) :
 Calls Tryz.prog 82 #[.pointer (some ⟨e,0,none⟩),vv] w fun r w'=>r=.returned (.pointer (some ⟨e,0,none⟩))∧EncTo w w' base e (bs++lenc vs):=by
 have hS0:=hS
 obtain⟨A,c,rfl,hx⟩:=hS.1
 rw[List.length_map]
 have hl0:(vs.length:Int)≤1048576:=by omega
 clear hx hS
 go_enter Tryz.func82,Tryz.ntmps82
 go_wp2_with fail
 refine(ei_any _ base e bs (h.alloc _) _ [(vs.length:Int)] ?_ ?_ (by simp) (by simp;omega)).mono ?_
 ·exact SlE.new (t:=3) (cs:=#[.int .i64 (vs.length:Int)]) w base (by decide)
 ·intro n hn;rw[List.mem_singleton]at hn;omega
 rintro r w1 ⟨rfl,hT1⟩
 go_wp2_with fail
 refine(ei_any _ base e _ hT1.2 _ vs ?_ hv hl (by have:=iflat_length [(vs.length:Int)];simp at this⊢;omega)).mono ?_
 ·have:=(hS0.ext ((Ext.refl w).alloc (.cells #[.int .i64 (vs.length:Int)] 3))).chg hT1.1
  rw[List.length_map]at this
  exact this
 rintro r w2 ⟨rfl,hT2⟩
 go_wp2_with fail
 go_ret
 refine⟨rfl,((EncChg.ext ((Ext.refl w).alloc _)).trans hT1.1).trans hT2.1,?_⟩
 have:=hT2.2
 rw[List.append_assoc]at this
 simpa[lenc]using this
set_option maxRecDepth 100000 in
set_option maxHeartbeats 1000000 in
theorem es_any(h:EncAt w base e bs)(vv:Value)(vs:List ByteArray)(hS:SlE w base vv (vs.map Value.string))(hv:∀n∈vs,n.size≤1048576)(hl:vs.length≤131072)(hbs:bs.length+1048600 * vs.length≤1099511627776) :
 Calls Tryz.prog 45 #[.pointer (some ⟨e,0,none⟩),vv] w fun r w'=>r=.returned (.pointer (some ⟨e,0,none⟩))∧EncTo w w' base e (bs++vs.flatMap senc):=by
 have hS0:=hS
 obtain⟨A,c,rfl,hx⟩:=hS.1
 rw[List.length_map]
 have hl0:(vs.length:Int)≤1048576:=by omega
 obtain⟨i0,hi,hz0,hz1,hz2⟩:=info_parts u8_info
 go_enter Tryz.func45,Tryz.ntmps45
 go_wp2_with fail
 go_loopw [9] (fun iv wr=>∃k:Nat,k≤vs.length∧iv=.int .i64 (k:Int)∧EncTo w wr base e (bs++(vs.take k).flatMap senc)) (fun iv _=>vs.length - (intOf iv).toNat)
 case atStart=>exact⟨0,Nat.zero_le _,rfl,EncChg.refl _ _,by simpa using h⟩
 case round =>
  obtain⟨k,hk,rfl,hT⟩:=hrel
  by_cases hlt:k<vs.length
  ·have hSr:=(hS0.chg hT.1).1
   obtain⟨A',c',hv',hx'⟩:=hSr
   injection hv' with q1 q2 q3
   subst q1 q3
   obtain⟨b,o,rfl,hcell⟩:=hx' (by intro e;rw[List.map_eq_nil_iff]at e;subst e;simp at hlt)
   have r0:wr.cell? ⟨b,o+k,none⟩=some (.string vs[k]):=hcell k _ (by rw[List.getElem?_map,List.getElem?_eq_getElem hlt];rfl)
   have hvk:=hv _ (List.getElem_mem hlt)
   have htk:bs++(vs.take (k+1)).flatMap senc=((bs++(vs.take k).flatMap senc)++[(vs[k].size:Int)].flatMap ienc)++vs[k].data.toList:=by
    rw[List.take_succ_eq_append_getElem hlt,List.flatMap_append,List.append_assoc,List.append_assoc];simp[senc]
   have hlen:(bs++(vs.take k).flatMap senc).length+1048600≤1099511627776:=by
    have h1:∀l:List ByteArray,(∀n∈l,n.size≤1048576)→(l.flatMap senc).length≤1048600 * l.length:=by
     intro l
     induction l with
     | nil=>simp
     | cons n r ih =>
      intro hh
      have h2:=ienc_length n.size
      have h3:=ih fun m hm=>hh m (List.mem_cons_of_mem _ hm)
      have h4:=hh n (List.mem_cons_self ..)
      have h5:n.data.toList.length=n.size:=by simp
      simp only[List.flatMap_cons,List.length_append,List.length_cons,senc,h5]at h3⊢;omega
    have h2:=h1 (vs.take k) fun n hn=>hv n (List.mem_of_mem_take hn)
    have h3:(vs.take k).length≤k:=List.length_take_le _ _
    simp only[List.length_append];omega
   generalize vs[k]=s at r0 hvk htk
   generalize bs++(vs.take k).flatMap senc=pre at htk hT hlen
   have hl2:=ienc_length s.size
   have HTK:=Lib.hid htk
   clear hx hx' q2 hcell htk
   go_wp2_with fail
   refine(ei_any _ base e pre (hT.2.alloc _) _ [(s.size:Int)] ?_ ?_ (by simp) (by simp;omega)).mono ?_
   ·exact SlE.new (t:=3) (cs:=#[.int .i64 (s.size:Int)]) wr base (by decide)
   ·intro n hn;rw[List.mem_singleton]at hn;omega
   rintro r w1 ⟨rfl,hT1⟩
   have hTT:EncTo w w1 base e (pre++[(s.size:Int)].flatMap ienc):=⟨(hT.1.alloc _).trans hT1.1,hT1.2⟩
   clear hT1 hT
   generalize hout:pre++[(s.size:Int)].flatMap ienc=out at hTT HTK
   have hol:out.length≤pre.length+10:=by rw[←hout];simp;omega
   clear hout
   obtain⟨he,lv,hlv,hown⟩:=hTT.2
   have d0:w1.cell? ⟨e,0,none⟩=some lv:=hlv.cell 0
   have df:w1.frozen? ⟨e,0,none⟩=false:=hlv.frozen 0
   have hlt':=hlv.lt
   go_wp2_with (at_builtin;go_loud (refine Lib.wpList_append_own_string _ rfl _ _ 61 9 rfl base 5 i0 Tryz.underlying61 Tryz.underlying9 hi hz0 hz1 hz2 _ _ _ rfl hown s rfl ?c3 ?c4 ?c5 ?_))
   case c3=>unfold maxLen;omega
   case c4=>omega
   case c5=>omega
   intro v1 w2 hown1 hgrow1 _
   obtain⟨A1,n1,c1,rfl⟩:=own_slice hown1
   have hlv1:=enc_grown hlv hown (Ext.refl _) hgrow1
   have d1:=hlv1.cell 0
   have f1:=hlv1.frozen 0
   have hT2:=enc_store (out':=out++s.data.toList) hTT hlv hown (Ext.refl _) hgrow1 hown1 (by rw[List.map_append];congr 1) (by simp)
   go_wp2_with fail
   go_roundw
   case rel=>exact⟨k+1,by omega,by go_num,by rw[HTK.out];exact hT2⟩
   case measure=>simp[intOf];omega
  ·have hge:vs.length≤k:=by omega
   go_wp2_with fail
   go_ret
   rw[List.take_of_length_le (by omega)]at hT
   exact⟨rfl,hT⟩
end
end Go.Proofs.YtkkbfdencgdbhaaGreatDoor
namespace Go.Proofs.YtkkbfdencgdbhaaGreatDoor
open Go.RowKit
inductive Sp
 | val (v:Value)
 | ptr
 | sl (xs:List Value)
 | any
def Sp.isPtr:Sp→Bool
 | .ptr=>true
 | _=>false
def Sp.holds(base e:Nat):Sp→Value→World→Prop
 | .val x,v,_=>v=x
 | .ptr,v,_=>v=.pointer (some ⟨e,0,none⟩)
 | .sl xs,v,w=>SlE w base v xs
 | .any,_,_=>True
theorem Sp.stays{base e:Nat}{s:Sp}{v:Value}{w w':World}(h:s.holds base e v w)(hc:EncChg w w' base):s.holds base e v w':=by
 cases s with
 | val x=>exact h
 | ptr=>exact h
 | sl xs=>exact SlE.chg h hc
 | any=>trivial
def spφ(sp:List Sp)(base:Nat)(e d:Nat)(v:Value)(w:World):Prop:=(sp.getD d .any).holds base e v w
def chainL(L:Nat→Bool):List (Nat×List UInt8)→List UInt8
 | []=>[]
 | (c,b)::r=>(if L c then b else [])++chainL L r
def spG(E0:Option Nat)(items:List (Nat×List UInt8))(pre:List UInt8)(live:(Nat→Bool)→Bool)(W0:World)(base:Nat)(e:Nat)(L:Nat→Bool)(w:World):Prop :=
 (∀e0,E0=some e0→e=e0)∧EncChg W0 w base∧(live L=true→EncAt w base e (pre++chainL L items))
theorem chainL_congr{L L':Nat→Bool} : ∀ {items:List (Nat×List UInt8)},(∀c b,(c,b)∈items→L c=L' c)→chainL L items=chainL L' items
 | [],_=>rfl
 | (c,b)::r,h=>by
  unfold chainL
  rw[h c b (List.mem_cons_self ..),chainL_congr (items:=r) fun c' b' hm=>h c' b' (List.mem_cons_of_mem _ hm)]
theorem chainL_off{L:Nat→Bool} : ∀ {items:List (Nat×List UInt8)},(∀c b,(c,b)∈items→L c=false)→chainL L items=[]
 | [],_=>rfl
 | (c,b)::r,h=>by
  unfold chainL
  rw[h c b (List.mem_cons_self ..),chainL_off (items:=r) fun c' b' hm=>h c' b' (List.mem_cons_of_mem _ hm)]
  rfl
theorem chainL_on{L:Nat→Bool} : ∀ {items:List (Nat×List UInt8)},(∀c b,(c,b)∈items→L c=true)→chainL L items=items.flatMap (·.2)
 | [],_=>rfl
 | (c,b)::r,h=>by
  unfold chainL
  rw[h c b (List.mem_cons_self ..),chainL_on (items:=r) fun c' b' hm=>h c' b' (List.mem_cons_of_mem _ hm)]
  rfl
def pathB(ops:Array Oper):List Nat→Bool
 | a::b::r=>needs ops b a&&pathB ops (b::r)
 | _=>true
theorem path_off{ops:Array Oper}{L:Nat→Bool}(hd:∀i d,L i=true→needs ops i d=true→L d=true):∀ {r:List Nat} {a:Nat},L a=false→pathB ops (a::r)=true→∀c∈r,L c=false
 | [],_,_,_,c,hc=>by cases hc
 | b::r,a,ha,hp,c,hc=>by
  simp only[pathB,Bool.and_eq_true]at hp
  have hb:L b=false:=by
   cases h:L b with
   | false=>rfl
   | true=>rw[hd b a h hp.1]at ha;cases ha
  rcases List.mem_cons.1 hc with rfl|hc
  ·exact hb
  ·exact path_off hd hb hp.2 c hc
theorem path_on{ops:Array Oper}{L:Nat→Bool}(hd:∀i d,L i=true→needs ops i d=true→L d=true):∀ {r:List Nat} {a:Nat},pathB ops (a::r)=true→L ((a::r).getLast (by simp))=true→L a=true
 | [],_,_,h=>h
 | b::r,a,hp,h=>by
  simp only[pathB,Bool.and_eq_true]at hp
  exact hd b a (path_on hd hp.2 (by simpa using h)) hp.1
theorem chainL_le(L:Nat→Bool):∀items:List (Nat×List UInt8),(chainL L items).length≤(items.flatMap (·.2)).length
 | []=>Nat.le_refl _
 | (c,b)::r=>by
  have:=chainL_le L r
  unfold chainL
  simp only[List.flatMap_cons,List.length_append]
  split
  ·omega
  ·rw[List.length_nil];omega
section
variable{P:Program}{ops:Array Oper}{Q:Exit→Act→World→Prop}{a0:Act}{sp:List Sp}{E0:Option Nat}{items:List (Nat×List UInt8)}{pre:List UInt8}{live:(Nat→Bool)→Bool}{W0:World}{base:Nat}{j:Nat}{o:Oper}
theorem enc_val{x:Value}(ho:ops[j]? = some o)(hg:o.guard=none)(hs:sp.getD j .any=.val x∨sp.getD j .any=.any)(hi:(items.all fun x=>x.1 != j)=true)(hl:∀L:Nat→Bool,live (fun i=>i == j||L i)=live L)
 (h:∀(e:Nat) (_L:Nat→Bool) (v:Nat→Value) (a:Act) (w:World),EncChg W0 w base→(∀d,needs ops j d=true→(sp.getD d .any).holds base e (v d) w)→(∀d t,dstOf ops d=some t→needs ops j d=true→a.tmps.getD t undef=v d) →
   (∀t,((List.range ops.size).all fun d=>dstOf ops d != some t)=true→a.tmps.getD t undef=a0.tmps.getD t undef)→(execOp a.eval o).run P w=.ok (.value x) w) :
 StepAt P ops Q a0 (spφ sp base) (spG E0 items pre live W0 base) j:=by
 intro e L v a w hdown hLj hneed hG hφ hval h0
 refine wpOp_value ho hg (h e L v a w hG.2.1 (fun d hd=>hφ d (hneed d hd)) (fun d t hd hn=>hval d t hd (hneed d hn)) (fun t ht=>h0 t fun d _ hd=>?_)) ⟨x,e,rfl,?_,fun d _ _ hh=>hh,hG.1,hG.2.1,fun hlv=>?_⟩
 ·have hds:d<ops.size:=by
   rcases Nat.lt_or_ge d ops.size with h|h
   ·exact h
   ·unfold dstOf at hd;rw[Array.getElem?_eq_none h]at hd;cases hd
  have:=List.all_eq_true.1 ht d (List.mem_range.2 hds)
  rw[hd]at this
  simp at this
 ·unfold spφ
  rcases hs with hs|hs <;> rw[hs]
  ·rfl
  ·trivial
 ·rw[hl]at hlv
  rw[chainL_congr (L':=L) fun c b hm=>by have:=List.all_eq_true.1 hi _ hm;simp at this;simp[this]]
  exact hG.2.2 hlv
theorem enc_slice{cs:Array Value}{t:TypeId}{c:Nat}(ht:t≠63∧t≠5)(ho:ops[j]? = some o)(hg:o.guard=none)(hs:sp.getD j .any=.sl cs.toList)(hi:(items.all fun x=>x.1 != j)=true)(hl:∀L:Nat→Bool,live (fun i=>i == j||L i)=live L)
 (h:∀(e:Nat) (_L:Nat→Bool) (v:Nat→Value) (a:Act) (w:World),EncChg W0 w base→(∀d,needs ops j d=true→(sp.getD d .any).holds base e (v d) w)→(∀d t,dstOf ops d=some t→needs ops j d=true→a.tmps.getD t undef=v d) →
   (execOp a.eval o).run P w=.ok (.value (.slice (some ⟨w.heap.size,0,none⟩) cs.size c)) (w.alloc (.cells cs t))) :
 StepAt P ops Q a0 (spφ sp base) (spG E0 items pre live W0 base) j:=by
 intro e L v a w hdown hLj hneed hG hφ hval h0
 have hE:Ext w (w.alloc (.cells cs t)):=(Ext.refl w).alloc _
 refine wpOp_value ho hg (h e L v a w hG.2.1 (fun d hd=>hφ d (hneed d hd)) (fun d t hd hn=>hval d t hd (hneed d hn))) ⟨_,e,rfl,?_,fun d _ _ hh=>Sp.stays hh (EncChg.ext hE),hG.1,hG.2.1.alloc _,fun hlv=>?_⟩
 ·unfold spφ
  rw[hs]
  exact SlE.new w base ht
 ·rw[hl]at hlv
  rw[chainL_congr (L':=L) fun c b hm=>by have:=List.all_eq_true.1 hi _ hm;simp at this;simp[this]]
  exact(hG.2.2 hlv).alloc _
theorem enc_call{f:FuncId}{bytes:List UInt8}{before after:List (Nat×List UInt8)}(ho:ops[j]? = some o)(hg:o.guard=none)(hs:sp.getD j .any=.ptr)(hitems:items=before++(j,bytes)::after)
 (hb:(before.all fun x=>x.1 != j)=true) (ha:pathB ops (j::after.map (·.1))=true) (ha':(after.all fun x=>x.1 != j)=true) (_hl:∀L:Nat→Bool,live (fun i=>i == j||L i)=live L)
 (hlive:∀L:Nat→Bool,(∀i d,L i=true→needs ops i d=true→L d=true)→(∀d,needs ops j d=true→L d=true)→live L=true)
 (h:∀(e:Nat) (L:Nat→Bool) (v:Nat→Value) (a:Act) (w:World),(∀e0,E0=some e0→e=e0)→EncChg W0 w base→(∀d,needs ops j d=true→L d=true)→(∀i d,L i=true→needs ops i d=true→L d=true)→EncAt w base e (pre++chainL L before)→(∀d,needs ops j d=true→(sp.getD d .any).holds base e (v d) w)→(∀d t,dstOf ops d=some t→needs ops j d=true→a.tmps.getD t undef=v d) →
   (∀t,((List.range ops.size).all fun d=>dstOf ops d != some t)=true→a.tmps.getD t undef=a0.tmps.getD t undef) →
   ∃args,(execOp a.eval o).run P w=.ok (.enter f args) w∧Calls P f args w fun r w'=>r=.returned (.pointer (some ⟨e,0,none⟩))∧EncTo w w' base e ((pre++chainL L before)++bytes)) :
 StepAt P ops Q a0 (spφ sp base) (spG E0 items pre live W0 base) j:=by
 intro e L v a w hdown hLj hneed hG hφ hval h0
 have hlv:=hlive L hdown hneed
 have hE:=hG.2.2 hlv
 have haf:∀c b,(c,b)∈after→c≠j∧L c=false:=fun c b hm=>⟨by have:=List.all_eq_true.1 ha' _ hm;simpa using this,path_off hdown hLj ha c (List.mem_map.2 ⟨_,hm,rfl⟩)⟩
 have e1:chainL L items=chainL L before:=by
  have key:∀l:List (Nat×List UInt8),chainL L (l++(j,bytes)::after)=chainL L l:=by
   intro l
   induction l with
   | nil =>
    show(if L j then bytes else [])++chainL L after=[]
    rw[hLj,chainL_off fun c b hm=>(haf c b hm).2];rfl
   | cons x r ih=>obtain⟨c,b⟩:=x;show _++chainL L (r++_)=_;rw[ih];rfl
  rw[hitems];exact key before
 have e2:chainL (fun i=>i == j||L i) items=chainL L before++bytes:=by
  have key:∀l:List (Nat×List UInt8),(∀c b,(c,b)∈l→c≠j)→chainL (fun i=>i == j||L i) (l++(j,bytes)::after)=chainL L l++bytes:=by
   intro l
   induction l with
   | nil =>
    intro _
    show(if(j == j||L j)then bytes else [])++chainL _ after=_
    rw[chainL_off (items:=after) fun c b hm=>by simp[(haf c b hm).1,(haf c b hm).2]]
    simp[chainL]
   | cons x r ih =>
    intro hh
    obtain⟨c,b⟩:=x
    have hc:=hh c b (List.mem_cons_self ..)
    show(if(c == j||L c)then b else [])++chainL _ (r++_)=(if L c then b else [])++chainL L r++bytes
    rw[ih fun c' b' hm=>hh c' b' (List.mem_cons_of_mem _ hm)]
    have:(c == j)=false:=by simpa using hc
    rw[this];simp
  rw[hitems];exact key before fun c b hm=>by have:=List.all_eq_true.1 hb _ hm;simpa using this
 rw[e1]at hE
 obtain⟨args,hrun,hcall⟩:=h e L v a w hG.1 hG.2.1 hneed hdown hE (fun d hd=>hφ d (hneed d hd)) (fun d t hd hn=>hval d t hd (hneed d hn)) (fun t ht=>h0 t fun d _ hd=>by
  have hds:d<ops.size:=by
   rcases Nat.lt_or_ge d ops.size with h|h
   ·exact h
   ·unfold dstOf at hd;rw[Array.getElem?_eq_none h]at hd;cases hd
  have:=List.all_eq_true.1 ht d (List.mem_range.2 hds)
  rw[hd]at this
  simp at this)
 refine wpOp_calls ho hg hrun (hcall.mono ?_)
 rintro r w' ⟨rfl,hT⟩
 refine⟨_,rfl,_,e,rfl,?_,fun d _ _ hh=>Sp.stays hh hT.1,hG.1,hG.2.1.trans hT.1,fun _=>?_⟩
 ·unfold spφ
  rw[hs];rfl
 ·rw[e2,←List.append_assoc];exact hT.2
theorem enc_alloc(offs:List Nat)(hE0:E0=none)(hW:∀w,EncChg W0 w base→base≤w.heap.size)(ho:ops[j]? = some o)(hg:o.guard=none)(hs:sp.getD j .any=.ptr)(hi:(items.all fun x=>x.1 != j)=true)(hpre:pre=[])
 (hoff:pathB ops (j::offs)=true) (hoi:(items.all fun x=>offs.contains x.1)=true) (hop:((List.range sp.length).all fun d => !(sp.getD d .any).isPtr||d == j||offs.contains d)=true)
 (h:∀(a:Act) (w:World),(execOp a.eval o).run P w=.ok (.value (.pointer (some ⟨w.heap.size,0,none⟩))) (w.alloc (.cells #[.slice none 0 0] 63))) :
 StepAt P ops Q a0 (spφ sp base) (spG E0 items pre live W0 base) j:=by
 intro e L v a w hdown hLj hneed hG hφ hval h0
 have h1:∀c b,(c,b)∈items→L c=false:=fun c b hm=>path_off hdown hLj hoff c (by have:=List.all_eq_true.1 hoi _ hm;simpa using this)
 have h2:∀d,L d=true→sp.getD d .any≠.ptr:=fun d hd he=>by
  have hq:d=j∨d∈offs:=by
   rcases Nat.lt_or_ge d sp.length with hl|hl
   ·have:=List.all_eq_true.1 hop d (List.mem_range.2 hl)
    rw[he]at this
    simpa[Sp.isPtr]using this
   ·rw[List.getD_eq_getElem?_getD,List.getElem?_eq_none hl]at he;cases he
  rcases hq with rfl|h
  ·rw[hLj]at hd;cases hd
  ·rw[path_off hdown hLj hoff d h]at hd;cases hd
 have hE:Ext w (w.alloc (.cells #[.slice none 0 0] 63)):=(Ext.refl w).alloc _
 refine wpOp_value ho hg (h a w) ⟨_,w.heap.size,rfl,?_,fun d _ hd hh=>?_,fun e0 h0=>(by rw[hE0]at h0;cases h0),hG.2.1.alloc _,fun _=>?_⟩
 ·unfold spφ
  rw[hs];rfl
 ·have hne:=h2 d hd
  unfold spφ at hh⊢
  generalize sp.getD d .any=s at hh hne
  cases s with
  | val x=>exact hh
  | ptr=>exact absurd rfl hne
  | sl xs=>exact SlE.ext hh hE
  | any=>trivial
 ·rw[chainL_congr (L':=L) fun c b hm=>by have:=List.all_eq_true.1 hi _ hm;simp at this;simp[this],chainL_off h1,hpre]
  exact⟨hW w hG.2.1,_,At.new w _ _,⟨rfl,.inl ⟨rfl,rfl⟩⟩⟩
theorem enc_hand(ho:ops[j]? = some o)(hg:o.guard=none)(hs:sp.getD j .any=.ptr)(hi:(items.all fun x=>x.1 != j)=true)(hl:∀L:Nat→Bool,live (fun i=>i == j||L i)=live L)
 (h:∀(e:Nat) (_L:Nat→Bool) (v:Nat→Value) (a:Act) (w:World),(∀d,needs ops j d=true→(sp.getD d .any).holds base e (v d) w)→(∀d t,dstOf ops d=some t→needs ops j d=true→a.tmps.getD t undef=v d)→(execOp a.eval o).run P w=.ok (.value (.pointer (some ⟨e,0,none⟩))) w) :
 StepAt P ops Q a0 (spφ sp base) (spG E0 items pre live W0 base) j:=by
 intro e L v a w hdown hLj hneed hG hφ hval h0
 refine wpOp_value ho hg (h e L v a w (fun d hd=>hφ d (hneed d hd)) (fun d t hd hn=>hval d t hd (hneed d hn))) ⟨_,e,rfl,?_,fun d _ _ hh=>hh,hG.1,hG.2.1,fun hlv=>?_⟩
 ·unfold spφ
  rw[hs];rfl
 ·rw[hl]at hlv
  rw[chainL_congr (L':=L) fun c b hm=>by have:=List.all_eq_true.1 hi _ hm;simp at this;simp[this]]
  exact hG.2.2 hlv
theorem enc_read{f:FuncId}{x:Value}(ho:ops[j]? = some o)(hg:o.guard=none)(hs:sp.getD j .any=.val x)(hi:(items.all fun x=>x.1 != j)=true)(_hl:∀L:Nat→Bool,live (fun i=>i == j||L i)=live L)
 (hlive:∀L:Nat→Bool,(∀i d,L i=true→needs ops i d=true→L d=true)→(∀d,needs ops j d=true→L d=true)→live L=true)
 (h:∀(e:Nat) (L:Nat→Bool) (v:Nat→Value) (a:Act) (w:World),(∀e0,E0=some e0→e=e0)→(∀d,needs ops j d=true→L d=true)→(∀i d,L i=true→needs ops i d=true→L d=true)→EncAt w base e (pre++chainL L items)→(∀d,needs ops j d=true→(sp.getD d .any).holds base e (v d) w)→(∀d t,dstOf ops d=some t→needs ops j d=true→a.tmps.getD t undef=v d) →
   ∃args,(execOp a.eval o).run P w=.ok (.enter f args) w∧Calls P f args w fun r w'=>r=.returned x∧Ext w w') :
 StepAt P ops Q a0 (spφ sp base) (spG E0 items pre live W0 base) j:=by
 intro e L v a w hdown hLj hneed hG hφ hval h0
 have hlv:=hlive L hdown hneed
 obtain⟨args,hrun,hcall⟩:=h e L v a w hG.1 hneed hdown (hG.2.2 hlv) (fun d hd=>hφ d (hneed d hd)) (fun d t hd hn=>hval d t hd (hneed d hn))
 refine wpOp_calls ho hg hrun (hcall.mono ?_)
 rintro r w' ⟨rfl,hE⟩
 refine⟨_,rfl,_,e,rfl,?_,fun d _ _ hh=>Sp.stays hh (EncChg.ext hE),hG.1,hG.2.1.trans (EncChg.ext hE),fun _=>?_⟩
 ·unfold spφ
  rw[hs];rfl
 ·rw[chainL_congr (L':=L) fun c b hm=>by have:=List.all_eq_true.1 hi _ hm;simp at this;simp[this]]
  exact(hG.2.2 hlv).ext hE
end
end Go.Proofs.YtkkbfdencgdbhaaGreatDoor
namespace Go.Proofs.YtkkbfdencgdbhaaGreatDoor
open Go.RowKit
def benc(b:Bool):List UInt8:=[if b then 1 else 0]
theorem benc_length(b:Bool):(benc b).length=1:=rfl
section
variable(w:World)(base e:Nat)(bs:List UInt8)
set_option maxRecDepth 100000 in
set_option maxHeartbeats 2000000 in
theorem eb_any(h:EncAt w base e bs)(vv:Value)(vs:List Bool)(hS:SlE w base vv (vs.map Value.bool))(hl:vs.length≤1048576)(hbs:bs.length≤1099511627776) :
 Calls Tryz.prog 89 #[.pointer (some ⟨e,0,none⟩),vv] w fun r w'=>r=.returned (.pointer (some ⟨e,0,none⟩))∧EncTo w w' base e (bs++vs.flatMap benc):=by
 have hS0:=hS
 obtain⟨A,c,rfl,hx⟩:=hS.1
 rw[List.length_map]
 have hl0:(vs.length:Int)≤1048576:=by omega
 obtain⟨i0,hi,hz0,hz1,hz2⟩:=info_parts u8_info
 go_enter Tryz.func89,Tryz.ntmps89
 go_wp2_with fail
 go_loopw [9] (fun iv wr=>∃k:Nat,k≤vs.length∧iv=.int .i64 (k:Int)∧EncTo w wr base e (bs++(vs.take k).flatMap benc)) (fun iv _=>vs.length - (intOf iv).toNat)
 case atStart=>exact⟨0,Nat.zero_le _,rfl,EncChg.refl _ _,by simpa using h⟩
 case round =>
  obtain⟨k,hk,rfl,hT⟩:=hrel
  by_cases hlt:k<vs.length
  ·have hSr:=(hS0.chg hT.1).1
   obtain⟨A',c',hv',hx'⟩:=hSr
   injection hv' with q1 q2 q3
   subst q1 q3
   obtain⟨b,o,rfl,hcell⟩:=hx' (by intro e;rw[List.map_eq_nil_iff]at e;subst e;simp at hlt)
   have r0:wr.cell? ⟨b,o+k,none⟩=some (.bool vs[k]):=hcell k _ (by rw[List.getElem?_map,List.getElem?_eq_getElem hlt];rfl)
   have hfin:bs++(vs.take (k+1)).flatMap benc=(bs++(vs.take k).flatMap benc)++benc vs[k]:=by
    rw[List.take_succ_eq_append_getElem hlt,List.flatMap_append,←List.append_assoc];simp
   have hpl:(bs++(vs.take k).flatMap benc).length≤1099511627776+1048576:=by
    have h1:∀l:List Bool,(l.flatMap benc).length=l.length:=fun l=>by
     induction l with
     | nil=>rfl
     | cons x r ih=>simp only[List.flatMap_cons,List.length_append,ih,benc_length,List.length_cons];omega
    have h2:(vs.take k).length≤k:=List.length_take_le _ _
    have h3:=h1 (vs.take k)
    simp only[List.length_append];omega
   generalize vs[k]=n at r0 hfin
   generalize bs++(vs.take k).flatMap benc=out at hT hfin hpl
   have HF:=Lib.hid hfin
   clear hx hx' q2 hcell hfin
   obtain⟨he,lv,hlv,hown⟩:=hT.2
   have d0:wr.cell? ⟨e,0,none⟩=some lv:=hlv.cell 0
   have df:wr.frozen? ⟨e,0,none⟩=false:=hlv.frozen 0
   have hlt':=hlv.lt
   cases n
   ·go_wp2_with (at_builtin;refine wpList_append_own _ rfl _ _ 61 rfl base 5 i0 (.int .u8 0) 1 1 Tryz.underlying61 hi hz0 hz1 hz2 rfl (by decide) _ _ _ rfl (hown.alloc _) ⟨wr.heap.size,0,none⟩ 1 1 [.int .u8 0] rfl rfl ?c1 ?c2 ?c3 ?c4 ?c5 ?_)
    case c1=>exact cell_one
    case c2=>simp[Value.oneCell']
    case c3=>unfold maxLen;omega
    case c4=>omega
    case c5=>simp;omega
    intro v1 w1 hown1 hgrow1 _
    obtain⟨A1,n1,c1,rfl⟩:=own_slice hown1
    have hlv1:=enc_grown hlv hown ((Ext.refl wr).alloc _) hgrow1
    have d1:=hlv1.cell 0
    have f1:=hlv1.frozen 0
    have hT1:=enc_store (out':=out++benc false) hT hlv hown ((Ext.refl wr).alloc _) hgrow1 hown1 (by rw[List.map_append];rfl) (by simp[benc])
    go_wp2_with fail
    go_roundw
    case rel=>exact⟨k+1,by omega,by go_num,by rw[HF.out];exact hT1⟩
    case measure=>simp[intOf];omega
   ·go_wp2_with (at_builtin;refine wpList_append_own _ rfl _ _ 61 rfl base 5 i0 (.int .u8 0) 1 1 Tryz.underlying61 hi hz0 hz1 hz2 rfl (by decide) _ _ _ rfl (hown.alloc _) ⟨wr.heap.size,0,none⟩ 1 1 [.int .u8 1] rfl rfl ?c1 ?c2 ?c3 ?c4 ?c5 ?_)
    case c1=>exact cell_one
    case c2=>simp[Value.oneCell']
    case c3=>unfold maxLen;omega
    case c4=>omega
    case c5=>simp;omega
    intro v1 w1 hown1 hgrow1 _
    obtain⟨A1,n1,c1,rfl⟩:=own_slice hown1
    have hlv1:=enc_grown hlv hown ((Ext.refl wr).alloc _) hgrow1
    have d1:=hlv1.cell 0
    have f1:=hlv1.frozen 0
    have hT1:=enc_store (out':=out++benc true) hT hlv hown ((Ext.refl wr).alloc _) hgrow1 hown1 (by rw[List.map_append];rfl) (by simp[benc])
    go_wp2_with fail
    go_roundw
    case rel=>exact⟨k+1,by omega,by go_num,by rw[HF.out];exact hT1⟩
    case measure=>simp[intOf];omega
  ·have hge:vs.length≤k:=by omega
   go_wp2_with fail
   go_ret
   rw[List.take_of_length_le (by omega)]at hT
   exact⟨rfl,hT⟩
end
end Go.Proofs.YtkkbfdencgdbhaaGreatDoor
