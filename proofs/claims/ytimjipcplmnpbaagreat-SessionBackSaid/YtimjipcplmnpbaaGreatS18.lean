/-
  Part 18 of what the law leans on.
-/
import Derived.Test.YtimjipcplmnpbaaGreatS16
import Derived.Test.YtimjipcplmnpbaaGreatS17
namespace Go.Proofs.YtimjipcplmnpbaaGreat
set_option maxRecDepth 100000
set_option maxHeartbeats 8000000
set_option linter.unusedVariables false
set_option linter.unusedSimpArgs false
set_option linter.unusedSectionVars false
open _root_.Go.Proofs.Tryz
open Go.RowKit Go.Sort
theorem qXY.openX{w:World}{v:Value}{M:Mach}(h:qXY w v M):∃X:Array Value,v=.agg X∧X.size=39∧X.all (·.oneCell')=true:=by
 obtain⟨C,mv,DM,rfl,h1,h2,_,h4,_⟩:=h;obtain⟨A,c,rfl⟩:=qQc h4.own;exact⟨_,rfl,qQ6 h1 _ _,qXx h2 _ _ _ _⟩
theorem qXY.km{w w':World}{B:Nat→Prop}{v:Value}{M:Mach}(h:qXY w v M)(hK:Km B w w'):qXY w' v M:=by
 obtain⟨C,mv,DM,h1,h2,h3,⟨lv,DV,k1,k2,k3⟩,h5,h6⟩:=h;exact⟨C,mv,DM,h1,h2,h3,⟨lv,DV,k1,k2,⟨hK.own k3.own (by decide) (by decide) (by decide),fun p hp=>hK.own (k3.dks p hp) (by decide) (by decide) (by decide)⟩⟩,⟨hK.own h5.own (by decide) (by decide) (by decide),fun p hp=>hK.own (h5.nms p hp) (by decide) (by decide) (by decide)⟩,h6⟩
theorem qXY.chgM{w w':World}{v:Value}{M:Mach}{g:Nat}{Z:Array Value}(h:qXY w v M)(ha:At w g 62 Z)(hc:Chg (· = g) w w'):qXY w' v M:=by
 obtain⟨C,mv,DM,h1,h2,h3,h4,h5,h6⟩:=h;exact⟨C,mv,DM,h1,h2,h3,h4.chgT ha (by decide) (by decide) hc,⟨qQa h5.own hc fun k hk e=>qQb h5.own ha (by decide) k hk e,fun p hp=>qQa (h5.nms p hp) hc fun k hk e=>qQb (h5.nms p hp) ha (by decide) k hk e⟩,h6⟩
theorem qXY.perm{w:World}{v:Value}{M M':Mach}(h:qXY w v M)(hP:M'.P=M.P)(hn:M'.n=M.n)(hc:M.cl.Perm M'.cl):qXY w v M':=by
 obtain⟨C,mv,DM,h1,h2,h3,h4,h5,h6,h7⟩:=h;exact⟨C,mv,DM,by rw[hn];exact h1,h2,h3,by rw[hP];exact h4,h5,h6.trans hc,h7⟩
theorem qZo.awayM{w w':World}{B:Nat→Prop}{m g:Nat}{M:Mach}{Z:Array Value}(h:qZo w B m M)(hA:At w g 62 Z)(hC:Chg (· = g) w w'):qZo w' B m M:=by
 obtain⟨c,mb,mn,mc,rows,h⟩:=h;exact⟨c,mb,mn,mc,rows,h.away hA (by decide) (by decide) (by decide) (by decide) (by decide) hC⟩
theorem MInv.perm{n:Nat}{M M':Mach}(h:MInv n M)(hP:M'.P=M.P)(hn:M'.n=M.n)(hc:M.cl.Perm M'.cl):MInv n M':=by
 refine⟨by rw[hP];exact h.cat,by rw[hn];exact h.num,fun p hp=>h.cl p (hc.mem_iff.2 hp),by rw[←hc.length_eq];exact h.len,(hc.map (·.1)).nodup_iff.1 h.nd⟩
theorem rm_empty(w:World):qXY w (.agg zZM) Mach.empty :=
 ⟨zZM.pop.pop,.slice none 0 0,[],rfl,rfl,by first|simp[zZM,Value.oneCell']|kernel_rfl,⟨.slice none 0 0,[],rfl,rfl,⟨⟨by simp,.inl ⟨rfl,rfl⟩⟩,fun p hp=>by cases hp⟩⟩,⟨⟨by simp,.inl ⟨rfl,rfl⟩⟩,fun p hp=>by cases hp⟩,List.Perm.refl _,List.Pairwise.nil⟩
theorem sread_back(w:World)(M:Mach)(n:Nat)(hi:MInv n M)(hn:n<50):Calls prog 23 #[.string ⟨M.enc.toArray⟩] w fun e w'=>∃m M',e=.returned (.tuple #[.pointer (some ⟨m,0,none⟩),.int .i64 0])∧qZo w' (Hi w.heap.size) m M'∧M'.P=M.P∧M'.n=M.n∧M.cl.Perm M'.cl∧Ext w w':=by
 have hw:=hi.w hn
 have hs:(⟨M.enc.toArray⟩:ByteArray).size≤140737488355328:=by
  have h1:=menc_pre hw M.scl.length;rw[List.take_length]at h1
  show M.enc.toArray.size≤_
  rw[List.size_toArray];exact Nat.le_trans h1 (by decide)
 refine(sread_any w ⟨M.enc.toArray⟩ hs).mono ?_
 rintro e w' ⟨h2,_,hE⟩;have e1:(⟨M.enc.toArray⟩:ByteArray).data.toList=M.enc:=rfl;rw[e1,rdMach_enc hw (by omega)]at h2;obtain⟨m,he,hM⟩:=h2 rfl;exact⟨m,_,he,hM,rfl,rfl,M.scl_perm.symm.trans (List.reverse_perm _).symm,hE⟩
theorem MInv.appN{n:Nat}{M:Mach}(h:MInv n M)(s:List UInt8):(M.app s).2.names.length≤n:=by
 unfold Mach.app;split
 ·exact Nat.zero_le _
 ·split
  ·unfold Mach.cmd;split
   ·exact(app_ok h.cat _).len
   ·split
    ·exact Nat.zero_le _
    ·split
     ·rename_i r hr
      unfold Mach.told at hr
      split at hr
      ·rename_i l hl
       split at hr
       ·have hr2:l.r=r:=by injection hr
        rw[←hr2];exact(h.cl _ (qXW hl)).2.2.len
       ·cases hr
      ·cases hr
     ·exact(app_ok h.cat _).len
  ·exact Nat.zero_le _
theorem back_law(w:World)(l l2:List CRow)(lv lv2:Value)(hl:CmdsIn w l lv)(hl2:CmdsIn w l2 lv2)(hd:∀x∈l,x.1.disks.length≤17592186043904)(hd2:∀x∈l2,x.1.disks.length≤17592186043904) :
 Calls prog 8 #[lv,lv2] w fun e w'=>e=.returned (.bool true)∧Ext w w':=by
 obtain⟨LA,lc,rfl,hlc,hlm⟩:=hl.cap;have hll:=hl.len;unfold maxLen at hll hlm;have HL:=Hh hl;obtain⟨LA2,lc2,rfl,hlc2,hlm2⟩:=hl2.cap;have hll2:=hl2.len;unfold maxLen at hll2 hlm2;have HL2:=Hh hl2;have HDL:=Hh hd;have HDL2:=Hh hd2;clear hl hl2 hd hd2
 go_enter func8,ntmps8
 go_wp2_with fail
 refine(snew_any w).mono ?_
 rintro e w0 ⟨m,rfl,hM0,hE0⟩;have hX0:=At.new w0 62 zZM;have hEx:=(Er w0).alloc (.cells zZM 62);have HT0:=Hh hX0.there
 go_upto_region 3 with(refine wpList_store_mid rfl 62 _ _ rfl w0.heap.size 0 zZM rfl rfl HT0.out qQU (by simp[zZM,Value.oneCell']) ?_)
 rw[qXa];replace hX0:=At.cells_all hX0 (cs:=zZM) rfl;replace hEx:Ext w0 ((w0.alloc (.cells zZM 62)).setCells w0.heap.size 0 zZM.toList):=hEx.setCells (Nat.le_refl _) _ _;have hM1:=hM0.ext hEx;have X1:=hE0.trans hEx;have hR1:qXY ((w0.alloc (.cells zZM 62)).setCells w0.heap.size 0 zZM.toList) (.agg zZM) Mach.empty:=rm_empty _;have HXB:=Hh (show w.heap.size≤w0.heap.size from hE0.size);clear hM0 hE0 hEx HT0;generalize World.setCells _ _ _ _=W1 at hX0 hM1 X1 hR1⊢;generalize w0.heap.size=xb at hX0 HXB⊢;have hz39:zZM.size=39:=rfl;generalize zZM=ZX at hX0 hR1 hz39;go_wp2_with fail
 refine(sawake_any W1).mono ?_
 rintro e w2 ⟨rfl,hE2⟩;have hM2:=hM1.ext hE2;have hX2:=hX0.ext hE2;have hR2:=hR1.ext hE2;have X2:=X1.trans hE2;clear hM1 hX0 hR1 X1 hE2;obtain⟨B,hBe⟩:∃B,Hi w.heap.size=B:=⟨_,rfl⟩;have HwB:=Hh (show ∀k,B k→w.heap.size≤k by rw[←hBe];exact fun k hk=>hk);rw[hBe]at hM2;clear hBe;go_wp2_with fail
 go_loopw [7] (fun kv wr=>∃(k:Nat) (M:Mach) (X:Array Value),kv=.int .i64 (k:Int)∧k≤l.length∧k≤20∧qZo wr B m M∧MInv k M∧At wr xb 62 X∧X.size=39∧qXY wr (.agg X) M∧Ext w wr) (fun kv _=>20 - (intOf kv).toNat)
 case atStart=>exact⟨0,_,ZX,rfl,Nat.zero_le _,Nat.zero_le _,hM2,MInv.empty,hX2,hz39,hR2,X2⟩
 case round =>
  clear hM2 hX2 hR2 X2 hz39;obtain⟨k,M,X,rfl,hkl,hk,hM,hI,hX,h39,hR,Xk⟩:=hrel;have HI1:Hid ((prog.info? 62).map (·.size)=some X.toList.length):=Hh (by rw[Array.length_toList,h39];exact qQU);have HX0:=Hh h39;clear h39;obtain⟨fk,hfk⟩:∃fk:Bool,fk=decide (k<l.length∧k<20):=⟨_,rfl⟩;obtain⟨wo,hwo⟩:∃wo:World,wo=wr:=⟨_,rfl⟩
  go_upto_region 6 with fail
  go_cut [33]from 26 to 33 (fun tv wx=>tv=.bool fk∧wx=wo)
  case first =>
   clear hM hI hX hR Xk HI1 HX0
   by_cases h1:k<l.length
   ·by_cases h2:k<20
    ·obtain rfl:fk=true:=by rw[hfk];simp;omega
     clear hfk;go_wp2_with fail
     go_meet
     case rel=>exact⟨by first|rfl|(simp <;> omega),hwo.symm⟩
    ·obtain rfl:fk=false:=by rw[hfk];simp;omega
     clear hfk;go_wp2_with fail
     go_meet
     case rel=>exact⟨by first|rfl|(simp <;> omega),hwo.symm⟩
   ·obtain rfl:fk=false:=by rw[hfk];simp;omega
    clear hfk;go_wp2_with fail
    go_meet
    case rel=>exact⟨by first|rfl|(simp <;> omega),hwo.symm⟩
  case rest =>
   obtain⟨rfl,hwc⟩:=hcut;subst hwc;subst hwo;cases fk
   rotate_left
   ·have hfk2:k<l.length∧k<20:=by simpa using hfk.symm
    obtain⟨hlt,hlt20⟩:=hfk2;clear hfk;obtain⟨⟨x,dv⟩,hx⟩:∃x,l[k]? = some x:=⟨_,List.getElem?_eq_getElem hlt⟩;have hin:x.In dv _:=(HL.out.row _ (List.mem_of_getElem? hx)).ext Xk;have hdx:=HDL.out _ (List.mem_of_getElem? hx);have hS:=HL.out.ops.ext Xk
    obtain⟨lb,lo,rfl⟩:=qQW hS (fun e=>by
     have:=List.map_eq_nil_iff.1 e
     subst this;simp at hlt)
    obtain⟨r0,r1,r2,r3,r4,r5,r6,r7,r8,r9,r10⟩:=crow_cells hS hx;have HF:=Hh (sbytes_any _ x dv ⟨#[]⟩ hin hdx (by decide));have hsl:=seBytes_len x ⟨#[]⟩;clear hin hdx hx hS;go_wp2_with fail
    refine HF.out.mono ?_;rintro e w7 ⟨rfl,hE7⟩;clear r0 r1 r2 r3 r4 r5 r6 r7 r8 r9 r10 HF;generalize qXw x ⟨#[]⟩=bs at hsl⊢;have hM7:=hM.ext hE7;have hX7:=hX.ext hE7;have hR7:=hR.ext hE7;have X7:=Xk.trans hE7;clear hM hX hR Xk hE7
    have hsz:(⟨bs.toArray⟩:ByteArray).size≤1000:=by
     show bs.toArray.size≤1000
     rw[List.size_toArray];omega
    have HSZ:=Hh hsz;clear hsz hsl;have HA:=Hh (qJA w7 B m M _ hM7 hI (by omega) ⟨bs.toArray⟩ HSZ.out);rw[show(⟨bs.toArray⟩:ByteArray).data.toList=bs from rfl]at HA;go_wp2_with fail
    refine HA.out.mono ?_;rintro e w8 ⟨A8,c8,rfl,hO8,hM8,hK8⟩;have X8:Ext w w8:=Km.ext X7 hK8 (fun b hb=>HwB.out b hb);have hX8:=hK8.at_ _ _ _ (by decide) (by decide) (by decide) hX7;have hR8:=hR7.km hK8;clear HA hM7 X7 hX7 hR7 hK8;have HRA:=Hh (rmapply_any w8 (.agg X) M _ hR8 hI (by omega) ⟨bs.toArray⟩ HSZ.out);rw[show(⟨bs.toArray⟩:ByteArray).data.toList=bs from rfl]at HRA;have HRX:=Hh hX8.range
    go_upto_region 10 with fail
    go_wp2_with (refine wpList_load_mid rfl 62 _ rfl xb 0 rfl _ _ HRX.out underlying62 rfl HI1.out ?_)
    refine HRA.out.mono ?_;rintro e w9 ⟨rv,fA,fc,rfl,hR9,hN9,hE9⟩;obtain⟨X',rfl,hx39,hxone⟩:=hR9.openX;have hI9:=hI.app bs;have hM9:=hM8.ext hE9;have hX9:=hX8.ext hE9;have X9:=X8.trans hE9;clear hO8;clear HRA HRX hR8 hM8 hX8 X8 hE9 hI;generalize (M.app bs).1=M' at hR9 hM9 hI9⊢;generalize (M.app bs).2=R at hN9⊢;unfold qJP;have hz1:=(At.new w9 62 zZM).alloc (.cells zZR 64);have hz2:=At.new (w9.alloc (.cells zZM 62)) 64 zZR;rw[show(w9.alloc (.cells zZM 62)).heap.size=w9.heap.size+1 by simp]at hz2;have hEz:=((Er w9).alloc (.cells zZM 62)).alloc (.cells zZR 64);have HT1:Hid (((w9.alloc (.cells zZM 62)).alloc (.cells zZR 64)).there w9.heap.size 0 X'.size):=Hh (by rw[hx39];exact hz1.there);have HT2:Hid ((((w9.alloc (.cells zZM 62)).alloc (.cells zZR 64)).setCells w9.heap.size 0 X'.toList).there (w9.heap.size+1) 0 5):=Hh (World.there_setCells hz2.there _ 0 _);have HXI:Hid ((prog.info? 62).map (·.size)=some X'.size):=Hh (by rw[hx39];exact qQU);have HXI2:Hid ((prog.info? 62).map (·.size)=some X'.toList.length):=Hh (by rw[Array.length_toList,hx39];exact qQU);have HXO:=Hh hxone;have HX39:=Hh hx39;have hm1:=(At.cells_all hz1 (cs:=X') hx39.symm).chg (qQg (b:=w9.heap.size+1) (#[.int .i64 R.err,.int .u64 (R.blob:Int),.int .i64 R.size,.int .u32 (R.sum:Int),.slice fA R.names.length fc]:Array Value).toList 0) (by omega);have hm2:=At.cells_all (hz2.chg (qQg (b:=w9.heap.size) X'.toList 0) (by omega)) (cs:=#[.int .i64 R.err,.int .u64 (R.blob:Int),.int .i64 R.size,.int .u32 (R.sum:Int),.slice fA R.names.length fc]) rfl;have hEm:Ext w9 ((((w9.alloc (.cells zZM 62)).alloc (.cells zZR 64)).setCells w9.heap.size 0 X'.toList).setCells (w9.heap.size+1) 0 (#[.int .i64 R.err,.int .u64 (R.blob:Int),.int .i64 R.size,.int .u32 (R.sum:Int),.slice fA R.names.length fc]:Array Value).toList):=(hEz.setCells (Nat.le_refl _) _ _).setCells (by omega) _ _;have hxz:xb<w9.heap.size:=hX9.lt;clear hz1 hz2 hEz hxone hx39
    go_upto_region 11 with(first|(refine wpList_store_mid rfl 62 _ _ rfl w9.heap.size 0 X' rfl rfl HT1.out HXI.out HXO.out ?_)|(refine wpList_store_mid rfl 64 _ _ rfl (w9.heap.size+1) 0 #[.int .i64 R.err,.int .u64 (R.blob:Int),.int .i64 R.size,.int .u32 (R.sum:Int),.slice fA R.names.length fc] rfl rfl HT2.out qQo (by simp[Value.oneCell']) ?_))
    have hR4:=hR9.ext hEm;have hM4:=hM9.ext hEm;have hX4:=hX9.ext hEm;have X4:=X9.trans hEm;have hN4:=own_kx hN9 hEm;generalize World.setCells (World.setCells _ _ _ _) _ _ _=W4 at hm1 hm2 hR4 hM4 hX4 X4 hN4⊢;obtain⟨z,hz⟩:∃z,w9.heap.size=z:=⟨_,rfl⟩;rw[hz]at hm1 hm2 hxz⊢;clear hR9 hM9 hX9 X9 hN9 hEm HT1 HT2 hz;rw[qXa];have HRZ:=Hh hm1.range;have HTX:Hid (W4.there xb 0 X'.size):=Hh (by rw[HX39.out,←HX0.out];exact hX4.there);have hcx:Chg (· = xb) W4 (W4.setCells xb 0 X'.toList):=qQg _ _;have hX5:=At.cells_all hX4 (cs:=X') (by rw[HX39.out];exact HX0.out);have hR5:=hR4.chgM hX4 hcx;have hM5:=hM4.awayM hX4 hcx;have hm5:=hm2.chg hcx (by omega);have X5:Ext w (W4.setCells xb 0 X'.toList):=X4.setCells HXB.out _ _;have hN5:=qQa hN4 hcx (fun b hb e=>qQb hN4 hX4 (by decide) b hb e)
    go_upto_region 7 with(first|(refine wpList_load_mid rfl 62 _ rfl z 0 rfl _ _ HRZ.out underlying62 rfl HXI2.out ?_)|(refine wpList_store_mid rfl 62 _ _ rfl xb 0 X' rfl rfl HTX.out HXI.out HXO.out ?_))
    generalize World.setCells _ _ _ _=W5 at hX5 hR5 hM5 hm5 X5 hN5⊢;clear hR4 hM4 hX4 X4 hN4 hm1 hm2 HRZ HTX hcx;go_wp2_with fail
    go_roundw
    case rel=>exact⟨k+1,M',X',by go_num,by omega,by omega,hM5,hI9,hX5,HX39.out,hR5,X5⟩
    case measure=>simp[intOf];omega
   ·clear hfk;obtain⟨K1,hK1⟩:∃K1,K1=k:=⟨_,rfl⟩;have HWR:=Hh (mwrite_any hM hI (by omega));go_wp2_with fail
    refine HWR.out.mono ?_;rintro e w3 ⟨rfl,hE3⟩;have HRD:=Hh (sread_back w3 M k hI (by omega));clear HWR;go_wp2_with fail
    refine HRD.out.mono ?_;rintro e w4 ⟨m2,M2,rfl,hM4,hP2,hn2,hcl2,hE4⟩;have X4:=(Xk.trans hE3).trans hE4;have hR4:=((hR.ext hE3).ext hE4).perm hP2 hn2 hcl2;have hX4:=(hX.ext hE3).ext hE4;have hI4:=hI.perm hP2 hn2 hcl2;have hw3:w.heap.size≤w3.heap.size:=(Xk.trans hE3).size;obtain⟨B2,hBe⟩:∃B2,Hi w3.heap.size=B2:=⟨_,rfl⟩;have HwB2:=Hh (show ∀k,B2 k→w.heap.size≤k by rw[←hBe];exact fun k hk=>Nat.le_trans hw3 hk);rw[hBe]at hM4;clear HRD hE3 hE4 hM hR hX Xk hI hBe hw3 hP2 hn2 hcl2;have HIS:=Hh (sIs_any w4 B2 m2 M2 k (.agg X) hM4 hR4 hI4 (by omega));have HRX:=Hh hX4.range
    go_wp2_with (refine qXf rfl 62 _ rfl xb 0 rfl _ _ HRX.out underlying62 rfl HI1.out ?_)
    refine HIS.out.mono ?_;rintro e w5 ⟨rfl,hE5⟩;have X5:=X4.trans hE5;have hM5:=hM4.ext hE5;have hR5:=hR4.ext hE5;have hX5:=hX4.ext hE5;have hI5:MInv (K1+0) M2:=by rw[hK1];exact hI4
    clear HIS HRX hM4 hR4 hX4 X4 hE5 hI4
    go_upto_region 15 with fail
    rw[←hK1]at hk;generalize hkk:(k:Int)=kk;clear hkk hK1 hkl HI1;have hz39:=HX0.out;clear HX0;go_wp2_with fail
    go_loopw [13] (fun kv wr=>∃(k:Nat) (M:Mach) (X:Array Value),kv=.int .i64 (k:Int)∧k≤l2.length∧k≤12∧qZo wr B2 m2 M∧MInv (K1+k) M∧At wr xb 62 X∧X.size=39∧qXY wr (.agg X) M∧Ext w wr) (fun kv _=>12 - (intOf kv).toNat)
    case atStart=>exact⟨0,M2,X,rfl,Nat.zero_le _,Nat.zero_le _,hM5,hI5,hX5,hz39,hR5,X5⟩
    case round =>
     clear hM5 hI5 hX5 hz39 hR5 X5;obtain⟨k,M,X,rfl,hkl,hk12,hM,hI,hX,h39,hR,Xk⟩:=hrel;have HI1:Hid ((prog.info? 62).map (·.size)=some X.toList.length):=Hh (by rw[Array.length_toList,h39];exact qQU);have HX0:=Hh h39;clear h39;obtain⟨fk,hfk⟩:∃fk:Bool,fk=decide (k<l2.length∧k<12):=⟨_,rfl⟩;obtain⟨wo,hwo⟩:∃wo:World,wo=wr:=⟨_,rfl⟩
     go_upto_region 16 with fail
     go_cut [76]from 69 to 76 (fun tv wx=>tv=.bool fk∧wx=wo)
     case first =>
      clear hM hI hX hR Xk HI1 HX0
      by_cases h1:k<l2.length
      ·by_cases h2:k<12
       ·obtain rfl:fk=true:=by rw[hfk];simp;omega
        clear hfk;go_wp2_with fail
        go_meet
        case rel=>exact⟨by first|rfl|(simp <;> omega),hwo.symm⟩
       ·obtain rfl:fk=false:=by rw[hfk];simp;omega
        clear hfk;go_wp2_with fail
        go_meet
        case rel=>exact⟨by first|rfl|(simp <;> omega),hwo.symm⟩
      ·obtain rfl:fk=false:=by rw[hfk];simp;omega
       clear hfk;go_wp2_with fail
       go_meet
       case rel=>exact⟨by first|rfl|(simp <;> omega),hwo.symm⟩
     case rest =>
      obtain⟨rfl,hwc⟩:=hcut;subst hwc;subst hwo;cases fk
      ·clear hfk;go_wp2_with fail
       go_ret
       exact⟨rfl,Xk⟩
      ·have hfk2:k<l2.length∧k<12:=by simpa using hfk.symm
       obtain⟨hlt,hlt20⟩:=hfk2;clear hfk;obtain⟨⟨x,dv⟩,hx⟩:∃x,l2[k]? = some x:=⟨_,List.getElem?_eq_getElem hlt⟩;have hin:x.In dv _:=(HL2.out.row _ (List.mem_of_getElem? hx)).ext Xk;have hdx:=HDL2.out _ (List.mem_of_getElem? hx);have hS:=HL2.out.ops.ext Xk
       obtain⟨lb,lo,rfl⟩:=qQW hS (fun e=>by
        have:=List.map_eq_nil_iff.1 e
        subst this;simp at hlt)
       obtain⟨r0,r1,r2,r3,r4,r5,r6,r7,r8,r9,r10⟩:=crow_cells hS hx;have HF:=Hh (sbytes_any _ x dv ⟨#[]⟩ hin hdx (by decide));have hsl:=seBytes_len x ⟨#[]⟩;clear hin hdx hx hS;go_wp2_with fail
       refine HF.out.mono ?_;rintro e w7 ⟨rfl,hE7⟩;clear r0 r1 r2 r3 r4 r5 r6 r7 r8 r9 r10 HF;generalize qXw x ⟨#[]⟩=bs at hsl⊢;have hM7:=hM.ext hE7;have hX7:=hX.ext hE7;have hR7:=hR.ext hE7;have X7:=Xk.trans hE7;clear hM hX hR Xk hE7
       have hsz:(⟨bs.toArray⟩:ByteArray).size≤1000:=by
        show bs.toArray.size≤1000
        rw[List.size_toArray];omega
       have HSZ:=Hh hsz;clear hsz hsl;have HA:=Hh (qJA w7 B2 m2 M _ hM7 hI (by omega) ⟨bs.toArray⟩ HSZ.out);rw[show(⟨bs.toArray⟩:ByteArray).data.toList=bs from rfl]at HA;go_wp2_with fail
       refine HA.out.mono ?_;rintro e w8 ⟨A8,c8,rfl,hO8,hM8,hK8⟩;have X8:Ext w w8:=Km.ext X7 hK8 (fun b hb=>HwB2.out b hb);have hX8:=hK8.at_ _ _ _ (by decide) (by decide) (by decide) hX7;have hR8:=hR7.km hK8;clear HA hM7 X7 hX7 hR7 hK8;have hRN:=hI.appN bs;have h15:=At.new w8 36 #[.int .i64 (M.app bs).2.err,.int .u64 ((M.app bs).2.blob:Int),.int .i64 (M.app bs).2.size,.int .u32 ((M.app bs).2.sum:Int),.slice A8 (M.app bs).2.names.length c8];have hE15:=(Er w8).alloc (.cells #[.int .i64 (M.app bs).2.err,.int .u64 ((M.app bs).2.blob:Int),.int .i64 (M.app bs).2.size,.int .u32 ((M.app bs).2.sum:Int),.slice A8 (M.app bs).2.names.length c8] 36);unfold qZB
       go_upto_region 20 with fail
       replace hM8:=hM8.ext hE15;replace hX8:=hX8.ext hE15;replace hR8:=hR8.ext hE15;replace X8:=X8.trans hE15;replace hO8:=own_kx hO8 hE15;generalize w8.heap.size=p15 at h15⊢;generalize w8.alloc _=w8b at h15 hM8 hX8 hR8 X8 hO8⊢;clear hE15;have HRA:=Hh (rmapply_any w8b (.agg X) M _ hR8 hI (by omega) ⟨bs.toArray⟩ HSZ.out);rw[show(⟨bs.toArray⟩:ByteArray).data.toList=bs from rfl]at HRA;have HRX:=Hh hX8.range
       go_upto_region 20 with fail
       go_wp2_with (refine wpList_load_mid rfl 62 _ rfl xb 0 rfl _ _ HRX.out underlying62 rfl HI1.out ?_)
       refine HRA.out.mono ?_;rintro e w9 ⟨rv,fA,fc,rfl,hR9,hN9,hE9⟩;obtain⟨X',rfl,hx39,hxone⟩:=hR9.openX;have hI9:=hI.app bs;have hM9:=hM8.ext hE9;have hX9:=hX8.ext hE9;have X9:=X8.trans hE9;have h15b:=h15.ext hE9;have hO9:=own_kx hO8 hE9;clear h15 hO8;clear HRA HRX hR8 hM8 hX8 X8 hE9 hI;generalize (M.app bs).1=M' at hR9 hM9 hI9⊢;generalize (M.app bs).2=R at hN9 h15b hO9 hRN⊢;unfold qJP;have hz1:=(At.new w9 62 zZM).alloc (.cells zZR 64);have hz2:=At.new (w9.alloc (.cells zZM 62)) 64 zZR;rw[show(w9.alloc (.cells zZM 62)).heap.size=w9.heap.size+1 by simp]at hz2;have hEz:=((Er w9).alloc (.cells zZM 62)).alloc (.cells zZR 64);have HT1:Hid (((w9.alloc (.cells zZM 62)).alloc (.cells zZR 64)).there w9.heap.size 0 X'.size):=Hh (by rw[hx39];exact hz1.there);have HT2:Hid ((((w9.alloc (.cells zZM 62)).alloc (.cells zZR 64)).setCells w9.heap.size 0 X'.toList).there (w9.heap.size+1) 0 5):=Hh (World.there_setCells hz2.there _ 0 _);have HXI:Hid ((prog.info? 62).map (·.size)=some X'.size):=Hh (by rw[hx39];exact qQU);have HXI2:Hid ((prog.info? 62).map (·.size)=some X'.toList.length):=Hh (by rw[Array.length_toList,hx39];exact qQU);have HXO:=Hh hxone;have HX39:=Hh hx39;have hm1:=(At.cells_all hz1 (cs:=X') hx39.symm).chg (qQg (b:=w9.heap.size+1) (#[.int .i64 R.err,.int .u64 (R.blob:Int),.int .i64 R.size,.int .u32 (R.sum:Int),.slice fA R.names.length fc]:Array Value).toList 0) (by omega);have hm2:=At.cells_all (hz2.chg (qQg (b:=w9.heap.size) X'.toList 0) (by omega)) (cs:=#[.int .i64 R.err,.int .u64 (R.blob:Int),.int .i64 R.size,.int .u32 (R.sum:Int),.slice fA R.names.length fc]) rfl;have hEm:Ext w9 ((((w9.alloc (.cells zZM 62)).alloc (.cells zZR 64)).setCells w9.heap.size 0 X'.toList).setCells (w9.heap.size+1) 0 (#[.int .i64 R.err,.int .u64 (R.blob:Int),.int .i64 R.size,.int .u32 (R.sum:Int),.slice fA R.names.length fc]:Array Value).toList):=(hEz.setCells (Nat.le_refl _) _ _).setCells (by omega) _ _;have hxz:xb<w9.heap.size:=hX9.lt;clear hz1 hz2 hEz hxone hx39
       go_upto_region 21 with(first|(refine wpList_store_mid rfl 62 _ _ rfl w9.heap.size 0 X' rfl rfl HT1.out HXI.out HXO.out ?_)|(refine wpList_store_mid rfl 64 _ _ rfl (w9.heap.size+1) 0 #[.int .i64 R.err,.int .u64 (R.blob:Int),.int .i64 R.size,.int .u32 (R.sum:Int),.slice fA R.names.length fc] rfl rfl HT2.out qQo (by simp[Value.oneCell']) ?_))
       have hR4:=hR9.ext hEm;have hM4:=hM9.ext hEm;have hX4:=hX9.ext hEm;have X4:=X9.trans hEm;have hN4:=own_kx hN9 hEm;have h15c:=h15b.ext hEm;have hO4:=own_kx hO9 hEm;generalize World.setCells (World.setCells _ _ _ _) _ _ _=W4 at hm1 hm2 hR4 hM4 hX4 X4 hN4 h15c hO4⊢;obtain⟨z,hz⟩:∃z,w9.heap.size=z:=⟨_,rfl⟩;rw[hz]at hm1 hm2 hxz⊢;clear hR9 hM9 hX9 X9 hN9 hEm HT1 HT2 hz h15b hO9;rw[qXa];have HRZ:=Hh hm1.range;have HTX:Hid (W4.there xb 0 X'.size):=Hh (by rw[HX39.out,←HX0.out];exact hX4.there);have hcx:Chg (· = xb) W4 (W4.setCells xb 0 X'.toList):=qQg _ _;have hX5:=At.cells_all hX4 (cs:=X') (by rw[HX39.out];exact HX0.out);have hR5:=hR4.chgM hX4 hcx;have hM5:=hM4.awayM hX4 hcx;have hm5:=hm2.chg hcx (by omega);have X5:Ext w (W4.setCells xb 0 X'.toList):=X4.setCells HXB.out _ _;have hN5:=qQa hN4 hcx (fun b hb e=>qQb hN4 hX4 (by decide) b hb e);have h15d:=h15c.chg hcx (fun e=>At.ne h15c hX4 (by decide) e);have hO5:=qQa hO4 hcx (fun b hb e=>qQb hO4 hX4 (by decide) b hb e)
       go_upto_region 22 with(first|(refine wpList_load_mid rfl 62 _ rfl z 0 rfl _ _ HRZ.out underlying62 rfl HXI2.out ?_)|(refine wpList_store_mid rfl 62 _ _ rfl xb 0 X' rfl rfl HTX.out HXI.out HXO.out ?_))
       generalize World.setCells _ _ _ _=W5 at hX5 hR5 hM5 hm5 X5 hN5 h15d hO5⊢;clear hR4 hM4 hX4 X4 hN4 hm1 hm2 HRZ HTX hcx h15c hO4;have HSI:=Hh (sis_any W5 R A8 fA c8 fc hO5 hN5 (by omega));have HSM:=Hh (fun W (hE:Ext W5 W)=>sIs_any W B2 m2 M' _ (.agg X') (hM5.ext hE) (hR5.ext hE) hI9 (by omega));have HR15:=Hh h15d.range;have HRM:=Hh hm5.range;have HXF:=Hh (And.intro hX5 (And.intro hR5 (And.intro hM5 (And.intro X5 hI9))));have HRB:=Hh (fun W (hE:Ext W5 W)=>(hX5.ext hE).range);clear h15d hm5 hO5 hN5 hX5 hR5 hM5 X5 hI9
       go_wp2_with (first|(refine wpList_load_mid rfl 36 _ rfl p15 0 rfl _ _ HR15.out underlying36 rfl qQs ?_)|(refine wpList_load_mid rfl 64 _ rfl (z+1) 0 rfl _ _ HRM.out underlying64 rfl qQo ?_))
       refine HSI.out.mono ?_;rintro e w6 ⟨rfl,hE6⟩;have HRB2:=Hh (HRB.out _ hE6);have HSM2:=Hh (HSM.out _ hE6);clear HSI HSM HR15 HRM HRB
       go_wp2_with (refine qXf rfl 62 _ rfl xb 0 rfl _ _ HRB2.out underlying62 rfl HXI2.out ?_)
       refine HSM2.out.mono ?_;rintro e w7 ⟨rfl,hE7⟩;obtain⟨hX5,hR5,hM5,X5,hI9⟩:=HXF.out;have hEE:=hE6.trans hE7;have hXz:=hX5.ext hEE;have hRz:=hR5.ext hEE;have hMz:=hM5.ext hEE;have Xz:=X5.trans hEE;clear HXF HRB2 HSM2 hX5 hR5 hM5 X5 hE6 hE7 hEE;go_wp2_with fail
       go_roundw
       case rel=>exact⟨k+1,M',X',by go_num,by omega,by omega,hMz,hI9,hXz,HX39.out,hRz,Xz⟩
       case measure=>simp[intOf];omega
end Go.Proofs.YtimjipcplmnpbaaGreat
