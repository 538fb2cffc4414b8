/-
  Part 43 of what the law leans on.
-/
import Derived.Test.YtkkbfdencgdbhaaGreatDoorSA9
import Derived.Test.YtkkbfdencgdbhaaGreatDoorSA14
import Derived.Test.YtkkbfdencgdbhaaGreatDoorSA20
import Derived.Test.YtkkbfdencgdbhaaGreatDoorSA42
set_option linter.unusedVariables false
set_option linter.unusedSimpArgs false
set_option linter.unusedSectionVars false
namespace Go.Proofs.YtkkbfdencgdbhaaGreatDoor
open Go.RowKit Go.Sort
section
variable(w:World)(d m:Nat)(F:Fs)(hD:DkAt w d m F.dk)(hF:F.tot≤4194304)
include hD hF
set_option maxRecDepth 100000 in
theorem tread_any(k:Nat):Calls Tryz.prog 182 #[.pointer (some ⟨d,0,none⟩),.string (Fs.nm k)] w fun e w'=>e=.returned (.tuple #[.string ((F.at_ k).getD ByteArray.empty),.int .i64 0])∧Chg (fun j=>j=d) w w'∧DkAt w' d m F.dk:=by
 have cr:=read_any w d m F.dk hD (F.ok hF) (Fs.nm k)
 have ht:F.dk.tick=F.dk:=rfl
 rw[F.read_ k,ht]at cr
 generalize Fs.nm k=n at *
 cases ha:F.at_ k with
 | none =>
  rw[ha]at cr
  simp only at cr
  go_enter Tryz.func182,Tryz.ntmps182
  go_wp2_with fail
  refine cr.mono ?_
  rintro e w1 ⟨rfl,hC1,hD1⟩
  go_wp2_with fail
  go_ret2
  exact⟨rfl,hC1,hD1⟩
 | some t =>
  rw[ha]at cr
  simp only at cr
  go_enter Tryz.func182,Tryz.ntmps182
  go_wp2_with fail
  refine cr.mono ?_
  rintro e w1 ⟨rfl,hC1,hD1⟩
  go_wp2_with fail
  go_ret2
  exact⟨rfl,hC1,hD1⟩
omit hD hF in
set_option maxRecDepth 100000 in
theorem open_none(s:ByteArray)(hs:s.size<8):Calls Tryz.prog 216 #[.string s] w fun e w'=>e=.returned (.tuple #[.string ByteArray.empty,.int .i64 0,.int .i64 2])∧Ext w w':=by
 go_enter Tryz.func216,Tryz.ntmps216
 go_wp2_with fail
 go_ret3
 exact⟨rfl,Ext.refl w⟩
omit hD hF in
set_option maxRecDepth 100000 in
theorem only_none(s:ByteArray)(hs:s.size<8):Calls Tryz.prog 214 #[.string s] w fun e w'=>e=.returned (.tuple #[.string ByteArray.empty,.int .i64 2])∧Ext w w':=by
 have hc1:=open_none w s hs
 go_enter Tryz.func214,Tryz.ntmps214
 go_wp2_with fail
 refine hc1.mono ?_
 rintro e w1 ⟨rfl,hE1⟩
 go_wp2_with fail
 go_ret2
 exact⟨rfl,hE1⟩
theorem tonly_none(k:Nat)(hk:F.at_ k=none):Calls Tryz.prog 181 #[.pointer (some ⟨d,0,none⟩),.string (Fs.nm k)] w fun e w'=>e=.returned (.tuple #[.string ByteArray.empty,.bool false,.int .i64 0])∧Chg (fun j=>j=d) w w'∧DkAt w' d m F.dk:=by
 have cr:=tread_any w d m F hD hF k
 rw[hk]at cr
 simp only[Option.getD_none]at cr
 generalize Fs.nm k=n at *
 have co:=fun w'=>only_none w' ByteArray.empty (by decide)
 have he:ByteArray.empty=(⟨#[]⟩:ByteArray):=rfl
 simp only[he]at cr co⊢
 go_enter Tryz.func181,Tryz.ntmps181
 go_wp2_with fail
 refine cr.mono ?_
 rintro e w1 ⟨rfl,hC1,hD1⟩
 go_wp2_with fail
 refine(co w1).mono ?_
 rintro e w2 ⟨rfl,hE2⟩
 go_wp2_with fail
 go_ret3
 exact⟨rfl,hC1.ext_trans hE2,hD1.ext hE2⟩
theorem tonly_some(k:Nat)(c:ByteArray)(hk:F.at_ k=some ⟨(frameL c.data.toList).toArray⟩)(hc:c.size≤1048576)(hT:Tab w)(hTd:¬ 0=d):Calls Tryz.prog 181 #[.pointer (some ⟨d,0,none⟩),.string (Fs.nm k)] w fun e w'=>e=.returned (.tuple #[.string c,.bool true,.int .i64 0])∧Chg (fun j=>j=d) w w'∧DkAt w' d m F.dk:=by
 have cr:=tread_any w d m F hD hF k
 rw[hk]at cr
 simp only[Option.getD_some]at cr
 generalize Fs.nm k=n at *
 have co:=fun w' (hT':Tab w')=>only_frame w' ⟨(frameL c.data.toList).toArray⟩ c rfl hc hT'
 generalize (⟨(frameL c.data.toList).toArray⟩:ByteArray)=em at *
 clear hk
 go_enter Tryz.func181,Tryz.ntmps181
 go_wp2_with fail
 refine cr.mono ?_
 rintro e w1 ⟨rfl,hC1,hD1⟩
 go_wp2_with fail
 refine(co w1 (hT.chg hC1 hTd)).mono ?_
 rintro e w2 ⟨rfl,hE2⟩
 go_wp2_with fail
 go_ret3
 exact⟨rfl,hC1.ext_trans hE2,hD1.ext hE2⟩
variable(p:Nat)(c0 c1 c2 c3 c4 c5:Value)(hA:At w p 58 #[c0,c1,c2,c3,c4,c5])
include hA
set_option maxRecDepth 100000 in
theorem loadterm_none(hk:F.tm=none):Calls Tryz.prog 143 #[.pointer (some ⟨p,0,none⟩),.pointer (some ⟨d,0,none⟩)] w fun e w'=>e=.returned (.int .i64 0)∧Chg (fun j=>j=d∨j=p) w w'∧DkAt w' d m F.dk∧At w' p 58 #[c0,c1,c2,c3,c4,c5]:=by
 have co:Calls Tryz.prog 181 #[.pointer (some ⟨d,0,none⟩),.string ⟨#[116,101,114,109]⟩] w _:=tonly_none w d m F hD hF 2 hk
 have hpd:p≠d:=hA.ne hD.1 (by decide)
 go_enter Tryz.func143,Tryz.ntmps143
 go_wp2_with fail
 refine co.mono ?_
 rintro e w1 ⟨rfl,hC1,hD1⟩
 go_wp2_with fail
 go_ret
 exact⟨rfl,hC1.mono (fun _ _ h=>.inl h),hD1,hA.chg hC1 hpd⟩
set_option maxRecDepth 100000 in
theorem loadsnap_none(hk:F.sn=none):Calls Tryz.prog 144 #[.pointer (some ⟨p,0,none⟩),.pointer (some ⟨d,0,none⟩)] w fun e w'=>e=.returned (.int .i64 0)∧Chg (fun j=>j=d∨j=p) w w'∧DkAt w' d m F.dk∧At w' p 58 #[c0,c1,c2,c3,c4,c5]:=by
 have co:Calls Tryz.prog 181 #[.pointer (some ⟨d,0,none⟩),.string ⟨#[115,110,97,112]⟩] w _:=tonly_none w d m F hD hF 1 hk
 have hpd:p≠d:=hA.ne hD.1 (by decide)
 go_enter Tryz.func144,Tryz.ntmps144
 go_wp2_with fail
 refine co.mono ?_
 rintro e w1 ⟨rfl,hC1,hD1⟩
 go_wp2_with fail
 go_ret
 exact⟨rfl,hC1.mono (fun _ _ h=>.inl h),hD1,hA.chg hC1 hpd⟩
set_option maxRecDepth 100000 in
set_option maxHeartbeats 1000000 in
theorem loadterm_some(t v:Int)(ht:0≤t∧t≤1099511627776)(hv:0≤v∧v≤5)(hk:F.tm=some (tmB t v))(hT:Tab w)(hTd:¬ 0=d) :
 Calls Tryz.prog 143 #[.pointer (some ⟨p,0,none⟩),.pointer (some ⟨d,0,none⟩)] w fun e w'=>e=.returned (.int .i64 0)∧Chg (fun j=>j=d∨j=p) w w'∧DkAt w' d m F.dk∧At w' p 58 #[.int .i64 t,.int .i64 v,c2,c3,c4,c5]:=by
 obtain⟨c,hc⟩:∃c:ByteArray,c=⟨([t,v].flatMap ienc).toArray⟩:=⟨_,rfl⟩
 have hcl:c.data.toList=ienc t++(ienc v++[]):=by rw[hc];simp
 have hcs:c.size≤20:=by
  have h1:=ienc_length t
  have h2:=ienc_length v
  have h3:c.data.toList.length=c.size:=rfl
  rw[hcl]at h3
  simp at h3
  omega
 have hk':F.at_ 2=some ⟨(frameL c.data.toList).toArray⟩:=by rw[hc];exact hk
 have co:Calls Tryz.prog 181 #[.pointer (some ⟨d,0,none⟩),.string ⟨#[116,101,114,109]⟩] w _:=tonly_some w d m F hD hF 2 c hk' (by omega) hT hTd
 have hpd:p≠d:=hA.ne hD.1 (by decide)
 have hpm:p≠m:=fun e=>hD.2.ne_at hA e.symm
 have i1:(⟨c.data.toList,0⟩:Dc).i 1099511627776=(t.toNat,⟨ienc v++[],0⟩):=by rw[hcl];exact i_enc ht.1 ht.2 (by decide) _
 have i2:(⟨ienc v++[],0⟩:Dc).i 5=(v.toNat,⟨[],0⟩):=i_enc hv.1 hv.2 (by decide) _
 have n1:((t.toNat:Nat):Int)=t:=by omega
 have n2:((v.toNat:Nat):Int)=v:=by omega
 have I1:=Lib.hid i1
 have I2:=Lib.hid i2
 have N1:=Lib.hid n1
 have N2:=Lib.hid n2
 clear hk hk' hc hcl i1 i2 n1 n2
 go_enter Tryz.func143,Tryz.ntmps143
 go_wp2_with fail
 refine co.mono ?_
 rintro e w1 ⟨rfl,hC1,hD1⟩
 clear co
 have hA1:=hA.chg hC1 hpd
 go_wp2_with fail
 refine(from_any w1 c (by omega)).mono ?_
 rintro e w2 ⟨b,rfl,hb,hd2,hE2⟩
 have hA2:=hA1.ext hE2
 have hD2:=hD1.ext hE2
 have hpb:p≠b:=by have:=hA1.lt;omega
 have hbd:d≠b:=by have:=hD1.1.lt;omega
 have hbm:m≠b:=by have:=hD1.2.lt;omega
 have hC2:=hC1.ext_trans hE2
 have di1:=di_any w2 b c _ hd2 1099511627776 (by decide) (by decide)
 rw[I1.out]at di1
 simp only at di1
 rw[N1.out]at di1
 go_wp2_with fail
 refine di1.mono ?_
 rintro e w3 ⟨rfl,hC3,hd3⟩
 clear di1
 have hA3:=hA2.chg hC3 hpb
 have g0:=hA3.frozen 0
 have g1:p<w3.heap.size:=hA3.lt
 have k0:=hA3.cell 0
 simp at k0
 have hA4:=hA3.set 0 (.int .i64 t)
 have hd4:DecAt (w3.setCell ⟨p,0,none⟩ (.int .i64 t)) b c ⟨ienc v++[],0⟩:=hd3.chg ((Chg.refl (fun k=>k=p) w3).setCell (p:=⟨p,0,none⟩) (.inl rfl) (.int .i64 t)) (fun e=>hpb e.symm)
 have di2:=di_any _ b c _ hd4 5 (by decide) (by decide)
 rw[I2.out]at di2
 simp only at di2
 rw[N2.out]at di2
 go_wp2_with fail
 refine di2.mono ?_
 rintro e w5 ⟨rfl,hC5,hd5⟩
 clear di2
 have hA5:=hA4.chg hC5 hpb
 have g2:=hA5.frozen 1
 have g3:p<w5.heap.size:=hA5.lt
 have k1:=hA5.cell 1
 simp at k1
 have hA6:=hA5.set 1 (.int .i64 v)
 have hd6:DecAt (w5.setCell ⟨p,1,none⟩ (.int .i64 v)) b c ⟨[],0⟩:=hd5.chg ((Chg.refl (fun k=>k=p) w5).setCell (p:=⟨p,1,none⟩) (.inl rfl) (.int .i64 v)) (fun e=>hpb e.symm)
 have dd:=ddone_any _ b c _ hd6
 have h0:(⟨[],0⟩:Dc).done.err=0:=rfl
 rw[h0]at dd
 go_wp2_with fail
 refine dd.mono ?_
 rintro e w7 ⟨rfl,hC7,hd7⟩
 clear dd
 go_wp2_with fail
 go_ret
 have X:=((hC2.mono (S:=fun j=>j=d∨j=p) (fun _ _ h=>.inl h)).trans hC3 (S':=fun k=>k=b) (S:=fun j=>j=d∨j=p) (fun k hk e=>by have:=hC1.size;omega))
 have X2:=((X.setCell (p:=⟨p,0,none⟩) (.inl (.inr rfl)) (.int .i64 t)).trans hC5 (S:=fun j=>j=d∨j=p) (fun k hk e=>by have:=hC1.size;omega)).setCell (p:=⟨p,1,none⟩) (.inl (.inr rfl)) (.int .i64 v)
 have X3:=X2.trans hC7 (S:=fun j=>j=d∨j=p) (fun k hk e=>by have:=hC1.size;omega)
 have hA7:=hA6.chg hC7 hpb
 have Y1:=hD2.1.chg hC3 hbd
 have Z1:=hD2.2.chg hC3 hbm
 have s3:=(Chg.refl (fun k=>k=p) w3).setCell (p:=⟨p,0,none⟩) (.inl rfl) (.int .i64 t)
 have Y2:=(Y1.chg s3 hpd.symm).chg hC5 hbd
 have Z2:=(Z1.chg s3 hpm.symm).chg hC5 hbm
 have s5:=(Chg.refl (fun k=>k=p) w5).setCell (p:=⟨p,1,none⟩) (.inl rfl) (.int .i64 v)
 exact⟨rfl,X3,⟨(Y2.chg s5 hpd.symm).chg hC7 hbd,(Z2.chg s5 hpm.symm).chg hC7 hbm⟩,hA7⟩
end
end Go.Proofs.YtkkbfdencgdbhaaGreatDoor
namespace Go.Proofs.YtkkbfdencgdbhaaGreatDoor
open Go.RowKit Go.Sort
section
variable(w:World)(d m:Nat)(F:Fs)(hD:DkAt w d m F.dk)(hF:F.tot≤4194304)
include hD hF
section
variable(p:Nat)(c0 c1 c2 c3 c4 c5:Value)(hA:At w p 58 #[c0,c1,c2,c3,c4,c5])
include hA
set_option maxRecDepth 100000 in
set_option maxHeartbeats 1000000 in
theorem loadsnap_some(b0 t:Int)(s:ByteArray)(hb0:0≤b0∧b0≤1099511627776)(ht:0≤t∧t≤1099511627776)(hs:s.size≤1000000)(hk:F.sn=some (snB b0 t s))(hT:Tab w)(hTd:¬ 0=d) :
 Calls Tryz.prog 144 #[.pointer (some ⟨p,0,none⟩),.pointer (some ⟨d,0,none⟩)] w fun e w'=>e=.returned (.int .i64 0)∧Chg (fun j=>j=d∨j=p) w w'∧DkAt w' d m F.dk∧At w' p 58 #[c0,c1,.int .i64 b0,.int .i64 t,.string s,c5]:=by
 obtain⟨c,hc⟩:∃c:ByteArray,c=⟨([b0,t].flatMap ienc++[s].flatMap senc).toArray⟩:=⟨_,rfl⟩
 have hcl:c.data.toList=ienc b0++(ienc t++(senc s++[])):=by rw[hc];simp
 have hcs:c.size≤30+s.size:=by
  have h3:c.data.toList.length=c.size:=rfl
  rw[←h3,hc]
  exact(snB_len b0 t s).2
 have hk':F.at_ 1=some ⟨(frameL c.data.toList).toArray⟩:=by rw[hc];exact hk
 have co:Calls Tryz.prog 181 #[.pointer (some ⟨d,0,none⟩),.string ⟨#[115,110,97,112]⟩] w _:=tonly_some w d m F hD hF 1 c hk' (by omega) hT hTd
 have hpd:p≠d:=hA.ne hD.1 (by decide)
 have hpm:p≠m:=fun e=>hD.2.ne_at hA e.symm
 have i1:(⟨c.data.toList,0⟩:Dc).i 1099511627776=(b0.toNat,⟨ienc t++(senc s++[]),0⟩):=by rw[hcl];exact i_enc hb0.1 hb0.2 (by decide) _
 have i2:(⟨ienc t++(senc s++[]),0⟩:Dc).i 1099511627776=(t.toNat,⟨senc s++[],0⟩):=i_enc ht.1 ht.2 (by decide) _
 have i3:(⟨senc s++[],0⟩:Dc).s 1000000=(s.data.toList,⟨[],0⟩):=s_enc (by omega) (by decide) _
 have n1:((b0.toNat:Nat):Int)=b0:=by omega
 have n2:((t.toNat:Nat):Int)=t:=by omega
 have I1:=Lib.hid i1
 have I2:=Lib.hid i2
 have I3:=Lib.hid i3
 have N1:=Lib.hid n1
 have N2:=Lib.hid n2
 clear hk hk' hc hcl i1 i2 i3 n1 n2
 go_enter Tryz.func144,Tryz.ntmps144
 go_wp2_with fail
 refine co.mono ?_
 rintro e w1 ⟨rfl,hC1,hD1⟩
 clear co
 have hA1:=hA.chg hC1 hpd
 go_wp2_with fail
 refine(from_any w1 c (by omega)).mono ?_
 rintro e w2 ⟨b,rfl,hb,hd2,hE2⟩
 have hA2:=hA1.ext hE2
 have hD2:=hD1.ext hE2
 have hpb:p≠b:=by have:=hA1.lt;omega
 have hbd:d≠b:=by have:=hD1.1.lt;omega
 have hbm:m≠b:=by have:=hD1.2.lt;omega
 have hC2:=hC1.ext_trans hE2
 have di1:=di_any w2 b c _ hd2 1099511627776 (by decide) (by decide)
 rw[I1.out]at di1
 simp only at di1
 rw[N1.out]at di1
 go_wp2_with fail
 refine di1.mono ?_
 rintro e w3 ⟨rfl,hC3,hd3⟩
 clear di1
 have hA3:=hA2.chg hC3 hpb
 have g0:=hA3.frozen 2
 have g1:p<w3.heap.size:=hA3.lt
 have k0:=hA3.cell 2
 simp at k0
 have hA4:=hA3.set 2 (.int .i64 b0)
 have hd4:DecAt (w3.setCell ⟨p,2,none⟩ (.int .i64 b0)) b c _:=hd3.chg ((Chg.refl (fun k=>k=p) w3).setCell (p:=⟨p,2,none⟩) (.inl rfl) (.int .i64 b0)) (fun e=>hpb e.symm)
 have di2:=di_any _ b c _ hd4 1099511627776 (by decide) (by decide)
 rw[I2.out]at di2
 simp only at di2
 rw[N2.out]at di2
 go_wp2_with fail
 refine di2.mono ?_
 rintro e w5 ⟨rfl,hC5,hd5⟩
 clear di2
 have hA5:=hA4.chg hC5 hpb
 have g2:=hA5.frozen 3
 have g3:p<w5.heap.size:=hA5.lt
 have k1:=hA5.cell 3
 simp at k1
 have hA6:=hA5.set 3 (.int .i64 t)
 have hd6:DecAt (w5.setCell ⟨p,3,none⟩ (.int .i64 t)) b c _:=hd5.chg ((Chg.refl (fun k=>k=p) w5).setCell (p:=⟨p,3,none⟩) (.inl rfl) (.int .i64 t)) (fun e=>hpb e.symm)
 have ds:=ds_any _ b c _ hd6 1000000 (by decide) (by decide)
 rw[I3.out]at ds
 simp only at ds
 rw[show(⟨s.data.toList.toArray⟩:ByteArray)=s by simp]at ds
 go_wp2_with fail
 refine ds.mono ?_
 rintro e w7 ⟨rfl,hC7,hd7⟩
 clear ds
 have hA7:=hA6.chg hC7 hpb
 have g4:=hA7.frozen 4
 have g5:p<w7.heap.size:=hA7.lt
 have k2:=hA7.cell 4
 simp at k2
 have hA8:=hA7.set 4 (.string s)
 have hd8:DecAt (w7.setCell ⟨p,4,none⟩ (.string s)) b c ⟨[],0⟩:=hd7.chg ((Chg.refl (fun k=>k=p) w7).setCell (p:=⟨p,4,none⟩) (.inl rfl) (.string s)) (fun e=>hpb e.symm)
 have dd:=ddone_any _ b c _ hd8
 have h0:(⟨[],0⟩:Dc).done.err=0:=rfl
 rw[h0]at dd
 go_wp2_with fail
 refine dd.mono ?_
 rintro e w9 ⟨rfl,hC9,hd9⟩
 clear dd
 go_wp2_with fail
 go_ret
 have hz:=hC1.size
 have hbb:∀k,k<w.heap.size→k=b→(k=d∨k=p):=fun k hk e=>by omega
 have X:=((hC2.mono (S:=fun j=>j=d∨j=p) (fun _ _ h=>.inl h)).trans hC3 (S':=fun k=>k=b) (S:=fun j=>j=d∨j=p) hbb)
 have X2:=((X.setCell (p:=⟨p,2,none⟩) (.inl (.inr rfl)) (.int .i64 b0)).trans hC5 (S:=fun j=>j=d∨j=p) hbb).setCell (p:=⟨p,3,none⟩) (.inl (.inr rfl)) (.int .i64 t)
 have X3:=(X2.trans hC7 (S:=fun j=>j=d∨j=p) hbb).setCell (p:=⟨p,4,none⟩) (.inl (.inr rfl)) (.string s)
 have X4:=X3.trans hC9 (S:=fun j=>j=d∨j=p) hbb
 have s3:=(Chg.refl (fun k=>k=p) w3).setCell (p:=⟨p,2,none⟩) (.inl rfl) (.int .i64 b0)
 have s5:=(Chg.refl (fun k=>k=p) w5).setCell (p:=⟨p,3,none⟩) (.inl rfl) (.int .i64 t)
 have s7:=(Chg.refl (fun k=>k=p) w7).setCell (p:=⟨p,4,none⟩) (.inl rfl) (.string s)
 have Y:=((((((hD2.1.chg hC3 hbd).chg s3 hpd.symm).chg hC5 hbd).chg s5 hpd.symm).chg hC7 hbd).chg s7 hpd.symm).chg hC9 hbd
 have Z:=((((((hD2.2.chg hC3 hbm).chg s3 hpm.symm).chg hC5 hbm).chg s5 hpm.symm).chg hC7 hbm).chg s7 hpm.symm).chg hC9 hbm
 exact⟨rfl,X4,⟨Y,Z⟩,hA8.chg hC9 hpb⟩
omit hD hF hA in
set_option maxRecDepth 100000 in
theorem scan_none:Calls Tryz.prog 183 #[.string ⟨#[]⟩] w fun e w'=>e=.returned (.tuple #[.slice none 0 0,.int .i64 0])∧Ext w w':=by
 have hx:(⟨#[]⟩:ByteArray).extract 0 0=⟨#[]⟩:=rfl
 have co:=fun w'=>open_none w' ⟨#[]⟩ (by decide)
 go_enter Tryz.func183,Tryz.ntmps183
 go_wp2_with fail
 go_loopw [4,5] (fun lv av wr=>lv=.slice none 0 0∧av=.int .i64 0∧Ext w wr) (fun _ _ _=>0)
 case atStart=>exact⟨rfl,rfl,Ext.refl w⟩
 case round =>
  obtain⟨rfl,rfl,hE⟩:=hrel
  rename World=>wr
  have hsz:(⟨#[]⟩:ByteArray).size=0:=rfl
  go_wp2_with fail
  refine(co wr).mono ?_
  rintro e w2 ⟨rfl,hE2⟩
  go_wp2_with fail
  go_ret2
  exact⟨rfl,hE.trans hE2⟩
set_option maxRecDepth 100000 in
theorem loadlog_empty(b0:Int)(hc2:c2=.int .i64 b0)(hk:F.lg.getD ByteArray.empty=ByteArray.empty):Calls Tryz.prog 145 #[.pointer (some ⟨p,0,none⟩),.pointer (some ⟨d,0,none⟩)] w fun e w'=>e=.returned (.int .i64 0)∧Chg (fun j=>j=d∨j=p) w w'∧DkAt w' d m F.dk∧At w' p 58 #[c0,c1,c2,c3,c4,c5]:=by
 have co:Calls Tryz.prog 182 #[.pointer (some ⟨d,0,none⟩),.string ⟨#[108,111,103]⟩] w _:=tread_any w d m F hD hF 0
 have e0:F.at_ 0=F.lg:=rfl
 rw[e0,hk]at co
 have he:ByteArray.empty=(⟨#[]⟩:ByteArray):=rfl
 simp only[he]at co
 have hpd:p≠d:=hA.ne hD.1 (by decide)
 have hsz:(⟨#[]⟩:ByteArray).size=0:=rfl
 clear hk e0 he
 subst hc2
 go_enter Tryz.func145,Tryz.ntmps145
 go_wp2_with fail
 refine co.mono ?_
 rintro e w1 ⟨rfl,hC1,hD1⟩
 go_wp2_with fail
 refine(scan_none w1).mono ?_
 rintro e w2 ⟨rfl,hE2⟩
 have hA2:=(hA.chg hC1 hpd).ext hE2
 have k2:=hA2.cell 2
 simp at k2
 go_wp2_with fail
 go_loopw [48] (fun iv wr=>iv=.int .i64 0∧wr=w2) (fun _ _=>0)
 case atStart=>exact⟨rfl,rfl⟩
 case round =>
  obtain⟨rfl,rfl⟩:=hrel
  go_wp2_with fail
  go_ret
  exact⟨rfl,(hC1.mono (fun _ _ h=>.inl h)).ext_trans hE2,hD1.ext hE2,hA2⟩
end
end
end Go.Proofs.YtkkbfdencgdbhaaGreatDoor
namespace Go.Proofs.YtkkbfdencgdbhaaGreatDoor
open Go.RowKit Go.Sort
theorem q_results2{P:Program}{fn:Func}{p q:Tmp}{ty:TypeId}(h:fn.results=#[.cell p ty,.tmp q])(tmps:Array Value){b o:Nat}(ha:tmps.getD p undef=.pointer (some ⟨b,o,none⟩)){v:Value}{w:World}
 (hl:(loadVar ty ⟨b,o,none⟩).run P w=.ok v w):(results fn tmps).run P w=.ok (.tuple #[v,tmps.getD q undef]) w:=by
 unfold results
 rw[h]
 simp at ha
 simp[ha,asAddr,hl]
theorem q_anew{w:World}{g:Nat}{t:TypeId}{cs:Array Value}(h:At w g t cs){vs:Array Value}(hs:cs.size=vs.size):At (setAll w g 0 vs.toList) g t vs:=by
 have:=h.setAll (vs:=vs.toList) (k:=0) (by rw[Array.length_toList];omega)
 simpa using this
theorem ts_info:(Tryz.prog.info? 58).map (·.size)=some 6:=by kernel_rfl
theorem ts_load{w:World}{q:Nat}{cs:Array Value}(h:At w q 58 cs)(hs:cs.size=6):(loadVar 58 ⟨q,0,none⟩).run Tryz.prog w=.ok (.agg cs) w:=by
 have:=run_loadVar_mid (P:=Tryz.prog) w q 0 58 cs.toList _ h.range Tryz.underlying58 rfl (by rw[Array.length_toList,hs];exact ts_info)
 simpa using this
def tsZ(S:Ts):Array Value:=#[.int .i64 S.term,.int .i64 S.vote,.int .i64 S.base,.int .i64 S.bterm,.string S.sn,.slice none 0 0]
def fsSays(F:Fs)(S:Ts):Prop:=F.lg.getD ByteArray.empty=ByteArray.empty∧S.log=[] ∧
 ((F.tm=none∧S.term=0∧S.vote=0)∨(F.tm=some (tmB S.term S.vote)∧(0≤S.term∧S.term≤1099511627776)∧(0≤S.vote∧S.vote≤5))) ∧
 ((F.sn=none∧S.base=0∧S.bterm=0∧S.sn=ByteArray.empty)∨(F.sn=some (snB S.base S.bterm S.sn)∧(0≤S.base∧S.base≤1099511627776)∧(0≤S.bterm∧S.bterm≤1099511627776)∧S.sn.size≤1000000))
section
variable(w:World)(d m:Nat)(F:Fs)(hD:DkAt w d m F.dk)(hF:F.tot≤4194304)
include hD hF
set_option maxRecDepth 100000 in
set_option maxHeartbeats 1000000 in
theorem load_any(S:Ts)(hS:fsSays F S)(hT:Tab w)(hTd:¬ 0=d) :
 Calls Tryz.prog 97 #[.pointer (some ⟨d,0,none⟩)] w fun e w'=>e=.returned (.tuple #[.agg (tsZ S),.int .i64 0])∧Chg (fun j=>j=d) w w'∧DkAt w' d m F.dk:=by
 obtain⟨hlg,hS0,htm,hsn⟩:=hS
 have c1:∀w1 p,Ext w w1→w.heap.size≤p→At w1 p 58 #[.int .i64 0,.int .i64 0,.int .i64 0,.int .i64 0,.string ⟨#[]⟩,.slice none 0 0]→Calls Tryz.prog 143 #[.pointer (some ⟨p,0,none⟩),.pointer (some ⟨d,0,none⟩)] w1 fun e w'=>e=.returned (.int .i64 0)∧Chg (fun j=>j=d∨j=p) w1 w'∧DkAt w' d m F.dk∧At w' p 58 #[.int .i64 S.term,.int .i64 S.vote,.int .i64 0,.int .i64 0,.string ⟨#[]⟩,.slice none 0 0]:=fun w1 p hE hp hA=>by
  rcases htm with⟨h1,h2,h3⟩|⟨h1,h2,h3⟩
  ·rw[h2,h3]
   exact loadterm_none w1 d m F (hD.ext hE) hF p _ _ _ _ _ _ hA h1
  ·exact loadterm_some w1 d m F (hD.ext hE) hF p _ _ _ _ _ _ hA _ _ h2 h3 h1 (hT.ext hE) hTd
 have c2:∀w1 w2 p,Chg (fun j=>j=d∨j=p) w1 w2→Ext w w1→w.heap.size≤p→DkAt w2 d m F.dk→At w2 p 58 #[.int .i64 S.term,.int .i64 S.vote,.int .i64 0,.int .i64 0,.string ⟨#[]⟩,.slice none 0 0]→Calls Tryz.prog 144 #[.pointer (some ⟨p,0,none⟩),.pointer (some ⟨d,0,none⟩)] w2 fun e w'=>e=.returned (.int .i64 0)∧Chg (fun j=>j=d∨j=p) w2 w'∧DkAt w' d m F.dk∧At w' p 58 (tsZ S):=fun w1 w2 p hC hE hp hD2 hA=>by
  unfold tsZ
  rcases hsn with⟨h1,h2,h3,h4⟩|⟨h1,h2,h3,h4⟩
  ·rw[h2,h3,h4]
   exact loadsnap_none w2 d m F hD2 hF p _ _ _ _ _ _ hA h1
  ·exact loadsnap_some w2 d m F hD2 hF p _ _ _ _ _ _ hA _ _ _ h2 h3 h4 h1 ((hT.ext hE).chg hC (by rintro(e|e);exact hTd e;have:=hT.lt;omega)) hTd
 have c3:∀w2 p,DkAt w2 d m F.dk→At w2 p 58 (tsZ S)→Calls Tryz.prog 145 #[.pointer (some ⟨p,0,none⟩),.pointer (some ⟨d,0,none⟩)] w2 fun e w'=>e=.returned (.int .i64 0)∧Chg (fun j=>j=d∨j=p) w2 w'∧DkAt w' d m F.dk∧At w' p 58 (tsZ S):=fun w2 p hD2 hA =>
  loadlog_empty w2 d m F hD2 hF p _ _ _ _ _ _ hA S.base rfl hlg
 have hA0:=(At.new (w.alloc (.cells #[.int .i64 0,.int .i64 0,.int .i64 0,.int .i64 0,.string ⟨#[]⟩,.slice none 0 0] 58)) 58 #[.int .i64 0,.int .i64 0,.int .i64 0,.int .i64 0,.string ⟨#[]⟩,.slice none 0 0])
 have hR0:=(At.new w 58 #[.int .i64 0,.int .i64 0,.int .i64 0,.int .i64 0,.string ⟨#[]⟩,.slice none 0 0]).alloc (.cells #[.int .i64 0,.int .i64 0,.int .i64 0,.int .i64 0,.string ⟨#[]⟩,.slice none 0 0] 58)
 have hs1:(w.alloc (.cells #[.int .i64 0,.int .i64 0,.int .i64 0,.int .i64 0,.string ⟨#[]⟩,.slice none 0 0] 58)).heap.size=w.heap.size+1:=by simp
 rw[hs1]at hA0
 have hE0:=((Ext.refl w).alloc (.cells #[.int .i64 0,.int .i64 0,.int .i64 0,.int .i64 0,.string ⟨#[]⟩,.slice none 0 0] 58)).alloc (.cells #[.int .i64 0,.int .i64 0,.int .i64 0,.int .i64 0,.string ⟨#[]⟩,.slice none 0 0] 58)
 clear hlg hS0 htm hsn
 go_enter Tryz.func97,Tryz.ntmps97
 go_wp2_with fail
 generalize (w.alloc _).alloc _=w0 at hA0 hR0 hE0⊢
 obtain⟨x,hx⟩:∃x,w.heap.size=x:=⟨_,rfl⟩
 have hxw:w.heap.size≤x:=by omega
 rw[hx]at hA0 hR0⊢
 have hxs:=hE0.size
 clear hx hs1
 have l1:=c1 w0 (x+1) hE0 (by omega) hA0
 refine l1.mono ?_
 rintro e w1 ⟨rfl,hC1,hD1,hA1⟩
 clear l1 c1
 have hxd:x≠d:=by have:=hD.1.lt;omega
 have hR1:=hR0.chg hC1 (by rintro(e|e);exact hxd e;omega)
 have l2:=c2 w0 w1 (x+1) hC1 hE0 (by omega) hD1 hA1
 clear c2
 go_wp2_with fail
 refine l2.mono ?_
 rintro e w2 ⟨rfl,hC2,hD2,hA2⟩
 clear l2
 have hR2:=hR1.chg hC2 (by rintro(e|e);exact hxd e;omega)
 have l3:=c3 w2 (x+1) hD2 hA2
 clear c3
 go_wp2_with fail
 refine l3.mono ?_
 rintro e w3 ⟨rfl,hC3,hD3,hA3⟩
 clear l3
 have hR3:=hR2.chg hC3 (by rintro(e|e);exact hxd e;omega)
 have X:=(hC1.trans hC2 (S:=fun j=>j=d∨j=x+1) (fun _ _ h=>h)).trans hC3 (S:=fun j=>j=d∨j=x+1) (fun _ _ h=>h)
 clear hC1 hC2 hC3 hA1 hA2 hR1 hR2 hD1 hD2
 unfold tsZ at hA3
 have a0:=hA3.cell 0
 have a1:=hA3.cell 1
 have a2:=hA3.cell 2
 have a3:=hA3.cell 3
 have a4:=hA3.cell 4
 have a5:=hA3.cell 5
 have r0:=hR3.cell 0
 have r1:=hR3.cell 1
 have r2:=hR3.cell 2
 have r3:=hR3.cell 3
 have r4:=hR3.cell 4
 have r5:=hR3.cell 5
 have f0:=hR3.frozen 0
 have f1:=hR3.frozen 1
 have f2:=hR3.frozen 2
 have f3:=hR3.frozen 3
 have f4:=hR3.frozen 4
 have f5:=hR3.frozen 5
 have hlt:=hR3.lt
 simp only[List.getElem?_toArray,List.getElem?_cons_zero,List.getElem?_cons_succ]at a0 a1 a2 a3 a4 a5 r0 r1 r2 r3 r4 r5
 go_wp2_with fail
 have hR4:At (setAll w3 x 0 (tsZ S).toList) x 58 (tsZ S):=q_anew hR3 rfl
 have hC4:Chg (fun k=>k=x) w3 (setAll w3 x 0 (tsZ S).toList):=chg_setAll w3 x _ 0 w3 (Chg.refl _ _)
 refine bodyPost_ret (v:=.tuple #[.agg (tsZ S),.int .i64 0]) (q_results2 Tryz.results97 _ rfl (ts_load hR4 rfl)) rfl ?_
 have hx1:x≠m:=fun e=>hD3.2.ne_at hR3 e.symm
 refine⟨rfl,((hE0.chg_trans X).mono (S:=fun j=>j=d∨w.heap.size≤j) (fun k hk e=>by rcases e with e|e;exact .inl e;exact .inr (by omega))).trans hC4 (S:=fun j=>j=d∨w.heap.size≤j) (fun k hk e=>.inr (by have e':k=x:=e;omega)) |>.mono (fun k hk e=>by rcases e with e|e;exact e;omega),⟨hD3.1.chg hC4 (fun e=>hxd e.symm),hD3.2.chg hC4 (fun e=>hx1 e.symm)⟩⟩
end
end Go.Proofs.YtkkbfdencgdbhaaGreatDoor
