/-
  Part 19 of what the law leans on.
-/
import Derived.Test.YtiojjokfeknhcaaGreatSC16
import Derived.Test.YtiojjokfeknhcaaGreatSC18
import Derived.Laws.CopyOwn
namespace Go.Proofs.YtiojjokfeknhcaaGreat
set_option maxRecDepth 100000
set_option maxHeartbeats 8000000
set_option linter.unusedVariables false
set_option linter.unusedSimpArgs false
set_option linter.unusedSectionVars false
open _root_.Go.Proofs.Tryz
open Go.RowKit Go.Sort
theorem qJa(m:Int)(f:Nat→Bool)(k:Nat):qZB m (k+1) f=qZB m k f++(if f k then [⟨m,0,0,(k:Int)⟩]else []):=by
 unfold qZB;rw[List.range_succ,List.filter_append,List.map_append]
 congr 1
 by_cases h:f k=true <;> simp[h]
theorem qZu(m:Int)(f:Nat→Bool)(k:Nat):(qZB m k f).length≤k:=by
 unfold qZB;rw[List.length_map]
 have:=List.length_filter_le f (List.range k)
 simpa using this
theorem PlIn.vrow{W0 w:World}{pb c:Nat}{W:Wd}{V:WdV}{bv:Value}{vA:Option Addr}{vc:Nat}{L:List Bl}{VL:List Vl}{J:List Jb}(h:PlIn W0 w pb c W V bv (.slice vA VL.length vc) L VL J){k:Nat}{x:Vl}(hx:VL[k]? = some x) :
 ∃(vb o:Nat),vA=some ⟨vb,o,none⟩∧w.cell? ⟨vb,o+k * 3,none⟩=some (.bool x.closed)∧w.cell? ⟨vb,o+k * 3+1,none⟩=some (.bool x.erase)∧w.cell? ⟨vb,o+k * 3+2,none⟩=some (.int .i64 x.gen):=by
 have hS:Sln w (.slice vA VL.length vc) 3 (VL.map qQK):=Sln.of_own h.vl (fun r hr=>by
  obtain⟨p,_,rfl⟩:=List.mem_map.1 hr;rfl) (by simp)
 obtain⟨vb,o,e⟩:=qQQ hS (fun e=>by
  have h0:=List.map_eq_nil_iff.1 e;rw[h0]at hx;simp at hx)
 subst e;have hg:(VL.map qQK)[k]? = some (qQK x):=by rw[List.getElem?_map,hx];rfl
 have hc:=sln_get hS hg;exact⟨vb,o,rfl,hc 0 _ rfl,hc 1 _ rfl,hc 2 _ rfl⟩
theorem vols_at(n:Nat)(P:Pm){k:Nat}(hk:k<n):((List.range n).map P.vol)[k]? = some (P.vol k):=by
 rw[List.getElem?_map,List.getElem?_range hk];rfl
theorem wipes_any{W0 w:World}{B:Nat→Prop}{pb c mb mn:Nat}{W:Wd}{V:WdV}{bv vv:Value}{P:Pm}{n:Nat}{VL:List Vl}{J:List Jb}(h:PlIn W0 w pb c W V bv vv P.L VL J)(X:PlX W0 B c mb mn W V P n VL)(hJ:J.length≤1000) :
 Calls prog 22 #[.pointer (some ⟨pb,0,none⟩)] w fun e w'=>e=.returned (.tuple #[])∧PlIn W0 w' pb c W V bv vv P.L VL (J++qZB 2 W.vols.length (qXQ W P)):=by
 obtain⟨vA,vc,rfl⟩:=h.vlc;have hvl:VL.length=W.vols.length:=by rw[X.vl];simp
 have hvn:W.vols.length≤12:=X.hO.v;obtain⟨Vd,Vv,Vi,Vld,Vlv⟩:=V;obtain⟨LA,lc,hv',_⟩:=X.hW.v;simp only[]at hv';rw[List.length_map]at hv';subst hv';have HX:=Hh X;clear X;obtain⟨jv,h1,_⟩:=h.blk;have c11:=h1.cell 11;simp at c11;clear h1
 go_enter func22,ntmps22
 go_wp2_with fail
 clear c11
 go_loopw [9] (fun iv wr=>∃k:Nat,k≤W.vols.length∧iv=.int .i64 (k:Int)∧PlIn W0 wr pb c W ⟨Vd,.slice LA W.vols.length lc,Vi,Vld,Vlv⟩ bv (.slice vA VL.length vc) P.L VL (J++qZB 2 k (qXQ W P))) (fun iv _=>W.vols.length - (intOf iv).toNat)
 case atStart=>exact⟨0,Nat.zero_le _,rfl,by simpa[qZB]using h⟩
 case round =>
  clear h;obtain⟨k,hk,rfl,hp⟩:=hrel
  by_cases hlt:k<W.vols.length
  ·have hx:VL[k]? = some (P.vol k):=by rw[HX.out.vl];exact vols_at _ P hlt
   obtain⟨vb,o,rfl,r0,r1,r2⟩:=hp.vrow hx;have hS:=HX.out.hW.v.ext hp.ext;simp only[]at hS;obtain⟨lb,lo,rfl⟩:=qXJ hS hlt;obtain⟨s0,s1⟩:=qQP hS hlt;have hpl:=qJa 2 (qXQ W P) k;have hpn:=qZu 2 (qXQ W P) k;rw[show qXQ W P k=((qQk W.vols k).up&&(P.vol k).erase)from rfl]at hpl;generalize qZB 2 k (qXQ W P)=js at hp hpl hpn;have HP:=Hh hp;clear hp hS hx;obtain⟨u,hu⟩:∃u,u=(qQk W.vols k).up:=⟨_,rfl⟩;obtain⟨er,her⟩:∃u,u=(P.vol k).erase:=⟨_,rfl⟩;rw[←hu]at s0 hpl;rw[←her]at r1 hpl;clear hu her;have hYb:=At.new wr 85 #[.bool (P.vol k).closed,.bool er,.int .i64 (P.vol k).gen];have HEb:=Hh ((Er wr).alloc (.cells #[.bool (P.vol k).closed,.bool er,.int .i64 (P.vol k).gen] 85));have HP1:=Hh (HP.out.ext_ HEb.out)
   have p2:wr.cell? ⟨pb,2,none⟩=some (.slice (some ⟨lb,lo,none⟩) W.vols.length lc):=by
    obtain⟨jv,h1,_⟩:=HP.out.blk;exact h1.cell 2
   have hne:∀ {p:Addr} {v:Value},wr.cell? p=some v→(wr.alloc (.cells #[.bool (P.vol k).closed,.bool er,.int .i64 (P.vol k).gen] 85)).cell? p=some v:=fun h=>(Ext.cell HEb.out (qQv h)).trans h
   have s0':=hne s0;have p2':=hne p2
   go_upto_region 3 with fail
   clear r0 r1 r2 s0 s1 p2 hne;generalize wr.heap.size=yb at hYb;generalize wr.alloc _=W1 at hYb HEb HP1 s0' p2'⊢;have y1:=hYb.cell 1;simp at y1;clear hYb;cases u
   ·have HPL:Hid (qZB 2 (k+1) (qXQ W P)=js):=Hh (by rw[hpl];simp);clear hpl;go_wp2_with fail
    go_roundw
    case rel=>exact⟨k+1,by omega,by go_num,by rw[HPL.out];exact HP1.out⟩
    case measure=>simp[intOf];omega
   ·cases er
    ·have HPL:Hid (qZB 2 (k+1) (qXQ W P)=js):=Hh (by rw[hpl];simp);clear hpl;go_wp2_with fail
     go_roundw
     case rel=>exact⟨k+1,by omega,by go_num,by rw[HPL.out];exact HP1.out⟩
     case measure=>simp[intOf];omega
    ·have HPL:Hid (qZB 2 (k+1) (qXQ W P)=js++[⟨2,0,0,(k:Int)⟩]):=Hh (by rw[hpl];simp);clear hpl;have HA:=Hh (qZ8 HP1.out (by simp;omega) ⟨2,0,0,(k:Int)⟩);go_wp2_with fail
     refine HA.out.mono ?_;rintro e W9 ⟨rfl,hp9,_⟩;rw[List.append_assoc]at hp9;have HP9:=Hh hp9;clear hp9 HA;go_wp2_with fail
     go_roundw
     case rel=>exact⟨k+1,by omega,by go_num,by rw[HPL.out];exact HP9.out⟩
     case measure=>simp[intOf];omega
  ·obtain rfl:k=W.vols.length:=by omega
   go_wp2_with fail
   go_end0
   exact⟨rfl,hp⟩
theorem closes_any{W0 w:World}{B:Nat→Prop}{pb c mb mn:Nat}{W:Wd}{V:WdV}{bv vv:Value}{P:Pm}{n:Nat}{VL:List Vl}{J:List Jb}(h:PlIn W0 w pb c W V bv vv P.L VL J)(X:PlX W0 B c mb mn W V P n VL)(hJ:J.length≤1000) :
 Calls prog 26 #[.pointer (some ⟨pb,0,none⟩)] w fun e w'=>e=.returned (.tuple #[])∧PlIn W0 w' pb c W V bv vv P.L VL (J++qZB 6 W.vols.length (qZL W P)):=by
 obtain⟨vA,vc,rfl⟩:=h.vlc;have hvl:VL.length=W.vols.length:=by rw[X.vl];simp
 have hvn:W.vols.length≤12:=X.hO.v;obtain⟨Vd,Vv,Vi,Vld,Vlv⟩:=V;obtain⟨LA,lc,hv',_⟩:=X.hW.v;simp only[]at hv';rw[List.length_map]at hv';subst hv';have HX:=Hh X;clear X;obtain⟨jv,h1,_⟩:=h.blk;have c11:=h1.cell 11;simp at c11;clear h1
 go_enter func26,ntmps26
 go_wp2_with fail
 clear c11
 go_loopw [10] (fun iv wr=>∃k:Nat,k≤W.vols.length∧iv=.int .i64 (k:Int)∧PlIn W0 wr pb c W ⟨Vd,.slice LA W.vols.length lc,Vi,Vld,Vlv⟩ bv (.slice vA VL.length vc) P.L VL (J++qZB 6 k (qZL W P))) (fun iv _=>W.vols.length - (intOf iv).toNat)
 case atStart=>exact⟨0,Nat.zero_le _,rfl,by simpa[qZB]using h⟩
 case round =>
  clear h;obtain⟨k,hk,rfl,hp⟩:=hrel
  by_cases hlt:k<W.vols.length
  ·have hx:VL[k]? = some (P.vol k):=by rw[HX.out.vl];exact vols_at _ P hlt
   obtain⟨vb,o,rfl,r0,r1,r2⟩:=hp.vrow hx;have hS:=HX.out.hW.v.ext hp.ext;simp only[]at hS;obtain⟨lb,lo,rfl⟩:=qXJ hS hlt;obtain⟨s0,s1⟩:=qQP hS hlt;have hpl:=qJa 6 (qZL W P) k;have hpn:=qZu 6 (qZL W P) k;rw[show qZL W P k=((qQk W.vols k).up && !(P.vol k).closed && !(P.vol k).erase&&decide ((qQk W.vols k).free<W.reserve))from rfl]at hpl;generalize qZB 6 k (qZL W P)=js at hp hpl hpn;have HP:=Hh hp;clear hp hS hx;obtain⟨u,hu⟩:∃u,u=(qQk W.vols k).up:=⟨_,rfl⟩;obtain⟨fr,hfr⟩:∃u,u=(qQk W.vols k).free:=⟨_,rfl⟩;obtain⟨er,her⟩:∃u,u=(P.vol k).erase:=⟨_,rfl⟩;obtain⟨cl,hcl⟩:∃u,u=(P.vol k).closed:=⟨_,rfl⟩;obtain⟨gn,hgn⟩:∃u,u=(P.vol k).gen:=⟨_,rfl⟩;rw[←hu]at s0 hpl;rw[←hfr]at s1 hpl;rw[←her]at r1 hpl;rw[←hcl]at r0 hpl;rw[←hgn]at r2;clear hu hfr her hcl hgn;have hYb:=At.new wr 85 #[.bool cl,.bool er,.int .i64 gn];have HEb:=Hh ((Er wr).alloc (.cells #[.bool cl,.bool er,.int .i64 gn] 85));have HP1:=Hh (HP.out.ext_ HEb.out);obtain⟨jv,h1,h1x⟩:=HP.out.blk;have p2:wr.cell? ⟨pb,2,none⟩=some (.slice (some ⟨lb,lo,none⟩) W.vols.length lc):=h1.cell 2;have p9:wr.cell? ⟨pb,9,none⟩=some (.int .i64 W.reserve):=h1.cell 9;have p3:wr.cell? ⟨pb,3,none⟩=some Vi:=h1.cell 3;have p0:wr.cell? ⟨pb,0,none⟩=some (.pointer (some ⟨c,0,none⟩)):=h1.cell 0;clear h1 h1x;have hne:∀ {p:Addr} {v:Value},wr.cell? p=some v→(wr.alloc (.cells #[.bool cl,.bool er,.int .i64 gn] 85)).cell? p=some v:=fun h=>(Ext.cell HEb.out (qQv h)).trans h
   have s0':=hne s0;have s1':=hne s1;have p2':=hne p2;have p9':=hne p9
   go_upto_region 3 with fail
   clear r0 r1 r2 s0 s1 p0 p2 p3 p9 hne;generalize wr.heap.size=yb at hYb;generalize wr.alloc _=W1 at hYb HEb HP1 s0' s1' p2' p9'⊢;have hZb:=At.new W1 55 #[.bool u,.int .i64 fr];have HEz:=Hh ((Er W1).alloc (.cells #[.bool u,.int .i64 fr] 55));have HP2:=Hh (HP1.out.ext_ HEz.out);have hY2:=hYb.ext HEz.out;have p92:=(Ext.cell HEz.out (qQv p9')).trans p9'
   go_upto_region 4 with fail
   clear s0' s1' p2' p9' hYb;generalize W1.heap.size=zb at hZb;generalize W1.alloc _=W2 at hZb HP2 hY2 p92 HEz⊢;have rg:∀ {p:Addr} {v:Value},W2.cell? p=some v→∀d os,(grow (redrawn W2 d) os).cell? p=some v:=fun h d os=>(Ext.cell (qQn W2 d os) (qQv h)).trans h
   have y0:=rg (hY2.cell 0);have y1:=rg (hY2.cell 1);have z0:=rg (hZb.cell 0);have z1:=rg (hZb.cell 1);have z9:=rg p92;simp at y0 y1 z0 z1;clear rg hY2 hZb p92;cases u
   ·refine qQc (by kernel_rfl) (by kernel_rfl) ?_
    repeat (go_big_quiet_step (fail))
    refine wpQuiet_nil ?_;intro W8 hE8;have HP8:=Hh (HP2.out.ext_ hE8);clear y0 y1 z0 z1 z9;have HPL:Hid (qZB 6 (k+1) (qZL W P)=js):=Hh (by rw[hpl];simp);clear hpl;go_wp2_with fail
    go_roundw
    case rel=>exact⟨k+1,by omega,by go_num,by rw[HPL.out];exact HP8.out⟩
    case measure=>simp[intOf];omega
   ·cases cl
    ·cases er
     ·by_cases hf:fr<W.reserve
      ·have t1:decide (fr<W.reserve)=true:=by simpa using hf
       refine qQc (by kernel_rfl) (by kernel_rfl) ?_
       repeat (go_big_quiet_step (fail))
       refine wpQuiet_nil ?_;intro W8 hE8;have HP8:=Hh (HP2.out.ext_ hE8);clear y0 y1 z0 z1 z9;have HPL:Hid (qZB 6 (k+1) (qZL W P)=js++[⟨6,0,0,(k:Int)⟩]):=Hh (by rw[hpl];simp[hf]);clear hpl;have HA:=Hh (qZ8 HP8.out (by simp;omega) ⟨6,0,0,(k:Int)⟩);go_wp2_with fail
       refine HA.out.mono ?_;rintro e W9 ⟨rfl,hp9,_⟩;rw[List.append_assoc]at hp9;have HP9:=Hh hp9;clear hp9 HA;go_wp2_with fail
       go_roundw
       case rel=>exact⟨k+1,by omega,by go_num,by rw[HPL.out];exact HP9.out⟩
       case measure=>simp[intOf];omega
      ·have t1:decide (fr<W.reserve)=false:=by simpa using hf
       refine qQc (by kernel_rfl) (by kernel_rfl) ?_
       repeat (go_big_quiet_step (fail))
       refine wpQuiet_nil ?_;intro W8 hE8;have HP8:=Hh (HP2.out.ext_ hE8);clear y0 y1 z0 z1 z9;have HPL:Hid (qZB 6 (k+1) (qZL W P)=js):=Hh (by rw[hpl];simp[hf]);clear hpl;go_wp2_with fail
       go_roundw
       case rel=>exact⟨k+1,by omega,by go_num,by rw[HPL.out];exact HP8.out⟩
       case measure=>simp[intOf];omega
     ·refine qQc (by kernel_rfl) (by kernel_rfl) ?_
      repeat (go_big_quiet_step (fail))
      refine wpQuiet_nil ?_;intro W8 hE8;have HP8:=Hh (HP2.out.ext_ hE8);clear y0 y1 z0 z1 z9;have HPL:Hid (qZB 6 (k+1) (qZL W P)=js):=Hh (by rw[hpl];simp);clear hpl;go_wp2_with fail
      go_roundw
      case rel=>exact⟨k+1,by omega,by go_num,by rw[HPL.out];exact HP8.out⟩
      case measure=>simp[intOf];omega
    ·refine qQc (by kernel_rfl) (by kernel_rfl) ?_
     repeat (go_big_quiet_step (fail))
     refine wpQuiet_nil ?_;intro W8 hE8;have HP8:=Hh (HP2.out.ext_ hE8);clear y0 y1 z0 z1 z9;have HPL:Hid (qZB 6 (k+1) (qZL W P)=js):=Hh (by rw[hpl];simp);clear hpl;go_wp2_with fail
     go_roundw
     case rel=>exact⟨k+1,by omega,by go_num,by rw[HPL.out];exact HP8.out⟩
     case measure=>simp[intOf];omega
  ·obtain rfl:k=W.vols.length:=by omega
   go_wp2_with fail
   go_end0
   exact⟨rfl,hp⟩
theorem erases_any{W0 w:World}{B:Nat→Prop}{pb c mb mn:Nat}{W:Wd}{V:WdV}{bv vv:Value}{P:Pm}{n:Nat}{VL:List Vl}{J:List Jb}(h:PlIn W0 w pb c W V bv vv P.L VL J)(X:PlX W0 B c mb mn W V P n VL)(hJ:J.length≤1000) :
 Calls prog 28 #[.pointer (some ⟨pb,0,none⟩)] w fun e w'=>e=.returned (.tuple #[])∧PlIn W0 w' pb c W V bv vv P.L VL (J++qZB 8 W.vols.length (qZF W P)):=by
 obtain⟨vA,vc,rfl⟩:=h.vlc;have hvl:VL.length=W.vols.length:=by rw[X.vl];simp
 have hvn:W.vols.length≤12:=X.hO.v;obtain⟨Vd,Vv,Vi,Vld,Vlv⟩:=V;obtain⟨LA,lc,hv',_⟩:=X.hW.v;simp only[]at hv';rw[List.length_map]at hv';subst hv';have HX:=Hh X;clear X;obtain⟨jv,h1,_⟩:=h.blk;have c11:=h1.cell 11;simp at c11;clear h1
 go_enter func28,ntmps28
 go_wp2_with fail
 clear c11
 go_loopw [11] (fun iv wr=>∃k:Nat,k≤W.vols.length∧iv=.int .i64 (k:Int)∧PlIn W0 wr pb c W ⟨Vd,.slice LA W.vols.length lc,Vi,Vld,Vlv⟩ bv (.slice vA VL.length vc) P.L VL (J++qZB 8 k (qZF W P))) (fun iv _=>W.vols.length - (intOf iv).toNat)
 case atStart=>exact⟨0,Nat.zero_le _,rfl,by simpa[qZB]using h⟩
 case round =>
  clear h;obtain⟨k,hk,rfl,hp⟩:=hrel
  by_cases hlt:k<W.vols.length
  ·have hx:VL[k]? = some (P.vol k):=by rw[HX.out.vl];exact vols_at _ P hlt
   obtain⟨vb,o,rfl,r0,r1,r2⟩:=hp.vrow hx;have hS:=HX.out.hW.v.ext hp.ext;simp only[]at hS;obtain⟨lb,lo,rfl⟩:=qXJ hS hlt;obtain⟨s0,s1⟩:=qQP hS hlt;have hpl:=qJa 8 (qZF W P) k;have hpn:=qZu 8 (qZF W P) k;rw[show qZF W P k=((qQk W.vols k).up&&(P.vol k).closed && !(P.vol k).erase&&decide (0<W.items.getD k 0)&&decide ((P.onVol k).length=0))from rfl]at hpl;generalize qZB 8 k (qZF W P)=js at hp hpl hpn;have HP:=Hh hp;clear hp hS hx;obtain⟨u,hu⟩:∃u,u=(qQk W.vols k).up:=⟨_,rfl⟩;obtain⟨er,her⟩:∃u,u=(P.vol k).erase:=⟨_,rfl⟩;obtain⟨cl,hcl⟩:∃u,u=(P.vol k).closed:=⟨_,rfl⟩;obtain⟨gn,hgn⟩:∃u,u=(P.vol k).gen:=⟨_,rfl⟩;rw[←hu]at s0 hpl;rw[←her]at r1 hpl;rw[←hcl]at r0 hpl;rw[←hgn]at r2;clear hu her hcl hgn;have hYb:=At.new wr 85 #[.bool cl,.bool er,.int .i64 gn];have HEb:=Hh ((Er wr).alloc (.cells #[.bool cl,.bool er,.int .i64 gn] 85));have HP1:=Hh (HP.out.ext_ HEb.out);obtain⟨jv,h1,h1x⟩:=HP.out.blk;have p2:wr.cell? ⟨pb,2,none⟩=some (.slice (some ⟨lb,lo,none⟩) W.vols.length lc):=h1.cell 2;have p9:wr.cell? ⟨pb,9,none⟩=some (.int .i64 W.reserve):=h1.cell 9;have p3:wr.cell? ⟨pb,3,none⟩=some Vi:=h1.cell 3;have p0:wr.cell? ⟨pb,0,none⟩=some (.pointer (some ⟨c,0,none⟩)):=h1.cell 0;clear h1 h1x;have hne:∀ {p:Addr} {v:Value},wr.cell? p=some v→(wr.alloc (.cells #[.bool cl,.bool er,.int .i64 gn] 85)).cell? p=some v:=fun h=>(Ext.cell HEb.out (qQv h)).trans h
   have s0':=hne s0;have p2':=hne p2;have p3':=hne p3;have p0':=hne p0
   go_upto_region 3 with fail
   clear r0 r1 r2 s0 s1 p0 p2 p3 p9 hne;generalize wr.heap.size=yb at hYb;generalize wr.alloc _=W1 at hYb HEb HP1 s0' p2' p3' p0'⊢;have y0:=hYb.cell 0;have y1:=hYb.cell 1;simp at y0 y1;clear hYb;cases u
   ·have HPL:Hid (qZB 8 (k+1) (qZF W P)=js):=Hh (by rw[hpl];simp);clear hpl;go_wp2_with fail
    go_roundw
    case rel=>exact⟨k+1,by omega,by go_num,by rw[HPL.out];exact HP1.out⟩
    case measure=>simp[intOf];omega
   ·cases cl
    ·have HPL:Hid (qZB 8 (k+1) (qZF W P)=js):=Hh (by rw[hpl];simp);clear hpl;go_wp2_with fail
     go_roundw
     case rel=>exact⟨k+1,by omega,by go_num,by rw[HPL.out];exact HP1.out⟩
     case measure=>simp[intOf];omega
    ·cases er
     ·have HIT:=Hh (itemi_any W1 Vi W.items (HX.out.hW.i.ext HP1.out.ext) HX.out.hO.i k);obtain⟨it,hit⟩:∃it,it=W.items.getD k 0:=⟨_,rfl⟩;rw[←hit]at HIT hpl;clear hit
      go_upto_region 3 with fail
      have HLV:=fun w2 (hE:Ext W1 w2)=>clive_any (HX.out.cat.ext (HP1.out.ext.trans hE)) HX.out.inv (by have:=HX.out.hn;omega) k (by omega)
      have hon:P.L.filter (onV (k:Int))=P.onVol k:=rfl;rw[hon]at HLV;clear hon;generalize (P.onVol k).length=lv at hpl HLV;generalize qQE (P.onVol k)=pp at HLV;go_wp2_with fail
      refine HIT.out.mono ?_;rintro e W2 ⟨rfl,hE2⟩;clear HIT;have HP2:=Hh (HP1.out.ext_ hE2)
      by_cases hi0:it≤0
      ·have t1:decide (it≤0)=true:=by simpa using hi0
       have HPL:Hid (qZB 8 (k+1) (qZF W P)=js):=Hh (by rw[hpl];simp;omega);clear hpl HLV;go_wp2_with fail
       go_roundw
       case rel=>exact⟨k+1,by omega,by go_num,by rw[HPL.out];exact HP2.out⟩
       case measure=>simp[intOf];omega
      ·have t1:decide (it≤0)=false:=by simpa using hi0
       have hi1:0<it:=by omega
       have p02:=(Ext.cell hE2 (qQv p0')).trans p0';have HL2:=Hh (HLV W2 hE2);clear HLV;go_wp2_with fail
       refine HL2.out.mono ?_;rintro e W3 ⟨rfl,hE3⟩;clear HL2;have HP3:=Hh (HP2.out.ext_ hE3)
       by_cases hl0:lv=0
       ·subst hl0;have HPL:Hid (qZB 8 (k+1) (qZF W P)=js++[⟨8,0,0,(k:Int)⟩]):=Hh (by rw[hpl];simp[hi1]);clear hpl;have HA:=Hh (qZ8 HP3.out (by simp;omega) ⟨8,0,0,(k:Int)⟩);go_wp2_with fail
        refine HA.out.mono ?_;rintro e W9 ⟨rfl,hp9,_⟩;rw[List.append_assoc]at hp9;have HP9:=Hh hp9;clear hp9 HA;go_wp2_with fail
        go_roundw
        case rel=>exact⟨k+1,by omega,by go_num,by rw[HPL.out];exact HP9.out⟩
        case measure=>simp[intOf];omega
       ·have t2:¬ lv=0:=hl0;have HPL:Hid (qZB 8 (k+1) (qZF W P)=js):=Hh (by rw[hpl];simp[hl0]);clear hpl;go_wp2_with fail
        go_roundw
        case rel=>exact⟨k+1,by omega,by go_num,by rw[HPL.out];exact HP3.out⟩
        case measure=>simp[intOf];omega
     ·have HPL:Hid (qZB 8 (k+1) (qZF W P)=js):=Hh (by rw[hpl];simp);clear hpl;go_wp2_with fail
      go_roundw
      case rel=>exact⟨k+1,by omega,by go_num,by rw[HPL.out];exact HP1.out⟩
      case measure=>simp[intOf];omega
  ·obtain rfl:k=W.vols.length:=by omega
   go_wp2_with fail
   go_end0
   exact⟨rfl,hp⟩
open Go.RowKit Go.Sort
def padI(n:Nat)(l:List Int):List Int:=l.take n++List.replicate (n - l.length) 0
theorem padI_len(n:Nat)(l:List Int):(padI n l).length=n:=by unfold padI;simp;omega
theorem padI_get{n i:Nat}(l:List Int)(hi:i<n):(padI n l).getD i 0=l.getD i 0:=by
 unfold padI;rw[List.getD_eq_getElem?_getD,List.getD_eq_getElem?_getD]
 by_cases h:i<l.length
 ·rw[List.getElem?_append_left (by simp;omega),List.getElem?_take,if_pos hi]
 ·have hl:(l.take n).length≤i:=by simp;omega
  rw[List.getElem?_append_right hl,List.getElem?_replicate,List.getElem?_eq_none (by omega:l.length≤i)]
  split <;> rfl
theorem padI_mem{n:Nat}{l:List Int}(h:∀x∈l,0≤x∧x≤1000000):∀x∈padI n l,0≤x∧x≤1000000:=by
 intro x hx;unfold padI at hx;rcases List.mem_append.1 hx with hx|hx
 ·exact h x (List.mem_of_mem_take hx)
 ·rw[List.eq_of_mem_replicate hx];decide
theorem padI_gone{P:Pm}{l:List Spot}{items:List Int}{n i:Nat}(hi:i<n):qZa P l (padI n items) i=qZa P l items i:=by
 unfold qZa;rw[padI_get items hi,padI_len]
 by_cases h:i<items.length
 ·simp[h,hi]
 ·have h0:items.getD i 0=0:=by rw[List.getD_eq_getElem?_getD,List.getElem?_eq_none (by omega)];rfl
  rw[h0];simp
theorem padI_sparse(P:Pm)(l:List Spot)(items:List Int)(percent:Int)(n:Nat):∀k,k≤n→qQu P l (padI n items) percent k=qQu P l items percent k
 | 0,_=>rfl
 | k+1,h=>by
  unfold qQu;rw[padI_gone (by omega),padI_sparse P l items percent n k (by omega)]
theorem made_ones(z:Value)(n:Nat):madeCells #[z] n=(List.replicate n z).toArray:=by
 apply Array.ext'
 apply List.ext_getElem?
 intro i;unfold madeCells
 by_cases h:i<n
 ·simp[h,Nat.mod_one]
 ·simp[h]
theorem make_ints(W:World)(n:Nat)(hn:n≤1000000):(Instr.makeSlice 24 (.int .i64 (n:Int)) (.int .i64 (n:Int))).run prog W=.ok (.slice (some ⟨W.heap.size,0,none⟩) n n) (W.alloc (.cells (Array.replicate n (Value.int .i64 0)) 3)):=by
 obtain⟨i0,hi,hz0,hz1,hz2⟩:=info_parts qZx
 have:=run_make (P:=prog) W 24 3 i0 (.int .i64 0) underlying24 hi hz0 .i64 .i64 (n:Int) (n:Int) (by omega) (Int.le_refl _) (by rw[hz2];omega) (by omega)
 rw[this,hz1];simp only[Int.toNat_natCast,Nat.mul_one];rw[show(Value.int .i64 0).cells=#[Value.int .i64 0]from rfl,made_ones,List.toArray_replicate]
theorem splice_pad(n:Nat)(l:List Int):Go.splice (List.replicate n (Value.int .i64 0)) 0 ((l.take n).map (Value.int .i64))=(padI n l).map (Value.int .i64):=by
 unfold Go.splice padI;rw[List.take_zero,List.nil_append,List.map_append]
 congr 1
 rw[Nat.zero_add,List.length_map,List.length_take,List.drop_replicate,List.map_replicate]
 congr 1
 omega
def rtB(W:Wd)(P:Pm)(vn q:Nat)(b:Bl):Bool := !(b.dead || !(b.copy q).there||decide ((b.copy q).vol≠(vn:Int)))&&decide (0≤qQ1 P W.vols (q:Int) (qQy b.size) (vn:Int) W.vols.length)
def rts(W:Wd)(P:Pm)(vn q:Nat)(L:List Bl):List Jb:=(L.filter (rtB W P vn q)).map fun b=>⟨7,b.id,(q:Int),(vn:Int)⟩
theorem rts_eq{W:Wd}{P:Pm}{vn:Nat}(h:qXR W P=(vn:Int)):qQN W P=rts W P vn (vn % 2) P.L:=by
 unfold qQN;rw[h,if_neg (by omega)];have e1:(vn:Int) % 2=((vn % 2:Nat):Int):=by omega
 unfold rts
 have e2:retapeB W P (vn:Int)=rtB W P vn (vn % 2):=by
  funext b
  unfold retapeB rtB;rw[e1,Int.toNat_natCast]
 rw[e2,e1]
theorem rts_snoc{W:Wd}{P:Pm}{vn q:Nat}{L:List Bl}{k:Nat}{b:Bl}(hb:L[k]? = some b):rts W P vn q (L.take (k+1))=rts W P vn q (L.take k)++(if rtB W P vn q b then [⟨7,b.id,(q:Int),(vn:Int)⟩]else []):=by
 unfold rts;rw[qZm _ hb,List.map_append]
 congr 1
 split <;> rfl
theorem rts_len(W:Wd)(P:Pm)(vn q:Nat)(L:List Bl)(k:Nat):(rts W P vn q (L.take k)).length≤k:=by
 unfold rts;rw[List.length_map];exact Nat.le_trans (List.length_filter_le _ _) (List.length_take_le _ _)
theorem qXB(P:Pm)(l:List Spot)(items:List Int)(percent:Int):∀n, -1≤(qQu P l items percent n).1∧(qQu P l items percent n).1<n
 | 0=>by simp[qQu]
 | n+1=>by
  have:=qXB P l items percent n
  unfold qQu;split
  ·simp;omega
  ·constructor <;> omega
theorem retapes_any{W0 w:World}{B:Nat→Prop}{pb c mb mn:Nat}{W:Wd}{V:WdV}{bv vv:Value}{P:Pm}{n:Nat}{VL:List Vl}{J:List Jb}(h:PlIn W0 w pb c W V bv vv P.L VL J)(X:PlX W0 B c mb mn W V P n VL)(hJ:J.length≤1000) :
 Calls prog 27 #[.pointer (some ⟨pb,0,none⟩)] w fun e w'=>e=.returned (.tuple #[])∧PlIn W0 w' pb c W V bv vv P.L VL (J++qQN W P):=by
 obtain⟨bA,bc,rfl⟩:=h.blc;have hlen:P.L.length≤40:=Nat.le_trans X.inv.len X.hn;have hvn:W.vols.length≤12:=X.hO.v;have hil:W.items.length≤12:=X.hO.i;obtain⟨Vd,Vv,Vi,Vld,Vlv⟩:=V;obtain⟨LA,lc,hv',_⟩:=X.hW.v;simp only[]at hv';rw[List.length_map]at hv';subst hv';obtain⟨IA,ic,hi',_⟩:=X.hW.i;simp only[]at hi';rw[List.length_map]at hi';subst hi';have HX:=Hh X;have hII:=X.hW.i;simp only[]at hII;clear X;have HSV:=Hh (fun w2 (hE:Ext w w2) iv hI=>sparse_any w2 B c mb mn (.slice LA W.vols.length lc) iv P n W.vols (padI W.vols.length W.items) (HX.out.cat.ext (h.ext.trans hE)) HX.out.inv (by have:=HX.out.hn;omega) (HX.out.hW.v.ext (h.ext.trans hE)) hvn hI (by rw[padI_len];exact hvn) (padI_mem HX.out.hO.ir) W.percent);have hI1:=hII.ext (h.ext.alloc (.cells (Array.replicate W.vols.length (Value.int .i64 0)) 3));have hE1:=(Er w).alloc (.cells (Array.replicate W.vols.length (Value.int .i64 0)) 3);have hA1:=At.new w 3 (Array.replicate W.vols.length (Value.int .i64 0));have hmk:=make_ints w W.vols.length (by omega);have hsp:=qXB P W.vols W.items W.percent W.vols.length;have HSE:Hid ((qQu P W.vols (padI W.vols.length W.items) W.percent W.vols.length).1=qXR W P):=Hh (by rw[padI_sparse P W.vols W.items W.percent W.vols.length _ (Nat.le_refl _)];rfl);rw[show(qQu P W.vols W.items W.percent W.vols.length).1=qXR W P from rfl]at hsp;have HP0:=Hh (fun w2 (hE:Ext w w2)=>h.ext_ hE);obtain⟨jv,h1,h1x⟩:=h.blk;have c0:=h1.cell 0;have c2:=h1.cell 2;have c3:=h1.cell 3;have c8:=h1.cell 8;simp at c0 c2 c3 c8;clear h1 h1x h hII
 go_enter func27,ntmps27
 go_upto_region 1 with fail
 have hne:∀ {p:Addr} {v:Value},w.cell? p=some v→(w.alloc (.cells (Array.replicate W.vols.length (Value.int .i64 0)) 3)).cell? p=some v:=fun h=>(Ext.cell hE1 (qQv h)).trans h
 have d3:=hne c3;have hgl:w.heap.size≤w.heap.size:=Nat.le_refl _;have HC0:=Hh (And.intro c0 (And.intro c2 c8));clear c0 c2 c3 c8 hne hmk;generalize hw1:w.alloc _=W1 at hI1 hE1 hA1 d3⊢;clear hw1;rw[←List.toArray_replicate]at hA1
 go_wp2_with (refine wpList_copy_splice rfl _ _ 24 24 rfl 3 underlying24 (by kernel_rfl) _ _ _ _ _ _ rfl rfl w.heap.size 0 (List.replicate W.vols.length (Value.int .i64 0)) 3 hA1 ((W.items.take W.vols.length).map (Value.int .i64)) (by rw[List.length_map,List.length_take];exact Nat.min_comm _ _) ?cpos (by simp;omega) (fun v hv=>by obtain⟨x,_,rfl⟩:=List.mem_map.1 hv;rfl) w.heap.size w hE1.below (Nat.le_refl _) ?_)
 case cpos =>
  intro h0;obtain⟨b2,o2,e2,_⟩:=qXx hI1 0 (x:=.int .i64 W.items[0]) (by rw[List.getElem?_map,List.getElem?_eq_getElem (by omega)];rfl);refine⟨_,e2,fun j v hv=>?_⟩
  rw[List.getElem?_take]at hv
  split at hv
  ·rw[List.getElem?_map]at hv;obtain⟨x,hx2,rfl⟩:=Option.map_eq_some_iff.1 hv;obtain⟨b3,o3,e3,c3⟩:=qXx hI1 j (x:=.int .i64 x) (by rw[List.getElem?_map,hx2];rfl);rw[e2]at e3;injection e3 with e3;injection e3 with e4 e5;subst e4 e5;rw[Go.WideShapes.add_plain];exact c3
  ·cases hv
 intro W2 hW2 hB2;have hE2:Ext w W2:=Ext.of_below hB2
 have hIv:Sl W2 (.slice (some ⟨w.heap.size,0,none⟩) W.vols.length W.vols.length) ((padI W.vols.length W.items).map (Value.int .i64)):=by
  refine⟨_,_,by rw[List.length_map,padI_len],fun _=>⟨w.heap.size,0,rfl,fun k x hx=>?_⟩⟩
  have h2:=hW2.out;rw[←List.map_take,splice_pad]at h2
  have:At W2 w.heap.size 3 ((padI W.vols.length W.items).map (Value.int .i64)).toArray:=h2
  rw[Nat.zero_add,this.cell k];simpa using hx
 have HIV:=Hh hIv;have HP2:=Hh (HP0.out W2 hE2);have rg:∀ {p:Addr} {v:Value},w.cell? p=some v→∀d os,(grow (redrawn W2 d) os).cell? p=some v:=fun h d os=>(Ext.cell (hE2.trans (qQn W2 d os)) (qQv h)).trans h
 have u0:=rg HC0.out.1;have u2:=rg HC0.out.2.1;have u8:=rg HC0.out.2.2
 have c1:Hid (∀dd os,Calls prog 58 #[.pointer (some ⟨c,0,none⟩),.slice LA W.vols.length lc,.slice (some ⟨w.heap.size,0,none⟩) W.vols.length W.vols.length,.int .i64 W.percent] (grow (redrawn W2 dd) os) fun e w''=>e=.returned (.int .i64 (qXR W P))∧∃p:Regrown,w''=grow (redrawn W2 p.d) p.os):=Hh fun dd os=>Calls.ext_of (by
  have h:=HSV.out _ (hE2.trans (qQn W2 dd os)) _ (HIV.out.ext (qQn W2 dd os));rw[HSE.out]at h;exact h)
 generalize w.heap.size=gi at *;clear hW2 hB2 hIv HIV HSV HSE rg HC0 hE1 hI1 hA1 d3 hgl;have HRE:Hid (qXR W P<0→qQN W P=[]):=Hh (fun h=>by unfold qQN;rw[if_pos h]);have HRT:Hid (∀vn:Nat,qXR W P=(vn:Int)→qQN W P=rts W P vn (vn % 2) P.L):=Hh (fun vn h=>rts_eq h);generalize qXR W P=sv at hsp c1 HRE HRT
 go_upto_region 2 with fail
 refine qQc (by kernel_rfl) (by kernel_rfl) ?_
 repeat (go_big_quiet_step (first|with_reducible exact c1.out _ _))
 refine wpQuiet_nil ?_;intro W3 hE3;clear u0 u2 u8 c1;have HP3:=Hh (HP2.out.ext_ hE3)
 by_cases hneg:sv<0
 ·have t0:decide (sv<0)=true:=by simpa using hneg
  go_wp2_with fail
  refine bodyPost_ret (results_none rfl _ _ _) rfl ?_;exact⟨rfl,by rw[HRE.out hneg,List.append_nil];exact HP3.out⟩
 ·obtain⟨vn,rfl⟩:=Int.eq_ofNat_of_zero_le (by omega:0≤sv);have hvn2:vn<12:=by omega
  have hJE:=HRT.out vn rfl;clear HRE HRT hsp;have t0:decide ((vn:Int)<0)=false:=by simp
  have hq2:vn % 2<2:=by omega
  have HPO:=Hh (qX4 W3 vn hvn2);generalize vn % 2=q at hq2 HPO hJE⊢;have HJE:=Hh hJE;clear hJE;go_wp2_with fail
  refine HPO.out.mono ?_;rintro e W4 ⟨rfl,hw4⟩;subst hw4;clear HPO;obtain⟨jv,h1,h1x⟩:=HP3.out.blk;have c10:=h1.cell 10;simp at c10;clear h1 h1x;go_wp2_with fail
  clear c10;have HBI:=Hh qZH
  go_loopw [47] (fun iv wr=>∃k:Nat,k≤P.L.length∧iv=.int .i64 (k:Int)∧PlIn W0 wr pb c W ⟨Vd,.slice LA W.vols.length lc,.slice IA W.items.length ic,Vld,Vlv⟩ (.slice bA P.L.length bc) vv P.L VL (J++rts W P vn q (P.L.take k))) (fun iv _=>P.L.length - (intOf iv).toNat)
  case atStart=>exact⟨0,Nat.zero_le _,rfl,by simpa[rts]using HP3.out⟩
  case round =>
   clear HP3 HP2 HP0;obtain⟨k,hk,rfl,hp⟩:=hrel
   by_cases hlt:k<P.L.length
   ·obtain⟨b,hb⟩:∃b,P.L[k]? = some b:=⟨_,List.getElem?_eq_getElem hlt⟩;obtain⟨bb,o,dA,dc,DV,rfl,hS,hdv,hod⟩:=hp.row hb;obtain⟨r0,r1,r2,r3,r4,r5,r6,r7,r8,r9,r10,r11,r12⟩:=qQV hS hdv;have hbk:=HX.out.inv.bl b (List.mem_of_getElem? hb);have hdr:=qZy hbk.rises;have hdl:=qZl hbk.rises;have HYb:=Hh (At.new wr 63 (blCells b (.slice dA b.disks.length dc)));have HEb:=Hh ((Er wr).alloc (.cells (blCells b (.slice dA b.disks.length dc)) 63));have HP:=Hh hp;clear hp hS hdv
    go_upto_region 8 with fail
    clear r0 r1 r2 r3 r4 r5 r6 r7 r8 r9 r10 r11 r12;generalize wr.heap.size=yb at HYb⊢;generalize wr.alloc _=W1 at HYb HEb⊢;have hYb:=HYb.out;have HPW:=Hh (HP.out.ext_ HEb.out);have HDW:=Hh (qZd hod HEb.out);have HR:=Hh hYb.range;have hps:=rts_snoc (W:=W) (P:=P) (vn:=vn) (q:=q) hb;have hpn:=rts_len W P vn q P.L k;rw[show rtB W P vn q b=(!(b.dead || !(b.copy q).there||decide ((b.copy q).vol≠(vn:Int)))&&decide (0≤qQ1 P W.vols (q:Int) (qQy b.size) (vn:Int) W.vols.length))from rfl]at hps;generalize rts W P vn q (P.L.take k)=os at HP HPW hps hpn;obtain⟨y0,y1,y2⟩:=bl_copy b (.slice dA b.disks.length dc) q hq2;have x0:=hYb.cell (5+q * 3);have x1:=hYb.cell (5+q * 3+1);have x2:=hYb.cell (5+q * 3+2);rw[y0]at x0;rw[y1]at x1;rw[y2]at x2;have q0:=hYb.cell 0;have q2:=hYb.cell 2;have q12:=hYb.cell 12;simp at q0 q2 q12;have hsz:=hbk.size;obtain⟨dd,hdd⟩:∃u,u=b.dead:=⟨_,rfl⟩;obtain⟨th,hth⟩:∃u,u=(b.copy q).there:=⟨_,rfl⟩;obtain⟨cv,hcv⟩:∃u,u=(b.copy q).vol:=⟨_,rfl⟩;obtain⟨ca,hca⟩:∃u,u=(b.copy q).at_:=⟨_,rfl⟩;rw[←hdd]at q12 hps;rw[←hth]at x0 hps;rw[←hcv]at x1 hps;rw[←hca]at x2;clear hdd hth hcv hca y0 y1 y2 hYb hbk hb HP HEb HDW HR hod hdr hdl;have hZb:=At.new W1 60 #[.bool th,.int .i64 cv,.int .i64 ca];have HEz:=Hh ((Er W1).alloc (.cells #[.bool th,.int .i64 cv,.int .i64 ca] 60));have hne:∀ {p:Addr} {v:Value},W1.cell? p=some v→(W1.alloc (.cells #[.bool th,.int .i64 cv,.int .i64 ca] 60)).cell? p=some v:=fun h=>(Ext.cell HEz.out (qQv h)).trans h
    have HP2:=Hh (HPW.out.ext_ HEz.out);have z0:=hne q0;have z2:=hne q2;have z12:=hne q12
    go_upto_region 9 with fail
    clear x0 x1 x2 q0 q2 q12 hne;generalize W1.heap.size=zb at hZb;generalize W1.alloc _=W2 at hZb HP2 z0 z2 z12 HEz⊢;have w0:=hZb.cell 0;have w1:=hZb.cell 1;simp at w0 w1;clear hZb;cases dd
    ·cases th
     ·have HPL:Hid (rts W P vn q (P.L.take (k+1))=os):=Hh (by rw[hps];simp);clear hps;go_wp2_with fail
      go_roundw
      case rel=>exact⟨k+1,by omega,by go_num,by rw[HPL.out];exact HP2.out⟩
      case measure=>simp[intOf];omega
     ·by_cases hcv:cv=(vn:Int)
      ·have t1:(cv != (vn:Int))=false:=by simpa using hcv
       obtain⟨jv,h1,h1x⟩:=HP2.out.blk;have p0:=h1.cell 0;have p2:=h1.cell 2;simp at p0 p2;have rg:∀ {p:Addr} {v:Value},W2.cell? p=some v→∀d os,(grow (redrawn W2 d) os).cell? p=some v:=fun h d os=>(Ext.cell (qQn W2 d os) (qQv h)).trans h
       have u0:=rg p0;have u2:=rg p2;have u3:=rg z2;have c1:Hid (∀dd os,Calls prog 56 #[.int .i64 b.size] (grow (redrawn W2 dd) os) fun e w''=>e=.returned (.int .i64 (qQy b.size))∧∃p:Regrown,w''=grow (redrawn W2 p.d) p.os):=Hh fun dd os=>Calls.ext_of (weight_any _ b.size hsz.1 hsz.2)
       have c2:Hid (∀dd os,Calls prog 55 #[.pointer (some ⟨c,0,none⟩),.slice LA W.vols.length lc,.int .i64 (q:Int),.int .i64 (qQy b.size),.int .i64 (vn:Int)] (grow (redrawn W2 dd) os) fun e w''=>e=.returned (.int .i64 (qQ1 P W.vols (q:Int) (qQy b.size) (vn:Int) W.vols.length))∧∃p:Regrown,w''=grow (redrawn W2 p.d) p.os):=Hh fun dd os=>Calls.ext_of (volume_any _ B c mb mn _ P W.vols (HX.out.cat.ext (HP2.out.ext.trans (qQn W2 dd os))) (HX.out.hW.v.ext (HP2.out.ext.trans (qQn W2 dd os))) HX.out.hO.v (q:Int) (qQy b.size) (vn:Int))
       generalize qQ1 P W.vols (q:Int) (qQy b.size) (vn:Int) W.vols.length=vo at c2 hps;generalize qQy b.size=wt at c1 c2;clear rg h1 h1x p0 p2 z2 hsz
       go_upto_region 10 with fail
       refine qQc (by kernel_rfl) (by kernel_rfl) ?_
       repeat (go_big_quiet_step (first|with_reducible exact c1.out _ _|with_reducible exact c2.out _ _))
       refine wpQuiet_nil ?_;intro W8 hE8;have HP8:=Hh (HP2.out.ext_ hE8);have v0:=(Ext.cell hE8 (qQv z0)).trans z0;clear u0 u2 u3 c1 c2 w0 w1 z0 z12
       by_cases hv:0≤vo
       ·have HPL:Hid (rts W P vn q (P.L.take (k+1))=os++[⟨7,b.id,(q:Int),(vn:Int)⟩]):=Hh (by rw[hps];simp[hv,hcv]);have t2:decide (0≤vo)=true:=by simpa using hv
        have HA:=Hh (qZ8 HP8.out (by simp;omega) ⟨7,b.id,(q:Int),(vn:Int)⟩);clear hps;go_wp2_with fail
        refine HA.out.mono ?_;rintro e W9 ⟨rfl,hp9,_⟩;rw[List.append_assoc]at hp9;have HP9:=Hh hp9;clear hp9 HA;go_wp2_with fail
        go_roundw
        case rel=>exact⟨k+1,by omega,by go_num,by rw[HPL.out];exact HP9.out⟩
        case measure=>simp[intOf];omega
       ·have HPL:Hid (rts W P vn q (P.L.take (k+1))=os):=Hh (by rw[hps];simp[hv]);have t2:decide (0≤vo)=false:=by simpa using hv
        clear hps;go_wp2_with fail
        go_roundw
        case rel=>exact⟨k+1,by omega,by go_num,by rw[HPL.out];exact HP8.out⟩
        case measure=>simp[intOf];omega
      ·have t1:(cv != (vn:Int))=true:=by simpa using hcv
       have HPL:Hid (rts W P vn q (P.L.take (k+1))=os):=Hh (by rw[hps];simp[hcv]);clear hps;go_wp2_with fail
       go_roundw
       case rel=>exact⟨k+1,by omega,by go_num,by rw[HPL.out];exact HP2.out⟩
       case measure=>simp[intOf];omega
    ·have HPL:Hid (rts W P vn q (P.L.take (k+1))=os):=Hh (by rw[hps];simp);clear hps;go_wp2_with fail
     go_roundw
     case rel=>exact⟨k+1,by omega,by go_num,by rw[HPL.out];exact HP2.out⟩
     case measure=>simp[intOf];omega
   ·obtain rfl:k=P.L.length:=by omega
    rw[List.take_length]at hp;go_wp2_with fail
    go_end0
    exact⟨rfl,by rw[HJE.out];exact hp⟩
end Go.Proofs.YtiojjokfeknhcaaGreat
