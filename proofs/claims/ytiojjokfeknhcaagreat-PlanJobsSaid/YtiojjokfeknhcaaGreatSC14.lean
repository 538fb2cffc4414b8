/-
  Part 14 of what the law leans on.
-/
import Derived.Test.YtiojjokfeknhcaaGreatSC6
import Derived.Test.YtiojjokfeknhcaaGreatSC13
namespace Go.Proofs.YtiojjokfeknhcaaGreat
set_option maxRecDepth 100000
set_option maxHeartbeats 8000000
set_option linter.unusedVariables false
set_option linter.unusedSimpArgs false
set_option linter.unusedSectionVars false
open _root_.Go.Proofs.Tryz
open Go.RowKit Go.Sort
theorem qQZ.open{w:World}{v:Value}{P:Pm}(h:qQZ w v P)(hv:P.vols.length=12):∃X:Array Value,v=.agg X∧X.size=37∧X.all (·.oneCell')=true:=by
 obtain⟨lv,DV,rfl,_,hR⟩:=h;obtain⟨A,c,rfl⟩:=qQa hR.own;exact⟨_,rfl,qQt _ hv,qQA _ _ _ _⟩
theorem Kp.then{B:Nat→Prop}{S:Nat→Prop}{w w1 w':World}(h:Kp B w w1)(hE:Chg S w1 w')(hS:∀k,S k→w.heap.size≤k)(hB:∀k,w.heap.size≤k→B k):Kp B w w' :=
 ⟨h.chg.trans (hE.mono fun k _ hk=>hB k (hS k hk)) (fun _ _ e=>e),fun g t cs h1 h2 hA=>(h.at_ g t cs h1 h2 hA).chg hE fun e=>by have:=hS g e;have:=hA.lt;omega⟩
theorem cat_lt{w:World}{B:Nat→Prop}{c mb mn:Nat}{P:Pm}(h:qZC w B c mb mn P):∀k,w.heap.size≤k→B k:=by
 obtain⟨C,hC,_⟩:=h;exact hC.up
theorem qZC.fresh{w w':World}{B:Nat→Prop}{c mb mn g:Nat}{P:Pm}{t:TypeId}{cs:Array Value}(h:qZC w B c mb mn P)(hA:At w g t cs)(h1:96≠t)(h2:63≠t)(h3:3≠t)(hC:Chg (· = g) w w'):qZC w' B c mb mn P:=by
 obtain⟨C,a,b⟩:=h;exact⟨C,a.far hC hA h1 h2 h3,b⟩
theorem app_names{n:Nat}{P:Pm}(h:PInv n P)(x:Cmd):(P.app x).2.names.length≤n:=by
 unfold Pm.app;split
 ·exact Nat.zero_le _
 ·split
  ·exact Nat.zero_le _
  ·split
   ·show(qZz P.L).length≤n
    unfold qZz;rw[List.length_mergeSort,List.length_map];exact Nat.le_trans (List.length_filter_le _ _) h.len
   ·split
    ·unfold Pm.byName;split
     ·exact Nat.zero_le _
     ·exact Nat.zero_le _
    ·split
     ·exact Nat.zero_le _
     ·exact Nat.zero_le _
theorem cc_info:(prog.info? 76).map (·.size)=some 11:=by kernel_rfl
theorem does_any(w:World)(B:Nat→Prop)(c mb mn:Nat)(P:Pm)(n:Nat)(v:Value)(y:Cmd)(dy:Value)(hC:qZC w B c mb mn P)(hR:qQZ w v P)(hi:PInv n P)(hn:n≤1000)(hy:y.In dy w) :
 Calls prog 18 #[.pointer (some ⟨c,0,none⟩),v,qQd y dy] w fun e w'=>∃v',e=.returned (.tuple #[v',.bool true])∧qZC w' B c mb mn (P.app (qQw y)).1∧qQZ w' v' (P.app (qQw y)).1∧Kp B w w':=by
 obtain⟨X,rfl,h37,hone⟩:=hR.open hi.vlen;have HCT:=Hh hC;have HRF:=Hh hR;have HI:=Hh hi;have HY:=Hh hy;have H37:=Hh h37;have HONE:=Hh hone;have HBS:=Hh (cat_lt hC);have HI1:Hid ((prog.info? 35).map (·.size)=some X.toList.length):=Hh (by rw[Array.length_toList,h37];exact qQg);have HI2:Hid ((prog.info? 35).map (·.size)=some X.size):=Hh (by rw[h37];exact qQg);have HFW:=Hh (fewC_wf hy.wf);have HFD:=Hh (fewC_dl y);have HFN:Hid ((qQw y).name.size≤40):=Hh (cut_size y.name 40);have HIA:=Hh (hi.app (fewC_wf hy.wf));clear hC hR hi hy h37 hone;unfold qQd
 go_enter func18,ntmps18
 have hB:=((At.new w 35 X).alloc (.cells #[.int .i64 y.kind,.int .i64 y.client,.int .i64 y.seq,.string y.name,.int .u64 (y.blob:Int),.int .i64 y.size,.int .u32 (y.sum:Int),dy,.int .i64 y.pool,.int .i64 y.vol,.int .i64 y.at_] 76)).alloc (.cells zZC 35);have hY:=(At.new (w.alloc (.cells X 35)) 76 #[.int .i64 y.kind,.int .i64 y.client,.int .i64 y.seq,.string y.name,.int .u64 (y.blob:Int),.int .i64 y.size,.int .u32 (y.sum:Int),dy,.int .i64 y.pool,.int .i64 y.vol,.int .i64 y.at_]).alloc (.cells zZC 35);have hQ:=At.new ((w.alloc (.cells X 35)).alloc (.cells #[.int .i64 y.kind,.int .i64 y.client,.int .i64 y.seq,.string y.name,.int .u64 (y.blob:Int),.int .i64 y.size,.int .u32 (y.sum:Int),dy,.int .i64 y.pool,.int .i64 y.vol,.int .i64 y.at_] 76)) 35 zZC;have hE:=(((Er w).alloc (.cells X 35)).alloc (.cells #[.int .i64 y.kind,.int .i64 y.client,.int .i64 y.seq,.string y.name,.int .u64 (y.blob:Int),.int .i64 y.size,.int .u32 (y.sum:Int),dy,.int .i64 y.pool,.int .i64 y.vol,.int .i64 y.at_] 76)).alloc (.cells zZC 35);rw[show(w.alloc (.cells X 35)).heap.size=w.heap.size+1 by simp]at hY;rw[show((w.alloc (.cells X 35)).alloc (.cells #[.int .i64 y.kind,.int .i64 y.client,.int .i64 y.seq,.string y.name,.int .u64 (y.blob:Int),.int .i64 y.size,.int .u32 (y.sum:Int),dy,.int .i64 y.pool,.int .i64 y.vol,.int .i64 y.at_] 76)).heap.size=w.heap.size+1+1 by simp]at hQ
 go_upto_region 1 with fail
 obtain⟨xb,hxb⟩:∃xb,w.heap.size=xb:=⟨_,rfl⟩;rw[hxb]at hB hY hQ⊢;generalize World.alloc _ _=W at hB hY hQ hE⊢;have HXB:=Hh (show w.heap.size≤xb by omega);clear hxb;have HZ:Hid (zZC.size=37):=Hh rfl;generalize zZC=ZC at hQ HZ;have HF:=Hh (few_any W y dy (HY.out.ext hE));have HRY:=Hh hY.range
 go_wp2_with (refine wpList_load_mid rfl 76 _ rfl (xb+1) 0 rfl _ _ HRY.out underlying76 rfl cc_info ?_)
 refine HF.out.mono ?_;rintro e w1 ⟨fA,fc,rfl,hO1,hE1⟩;have hB:=hB.ext hE1;have hY:=hY.ext hE1;have hQ:=hQ.ext hE1;have HEW1:=Hh (hE.trans hE1);have HO1:=Hh (qQ8 hO1);clear HF HRY hE hE1 hO1;unfold qQd;have HTY:=Hh hY.there
 go_upto_region 2 with(refine wpList_store_mid rfl 76 _ _ rfl (xb+1) 0 #[.int .i64 (qQw y).kind,.int .i64 (qQw y).client,.int .i64 (qQw y).seq,.string (qQw y).name,.int .u64 ((qQw y).blob:Int),.int .i64 (qQw y).size,.int .u32 ((qQw y).sum:Int),.slice fA (qQw y).disks.length fc,.int .i64 (qQw y).pool,.int .i64 (qQw y).vol,.int .i64 (qQw y).at_] rfl rfl HTY.out cc_info (by simp[Value.oneCell']) ?_)
 have hch:Chg (· = xb+1) w1 (w1.setCells (xb+1) 0 (#[.int .i64 (qQw y).kind,.int .i64 (qQw y).client,.int .i64 (qQw y).seq,.string (qQw y).name,.int .u64 ((qQw y).blob:Int),.int .i64 (qQw y).size,.int .u32 ((qQw y).sum:Int),.slice fA (qQw y).disks.length fc,.int .i64 (qQw y).pool,.int .i64 (qQw y).vol,.int .i64 (qQw y).at_]:Array Value).toList):=qQq _ _;have kY:At (w1.setCells (xb+1) 0 (#[.int .i64 (qQw y).kind,.int .i64 (qQw y).client,.int .i64 (qQw y).seq,.string (qQw y).name,.int .u64 ((qQw y).blob:Int),.int .i64 (qQw y).size,.int .u32 ((qQw y).sum:Int),.slice fA (qQw y).disks.length fc,.int .i64 (qQw y).pool,.int .i64 (qQw y).vol,.int .i64 (qQw y).at_]:Array Value).toList) (xb+1) 76 #[.int .i64 (qQw y).kind,.int .i64 (qQw y).client,.int .i64 (qQw y).seq,.string (qQw y).name,.int .u64 ((qQw y).blob:Int),.int .i64 (qQw y).size,.int .u32 ((qQw y).sum:Int),.slice fA (qQw y).disks.length fc,.int .i64 (qQw y).pool,.int .i64 (qQw y).vol,.int .i64 (qQw y).at_]:=At.cells_all hY rfl;have kB:=hB.chg hch (At.ne hB hY (by decide));have kQ:=hQ.chg hch (At.ne hQ hY (by decide));have kE:Ext w (w1.setCells (xb+1) 0 (#[.int .i64 (qQw y).kind,.int .i64 (qQw y).client,.int .i64 (qQw y).seq,.string (qQw y).name,.int .u64 ((qQw y).blob:Int),.int .i64 (qQw y).size,.int .u32 ((qQw y).sum:Int),.slice fA (qQw y).disks.length fc,.int .i64 (qQw y).pool,.int .i64 (qQw y).vol,.int .i64 (qQw y).at_]:Array Value).toList):=HEW1.out.setCells (by have:=HXB.out;omega) _ _;have HO2:=Hh (qQb HO1.out hch fun k hk e=>qQf HO1.out hY (by decide) k hk e);clear hB hY hQ HTY hch HEW1 HO1;generalize w1.setCells (xb+1) 0 (#[.int .i64 (qQw y).kind,.int .i64 (qQw y).client,.int .i64 (qQw y).seq,.string (qQw y).name,.int .u64 ((qQw y).blob:Int),.int .i64 (qQw y).size,.int .u32 ((qQw y).sum:Int),.slice fA (qQw y).disks.length fc,.int .i64 (qQw y).pool,.int .i64 (qQw y).vol,.int .i64 (qQw y).at_]:Array Value).toList=W2 at kY kB kQ kE HO2⊢;have HA:=Hh (capply_any (HCT.out.ext kE) HI.out (by omega) (qQw y) (.slice fA (qQw y).disks.length fc) HO2.out (by have:=HFD.out;omega) (by have:=HFN.out;omega) HFW.out);have HRY:=Hh kY.range
 go_wp2_with (refine wpList_load_mid rfl 76 _ rfl (xb+1) 0 rfl _ _ HRY.out underlying76 rfl cc_info ?_)
 refine HA.out.mono ?_;rintro e w3 ⟨A4,c4,rfl,hno,hC4,hK4⟩;have hB:=hK4.at_ _ _ _ (by decide) (by decide) kB;have hY:=hK4.at_ _ _ _ (by decide) (by decide) kY;have hQ:=hK4.at_ _ _ _ (by decide) (by decide) kQ;have HKW:=Hh ((Kp.of_ext (B:=B) kE).trans hK4);have HO3:=Hh (hK4.own HO2.out (by decide) (by decide));have HC4:=Hh hC4;have HNO:=Hh hno;have HSZ:=Hh (Nat.le_trans kE.size hK4.chg.size);clear HA HRY kY kB kQ kE HO2 hC4 hK4 hno;unfold qXq;have hRb:=At.new w3 72 #[.int .i64 (P.app (qQw y)).2.err,.int .u64 ((P.app (qQw y)).2.blob:Int),.int .i64 (P.app (qQw y)).2.size,.int .u32 ((P.app (qQw y)).2.sum:Int),.slice A4 (P.app (qQw y)).2.names.length c4];have hE5:=(Er w3).alloc (.cells #[.int .i64 (P.app (qQw y)).2.err,.int .u64 ((P.app (qQw y)).2.blob:Int),.int .i64 (P.app (qQw y)).2.size,.int .u32 ((P.app (qQw y)).2.sum:Int),.slice A4 (P.app (qQw y)).2.names.length c4] 72)
 go_upto_region 3 with fail
 generalize hrb:w3.heap.size=rb at hRb⊢;generalize w3.alloc (.cells #[.int .i64 (P.app (qQw y)).2.err,.int .u64 ((P.app (qQw y)).2.blob:Int),.int .i64 (P.app (qQw y)).2.size,.int .u32 ((P.app (qQw y)).2.sum:Int),.slice A4 (P.app (qQw y)).2.names.length c4] 72)=w5 at hRb hE5⊢;have hB:=hB.ext hE5;have hY:=hY.ext hE5;have hQ:=hQ.ext hE5;clear hrb;have HK5:=Hh (HKW.out.trans (Kp.of_ext hE5));have HC5:=Hh (HC4.out.ext hE5);have HN5:=Hh (own_kx HNO.out hE5);have HR5:=Hh ((HRF.out.kp HKW.out).ext hE5);have HO5:=Hh (own_kx HO3.out hE5);clear HC4 HNO HO3 hE5 HKW HCT HRF HFN HSZ;have hrx:∀w1,Ext w5 w1→w1.rangeAt xb 0 X.toList:=fun w1 hc=>(hB.ext hc).range
 have hry:∀w1,Ext w5 w1→w1.rangeAt (xb+1) 0 (#[.int .i64 (qQw y).kind,.int .i64 (qQw y).client,.int .i64 (qQw y).seq,.string (qQw y).name,.int .u64 ((qQw y).blob:Int),.int .i64 (qQw y).size,.int .u32 ((qQw y).sum:Int),.slice fA (qQw y).disks.length fc,.int .i64 (qQw y).pool,.int .i64 (qQw y).vol,.int .i64 (qQw y).at_]:Array Value).toList:=fun w1 hc=>(hY.ext hc).range
 refine qQx (Γ := Nat→Value) (sgφ [.val (.agg X),.val (qQd (qQw y) (.slice fA (qQw y).disks.length fc)),.val (qQd (qQw y) (.slice fA (qQw y).disks.length fc)),.g 0,.g 3,.g 2,.g 4,.g 1,.g 5,.any,.any])
  (GDo w5 (P.app (qQw y))) (by kernel_rfl) (by kernel_rfl) (by kernel_rfl) (fun _=>undef) ?inv ?steps ?fin
 case inv=>exact⟨(Er w5).drew,fun hh=>(by cases hh),fun hh=>(by cases hh),fun hh=>(by cases hh),fun hh=>(by cases hh),fun hh=>(by cases hh),fun hh=>(by cases hh)⟩
 case steps =>
  show qQ2 _ _ _ _ _ _ 11
  refine⟨⟨⟨⟨⟨⟨⟨⟨⟨⟨⟨trivial,?s0⟩,?s1⟩,?s2⟩,?s3⟩,?s4⟩,?s5⟩,?s6⟩,?s7⟩,?s8⟩,?s9⟩,?s10⟩
  case s0 =>
   refine qQh (x:=.agg X) rfl rfl rfl (GDo.keep (j:=0) (by decide)) fun γ L v a w1 st=>?_
   have e4:=st.far 4 (by kernel_rfl);simp at e4;exact qQi rfl (b:=xb) (off:=0) (by simp[Act.eval,e4]) (hrx w1 st.inv.ext) underlying35 rfl HI1.out
  case s1 =>
   refine qQh (x:=qQd (qQw y) (.slice fA (qQw y).disks.length fc)) rfl rfl rfl (GDo.keep (j:=1) (by decide)) fun γ L v a w1 st=>?_
   have e5:=st.far 5 (by kernel_rfl);simp at e5;exact qQi rfl (b:=xb+1) (off:=0) (by simp[Act.eval,e5]) (hry w1 st.inv.ext) underlying76 rfl cc_info
  case s2 =>
   refine sg_callv' (x:=qQd (qQw y) (.slice fA (qQw y).disks.length fc)) (f:=50) rfl rfl rfl fun γ L v a w1 st=>?_
   have e1:=st.val 1 18 rfl (by kernel_rfl);rw[(st.φ 1 (by kernel_rfl):v 1=_)]at e1;simp at e1;refine⟨#[qQd (qQw y) (.slice fA (qQw y).disks.length fc)],by go_simp,(told_any w1 (qQw y) fA _ fc).mono ?_⟩
   rintro e w2 ⟨rfl,hE2⟩;exact⟨rfl,(GDo.keep (j:=2) (by decide) γ L w1 st.inv st.off).on hE2⟩
  case s3 =>
   refine qZW (k:=0) (f:=49) rfl rfl rfl (by kernel_rfl) fun γ L v a w1 st=>?_
   have e0:=st.val 0 17 rfl (by kernel_rfl);rw[(st.φ 0 (by kernel_rfl):v 0=_)]at e0;simp at e0;have e2:=st.val 2 19 rfl (by kernel_rfl);rw[(st.φ 2 (by kernel_rfl):v 2=_)]at e2;simp at e2
   have h4:L 4=false:=by
    cases hq:L 4 with
    | false=>rfl
    | true =>
     have q3:=st.down 4 3 hq (by kernel_rfl);have q99:=st.off;rw[q3]at q99;cases q99
   have h5:L 5=false:=by
    cases hq:L 5 with
    | false=>rfl
    | true =>
     have q4:=st.down 5 4 hq (by kernel_rfl);have q3:=st.down 4 3 q4 (by kernel_rfl);have q99:=st.off;rw[q3]at q99;cases q99
   have h6:L 6=false:=by
    cases hq:L 6 with
    | false=>rfl
    | true =>
     have q4:=st.down 6 4 hq (by kernel_rfl);have q3:=st.down 4 3 q4 (by kernel_rfl);have q99:=st.off;rw[q3]at q99;cases q99
   have h9:L 9=false:=by
    cases hq:L 9 with
    | false=>rfl
    | true =>
     have q5:=st.down 9 5 hq (by kernel_rfl);have q4:=st.down 5 4 q5 (by kernel_rfl);have q3:=st.down 4 3 q4 (by kernel_rfl);have q99:=st.off;rw[q3]at q99;cases q99
   have h10:L 10=false:=by
    cases hq:L 10 with
    | false=>rfl
    | true =>
     have q6:=st.down 10 6 hq (by kernel_rfl);have q4:=st.down 6 4 q6 (by kernel_rfl);have q3:=st.down 4 3 q4 (by kernel_rfl);have q99:=st.off;rw[q3]at q99;cases q99
   refine⟨#[.agg X,qQd (qQw y) (.slice fA (qQw y).disks.length fc)],by go_simp,?_⟩
   have hEx:=st.inv.ext;refine(rapply_any w1 (.agg X) P n (HR5.out.ext hEx) HI.out (by omega) (qQw y) (.slice fA (qQw y).disks.length fc) (own_kx HO5.out hEx) (by have:=HFD.out;omega) (by have:=cut_size y.name 40;exact Nat.le_trans this (by decide)) HFW.out).mono ?_
   rintro e w2 ⟨v',nv,rfl,hrf,hno,hE2⟩;obtain⟨X2,rfl,x37,xone⟩:=hrf.open HIA.out.vlen;obtain⟨nA,nc,rfl⟩:=qQa hno;exact⟨_,rfl,GDo.called st.inv hE2 h4 h5 h6 h9 h10 hrf x37 xone hno⟩
  case s4 =>
   refine qZq (k:=3) rfl rfl rfl (by kernel_rfl) fun γ L v a w1 st=>?_
   have e3:=st.val 3 20 rfl (by kernel_rfl);rw[(st.φ 3 (by kernel_rfl):v 3=_)]at e3;simp at e3;exact⟨γ 0,w1,by go_simp,GDo.moved st.inv⟩
  case s5 =>
   refine qZq (k:=2) rfl rfl rfl (by kernel_rfl) fun γ L v a w1 st=>?_
   have e4:=st.val 4 16 rfl (by kernel_rfl);have hd4:=st.dep 4 (by kernel_rfl);rw[(st.φ 4 (by kernel_rfl):v 4=_),st.inv.mv hd4]at e4;simp at e4;obtain⟨X2,nA,nc,hγ,_⟩:=st.inv.call (st.down 4 3 hd4 (by kernel_rfl));refine⟨qZf (γ 0) 0,w1,?_,GDo.got1 st.inv⟩
   rw[hγ]at e4⊢;simp[qZf];go_simp
  case s6 =>
   refine qZq (k:=4) rfl rfl rfl (by kernel_rfl) fun γ L v a w1 st=>?_
   have e4:=st.val 4 16 rfl (by kernel_rfl);have hd4:=st.dep 4 (by kernel_rfl);rw[(st.φ 4 (by kernel_rfl):v 4=_),st.inv.mv hd4]at e4;simp at e4;obtain⟨X2,nA,nc,hγ,_⟩:=st.inv.call (st.down 4 3 hd4 (by kernel_rfl));refine⟨qZf (γ 0) 1,w1,?_,GDo.got2 st.inv⟩
   rw[hγ]at e4⊢;simp[qZf];go_simp
  case s7 =>
   refine qZq (k:=1) rfl rfl rfl (by kernel_rfl) fun γ L v a w1 st=>?_
   have h9:L 9=false:=by
    cases hq:L 9 with
    | false=>rfl
    | true =>
     have q7:=st.down 9 7 hq (by kernel_rfl);have q99:=st.off;rw[q7]at q99;cases q99
   exact⟨.pointer (some ⟨w1.heap.size,0,none⟩),w1.alloc (.cells zZC 35),by go_simp,GDo.new1 st.inv h9 rfl⟩
  case s8 =>
   refine qZq (k:=5) rfl rfl rfl (by kernel_rfl) fun γ L v a w1 st=>?_
   have h10:L 10=false:=by
    cases hq:L 10 with
    | false=>rfl
    | true =>
     have q8:=st.down 10 8 hq (by kernel_rfl);have q99:=st.off;rw[q8]at q99;cases q99
   exact⟨.pointer (some ⟨w1.heap.size,0,none⟩),w1.alloc (.cells zZR 114),by go_simp,GDo.new2 st.inv h10 rfl⟩
  case s9 =>
   refine qQ7 rfl rfl rfl fun γ L v a w1 st=>?_
   have d5:=st.dep 5 (by kernel_rfl);have d7:=st.dep 7 (by kernel_rfl);have d4:=st.down 5 4 d5 (by kernel_rfl);have d3:=st.down 4 3 d4 (by kernel_rfl);obtain⟨X2,nA,nc,hγ,a2,a3,a4,a5⟩:=st.inv.call d3;obtain⟨g,g1,g2,⟨Z,g3,g4⟩,_⟩:=st.inv.n1 d7;have e1:=st.val 5 21 rfl (by kernel_rfl);rw[(st.φ 5 (by kernel_rfl):v 5=_),st.inv.e1 d5]at e1;have e2:=st.val 7 9 rfl (by kernel_rfl);rw[(st.φ 7 (by kernel_rfl):v 7=_),g1]at e2;simp at e2;have hta:qZf (γ 0) 0=.agg (qQB (qZf (γ 0) 0)):=by rw[hγ];rfl
   have hsz:(qQB (qZf (γ 0) 0)).size=37:=by rw[hγ];exact a3
   have hon:(qQB (qZf (γ 0) 0)).all (·.oneCell')=true:=by rw[hγ];exact a4
   refine⟨_,qQr rfl (b:=g) (off:=0) (cells:=qQB (qZf (γ 0) 0)) (by simp[Act.eval,e2]) (by show a.tmps.getD 21 undef=_;rw[e1];exact hta) (by rw[hsz,←g4];exact g3.there) (by rw[hsz];exact qQg) hon,?_⟩
   exact GDo.st1 st.inv d3 d7 g1
  case s10 =>
   refine qQ7 rfl rfl rfl fun γ L v a w1 st=>?_
   have d6:=st.dep 6 (by kernel_rfl);have d8:=st.dep 8 (by kernel_rfl);have d4:=st.down 6 4 d6 (by kernel_rfl);have d3:=st.down 4 3 d4 (by kernel_rfl);obtain⟨X2,nA,nc,hγ,a2,a3,a4,a5⟩:=st.inv.call d3;obtain⟨g,g1,g2,⟨Z,g3,g4⟩,_⟩:=st.inv.n2 d8;have e1:=st.val 6 22 rfl (by kernel_rfl);rw[(st.φ 6 (by kernel_rfl):v 6=_),st.inv.e2 d6]at e1;have e2:=st.val 8 10 rfl (by kernel_rfl);rw[(st.φ 8 (by kernel_rfl):v 8=_),g1]at e2;simp at e2;have hta:qZf (γ 0) 1=.agg (qQB (qZf (γ 0) 1)):=by rw[hγ];rfl
   have hsz:(qQB (qZf (γ 0) 1)).size=5:=by rw[hγ];rfl
   have hon:(qQB (qZf (γ 0) 1)).all (·.oneCell')=true:=by rw[hγ];simp[qZf,qQB,Value.oneCell']
   refine⟨_,qQr rfl (b:=g) (off:=0) (cells:=qQB (qZf (γ 0) 1)) (by simp[Act.eval,e2]) (by show a.tmps.getD 22 undef=_;rw[e1];exact hta) (by rw[hsz,←g4];exact g3.there) (by rw[hsz];exact qQz) hon,?_⟩
   exact GDo.st2 st.inv d3 d8 g1
 case fin =>
  intro γ L v wx hall hG hφ;have h7:v 7 = γ 1:=hφ 7 (by decide);have h8:v 8 = γ 5:=hφ 8 (by decide);obtain⟨X2,A5,c5,hγ,hrf,x37,xone,hno⟩:=hG.call (hall 3 (by decide));obtain⟨gb,g1,g2,_,g4⟩:=hG.n1 (hall 7 (by decide));obtain⟨qb,q1,q2,_,q4⟩:=hG.n2 (hall 8 (by decide));have hG1:At wx gb 35 X2:=by have h:=g4 (hall 9 (by decide));rw[hγ]at h;exact h
  have hQ1:At wx qb 114 #[.int .i64 (P.app (qQw y)).2.err,.int .u64 ((P.app (qQw y)).2.blob:Int),.int .i64 (P.app (qQw y)).2.size,.int .u32 ((P.app (qQw y)).2.sum:Int),.slice A5 (P.app (qQw y)).2.names.length c5]:=by have h:=q4 (hall 10 (by decide));rw[hγ]at h;exact h
  rw[g1]at h7;rw[q1]at h8;have hEx:=hG.ext;have hRb:=hRb.ext hEx;have hgq:gb≠xb+1+1:=by have:=hQ.lt;omega
  have hQ:=hQ.ext hEx;have HK6:=Hh (HK5.out.trans (Kp.of_ext hEx));have HC6:=Hh (HC5.out.ext hEx);have HN6:=Hh (own_kx HN5.out hEx);have HNB:=Hh hno;have HRF:=Hh hrf;have HX37:=Hh x37;have HXO:=Hh xone;clear g1 g4 q1 q4 hγ hG hφ hall hrx hry HK5 HC5 HN5 HR5 HO5 hrf hno hB hY hEx g2 q2 x37 xone HI1 HI2 H37 HONE
  change Exit.then _ _ _ (qQM _ v _ 11) wx
  simp only[qQM,qQH,Act.put];simp only[List.getElem?_toArray,List.getElem?_cons_zero,List.getElem?_cons_succ,Option.bind_some,List.setIfInBounds_toArray,List.set_cons_zero,List.set_cons_succ];rw[h7,h8];clear h7 h8
  go_upto_region 4 with fail
  have hq2:qb≠xb+1+1:=At.ne hQ1 hQ (by decide);have hr2:rb≠xb+1+1:=At.ne hRb hQ (by decide);have hcR:∀w1,Chg (· = xb+1+1) wx w1→At w1 rb 72 #[.int .i64 (P.app (qQw y)).2.err,.int .u64 ((P.app (qQw y)).2.blob:Int),.int .i64 (P.app (qQw y)).2.size,.int .u32 ((P.app (qQw y)).2.sum:Int),.slice A4 (P.app (qQw y)).2.names.length c4]:=fun w1 hc=>hRb.chg hc hr2
  have hcQ:∀w1,Chg (· = xb+1+1) wx w1→At w1 qb 114 #[.int .i64 (P.app (qQw y)).2.err,.int .u64 ((P.app (qQw y)).2.blob:Int),.int .i64 (P.app (qQw y)).2.size,.int .u32 ((P.app (qQw y)).2.sum:Int),.slice A5 (P.app (qQw y)).2.names.length c5]:=fun w1 hc=>hQ1.chg hc hq2
  have hcG:∀w1,Chg (· = xb+1+1) wx w1→w1.rangeAt gb 0 X2.toList:=fun w1 hc=>(hG1.chg hc hgq).range
  have HSA:Hid (∀w1,Chg (· = xb+1+1) wx w1→w1.ownsRow 0 9 1 (.slice A4 (P.app (qQw y)).2.names.length c4) (P.app (qQw y)).2.names.length ((P.app (qQw y)).2.names.map Value.string)):=Hh fun w1 hc=>qQb HN6.out hc fun k hk e=>qQf HN6.out hQ (by decide) k hk e
  have HSB:Hid (∀w1,Chg (· = xb+1+1) wx w1→w1.ownsRow 0 9 1 (.slice A5 (P.app (qQw y)).2.names.length c5) (P.app (qQw y)).2.names.length ((P.app (qQw y)).2.names.map Value.string)):=Hh fun w1 hc=>qQb HNB.out hc fun k hk e=>qQf HNB.out hQ (by decide) k hk e
  have HRC:Hid (∀w1,Chg (· = xb+1+1) wx w1→qQZ w1 (.agg X2) (P.app (qQw y)).1):=Hh fun w1 hc=>HRF.out.chgT hQ (by decide) (by decide) hc
  refine qQx (Γ := Nat→Value) (sgφ [.val (.agg X2),.val (.pointer (some ⟨rb,0,none⟩)),.val (.int .i64 (P.app (qQw y)).2.err),.val (.pointer (some ⟨qb,0,none⟩)),.val (.int .i64 (P.app (qQw y)).2.err),.val (.bool true),.val (.bool true),.val (.pointer (some ⟨rb,1,none⟩)),.val (.int .u64 ((P.app (qQw y)).2.blob:Int)),.val (.pointer (some ⟨qb,1,none⟩)),.val (.int .u64 ((P.app (qQw y)).2.blob:Int)),.val (.bool true),.val (.bool true),.val (.bool true),.val (.pointer (some ⟨rb,2,none⟩)),.val (.int .i64 (P.app (qQw y)).2.size),.val (.pointer (some ⟨qb,2,none⟩)),.val (.int .i64 (P.app (qQw y)).2.size),.val (.bool true),.val (.bool true),.val (.bool true),.val (.pointer (some ⟨rb,3,none⟩)),.val (.int .u32 ((P.app (qQw y)).2.sum:Int)),.val (.pointer (some ⟨qb,3,none⟩)),.val (.int .u32 ((P.app (qQw y)).2.sum:Int)),.val (.bool true),.val (.bool true),.val (.bool true),.val (.pointer (some ⟨rb,4,none⟩)),.val (.slice A4 (P.app (qQw y)).2.names.length c4),.val (.pointer (some ⟨qb,4,none⟩)),.val (.slice A5 (P.app (qQw y)).2.names.length c5),.val (.int .i64 0),.val (.bool true),.val (.bool true),.any,.val (.bool true)])
   (GSt wx (xb+1+1) 35 35 X2) (by kernel_rfl) (by kernel_rfl) (by kernel_rfl) (fun _=>undef) ?inv ?steps ?fin
  case inv=>exact⟨(Er wx).drew.chg,⟨ZC,hQ.drew,by rw[HZ.out,HX37.out]⟩,fun hh=>(by cases hh)⟩
  case steps =>
   show qQ2 _ _ _ _ _ _ 37
   refine⟨⟨⟨⟨⟨⟨⟨⟨⟨⟨⟨⟨⟨⟨⟨⟨⟨⟨⟨⟨⟨⟨⟨⟨⟨⟨⟨⟨⟨⟨⟨⟨⟨⟨⟨⟨⟨trivial,?t0⟩,?t1⟩,?t2⟩,?t3⟩,?t4⟩,?t5⟩,?t6⟩,?t7⟩,?t8⟩,?t9⟩,?t10⟩,?t11⟩,?t12⟩,?t13⟩,?t14⟩,?t15⟩,?t16⟩,?t17⟩,?t18⟩,?t19⟩,?t20⟩,?t21⟩,?t22⟩,?t23⟩,?t24⟩,?t25⟩,?t26⟩,?t27⟩,?t28⟩,?t29⟩,?t30⟩,?t31⟩,?t32⟩,?t33⟩,?t34⟩,?t35⟩,?t36⟩
   case t0 =>
    refine qQh (x:=.agg X2) rfl rfl rfl (GSt.keep (j:=0) (by decide)) fun γ L v a w1 st=>?_
    have e9:=st.far 9 (by kernel_rfl);simp at e9;exact qQi rfl (b:=gb) (off:=0) (by simp[Act.eval,e9]) (hcG w1 st.inv.chg) underlying35 rfl (by rw[Array.length_toList,HX37.out];exact qQg)
   case t1 =>
    refine qQh (x:=.pointer (some ⟨rb,0,none⟩)) rfl rfl rfl (GSt.keep (j:=1) (by decide)) fun γ L v a w1 st=>?_
    have e8:=st.far 8 (by kernel_rfl);simp at e8;go_simp
   case t2 =>
    refine qQh (x:=.int .i64 (P.app (qQw y)).2.err) rfl rfl rfl (GSt.keep (j:=2) (by decide)) fun γ L v a w1 st=>?_
    have e1:=st.val 1 24 rfl (by kernel_rfl);rw[(st.φ 1 (by kernel_rfl):v 1=_)]at e1;simp at e1;have q:=(hcR w1 st.inv.chg).cell 0;simp at q;go_simp
   case t3 =>
    refine qQh (x:=.pointer (some ⟨qb,0,none⟩)) rfl rfl rfl (GSt.keep (j:=3) (by decide)) fun γ L v a w1 st=>?_
    have e10:=st.far 10 (by kernel_rfl);simp at e10;go_simp
   case t4 =>
    refine qQh (x:=.int .i64 (P.app (qQw y)).2.err) rfl rfl rfl (GSt.keep (j:=4) (by decide)) fun γ L v a w1 st=>?_
    have e3:=st.val 3 26 rfl (by kernel_rfl);rw[(st.φ 3 (by kernel_rfl):v 3=_)]at e3;simp at e3;have q:=(hcQ w1 st.inv.chg).cell 0;simp at q;go_simp
   case t7 =>
    refine qQL (x:=.pointer (some ⟨rb,1,none⟩)) (on:=6) (t:=29) (b:=true) rfl rfl (by kernel_rfl) rfl rfl rfl (GSt.keep (j:=7) (by decide)) fun γ L v a w1 st=>?_
    have e8:=st.far 8 (by kernel_rfl);simp at e8;go_simp
   case t8 =>
    refine qQL (x:=.int .u64 ((P.app (qQw y)).2.blob:Int)) (on:=6) (t:=29) (b:=true) rfl rfl (by kernel_rfl) rfl rfl rfl (GSt.keep (j:=8) (by decide)) fun γ L v a w1 st=>?_
    have e7:=st.val 7 30 rfl (by kernel_rfl);rw[(st.φ 7 (by kernel_rfl):v 7=_)]at e7;simp at e7;have q:=(hcR w1 st.inv.chg).cell 1;simp at q;go_simp
   case t9 =>
    refine qQL (x:=.pointer (some ⟨qb,1,none⟩)) (on:=6) (t:=29) (b:=true) rfl rfl (by kernel_rfl) rfl rfl rfl (GSt.keep (j:=9) (by decide)) fun γ L v a w1 st=>?_
    have e10:=st.far 10 (by kernel_rfl);simp at e10;go_simp
   case t10 =>
    refine qQL (x:=.int .u64 ((P.app (qQw y)).2.blob:Int)) (on:=6) (t:=29) (b:=true) rfl rfl (by kernel_rfl) rfl rfl rfl (GSt.keep (j:=10) (by decide)) fun γ L v a w1 st=>?_
    have e9:=st.val 9 32 rfl (by kernel_rfl);rw[(st.φ 9 (by kernel_rfl):v 9=_)]at e9;simp at e9;have q:=(hcQ w1 st.inv.chg).cell 1;simp at q;go_simp
   case t14 =>
    refine qQL (x:=.pointer (some ⟨rb,2,none⟩)) (on:=13) (t:=36) (b:=true) rfl rfl (by kernel_rfl) rfl rfl rfl (GSt.keep (j:=14) (by decide)) fun γ L v a w1 st=>?_
    have e8:=st.far 8 (by kernel_rfl);simp at e8;go_simp
   case t15 =>
    refine qQL (x:=.int .i64 (P.app (qQw y)).2.size) (on:=13) (t:=36) (b:=true) rfl rfl (by kernel_rfl) rfl rfl rfl (GSt.keep (j:=15) (by decide)) fun γ L v a w1 st=>?_
    have e14:=st.val 14 37 rfl (by kernel_rfl);rw[(st.φ 14 (by kernel_rfl):v 14=_)]at e14;simp at e14;have q:=(hcR w1 st.inv.chg).cell 2;simp at q;go_simp
   case t16 =>
    refine qQL (x:=.pointer (some ⟨qb,2,none⟩)) (on:=13) (t:=36) (b:=true) rfl rfl (by kernel_rfl) rfl rfl rfl (GSt.keep (j:=16) (by decide)) fun γ L v a w1 st=>?_
    have e10:=st.far 10 (by kernel_rfl);simp at e10;go_simp
   case t17 =>
    refine qQL (x:=.int .i64 (P.app (qQw y)).2.size) (on:=13) (t:=36) (b:=true) rfl rfl (by kernel_rfl) rfl rfl rfl (GSt.keep (j:=17) (by decide)) fun γ L v a w1 st=>?_
    have e16:=st.val 16 39 rfl (by kernel_rfl);rw[(st.φ 16 (by kernel_rfl):v 16=_)]at e16;simp at e16;have q:=(hcQ w1 st.inv.chg).cell 2;simp at q;go_simp
   case t21 =>
    refine qQL (x:=.pointer (some ⟨rb,3,none⟩)) (on:=20) (t:=43) (b:=true) rfl rfl (by kernel_rfl) rfl rfl rfl (GSt.keep (j:=21) (by decide)) fun γ L v a w1 st=>?_
    have e8:=st.far 8 (by kernel_rfl);simp at e8;go_simp
   case t22 =>
    refine qQL (x:=.int .u32 ((P.app (qQw y)).2.sum:Int)) (on:=20) (t:=43) (b:=true) rfl rfl (by kernel_rfl) rfl rfl rfl (GSt.keep (j:=22) (by decide)) fun γ L v a w1 st=>?_
    have e21:=st.val 21 44 rfl (by kernel_rfl);rw[(st.φ 21 (by kernel_rfl):v 21=_)]at e21;simp at e21;have q:=(hcR w1 st.inv.chg).cell 3;simp at q;go_simp
   case t23 =>
    refine qQL (x:=.pointer (some ⟨qb,3,none⟩)) (on:=20) (t:=43) (b:=true) rfl rfl (by kernel_rfl) rfl rfl rfl (GSt.keep (j:=23) (by decide)) fun γ L v a w1 st=>?_
    have e10:=st.far 10 (by kernel_rfl);simp at e10;go_simp
   case t24 =>
    refine qQL (x:=.int .u32 ((P.app (qQw y)).2.sum:Int)) (on:=20) (t:=43) (b:=true) rfl rfl (by kernel_rfl) rfl rfl rfl (GSt.keep (j:=24) (by decide)) fun γ L v a w1 st=>?_
    have e23:=st.val 23 46 rfl (by kernel_rfl);rw[(st.φ 23 (by kernel_rfl):v 23=_)]at e23;simp at e23;have q:=(hcQ w1 st.inv.chg).cell 3;simp at q;go_simp
   case t28 =>
    refine qQL (x:=.pointer (some ⟨rb,4,none⟩)) (on:=27) (t:=50) (b:=true) rfl rfl (by kernel_rfl) rfl rfl rfl (GSt.keep (j:=28) (by decide)) fun γ L v a w1 st=>?_
    have e8:=st.far 8 (by kernel_rfl);simp at e8;go_simp
   case t29 =>
    refine qQL (x:=.slice A4 (P.app (qQw y)).2.names.length c4) (on:=27) (t:=50) (b:=true) rfl rfl (by kernel_rfl) rfl rfl rfl (GSt.keep (j:=29) (by decide)) fun γ L v a w1 st=>?_
    have e28:=st.val 28 51 rfl (by kernel_rfl);rw[(st.φ 28 (by kernel_rfl):v 28=_)]at e28;simp at e28;have q:=(hcR w1 st.inv.chg).cell 4;simp at q;go_simp
   case t30 =>
    refine qQL (x:=.pointer (some ⟨qb,4,none⟩)) (on:=27) (t:=50) (b:=true) rfl rfl (by kernel_rfl) rfl rfl rfl (GSt.keep (j:=30) (by decide)) fun γ L v a w1 st=>?_
    have e10:=st.far 10 (by kernel_rfl);simp at e10;go_simp
   case t31 =>
    refine qQL (x:=.slice A5 (P.app (qQw y)).2.names.length c5) (on:=27) (t:=50) (b:=true) rfl rfl (by kernel_rfl) rfl rfl rfl (GSt.keep (j:=31) (by decide)) fun γ L v a w1 st=>?_
    have e30:=st.val 30 53 rfl (by kernel_rfl);rw[(st.φ 30 (by kernel_rfl):v 30=_)]at e30;simp at e30;have q:=(hcQ w1 st.inv.chg).cell 4;simp at q;go_simp
   case t5 =>
    refine qQh (x:=.bool true) rfl rfl rfl (GSt.keep (j:=5) (by decide)) fun γ L v a w1 st=>?_
    have e2:=st.val 2 25 rfl (by kernel_rfl);rw[(st.φ 2 (by kernel_rfl):v 2=_)]at e2;simp at e2;have e4:=st.val 4 27 rfl (by kernel_rfl);rw[(st.φ 4 (by kernel_rfl):v 4=_)]at e4;simp at e4;go_simp
   case t6 =>
    refine qQh (x:=.bool true) rfl rfl rfl (GSt.keep (j:=6) (by decide)) fun γ L v a w1 st=>?_
    have e5:=st.val 5 28 rfl (by kernel_rfl);rw[(st.φ 5 (by kernel_rfl):v 5=_)]at e5;simp at e5;go_simp
   case t11 =>
    refine qQL (x:=.bool true) (on:=6) (t:=29) (b:=true) rfl rfl (by kernel_rfl) rfl rfl rfl (GSt.keep (j:=11) (by decide)) fun γ L v a w1 st=>?_
    have e8:=st.val 8 31 rfl (by kernel_rfl);rw[(st.φ 8 (by kernel_rfl):v 8=_)]at e8;simp at e8;have e10:=st.val 10 33 rfl (by kernel_rfl);rw[(st.φ 10 (by kernel_rfl):v 10=_)]at e10;simp at e10;go_simp
   case t12 =>
    refine qQh (x:=.bool true) rfl rfl rfl (GSt.keep (j:=12) (by decide)) fun γ L v a w1 st=>?_
    have e6:=st.val 6 29 rfl (by kernel_rfl);rw[(st.φ 6 (by kernel_rfl):v 6=_)]at e6;simp at e6;have e11:=st.val 11 34 rfl (by kernel_rfl);rw[(st.φ 11 (by kernel_rfl):v 11=_)]at e11;simp at e11;go_simp
   case t13 =>
    refine qQh (x:=.bool true) rfl rfl rfl (GSt.keep (j:=13) (by decide)) fun γ L v a w1 st=>?_
    have e12:=st.val 12 35 rfl (by kernel_rfl);rw[(st.φ 12 (by kernel_rfl):v 12=_)]at e12;simp at e12;go_simp
   case t18 =>
    refine qQL (x:=.bool true) (on:=13) (t:=36) (b:=true) rfl rfl (by kernel_rfl) rfl rfl rfl (GSt.keep (j:=18) (by decide)) fun γ L v a w1 st=>?_
    have e15:=st.val 15 38 rfl (by kernel_rfl);rw[(st.φ 15 (by kernel_rfl):v 15=_)]at e15;simp at e15;have e17:=st.val 17 40 rfl (by kernel_rfl);rw[(st.φ 17 (by kernel_rfl):v 17=_)]at e17;simp at e17;go_simp
   case t19 =>
    refine qQh (x:=.bool true) rfl rfl rfl (GSt.keep (j:=19) (by decide)) fun γ L v a w1 st=>?_
    have e13:=st.val 13 36 rfl (by kernel_rfl);rw[(st.φ 13 (by kernel_rfl):v 13=_)]at e13;simp at e13;have e18:=st.val 18 41 rfl (by kernel_rfl);rw[(st.φ 18 (by kernel_rfl):v 18=_)]at e18;simp at e18;go_simp
   case t20 =>
    refine qQh (x:=.bool true) rfl rfl rfl (GSt.keep (j:=20) (by decide)) fun γ L v a w1 st=>?_
    have e19:=st.val 19 42 rfl (by kernel_rfl);rw[(st.φ 19 (by kernel_rfl):v 19=_)]at e19;simp at e19;go_simp
   case t25 =>
    refine qQL (x:=.bool true) (on:=20) (t:=43) (b:=true) rfl rfl (by kernel_rfl) rfl rfl rfl (GSt.keep (j:=25) (by decide)) fun γ L v a w1 st=>?_
    have e22:=st.val 22 45 rfl (by kernel_rfl);rw[(st.φ 22 (by kernel_rfl):v 22=_)]at e22;simp at e22;have e24:=st.val 24 47 rfl (by kernel_rfl);rw[(st.φ 24 (by kernel_rfl):v 24=_)]at e24;simp at e24;go_simp
   case t26 =>
    refine qQh (x:=.bool true) rfl rfl rfl (GSt.keep (j:=26) (by decide)) fun γ L v a w1 st=>?_
    have e20:=st.val 20 43 rfl (by kernel_rfl);rw[(st.φ 20 (by kernel_rfl):v 20=_)]at e20;simp at e20;have e25:=st.val 25 48 rfl (by kernel_rfl);rw[(st.φ 25 (by kernel_rfl):v 25=_)]at e25;simp at e25;go_simp
   case t27 =>
    refine qQh (x:=.bool true) rfl rfl rfl (GSt.keep (j:=27) (by decide)) fun γ L v a w1 st=>?_
    have e26:=st.val 26 49 rfl (by kernel_rfl);rw[(st.φ 26 (by kernel_rfl):v 26=_)]at e26;simp at e26;go_simp
   case t32 =>
    refine sg_callv_on (x:=.int .i64 0) (f:=51) (on:=27) (t:=50) (b:=true) rfl rfl (by kernel_rfl) rfl rfl rfl fun γ L v a w1 st=>?_
    have e29:=st.val 29 52 rfl (by kernel_rfl);rw[(st.φ 29 (by kernel_rfl):v 29=_)]at e29;simp at e29;have e31:=st.val 31 54 rfl (by kernel_rfl);rw[(st.φ 31 (by kernel_rfl):v 31=_)]at e31;simp at e31;refine⟨#[.slice A4 (P.app (qQw y)).2.names.length c4,.slice A5 (P.app (qQw y)).2.names.length c5],by go_simp,(same02_any w1 _ _ (P.app (qQw y)).2.names (qJt (HSA.out w1 st.inv.chg)) (qJt (HSB.out w1 st.inv.chg)) (by have:=app_names HI.out (qQw y);omega)).mono ?_⟩
    rintro e w2 ⟨rfl,hE2⟩;exact⟨rfl,st.inv.on hE2 (by decide)⟩
   case t33 =>
    refine qQL (x:=.bool true) (on:=27) (t:=50) (b:=true) rfl rfl (by kernel_rfl) rfl rfl rfl (GSt.keep (j:=33) (by decide)) fun γ L v a w1 st=>?_
    have e32:=st.val 32 55 rfl (by kernel_rfl);rw[(st.φ 32 (by kernel_rfl):v 32=_)]at e32;simp at e32;go_simp
   case t34 =>
    refine qQh (x:=.bool true) rfl rfl rfl (GSt.keep (j:=34) (by decide)) fun γ L v a w1 st=>?_
    have e27:=st.val 27 50 rfl (by kernel_rfl);rw[(st.φ 27 (by kernel_rfl):v 27=_)]at e27;simp at e27;have e33:=st.val 33 56 rfl (by kernel_rfl);rw[(st.φ 33 (by kernel_rfl):v 33=_)]at e33;simp at e33;go_simp
   case t36 =>
    refine qQh (x:=.bool true) rfl rfl rfl (GSt.keep (j:=36) (by decide)) fun γ L v a w1 st=>?_
    have e34:=st.val 34 57 rfl (by kernel_rfl);rw[(st.φ 34 (by kernel_rfl):v 34=_)]at e34;simp at e34;go_simp
   case t35 =>
    refine qQ7 rfl rfl rfl fun γ L v a w1 st=>?_
    have e6:=st.far 6 (by kernel_rfl);simp at e6;have e0:=st.val 0 23 rfl (by kernel_rfl);rw[(st.φ 0 (by kernel_rfl):v 0=_)]at e0;simp at e0;obtain⟨Z,z1,z2⟩:=st.inv.at_;refine⟨_,qQr rfl (b:=xb+1+1) (off:=0) (cells:=X2) (by simp[Act.eval,e6]) (by simp[Act.eval,e0]) (by rw[←z2];exact z1.there) (by rw[HX37.out];exact qQg) HXO.out,?_⟩
    exact st.inv.stored
  case fin =>
   intro γ L v wy hall hG hφ;have h36:v 36=.bool true:=hφ 36 (by decide);have hst:=hG.st (hall 35 (by decide));have hchg:=hG.chg;have l1:(loadVar 35 ⟨xb+1+1,0,none⟩).run prog wy=.ok (.agg X2) wy:=run_loadVar_mid (P:=prog) wy (xb+1+1) 0 35 X2.toList _ hst.range underlying35 rfl (by rw[Array.length_toList,HX37.out];exact qQg);have HL:=Hh l1;have HFIN:Hid (qZC wy B c mb mn (P.app (qQw y)).1∧qQZ wy (.agg X2) (P.app (qQw y)).1∧Kp B w wy):=Hh ⟨HC6.out.fresh hQ (by decide) (by decide) (by decide) hchg,HRC.out wy hchg,HK6.out.then hchg (fun k e=>by have:=HXB.out;have e':k=xb+1+1:=e;omega) HBS.out⟩;clear hφ hall hG hst hchg l1 hcR hcQ hcG HSA HSB HRC
   change Exit.then _ _ _ (qQM _ v _ 37) wy
   simp only[qQM,qQH,Act.put];simp only[List.getElem?_toArray,List.getElem?_cons_zero,List.getElem?_cons_succ,Option.bind_some,List.setIfInBounds_toArray,List.set_cons_zero,List.set_cons_succ];rw[h36];go_wp2_with fail
   refine bodyPost_ret (v:=.tuple #[.agg X2,.bool true]) (results_ct results18 _ rfl HL.out) rfl ?_;exact⟨.agg X2,rfl,HFIN.out⟩
open Go.RowKit Go.Sort
structure GPl (W0:World) (B:Nat→Prop) (c mb mn:Nat) (P P2:Pm) (γ : Nat→Value) (L:Nat→Bool) (w:World):Prop where
 pre:L 6=false→Ext W0 w
 kp:Kp B W0 w
 call:L 6=true→∃X, γ 0=.tuple #[.agg X,.bool true]∧X.size=37∧X.all (·.oneCell')=true∧qZC w B c mb mn P2∧qQZ w (.agg X) P2
 mv:L 7=true → γ 3 = γ 0
 e1:L 8=true → γ 2=qZf (γ 0) 0
 n1:L 10=true→∃g, γ 1=.pointer (some ⟨g,0,none⟩)∧W0.heap.size≤g∧(∃Z:Array Value,At w g 35 Z∧Z.size=37)∧(L 11=true→At w g 35 (qQB (qZf (γ 0) 0)))
section
variable{W0 w w':World}{B:Nat→Prop}{c mb mn:Nat}{P P2:Pm}{γ : Nat→Value}{L:Nat→Bool}
theorem GPl.keep{j:Nat}(hj:j<6∨j=9∨j=12):∀γ L w,GPl W0 B c mb mn P P2 γ L w→L j=false→GPl W0 B c mb mn P P2 γ (fun i=>i == j||L i) w:=by
 intro γ L w h _;have k:∀i,(i=6∨i=7∨i=8∨i=10∨i=11)→(i == j||L i)=L i:=fun i hi=>by rw[show(i == j)=false by simp;omega,Bool.false_or]
 have k6:=k 6 (by omega);have k7:=k 7 (by omega);have k8:=k 8 (by omega);have k10:=k 10 (by omega);have k11:=k 11 (by omega)
 exact⟨fun hh=>h.pre (k6 ▸ hh),h.kp,fun hh=>h.call (k6 ▸ hh),fun hh=>h.mv (k7 ▸ hh),fun hh=>h.e1 (k8 ▸ hh),fun hh=>by rw[k11];exact h.n1 (k10 ▸ hh)⟩
theorem GPl.called(h:GPl W0 B c mb mn P P2 γ L w){X:Array Value}(hK:Kp B w w')(h7:L 7=false)(h8:L 8=false)(h11:L 11=false)(a2:qQZ w' (.agg X) P2)(a3:X.size=37)(a4:X.all (·.oneCell')=true)(a5:qZC w' B c mb mn P2) :
 GPl W0 B c mb mn P P2 (upd γ 0 (.tuple #[.agg X,.bool true])) (fun i=>i == 6||L i) w':=by
 refine⟨fun hh=>by simp at hh,h.kp.trans hK,fun _=>⟨X,by simp[upd],a3,a4,a5,a2⟩,fun hh=>?_,fun hh=>?_,fun hh=>?_⟩
 ·simp[h7]at hh
 ·simp[h8]at hh
 ·obtain⟨g,b1,b2,⟨Z,b3,b4⟩,_⟩:=h.n1 (by simpa using hh);exact⟨g,by simpa[upd]using b1,b2,⟨Z,hK.at_ _ _ _ (by decide) (by decide) b3,b4⟩,fun hh=>by simp[h11]at hh⟩
theorem GPl.moved(h:GPl W0 B c mb mn P P2 γ L w):GPl W0 B c mb mn P P2 (upd γ 3 (γ 0)) (fun i=>i == 7||L i) w:=by
 refine⟨fun hh=>h.pre (by simpa using hh),h.kp,fun hh=>?_,fun _=>by simp[upd],fun hh=>?_,fun hh=>?_⟩
 ·simpa[upd]using h.call (by simpa using hh)
 ·simpa[upd]using h.e1 (by simpa using hh)
 ·simpa[upd]using h.n1 (by simpa using hh)
theorem GPl.got(h:GPl W0 B c mb mn P P2 γ L w):GPl W0 B c mb mn P P2 (upd γ 2 (qZf (γ 0) 0)) (fun i=>i == 8||L i) w:=by
 refine⟨fun hh=>h.pre (by simpa using hh),h.kp,fun hh=>?_,fun hh=>?_,fun _=>by simp[upd],fun hh=>?_⟩
 ·simpa[upd]using h.call (by simpa using hh)
 ·simpa[upd]using h.mv (by simpa using hh)
 ·simpa[upd]using h.n1 (by simpa using hh)
theorem GPl.new(h:GPl W0 B c mb mn P P2 γ L w)(h11:L 11=false){Z:Array Value}(hz:Z.size=37):GPl W0 B c mb mn P P2 (upd γ 1 (.pointer (some ⟨w.heap.size,0,none⟩))) (fun i=>i == 10||L i) (w.alloc (.cells Z 35)):=by
 have hE:Ext w (w.alloc (.cells Z 35)):=(Er w).alloc _;refine⟨fun hh=>(h.pre (by simpa using hh)).trans hE,h.kp.trans (Kp.of_ext hE),fun hh=>?_,fun hh=>?_,fun hh=>?_,fun _=>⟨w.heap.size,by simp[upd],h.kp.chg.size,⟨Z,At.new _ _ _,hz⟩,fun hh=>by simp[h11]at hh⟩⟩
 ·obtain⟨X,a1,a2,a3,a4,a5⟩:=h.call (by simpa using hh);exact⟨X,by simpa[upd]using a1,a2,a3,a4.ext hE,a5.ext hE⟩
 ·simpa[upd]using h.mv (by simpa using hh)
 ·simpa[upd]using h.e1 (by simpa using hh)
theorem GPl.stored(h:GPl W0 B c mb mn P P2 γ L w)(hB:∀k,W0.heap.size≤k→B k)(h6:L 6=true)(h10:L 10=true){g:Nat}(hg : γ 1=.pointer (some ⟨g,0,none⟩)):GPl W0 B c mb mn P P2 γ (fun i=>i == 11||L i) (w.setCells g 0 (qQB (qZf (γ 0) 0)).toList):=by
 obtain⟨X,a1,a2,a3,a4,a5⟩:=h.call h6;obtain⟨g',b1,b2,⟨Z,b3,b4⟩,_⟩:=h.n1 h10;rw[hg]at b1;obtain rfl:g=g':=by injection b1 with b1;injection b1 with b1;injection b1
 have hE:Chg (· = g) w (w.setCells g 0 (qQB (qZf (γ 0) 0)).toList):=qQq _ _;have hx:(qQB (qZf (γ 0) 0)).size=37:=by rw[a1];exact a2
 refine⟨fun hh=>by simp[h6]at hh,h.kp.then hE (fun k e=>by have e':k=g:=e;omega) hB,fun _=>⟨X,a1,a2,a3,a4.fresh b3 (by decide) (by decide) (by decide) hE,a5.chgT b3 (by decide) (by decide) hE⟩,fun hh=>h.mv (by simpa using hh),fun hh=>h.e1 (by simpa using hh),fun _=>⟨g,hg,b2,⟨_,At.cells_all b3 (by rw[b4,hx]),hx⟩,fun _=>At.cells_all b3 (by rw[b4,hx])⟩⟩
end
theorem results_tct{P:Program}{fn:Func}{p q r:Tmp}{ty:TypeId}(h:fn.results=#[.tmp q,.cell p ty,.tmp r])(tmps:Array Value){b o:Nat}(ha:tmps.getD p undef=.pointer (some ⟨b,o,none⟩)){v:Value}{w:World}
 (hl:(loadVar ty ⟨b,o,none⟩).run P w=.ok v w):(results fn tmps).run P w=.ok (.tuple #[tmps.getD q undef,v,tmps.getD r undef]) w:=by
 unfold results;rw[h];simp at ha;simp[ha,asAddr,hl]
theorem Ext.then_new{w w1 w':World}{rb:Nat}(h:Ext w w1)(hc:Chg (· = rb) w1 w')(hr:w.heap.size≤rb):Ext w w':=(h.chg_trans hc).mono fun k hk e=>by have e':k=rb:=e;omega
theorem rf_empty(w:World):qQZ w (.agg zZC) Pm.empty:=⟨.slice none 0 0,[],rfl,rfl,⟨⟨by simp,.inl ⟨rfl,rfl⟩⟩,fun p hp=>by cases hp⟩⟩
theorem grow_any(w:World)(l:List CRow)(lv:Value)(hl:CmdsIn w l lv) :
 Calls prog 7 #[lv] w fun e w'=>∃(B:Nat→Prop) (c mb mn:Nat) (X:Array Value) (P:Pm),e=.returned (.tuple #[.pointer (some ⟨c,0,none⟩),.agg X,.bool true])∧(∀k,B k→w.heap.size≤k)∧qZC w' B c mb mn P∧qQZ w' (.agg X) P∧X.size=37∧X.all (·.oneCell')=true∧PInv 25 P∧Ext w w':=by
 obtain⟨LA,lc,rfl,hlc,hlm⟩:=hl.cap;have hll:=hl.len;unfold maxLen at hll hlm;have HL:=Hh hl;clear hl;have hR0:=At.new w 35 zZC;have hER:=(Er w).alloc (.cells zZC 35)
 go_enter func7,ntmps7
 go_upto_region 1 with fail
 generalize w.alloc _=wq at hR0 hER⊢;generalize hrb:w.heap.size=rb at hR0⊢;have hN:=cnew_any wq;go_wp2_with fail
 refine hN.mono ?_;rintro e w0 ⟨c,mb,mn,rfl,hC0,hE0⟩;clear hN;replace hR0:=hR0.ext hE0;obtain⟨B,hB⟩:∃B,B=Hi wq.heap.size:=⟨_,rfl⟩;rw[←hB]at hC0;have HwB:Hid (∀k,B k→w.heap.size≤k):=Hh (fun k hk=>by rw[hB]at hk;exact Nat.le_trans hER.size hk);replace hE0:=hER.trans hE0;clear hER;have hX0:=At.new w0 35 zZC;have hEx:=(Er w0).alloc (.cells zZC 35);have HT0:=Hh hX0.there
 go_upto_region 3 with(refine wpList_store_mid rfl 35 _ _ rfl w0.heap.size 0 #[.slice none 0 0,.bool false,.bool false,.int .i64 0,.bool false,.bool false,.int .i64 0,.bool false,.bool false,.int .i64 0,.bool false,.bool false,.int .i64 0,.bool false,.bool false,.int .i64 0,.bool false,.bool false,.int .i64 0,.bool false,.bool false,.int .i64 0,.bool false,.bool false,.int .i64 0,.bool false,.bool false,.int .i64 0,.bool false,.bool false,.int .i64 0,.bool false,.bool false,.int .i64 0,.bool false,.bool false,.int .i64 0] rfl rfl HT0.out qQg (by simp[Value.oneCell']) ?_)
 have hX1:=At.cells_all (cs:=zZC) hX0 rfl;have hE1:Ext w0 ((w0.alloc (.cells zZC 35)).setCells w0.heap.size 0 zZC.toList):=hEx.setCells (Nat.le_refl _) _ _;clear HT0 hX0 hEx;have HXB:=Hh (show w.heap.size≤w0.heap.size from hE0.size);have hrx:rb≠w0.heap.size:=by have:=hR0.lt;omega
 replace hR0:=hR0.ext hE1;generalize w0.heap.size=xb at hX1 hE1 HXB hrx hR0⊢;generalize (w0.alloc (.cells zZC 35)).setCells xb 0 zZC.toList=W1 at hX1 hE1 hR0⊢;have hR1:qQZ W1 (.agg zZC) Pm.empty:=rf_empty W1;have hz37:zZC.size=37:=rfl;have hone:(zZC:Array Value).all (·.oneCell')=true:=by unfold zZC;simp[Value.oneCell']
 have HRB:=Hh hrb;have HRX:=Hh hrx;have HRN:=Hh (show w.heap.size≤rb by omega);have X1:=hE0.trans hE1;have hC1:=hC0.ext hE1;clear hC0 hE0 hE1 hrb hrx hB;obtain⟨ZR,hZR⟩:∃ZR:Array Value,ZR=zZC:=⟨_,rfl⟩;rw[←hZR]at hR0;have hz2:ZR.size=37:=by rw[hZR];rfl
 clear hZR;generalize zZC=ZX at hX1 hR1 hz37 hone;go_wp2_with fail
 go_loopw [7,8] (fun ov kv wr=>ov=.bool true∧∃(k:Nat) (P:Pm) (X:Array Value),kv=.int .i64 (k:Int)∧k≤l.length∧k≤25∧qZC wr B c mb mn P∧PInv k P∧At wr xb 35 X∧X.size=37∧X.all (·.oneCell')=true∧qQZ wr (.agg X) P∧At wr rb 35 ZR∧Ext w wr) (fun _ kv _=>25 - (intOf kv).toNat)
 case atStart=>exact⟨rfl,0,_,ZX,rfl,Nat.zero_le _,Nat.zero_le _,hC1,PInv.empty 0,hX1,hz37,hone,hR1,hR0,X1⟩
 case round =>
  clear hC1 X1 hX1 hR1 hz37 hone hR0;obtain⟨rfl,k,P,X,rfl,hkl,hk40,hCk,hPk,hXk,h37,hXo,hRk,hRB,Xk⟩:=hrel;have HI1:Hid ((prog.info? 35).map (·.size)=some X.toList.length):=Hh (by rw[Array.length_toList,h37];exact qQg);obtain⟨fk,hfk⟩:∃fk:Bool,fk=decide (k<l.length∧k<25):=⟨_,rfl⟩;obtain⟨wo,hwo⟩:∃wo:World,wo=wr:=⟨_,rfl⟩
  go_upto_region 5 with fail
  go_cut [25]from 15 to 25 (fun tv wx=>tv=.bool fk∧wx=wo)
  case first =>
   clear hCk hPk hXk hRk Xk HI1 h37 hXo hRB
   by_cases h1:k<l.length
   ·by_cases h2:k<25
    ·obtain rfl:fk=true:=by rw[hfk];simp;omega
     clear hfk;go_wp2_with fail
     go_meet
     case rel=>exact⟨by first|rfl|(simp <;> omega),hwo.symm⟩
    ·obtain rfl:fk=false:=by rw[hfk];simp;omega
     clear hfk;go_wp2_with fail
     go_meet
     case rel=>exact⟨by first|rfl|(simp <;> omega),hwo.symm⟩
   ·obtain rfl:fk=false:=by rw[hfk];simp;omega
    clear hfk;go_wp2_with fail
    go_meet
    case rel=>exact⟨by first|rfl|(simp <;> omega),hwo.symm⟩
  case rest =>
   obtain⟨rfl,hwc⟩:=hcut;subst hwc;subst hwo;cases fk
   ·clear hfk;have HXO:=Hh hXo;have HX37:=Hh h37;have HEW:=Hh Xk;have hcX:∀w1,Chg (· = rb) wc w1→At w1 xb 35 X:=fun w1 hc=>hXk.chg hc (fun e=>HRX.out e.symm)
    have hcC:∀w1,Chg (· = rb) wc w1→qZC w1 B c mb mn P:=fun w1 hc=>hCk.fresh hRB (by decide) (by decide) (by decide) hc
    have hcF:∀w1,Chg (· = rb) wc w1→qQZ w1 (.agg X) P:=fun w1 hc=>hRk.chgT hRB (by decide) (by decide) hc
    have HPI:=Hh (hPk.mono hk40);have hin:GSt wc rb 35 4 X (fun _=>undef) (fun _=>false) wc.drew:=⟨(Er wc).drew.chg,⟨ZR,hRB.drew,by rw[hz2,h37]⟩,fun hh=>by cases hh⟩;clear hXk hCk hRk hPk hXo h37 Xk hRB HI1
    go_upto_region 10 with fail
    refine qQx (Γ := Nat→Value) (sgφ [.val (.pointer (some ⟨c,0,none⟩)),.val (.agg X),.val (.bool true),.val (.pointer (some ⟨c,0,none⟩)),.any,.val (.bool true)]) (GSt wc rb 35 4 X) (by kernel_rfl) (by kernel_rfl) (by kernel_rfl) (fun _=>undef) hin ?steps ?fin
    case steps =>
     show qQ2 _ _ _ _ _ _ 6
     refine⟨⟨⟨⟨⟨⟨trivial,?t0⟩,?t1⟩,?t2⟩,?t3⟩,?t4⟩,?t5⟩
     case t0 =>
      refine qQh (x:=.pointer (some ⟨c,0,none⟩)) rfl rfl rfl (GSt.keep (j:=0) (by decide)) fun γ L v a w1 st=>?_
      have e5:=st.far 5 (by kernel_rfl);simp at e5;go_simp
     case t1 =>
      refine qQh (x:=.agg X) rfl rfl rfl (GSt.keep (j:=1) (by decide)) fun γ L v a w1 st=>?_
      have e6:=st.far 6 (by kernel_rfl);simp at e6;exact qQi rfl (b:=xb) (off:=0) (by simp[Act.eval,e6]) (hcX w1 st.inv.chg).range underlying35 rfl (by rw[Array.length_toList,HX37.out];exact qQg)
     case t2 =>
      refine qQh (x:=.bool true) rfl rfl rfl (GSt.keep (j:=2) (by decide)) fun γ L v a w1 st=>?_
      have e7:=st.far 7 (by kernel_rfl);simp at e7;go_simp
     case t3 =>
      refine qQh (x:=.pointer (some ⟨c,0,none⟩)) rfl rfl rfl (GSt.keep (j:=3) (by decide)) fun γ L v a w1 st=>?_
      have e0:=st.val 0 40 rfl (by kernel_rfl);rw[(st.φ 0 (by kernel_rfl):v 0=_)]at e0;simp at e0;go_simp
     case t4 =>
      refine qQ7 rfl rfl rfl fun γ L v a w1 st=>?_
      have e3:=st.far 3 (by kernel_rfl);simp at e3;have e1:=st.val 1 41 rfl (by kernel_rfl);rw[(st.φ 1 (by kernel_rfl):v 1=_)]at e1;simp at e1;obtain⟨Z,z1,z2⟩:=st.inv.at_;refine⟨_,qQr rfl (b:=rb) (off:=0) (cells:=X) (by simp[Act.eval,e3]) (by simp[Act.eval,e1]) (by rw[←z2];exact z1.there) (by rw[HX37.out];exact qQg) HXO.out,?_⟩
      exact st.inv.stored
     case t5 =>
      refine qQh (x:=.bool true) rfl rfl rfl (GSt.keep (j:=5) (by decide)) fun γ L v a w1 st=>?_
      have e2:=st.val 2 42 rfl (by kernel_rfl);rw[(st.φ 2 (by kernel_rfl):v 2=_)]at e2;simp at e2;go_simp
    case fin =>
     intro γ L v wy hall hG hφ;have h3:v 3=.pointer (some ⟨c,0,none⟩):=hφ 3 (by decide);have h5:v 5=.bool true:=hφ 5 (by decide);have hst:=hG.st (hall 4 (by decide));have hchg:=hG.chg;have l1:(loadVar 35 ⟨rb,0,none⟩).run prog wy=.ok (.agg X) wy:=run_loadVar_mid (P:=prog) wy rb 0 35 X.toList _ hst.range underlying35 rfl (by rw[Array.length_toList,HX37.out];exact qQg);have HLO:=Hh l1;have HFIN:Hid (qZC wy B c mb mn P∧qQZ wy (.agg X) P∧Ext w wy):=Hh ⟨hcC _ hchg,hcF _ hchg,HEW.out.then_new hchg HRN.out⟩;clear hφ hall hG hst hchg l1 hcX hcC hcF
     change Exit.then _ _ _ (qQM _ v _ 6) wy
     simp only[qQM,qQH,Act.put];simp only[List.getElem?_toArray,List.getElem?_cons_zero,List.getElem?_cons_succ,Option.bind_some,List.setIfInBounds_toArray,List.set_cons_zero,List.set_cons_succ];rw[h3,h5];go_wp2_with fail
     refine bodyPost_ret (v:=.tuple #[.pointer (some ⟨c,0,none⟩),.agg X,.bool true]) (results_tct results7 _ rfl HLO.out) rfl ?_;exact⟨B,c,mb,mn,X,P,rfl,HwB.out,HFIN.out.1,HFIN.out.2.1,HX37.out,HXO.out,HPI.out,HFIN.out.2.2⟩
   ·have hfk2:k<l.length∧k<25:=by simpa using hfk.symm
    obtain⟨hlt,hlt40⟩:=hfk2;clear hfk;obtain⟨⟨x,dv⟩,hx⟩:∃x,l[k]? = some x:=⟨_,List.getElem?_eq_getElem hlt⟩;have hin:x.In dv wc:=(HL.out.row _ (List.mem_of_getElem? hx)).ext Xk;have hS:=HL.out.ops.ext Xk
    obtain⟨lb,lo,rfl⟩:=qQQ hS (fun e=>by
     have:=List.map_eq_nil_iff.1 e
     subst this;simp at hlt)
    have HIN:=Hh (fun w1 (hc:Ext wc w1)=>hin.ext hc);have HRW:Hid (∀w1,Ext wc w1→w1.rangeAt lb (lo+k * 11) (crow (x,dv))):=Hh fun w1 hc j u hu=>sln_get (hS.ext hc) (by rw[List.getElem?_map,hx];rfl) j u hu
    have HWF:=Hh hin.wf;have HXW:=Hh (fun w1 (hc:Ext wc w1)=>hXk.ext hc);have HRF:=Hh (fun w1 (hc:Ext wc w1)=>hRB.ext hc);have HCW:=Hh (fun w1 (hc:Ext wc w1)=>hCk.ext hc);have HRFW:=Hh (fun w1 (hc:Ext wc w1)=>hRk.ext hc);have HPA:=Hh (hPk.app (fewC_wf hin.wf));have HVL:=Hh (hPk.app (fewC_wf hin.wf)).vlen;have HBW:=Hh (cat_lt hCk);have HEW:=Hh Xk;have HPK:=Hh hPk;clear hin hx hS hCk hRk hXk Xk hPk hRB hXo
    go_upto_region 7 with fail
    refine qQx (Γ := Nat→Value) (sgφ [.val (.pointer (some ⟨c,0,none⟩)),.val (.agg X),.val (.slice (some ⟨lb,lo,none⟩) l.length lc),.val (.int .i64 (k:Int)),.val (.pointer (some ⟨lb,lo+k * 11,none⟩)),.val (qQd x dv),.g 0,.g 3,.g 2,.val (.bool true),.g 1,.any,.val (.bool true)])
     (GPl wc B c mb mn P (P.app (qQw x)).1) (by kernel_rfl) (by kernel_rfl) (by kernel_rfl) (fun _=>undef) ?inv ?steps ?fin
    case inv=>exact⟨fun _=>(Er wc).drew,Kp.of_ext (Er wc).drew,fun hh=>(by cases hh),fun hh=>(by cases hh),fun hh=>(by cases hh),fun hh=>(by cases hh)⟩
    case steps =>
     show qQ2 _ _ _ _ _ _ 13
     refine⟨⟨⟨⟨⟨⟨⟨⟨⟨⟨⟨⟨⟨trivial,?s0⟩,?s1⟩,?s2⟩,?s3⟩,?s4⟩,?s5⟩,?s6⟩,?s7⟩,?s8⟩,?s9⟩,?s10⟩,?s11⟩,?s12⟩
     case s0 =>
      refine qQh (x:=.pointer (some ⟨c,0,none⟩)) rfl rfl rfl (GPl.keep (j:=0) (by omega)) fun γ L v a w1 st=>?_
      have e5:=st.far 5 (by kernel_rfl);simp at e5;go_simp
     case s1 =>
      refine qQh (x:=.agg X) rfl rfl rfl (GPl.keep (j:=1) (by omega)) fun γ L v a w1 st=>?_
      have e6:=st.far 6 (by kernel_rfl);simp at e6
      have h6:L 6=false:=by
       cases hq:L 6 with
       | false=>rfl
       | true =>
        have q1:=st.down 6 1 hq (by kernel_rfl);have q99:=st.off;rw[q1]at q99;cases q99
      exact qQi rfl (b:=xb) (off:=0) (by simp[Act.eval,e6]) (HXW.out w1 (st.inv.pre h6)).range underlying35 rfl HI1.out
     case s2 =>
      refine qQh (x:=.slice (some ⟨lb,lo,none⟩) l.length lc) rfl rfl rfl (GPl.keep (j:=2) (by omega)) fun γ L v a w1 st=>?_
      have e0:=st.far 0 (by kernel_rfl);simp at e0;go_simp
     case s3 =>
      refine qQh (x:=.int .i64 (k:Int)) rfl rfl rfl (GPl.keep (j:=3) (by omega)) fun γ L v a w1 st=>?_
      have e7:=st.far 8 (by kernel_rfl);simp at e7;go_simp
     case s4 =>
      refine qQh (x:=.pointer (some ⟨lb,lo+k * 11,none⟩)) rfl rfl rfl (GPl.keep (j:=4) (by omega)) fun γ L v a w1 st=>?_
      have e2:=st.val 2 31 rfl (by kernel_rfl);rw[(st.φ 2 (by kernel_rfl):v 2=_)]at e2;simp at e2;have e3:=st.val 3 32 rfl (by kernel_rfl);rw[(st.φ 3 (by kernel_rfl):v 3=_)]at e3;simp at e3;go_simp
     case s5 =>
      refine qQh (x:=qQd x dv) rfl rfl rfl (GPl.keep (j:=5) (by omega)) fun γ L v a w1 st=>?_
      have e4:=st.val 4 33 rfl (by kernel_rfl);rw[(st.φ 4 (by kernel_rfl):v 4=_)]at e4;simp at e4
      have h6:L 6=false:=by
       cases hq:L 6 with
       | false=>rfl
       | true =>
        have q5:=st.down 6 5 hq (by kernel_rfl);have q99:=st.off;rw[q5]at q99;cases q99
      exact qQi rfl (b:=lb) (off:=lo+k * 11) (by simp[Act.eval,e4]) (HRW.out w1 (st.inv.pre h6)) underlying76 rfl cc_info
     case s6 =>
      refine qZW (k:=0) (f:=18) rfl rfl rfl (by kernel_rfl) fun γ L v a w1 st=>?_
      have e0:=st.val 0 29 rfl (by kernel_rfl);rw[(st.φ 0 (by kernel_rfl):v 0=_)]at e0;simp at e0;have e1:=st.val 1 30 rfl (by kernel_rfl);rw[(st.φ 1 (by kernel_rfl):v 1=_)]at e1;simp at e1;have e5:=st.val 5 34 rfl (by kernel_rfl);rw[(st.φ 5 (by kernel_rfl):v 5=_)]at e5;simp at e5;have h6:L 6=false:=st.off
      have h7:L 7=false:=by
       cases hq:L 7 with
       | false=>rfl
       | true =>
        have q6:=st.down 7 6 hq (by kernel_rfl);have q99:=st.off;rw[q6]at q99;cases q99
      have h8:L 8=false:=by
       cases hq:L 8 with
       | false=>rfl
       | true =>
        have q7:=st.down 8 7 hq (by kernel_rfl);have q6:=st.down 7 6 q7 (by kernel_rfl);have q99:=st.off;rw[q6]at q99;cases q99
      have h11:L 11=false:=by
       cases hq:L 11 with
       | false=>rfl
       | true =>
        have q8:=st.down 11 8 hq (by kernel_rfl);have q7:=st.down 8 7 q8 (by kernel_rfl);have q6:=st.down 7 6 q7 (by kernel_rfl);have q99:=st.off;rw[q6]at q99;cases q99
      have hEx:=st.inv.pre h6;refine⟨#[.pointer (some ⟨c,0,none⟩),.agg X,qQd x dv],by go_simp,?_⟩
      refine(does_any w1 B c mb mn P k (.agg X) x dv (HCW.out w1 hEx) (HRFW.out w1 hEx) HPK.out (by omega) (HIN.out w1 hEx)).mono ?_
      rintro e w2 ⟨v',rfl,hc2,hr2,hk2⟩;obtain⟨X2,rfl,x37,xone⟩:=hr2.open HVL.out;exact⟨_,rfl,GPl.called st.inv hk2 h7 h8 h11 hr2 x37 xone hc2⟩
     case s7 =>
      refine qZq (k:=3) rfl rfl rfl (by kernel_rfl) fun γ L v a w1 st=>?_
      have e6:=st.val 6 35 rfl (by kernel_rfl);rw[(st.φ 6 (by kernel_rfl):v 6=_)]at e6;simp at e6;exact⟨γ 0,w1,by go_simp,GPl.moved st.inv⟩
     case s8 =>
      refine qZq (k:=2) rfl rfl rfl (by kernel_rfl) fun γ L v a w1 st=>?_
      have e7:=st.val 7 28 rfl (by kernel_rfl);have hd7:=st.dep 7 (by kernel_rfl);rw[(st.φ 7 (by kernel_rfl):v 7=_),st.inv.mv hd7]at e7;simp at e7;obtain⟨X2,hγ,_⟩:=st.inv.call (st.down 7 6 hd7 (by kernel_rfl));refine⟨qZf (γ 0) 0,w1,?_,GPl.got st.inv⟩
      rw[hγ]at e7⊢;simp[qZf];go_simp
     case s9 =>
      refine qQh (x:=.bool true) rfl rfl rfl (GPl.keep (j:=9) (by omega)) fun γ L v a w1 st=>?_
      have e7:=st.val 7 28 rfl (by kernel_rfl);have hd7:=st.dep 7 (by kernel_rfl);rw[(st.φ 7 (by kernel_rfl):v 7=_),st.inv.mv hd7]at e7;simp at e7;obtain⟨X2,hγ,_⟩:=st.inv.call (st.down 7 6 hd7 (by kernel_rfl));rw[hγ]at e7;go_simp
     case s10 =>
      refine qZq (k:=1) rfl rfl rfl (by kernel_rfl) fun γ L v a w1 st=>?_
      have h11:L 11=false:=by
       cases hq:L 11 with
       | false=>rfl
       | true =>
        have q10:=st.down 11 10 hq (by kernel_rfl);have q99:=st.off;rw[q10]at q99;cases q99
      exact⟨.pointer (some ⟨w1.heap.size,0,none⟩),w1.alloc (.cells zZC 35),by go_simp,GPl.new st.inv h11 rfl⟩
     case s11 =>
      refine qQ7 rfl rfl rfl fun γ L v a w1 st=>?_
      have d8:=st.dep 8 (by kernel_rfl);have d10:=st.dep 10 (by kernel_rfl);have d7:=st.down 8 7 d8 (by kernel_rfl);have d6:=st.down 7 6 d7 (by kernel_rfl);obtain⟨X2,hγ,a2,a3,_⟩:=st.inv.call d6;obtain⟨g,g1,g2,⟨Z,g3,g4⟩,_⟩:=st.inv.n1 d10;have e1:=st.val 8 36 rfl (by kernel_rfl);rw[(st.φ 8 (by kernel_rfl):v 8=_),st.inv.e1 d8]at e1;have e2:=st.val 10 9 rfl (by kernel_rfl);rw[(st.φ 10 (by kernel_rfl):v 10=_),g1]at e2;simp at e2;have hta:qZf (γ 0) 0=.agg (qQB (qZf (γ 0) 0)):=by rw[hγ];rfl
      have hsz:(qQB (qZf (γ 0) 0)).size=37:=by rw[hγ];exact a2
      have hon:(qQB (qZf (γ 0) 0)).all (·.oneCell')=true:=by rw[hγ];exact a3
      refine⟨_,qQr rfl (b:=g) (off:=0) (cells:=qQB (qZf (γ 0) 0)) (by simp[Act.eval,e2]) (by show a.tmps.getD 36 undef=_;rw[e1];exact hta) (by rw[hsz,←g4];exact g3.there) (by rw[hsz];exact qQg) hon,?_⟩
      exact GPl.stored st.inv HBW.out d6 d10 g1
     case s12 =>
      refine qQh (x:=.bool true) rfl rfl rfl (GPl.keep (j:=12) (by omega)) fun γ L v a w1 st=>?_
      have e9:=st.val 9 37 rfl (by kernel_rfl);rw[(st.φ 9 (by kernel_rfl):v 9=_)]at e9;simp at e9;go_simp
    case fin =>
     intro γ L v wx hall hG hφ;have h10:v 10 = γ 1:=hφ 10 (by decide);have h12:v 12=.bool true:=hφ 12 (by decide);obtain⟨X2,hγ,x37,xone,hCx,hRx⟩:=hG.call (hall 6 (by decide));obtain⟨gb,g1,g2,_,g4⟩:=hG.n1 (hall 10 (by decide));have hG1:At wx gb 35 X2:=by have h:=g4 (hall 11 (by decide));rw[hγ]at h;exact h
     rw[g1]at h10;have hKx:=hG.kp;have hXx:=hKx.at_ _ _ _ (by decide) (by decide) (HXW.out _ (Er _));have hgx:gb≠xb:=by have:=(HXW.out _ (Er _)).lt;omega
     have HI2:Hid ((prog.info? 35).map (·.size)=some X2.toList.length):=Hh (by rw[Array.length_toList,x37];exact qQg);clear hG hφ hall g1 g2 g4 hγ HI1
     change Exit.then _ _ _ (qQM _ v _ 13) wx
     simp only[qQM,qQH,Act.put];simp only[List.getElem?_toArray,List.getElem?_cons_zero,List.getElem?_cons_succ,Option.bind_some,List.setIfInBounds_toArray,List.set_cons_zero,List.set_cons_succ];rw[h10,h12];clear h10 h12;have HGR:=Hh hG1.range;have HXT:=Hh hXx.there
     go_upto_region 9 with(first|(refine wpList_load_mid rfl 35 _ rfl gb 0 rfl _ _ HGR.out underlying35 rfl HI2.out ?_)|(refine wpList_store_mid rfl 35 _ _ rfl xb 0 X2 rfl rfl (by rw[x37];have h:=HXT.out;rw[h37]at h;exact h) (by rw[x37];exact qQg) xone ?_))
     have hch:Chg (· = xb) wx (wx.setCells xb 0 X2.toList):=qQq _ _;have hX3:At (wx.setCells xb 0 X2.toList) xb 35 X2:=At.cells_all hXx (by rw[x37,h37]);have HR3:=Hh ((hKx.at_ _ _ _ (by decide) (by decide) (HRF.out _ (Er _))).chg hch (fun e=>HRX.out e));have hC3:=hCx.fresh hXx (by decide) (by decide) (by decide) hch;have hR3:=hRx.chgT hXx (by decide) (by decide) hch;have HE3:=Hh (show Ext w (wx.setCells xb 0 X2.toList)from(Kp.ext HEW.out hKx HwB.out).setCells HXB.out _ _);clear hXx hG1 hCx hRx hKx hch HGR HXT hgx;generalize wx.setCells xb 0 X2.toList=W3 at hX3 hC3 hR3 HE3 HR3⊢;go_wp2_with fail
     go_roundw
     case rel=>exact⟨rfl,k+1,_,X2,by go_num,by omega,by omega,hC3,HPA.out,hX3,x37,xone,hR3,HR3.out,HE3.out⟩
     case measure=>simp[intOf];omega
end Go.Proofs.YtiojjokfeknhcaaGreat
