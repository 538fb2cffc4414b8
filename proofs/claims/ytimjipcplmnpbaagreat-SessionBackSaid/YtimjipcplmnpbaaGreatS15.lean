/-
  Part 15 of what the law leans on.
-/
import Derived.Test.YtimjipcplmnpbaaGreatS5
import Derived.Test.YtimjipcplmnpbaaGreatS6
import Derived.Test.YtimjipcplmnpbaaGreatS10
namespace Go.Proofs.YtimjipcplmnpbaaGreat
set_option maxRecDepth 100000
set_option maxHeartbeats 8000000
set_option linter.unusedVariables false
set_option linter.unusedSimpArgs false
set_option linter.unusedSectionVars false
open _root_.Go.Proofs.Tryz
open Go.RowKit Go.Sort
theorem cwrite_gen{w:World}{B:Nat→Prop}{c mb mn n:Nat}{P:Pm}(h:qZz w B c mb mn P)(hi:PInv n P)(hpl:P.L.length<50)(hn:n≤2147483648) :
 Calls prog 20 #[.pointer (some ⟨c,0,none⟩)] w fun r w'=>r=.returned (.string ⟨P.enc.toArray⟩)∧Ext w w':=by
 obtain⟨C,hC,hR⟩:=h;obtain⟨base,hbase⟩:∃n,n=w.heap.size:=⟨_,rfl⟩;have hle:w.heap.size≤base:=by omega
 have hil:C.idx.length=P.L.length:=by
  have:=(hR.ids hi).length_eq
  simpa using this.symm
 have hvl:=hi.vlen;have HI:=Hh (And.intro hi hn);clear hi hn
 go_enter func20,ntmps20
 go_upto_region 2 with fail
 have hE0:qZH (w.alloc (.cells #[.slice none 0 0] 91)) base w.heap.size []:=⟨by omega,_,At.new w 91 #[.slice none 0 0],rfl,.inl ⟨rfl,rfl⟩⟩;have hX0:qQu w (w.alloc (.cells #[.slice none 0 0] 91)) base:=(qQu.refl w base).alloc _;have hC0:=hC.ext ((Er w).alloc (.cells #[.slice none 0 0] 91));generalize w.heap.size=e at hE0 hbase⊢;generalize w.alloc (.cells #[.slice none 0 0] 91)=w0 at *;obtain⟨c0,c1⟩:=hC0.c0;have hlen:=hC0.bm.len (P:=prog) qZX;rw[hil]at hlen;have HC:=Hh hC;have HR:=Hh hR;clear hC hR hC0 c1 hil;go_wp2_with fail
 refine(qZT _ base e [] (hE0.alloc _) _ [(P.L.length:Int)] (SlE.new (t:=3) (cs:=#[.int .i64 (P.L.length:Int)]) w0 base (by decide)) (by simp;omega) (by simp) (by simp)).mono ?_
 rintro r w1 ⟨rfl,hT1⟩;have hT:qZA w w1 base e ([(P.L.length:Int)].flatMap qQw):=⟨(hX0.alloc _).trans hT1.1,hT1.2⟩;clear hT1 hE0 hX0 hlen c0;have HID:=Hh (ids_any w1 B c mb mn C (HC.out.ext (hT.1.below hle)) (P.L.map fun b=>(b.id:Int)) (idsOf_asc HI.out.1.asc) (HR.out.ids HI.out.1) (by simpa using hpl));rw[List.length_map]at HID;go_wp2_with fail
 refine HID.out.mono ?_;rintro r w2 ⟨iv,rfl,hOI,hE2⟩;have hT2:qZA w w2 base e ([(P.L.length:Int)].flatMap qQw):=⟨hT.1.trans (qQu.ext hE2),hT.2.ext hE2⟩;obtain⟨iA,ic,rfl⟩:=qQc hOI;generalize w1.heap.size=b0 at hOI;clear HID hT hE2;go_wp2_with fail
 go_loopw [23] (fun kv wr=>∃k:Nat,kv=.int .i64 (k:Int)∧k≤P.L.length∧qZA w wr base e ([(P.L.length:Int)].flatMap qQw++(P.L.take k).flatMap qZI)∧wr.ownsRow b0 29 1 (.slice iA P.L.length ic) P.L.length ((P.L.map fun b=>(b.id:Int)).map (Value.int .u64))) (fun kv _=>P.L.length - (intOf kv).toNat)
 case atStart=>exact⟨0,rfl,Nat.zero_le _,by simpa using hT2,hOI⟩
 case round =>
  clear hT2 hOI;obtain⟨k,rfl,hk,hT,hO⟩:=hrel;have hCk:=HC.out.ext (hT.1.below hle)
  by_cases hlt:k<P.L.length
  ·obtain⟨b,hb⟩:∃b,P.L[k]? = some b:=⟨_,List.getElem?_eq_getElem hlt⟩;have hbm:=List.mem_of_getElem? hb;obtain⟨⟨rb,g,dv⟩,hr,hrb,hf⟩:=row_of HR.out HI.out.1 hbm;obtain rfl:rb=b:=hrb;have hlk:=hCk.look rb.id;rw[hf]at hlk;simp only[ptrO]at hlk;obtain⟨c0,c1⟩:=hCk.c0;obtain⟨hA,hD⟩:=hCk.bl _ hr;have hok:=HI.out.1.bl _ hbm;have HDL:Hid (rb.disks.length≤6):=Hh (qQ8 hok.rises);have HDB:Hid (∀d∈rb.disks,0≤d∧d≤5):=Hh (fun d hd=>rises_lim hok.rises d hd);have HOK:=Hh hok;have HLN:Hid ((qQ1 rb.id).length≤10∧(qZh rb.name).length≤42∧(qQw rb.size).length≤10∧(qQ1 rb.sum).length≤10∧(qXD rb.disks).length≤70∧(qZ4 (!rb.dead)).length=1):=Hh ⟨qQF _,by have:=qZJ rb.name;have:=hok.name.2;omega,qQe _,qQF _,by have:=qX7 rb.disks;have:=HDL.out;omega,rfl⟩
   have hic:∃ib,iA=some ⟨ib,0,none⟩:=by
    rcases hO.2 with⟨e,h0⟩|⟨g,cap,cur,e,_⟩
    ·omega
    ·injection e with e1 _ _;exact⟨g,e1⟩
   obtain⟨ib,rfl⟩:=hic;have i1:=hO.cellAt k (by omega);rw[List.getElem?_map,List.getElem?_map,hb]at i1;simp only[Option.map_some]at i1;have HB:=Hh hb;have HST:Hid (([(P.L.length:Int)].flatMap qQw++(P.L.take (k+1)).flatMap qZI)=(([(P.L.length:Int)].flatMap qQw++(P.L.take k).flatMap qZI))++qZI rb):=Hh (enc_step hb qZI _);have hpl2:=enc_pre HI.out.1 hpl k;generalize hpre:[(P.L.length:Int)].flatMap qQw++(P.L.take k).flatMap qZI=pre at hT HST hpl2;clear hpre hb hbm hr hf hok hCk c1;go_wp2_with fail
   clear i1 hlk c0;have hE0:qZH wr.drew base e pre:=hT.2.drew;have hcg:=qXm (base:=base) hA (by decide);have hSd:∀w',qQu wr.drew w' base→SlE w' base dv (rb.disks.map (Value.int .i64)):=fun w' hc=>((own_sle hD (by decide)).ext (Er wr).drew).chg hc
   refine qQq (Γ := Nat) (spφ [.val (.pointer (some ⟨e,0,none⟩)),.val (.pointer (some ⟨g,0,none⟩)),.val (.pointer (some ⟨g,0,none⟩)),.val (.pointer (some ⟨g,0,none⟩)),.val (.int .u64 (rb.id:Int)),.sl [.int .u64 (rb.id:Int)],.ptr,.val (.pointer (some ⟨g,0,none⟩)),.val (.pointer (some ⟨g,0,none⟩)),.val (.pointer (some ⟨g,1,none⟩)),.val (.string rb.name),.sl [.string rb.name],.ptr,.val (.pointer (some ⟨g,0,none⟩)),.val (.pointer (some ⟨g,0,none⟩)),.val (.pointer (some ⟨g,12,none⟩)),.val (.bool rb.dead),.val (.bool (!rb.dead)),.sl [.bool (!rb.dead)],.ptr,.val (.pointer (some ⟨g,0,none⟩)),.val (.pointer (some ⟨g,0,none⟩)),.val (.pointer (some ⟨g,2,none⟩)),.val (.int .i64 rb.size),.sl [.int .i64 rb.size],.ptr,.val (.pointer (some ⟨g,0,none⟩)),.val (.pointer (some ⟨g,0,none⟩)),.val (.pointer (some ⟨g,3,none⟩)),.val (.int .u32 (rb.sum:Int)),.val (.int .u64 (rb.sum:Int)),.sl [.int .u64 (rb.sum:Int)],.ptr,.val (.pointer (some ⟨g,0,none⟩)),.val (.pointer (some ⟨g,0,none⟩)),.val (.pointer (some ⟨g,4,none⟩)),.val (dv),.ptr] base)
    (spG (some e) [(6,[rb.id].flatMap qQ1),(12,[rb.name].flatMap qZh),(19,[!rb.dead].flatMap qZ4),(25,[rb.size].flatMap qQw),(32,[rb.sum].flatMap qQ1),(37,qXD rb.disks)] pre (fun _=>true) wr.drew base) (by kernel_rfl) (by kernel_rfl) (by kernel_rfl) e ⟨fun _ h=>(by injection h),qQu.refl _ _,fun _=>(by simpa[qQO]using hE0)⟩ ?stepss ?fins
   case stepss =>
    show qQV _ _ _ _ _ _ 38
    refine⟨⟨⟨⟨⟨⟨⟨⟨⟨⟨⟨⟨⟨⟨⟨⟨⟨⟨⟨⟨⟨⟨⟨⟨⟨⟨⟨⟨⟨⟨⟨⟨⟨⟨⟨⟨⟨⟨trivial,?s0⟩,?s1⟩,?s2⟩,?s3⟩,?s4⟩,?s5⟩,?s6⟩,?s7⟩,?s8⟩,?s9⟩,?s10⟩,?s11⟩,?s12⟩,?s13⟩,?s14⟩,?s15⟩,?s16⟩,?s17⟩,?s18⟩,?s19⟩,?s20⟩,?s21⟩,?s22⟩,?s23⟩,?s24⟩,?s25⟩,?s26⟩,?s27⟩,?s28⟩,?s29⟩,?s30⟩,?s31⟩,?s32⟩,?s33⟩,?s34⟩,?s35⟩,?s36⟩,?s37⟩
    case s0 =>
     refine qQh (x:=.pointer (some ⟨e,0,none⟩)) rfl rfl (.inl rfl) rfl (fun _=>rfl) fun e' L v a w hW hφ hv h0=>?_
     have e3:=h0 3 (by kernel_rfl);simp at e3;go_simp
    case s1 =>
     refine qQh (x:=.pointer (some ⟨g,0,none⟩)) rfl rfl (.inl rfl) rfl (fun _=>rfl) fun e' L v a w hW hφ hv h0=>?_
     have e6:=h0 6 (by kernel_rfl);simp at e6;go_simp
    case s2 =>
     refine qQh (x:=.pointer (some ⟨g,0,none⟩)) rfl rfl (.inl rfl) rfl (fun _=>rfl) fun e' L v a w hW hφ hv h0=>?_
     have e34:=hv 1 34 rfl (by kernel_rfl);rw[show v 1=_ from hφ 1 (by kernel_rfl)]at e34;simp at e34;go_simp
    case s3 =>
     refine qQh (x:=.pointer (some ⟨g,0,none⟩)) rfl rfl (.inl rfl) rfl (fun _=>rfl) fun e' L v a w hW hφ hv h0=>?_
     have e35:=hv 2 35 rfl (by kernel_rfl);rw[show v 2=_ from hφ 2 (by kernel_rfl)]at e35;simp at e35;go_simp
    case s4 =>
     refine qQh (x:=.int .u64 (rb.id:Int)) rfl rfl (.inl rfl) rfl (fun _=>rfl) fun e' L v a w hW hφ hv h0=>?_
     have e36:=hv 3 36 rfl (by kernel_rfl);rw[show v 3=_ from hφ 3 (by kernel_rfl)]at e36;simp at e36;have hcell:=hcg w hW 0;simp at hcell;go_simp
    case s5 =>
     refine qQG (cs:=#[.int .u64 (rb.id:Int)]) (t:=29) (c:=1) (by decide) rfl rfl rfl rfl (fun _=>rfl) fun e' L v a w hW hφ hv=>?_
     have e37:=hv 4 37 rfl (by kernel_rfl);rw[show v 4=_ from hφ 4 (by kernel_rfl)]at e37;simp at e37;go_simp
    case s6 =>
     refine qQL (f:=43) (bytes:=[rb.id].flatMap qQ1) (before:=[]) (after:=[(12,[rb.name].flatMap qZh),(19,[!rb.dead].flatMap qZ4),(25,[rb.size].flatMap qQw),(32,[rb.sum].flatMap qQ1),(37,qXD rb.disks)]) rfl rfl rfl rfl rfl (by kernel_rfl) rfl (fun _=>rfl) (fun _ _ _=>rfl) fun e' L v a w hgh hW hn hd hE hφ hv h0=>?_
     have e33:=hv 0 33 rfl (by kernel_rfl);rw[show v 0=_ from hφ 0 (by kernel_rfl)]at e33;simp at e33;have e38:=hv 5 38 rfl (by kernel_rfl);have hsl:SlE w base (v 5) _:=hφ 5 (by kernel_rfl);simp at e38;generalize v 5=sv at e38 hsl;rw[hgh _ rfl]at hE⊢;exact⟨#[.pointer (some ⟨e,0,none⟩),sv],by go_simp,eu_any w base e _ hE sv [rb.id] (hsl) (by simp;exact HOK.out.id.2) (by simp) (by have:=HLN.out.1;have:=HLN.out.2.1;have:=HLN.out.2.2.1;have:=HLN.out.2.2.2.1;have:=HLN.out.2.2.2.2;have:=hpl2;have:=HDL.out;simp[qQO];omega)⟩
    case s7 =>
     refine qQh (x:=.pointer (some ⟨g,0,none⟩)) rfl rfl (.inl rfl) rfl (fun _=>rfl) fun e' L v a w hW hφ hv h0=>?_
     have e6:=h0 6 (by kernel_rfl);simp at e6;go_simp
    case s8 =>
     refine qQh (x:=.pointer (some ⟨g,0,none⟩)) rfl rfl (.inl rfl) rfl (fun _=>rfl) fun e' L v a w hW hφ hv h0=>?_
     have e40:=hv 7 40 rfl (by kernel_rfl);rw[show v 7=_ from hφ 7 (by kernel_rfl)]at e40;simp at e40;go_simp
    case s9 =>
     refine qQh (x:=.pointer (some ⟨g,1,none⟩)) rfl rfl (.inl rfl) rfl (fun _=>rfl) fun e' L v a w hW hφ hv h0=>?_
     have e41:=hv 8 41 rfl (by kernel_rfl);rw[show v 8=_ from hφ 8 (by kernel_rfl)]at e41;simp at e41;go_simp
    case s10 =>
     refine qQh (x:=.string rb.name) rfl rfl (.inl rfl) rfl (fun _=>rfl) fun e' L v a w hW hφ hv h0=>?_
     have e42:=hv 9 42 rfl (by kernel_rfl);rw[show v 9=_ from hφ 9 (by kernel_rfl)]at e42;simp at e42;have hcell:=hcg w hW 1;simp at hcell;go_simp
    case s11 =>
     refine qQG (cs:=#[.string rb.name]) (t:=9) (c:=1) (by decide) rfl rfl rfl rfl (fun _=>rfl) fun e' L v a w hW hφ hv=>?_
     have e43:=hv 10 43 rfl (by kernel_rfl);rw[show v 10=_ from hφ 10 (by kernel_rfl)]at e43;simp at e43;go_simp
    case s12 =>
     refine qQL (f:=42) (bytes:=[rb.name].flatMap qZh) (before:=[(6,[rb.id].flatMap qQ1)]) (after:=[(19,[!rb.dead].flatMap qZ4),(25,[rb.size].flatMap qQw),(32,[rb.sum].flatMap qQ1),(37,qXD rb.disks)]) rfl rfl rfl rfl rfl (by kernel_rfl) rfl (fun _=>rfl) (fun _ _ _=>rfl) fun e' L v a w hgh hW hn hd hE hφ hv h0=>?_
     have e39:=hv 6 39 rfl (by kernel_rfl);rw[show v 6=_ from hφ 6 (by kernel_rfl)]at e39;simp at e39;rw[hgh _ rfl]at e39;have e44:=hv 11 44 rfl (by kernel_rfl);have hsl:SlE w base (v 11) _:=hφ 11 (by kernel_rfl);simp at e44;generalize v 11=sv at e44 hsl;rw[hgh _ rfl]at hE⊢;exact⟨#[.pointer (some ⟨e,0,none⟩),sv],by go_simp,es_any w base e _ hE sv [rb.name] (hsl) (by simp;have:=HOK.out.name.2;omega) (by simp) (by have hcl:=qQP L [(6,[rb.id].flatMap qQ1)];have:=HLN.out.1;have:=HLN.out.2.1;have:=HLN.out.2.2.1;have:=HLN.out.2.2.2.1;have:=HLN.out.2.2.2.2;have:=hpl2;have:=HDL.out;simp at hcl⊢;omega)⟩
    case s13 =>
     refine qQh (x:=.pointer (some ⟨g,0,none⟩)) rfl rfl (.inl rfl) rfl (fun _=>rfl) fun e' L v a w hW hφ hv h0=>?_
     have e6:=h0 6 (by kernel_rfl);simp at e6;go_simp
    case s14 =>
     refine qQh (x:=.pointer (some ⟨g,0,none⟩)) rfl rfl (.inl rfl) rfl (fun _=>rfl) fun e' L v a w hW hφ hv h0=>?_
     have e46:=hv 13 46 rfl (by kernel_rfl);rw[show v 13=_ from hφ 13 (by kernel_rfl)]at e46;simp at e46;go_simp
    case s15 =>
     refine qQh (x:=.pointer (some ⟨g,12,none⟩)) rfl rfl (.inl rfl) rfl (fun _=>rfl) fun e' L v a w hW hφ hv h0=>?_
     have e47:=hv 14 47 rfl (by kernel_rfl);rw[show v 14=_ from hφ 14 (by kernel_rfl)]at e47;simp at e47;go_simp
    case s16 =>
     refine qQh (x:=.bool rb.dead) rfl rfl (.inl rfl) rfl (fun _=>rfl) fun e' L v a w hW hφ hv h0=>?_
     have e48:=hv 15 48 rfl (by kernel_rfl);rw[show v 15=_ from hφ 15 (by kernel_rfl)]at e48;simp at e48;have hcell:=hcg w hW 12;simp at hcell;go_simp
    case s17 =>
     refine qQh (x:=.bool (!rb.dead)) rfl rfl (.inl rfl) rfl (fun _=>rfl) fun e' L v a w hW hφ hv h0=>?_
     have e49:=hv 16 49 rfl (by kernel_rfl);rw[show v 16=_ from hφ 16 (by kernel_rfl)]at e49;simp at e49;go_simp
    case s18 =>
     refine qQG (cs:=#[.bool (!rb.dead)]) (t:=4) (c:=1) (by decide) rfl rfl rfl rfl (fun _=>rfl) fun e' L v a w hW hφ hv=>?_
     have e50:=hv 17 50 rfl (by kernel_rfl);rw[show v 17=_ from hφ 17 (by kernel_rfl)]at e50;simp at e50;go_simp
    case s19 =>
     refine qQL (f:=47) (bytes:=[!rb.dead].flatMap qZ4) (before:=[(6,[rb.id].flatMap qQ1),(12,[rb.name].flatMap qZh)]) (after:=[(25,[rb.size].flatMap qQw),(32,[rb.sum].flatMap qQ1),(37,qXD rb.disks)]) rfl rfl rfl rfl rfl (by kernel_rfl) rfl (fun _=>rfl) (fun _ _ _=>rfl) fun e' L v a w hgh hW hn hd hE hφ hv h0=>?_
     have e45:=hv 12 45 rfl (by kernel_rfl);rw[show v 12=_ from hφ 12 (by kernel_rfl)]at e45;simp at e45;rw[hgh _ rfl]at e45;have e51:=hv 18 51 rfl (by kernel_rfl);have hsl:SlE w base (v 18) _:=hφ 18 (by kernel_rfl);simp at e51;generalize v 18=sv at e51 hsl;rw[hgh _ rfl]at hE⊢;exact⟨#[.pointer (some ⟨e,0,none⟩),sv],by go_simp,eb_any w base e _ hE sv [!rb.dead] (hsl) (by simp) (by have hcl:=qQP L [(6,[rb.id].flatMap qQ1),(12,[rb.name].flatMap qZh)];have:=HLN.out.1;have:=HLN.out.2.1;have:=HLN.out.2.2.1;have:=HLN.out.2.2.2.1;have:=HLN.out.2.2.2.2;have:=hpl2;have:=HDL.out;simp at hcl⊢;omega)⟩
    case s20 =>
     refine qQh (x:=.pointer (some ⟨g,0,none⟩)) rfl rfl (.inl rfl) rfl (fun _=>rfl) fun e' L v a w hW hφ hv h0=>?_
     have e6:=h0 6 (by kernel_rfl);simp at e6;go_simp
    case s21 =>
     refine qQh (x:=.pointer (some ⟨g,0,none⟩)) rfl rfl (.inl rfl) rfl (fun _=>rfl) fun e' L v a w hW hφ hv h0=>?_
     have e53:=hv 20 53 rfl (by kernel_rfl);rw[show v 20=_ from hφ 20 (by kernel_rfl)]at e53;simp at e53;go_simp
    case s22 =>
     refine qQh (x:=.pointer (some ⟨g,2,none⟩)) rfl rfl (.inl rfl) rfl (fun _=>rfl) fun e' L v a w hW hφ hv h0=>?_
     have e54:=hv 21 54 rfl (by kernel_rfl);rw[show v 21=_ from hφ 21 (by kernel_rfl)]at e54;simp at e54;go_simp
    case s23 =>
     refine qQh (x:=.int .i64 rb.size) rfl rfl (.inl rfl) rfl (fun _=>rfl) fun e' L v a w hW hφ hv h0=>?_
     have e55:=hv 22 55 rfl (by kernel_rfl);rw[show v 22=_ from hφ 22 (by kernel_rfl)]at e55;simp at e55;have hcell:=hcg w hW 2;simp at hcell;go_simp
    case s24 =>
     refine qQG (cs:=#[.int .i64 rb.size]) (t:=3) (c:=1) (by decide) rfl rfl rfl rfl (fun _=>rfl) fun e' L v a w hW hφ hv=>?_
     have e56:=hv 23 56 rfl (by kernel_rfl);rw[show v 23=_ from hφ 23 (by kernel_rfl)]at e56;simp at e56;go_simp
    case s25 =>
     refine qQL (f:=41) (bytes:=[rb.size].flatMap qQw) (before:=[(6,[rb.id].flatMap qQ1),(12,[rb.name].flatMap qZh),(19,[!rb.dead].flatMap qZ4)]) (after:=[(32,[rb.sum].flatMap qQ1),(37,qXD rb.disks)]) rfl rfl rfl rfl rfl (by kernel_rfl) rfl (fun _=>rfl) (fun _ _ _=>rfl) fun e' L v a w hgh hW hn hd hE hφ hv h0=>?_
     have e52:=hv 19 52 rfl (by kernel_rfl);rw[show v 19=_ from hφ 19 (by kernel_rfl)]at e52;simp at e52;rw[hgh _ rfl]at e52;have e57:=hv 24 57 rfl (by kernel_rfl);have hsl:SlE w base (v 24) _:=hφ 24 (by kernel_rfl);simp at e57;generalize v 24=sv at e57 hsl;rw[hgh _ rfl]at hE⊢;exact⟨#[.pointer (some ⟨e,0,none⟩),sv],by go_simp,qZT w base e _ hE sv [rb.size] (hsl) (by simp;have:=HOK.out.size;omega) (by simp) (by have hcl:=qQP L [(6,[rb.id].flatMap qQ1),(12,[rb.name].flatMap qZh),(19,[!rb.dead].flatMap qZ4)];have:=HLN.out.1;have:=HLN.out.2.1;have:=HLN.out.2.2.1;have:=HLN.out.2.2.2.1;have:=HLN.out.2.2.2.2;have:=hpl2;have:=HDL.out;simp at hcl⊢;omega)⟩
    case s26 =>
     refine qQh (x:=.pointer (some ⟨g,0,none⟩)) rfl rfl (.inl rfl) rfl (fun _=>rfl) fun e' L v a w hW hφ hv h0=>?_
     have e6:=h0 6 (by kernel_rfl);simp at e6;go_simp
    case s27 =>
     refine qQh (x:=.pointer (some ⟨g,0,none⟩)) rfl rfl (.inl rfl) rfl (fun _=>rfl) fun e' L v a w hW hφ hv h0=>?_
     have e59:=hv 26 59 rfl (by kernel_rfl);rw[show v 26=_ from hφ 26 (by kernel_rfl)]at e59;simp at e59;go_simp
    case s28 =>
     refine qQh (x:=.pointer (some ⟨g,3,none⟩)) rfl rfl (.inl rfl) rfl (fun _=>rfl) fun e' L v a w hW hφ hv h0=>?_
     have e60:=hv 27 60 rfl (by kernel_rfl);rw[show v 27=_ from hφ 27 (by kernel_rfl)]at e60;simp at e60;go_simp
    case s29 =>
     refine qQh (x:=.int .u32 (rb.sum:Int)) rfl rfl (.inl rfl) rfl (fun _=>rfl) fun e' L v a w hW hφ hv h0=>?_
     have e61:=hv 28 61 rfl (by kernel_rfl);rw[show v 28=_ from hφ 28 (by kernel_rfl)]at e61;simp at e61;have hcell:=hcg w hW 3;simp at hcell;go_simp
    case s30 =>
     refine qQh (x:=.int .u64 (rb.sum:Int)) rfl rfl (.inl rfl) rfl (fun _=>rfl) fun e' L v a w hW hφ hv h0=>?_
     have e62:=hv 29 62 rfl (by kernel_rfl);rw[show v 29=_ from hφ 29 (by kernel_rfl)]at e62;simp at e62;have hw:=u64_inE (x:=rb.sum) (by have:=HOK.out.sum;omega);go_simp
    case s31 =>
     refine qQG (cs:=#[.int .u64 (rb.sum:Int)]) (t:=29) (c:=1) (by decide) rfl rfl rfl rfl (fun _=>rfl) fun e' L v a w hW hφ hv=>?_
     have e63:=hv 30 63 rfl (by kernel_rfl);rw[show v 30=_ from hφ 30 (by kernel_rfl)]at e63;simp at e63;go_simp
    case s32 =>
     refine qQL (f:=43) (bytes:=[rb.sum].flatMap qQ1) (before:=[(6,[rb.id].flatMap qQ1),(12,[rb.name].flatMap qZh),(19,[!rb.dead].flatMap qZ4),(25,[rb.size].flatMap qQw)]) (after:=[(37,qXD rb.disks)]) rfl rfl rfl rfl rfl (by kernel_rfl) rfl (fun _=>rfl) (fun _ _ _=>rfl) fun e' L v a w hgh hW hn hd hE hφ hv h0=>?_
     have e58:=hv 25 58 rfl (by kernel_rfl);rw[show v 25=_ from hφ 25 (by kernel_rfl)]at e58;simp at e58;rw[hgh _ rfl]at e58;have e64:=hv 31 64 rfl (by kernel_rfl);have hsl:SlE w base (v 31) _:=hφ 31 (by kernel_rfl);simp at e64;generalize v 31=sv at e64 hsl;rw[hgh _ rfl]at hE⊢;exact⟨#[.pointer (some ⟨e,0,none⟩),sv],by go_simp,eu_any w base e _ hE sv [rb.sum] (hsl) (by simp;have:=HOK.out.sum;omega) (by simp) (by have hcl:=qQP L [(6,[rb.id].flatMap qQ1),(12,[rb.name].flatMap qZh),(19,[!rb.dead].flatMap qZ4),(25,[rb.size].flatMap qQw)];have:=HLN.out.1;have:=HLN.out.2.1;have:=HLN.out.2.2.1;have:=HLN.out.2.2.2.1;have:=HLN.out.2.2.2.2;have:=hpl2;have:=HDL.out;simp at hcl⊢;omega)⟩
    case s33 =>
     refine qQh (x:=.pointer (some ⟨g,0,none⟩)) rfl rfl (.inl rfl) rfl (fun _=>rfl) fun e' L v a w hW hφ hv h0=>?_
     have e6:=h0 6 (by kernel_rfl);simp at e6;go_simp
    case s34 =>
     refine qQh (x:=.pointer (some ⟨g,0,none⟩)) rfl rfl (.inl rfl) rfl (fun _=>rfl) fun e' L v a w hW hφ hv h0=>?_
     have e66:=hv 33 66 rfl (by kernel_rfl);rw[show v 33=_ from hφ 33 (by kernel_rfl)]at e66;simp at e66;go_simp
    case s35 =>
     refine qQh (x:=.pointer (some ⟨g,4,none⟩)) rfl rfl (.inl rfl) rfl (fun _=>rfl) fun e' L v a w hW hφ hv h0=>?_
     have e67:=hv 34 67 rfl (by kernel_rfl);rw[show v 34=_ from hφ 34 (by kernel_rfl)]at e67;simp at e67;go_simp
    case s36 =>
     refine qQh (x:=dv) rfl rfl (.inl rfl) rfl (fun _=>rfl) fun e' L v a w hW hφ hv h0=>?_
     have e68:=hv 35 68 rfl (by kernel_rfl);rw[show v 35=_ from hφ 35 (by kernel_rfl)]at e68;simp at e68;have hcell:=hcg w hW 4;simp at hcell;go_simp
    case s37 =>
     refine qQL (f:=44) (bytes:=qXD rb.disks) (before:=[(6,[rb.id].flatMap qQ1),(12,[rb.name].flatMap qZh),(19,[!rb.dead].flatMap qZ4),(25,[rb.size].flatMap qQw),(32,[rb.sum].flatMap qQ1)]) (after:=[]) rfl rfl rfl rfl rfl (by kernel_rfl) rfl (fun _=>rfl) (fun _ _ _=>rfl) fun e' L v a w hgh hW hn hd hE hφ hv h0=>?_
     have e65:=hv 32 65 rfl (by kernel_rfl);rw[show v 32=_ from hφ 32 (by kernel_rfl)]at e65;simp at e65;rw[hgh _ rfl]at e65;have e69:=hv 36 69 rfl (by kernel_rfl);rw[show v 36=_ from hφ 36 (by kernel_rfl)]at e69;simp at e69;rw[hgh _ rfl]at hE⊢;exact⟨#[.pointer (some ⟨e,0,none⟩),dv],by go_simp,elist_any w base e _ hE (dv) rb.disks (hSd w hW) (fun d hd=>by have:=HDB.out d hd;omega) (by have:=HDL.out;omega) (by have hcl:=qQP L [(6,[rb.id].flatMap qQ1),(12,[rb.name].flatMap qZh),(19,[!rb.dead].flatMap qZ4),(25,[rb.size].flatMap qQw),(32,[rb.sum].flatMap qQ1)];have:=HLN.out.1;have:=HLN.out.2.1;have:=HLN.out.2.2.1;have:=HLN.out.2.2.2.1;have:=HLN.out.2.2.2.2;have:=hpl2;have:=HDL.out;simp at hcl⊢;omega)⟩
   case fins =>
    intro e' L v w1 hall hG hφ;obtain⟨hee,hW1,hE1⟩:=hG;have hee':=hee _ rfl;replace hE1:=hE1 rfl;rw[hee',qZQ (fun c b hm=>hall c (by simp at hm;rcases hm with h|h|h|h|h|h <;> rw[h.1] <;> decide))]at hE1;clear hee hee'
    change Exit.then _ _ _ (qQC _ v _ 38) w1
    simp only[qQC,qQD,Act.put];simp only[List.getElem?_toArray,List.getElem?_cons_zero,List.getElem?_cons_succ,Option.bind_some,List.setIfInBounds_toArray,List.set_cons_zero,List.set_cons_succ]
    have hT7:qZA w w1 base e (pre++blA rb):=⟨hT.1.drew.trans hW1,by
     have:pre++blA rb=pre++([(6,[rb.id].flatMap qQ1),(12,[rb.name].flatMap qZh),(19,[!rb.dead].flatMap qZ4),(25,[rb.size].flatMap qQw),(32,[rb.sum].flatMap qQ1),(37,qXD rb.disks)]).flatMap (·.2):=by simp[blA]
     rw[this];exact hE1⟩
    have hX7:qQu wr w1 base:=((qQu.refl wr base).drew).trans hW1;have hA7:=hA.enc (by decide) hX7;have hO7:=own_enc hO (by decide) hX7;clear hW1 hE1 hE0 hcg hSd hD hA hO hT hX7 hφ hall
    have hbl7:(pre++blA rb).length≤15210:=by
     have:=blA_length HOK.out
     rw[List.length_append];omega
    have HST2:Hid ([(P.L.length:Int)].flatMap qQw++(P.L.take (k+1)).flatMap qZI=((pre++blA rb)++cpE rb 2)++[rb.pins].flatMap qQw):=Hh (by rw[HST.out];simp[qZI,cpE]);clear HST hpl2 HLN HDL HDB;generalize pre++blA rb=pre1 at hT7 hbl7 HST2;have q5:=hA7.cell 5;have q6:=hA7.cell 6;have q7:=hA7.cell 7;have q8:=hA7.cell 8;have q9:=hA7.cell 9;have q10:=hA7.cell 10;simp at q5 q6 q7 q8 q9 q10;go_wp2_with fail
    clear q5 q6 q7 q8 q9 q10
    go_loopw [75] (fun jv wx=>∃j:Nat,jv=.int .i64 (j:Int)∧j≤2∧qZA w1 wx base e (pre1++cpE rb j)) (fun jv _=>2 - (intOf jv).toNat)
    case atStart=>exact⟨0,rfl,Nat.zero_le _,qQu.refl _ _,by simpa[cpE]using hT7.2⟩
    case round =>
     obtain⟨j,rfl,hj,hTj⟩:=hrel
     by_cases hj2:j<2
     ·obtain⟨x,hix,hstep,hx1,hx2,hx3,hx4⟩:=cp_at HOK.out j hj2
      have hpl2:(pre1++cpE rb j).length≤15300:=by
       have:=cpE_length rb j
       rw[List.length_append];omega
      have HS:=Hh (show pre1++cpE rb (j+1)=(pre1++cpE rb j)++qZw x by rw[hstep,List.append_assoc]);generalize pre1++cpE rb j=pre2 at hTj hpl2 HS;clear hstep hbl7
      go_upto_region 11 with fail
      have hy:=At.new wr 105 #[.bool x.there,.int .i64 x.vol,.int .i64 x.at_];have hXy:=(qQu.refl wr base).alloc (.cells #[.bool x.there,.int .i64 x.vol,.int .i64 x.at_] 105);have hTy:=hTj.2.alloc (.cells #[.bool x.there,.int .i64 x.vol,.int .i64 x.at_] 105);clear hix;generalize wr.heap.size=y at hy⊢;generalize wr.alloc (.cells #[.bool x.there,.int .i64 x.vol,.int .i64 x.at_] 105)=W at *;have hE0:qZH W.drew base e pre2:=hTy.drew;have hcy:=qXm (base:=base) hy (by decide);go_wp2_with fail
      refine qQq (Γ := Nat) (spφ [.val (.pointer (some ⟨e,0,none⟩)),.val (.pointer (some ⟨y,0,none⟩)),.val (.bool x.there),.sl [.bool x.there],.ptr,.val (.pointer (some ⟨y,1,none⟩)),.val (.int .i64 x.vol),.val (.pointer (some ⟨y,2,none⟩)),.val (.int .i64 x.at_),.sl [.int .i64 x.vol,.int .i64 x.at_],.ptr] base)
       (spG (some e) [(4,[x.there].flatMap qZ4),(10,[x.vol,x.at_].flatMap qQw)] pre2 (fun _=>true) W.drew base) (by kernel_rfl) (by kernel_rfl) (by kernel_rfl) e ⟨fun _ h=>(by injection h),qQu.refl _ _,fun _=>(by simpa[qQO]using hE0)⟩ ?stepsp ?finp
      case stepsp =>
       show qQV _ _ _ _ _ _ 11
       refine⟨⟨⟨⟨⟨⟨⟨⟨⟨⟨⟨trivial,?p0⟩,?p1⟩,?p2⟩,?p3⟩,?p4⟩,?p5⟩,?p6⟩,?p7⟩,?p8⟩,?p9⟩,?p10⟩
       case p0 =>
        refine qQh (x:=.pointer (some ⟨e,0,none⟩)) rfl rfl (.inl rfl) rfl (fun _=>rfl) fun e' L v a w hW hφ hv h0=>?_
        have e3:=h0 3 (by kernel_rfl);simp at e3;go_simp
       case p1 =>
        refine qQh (x:=.pointer (some ⟨y,0,none⟩)) rfl rfl (.inl rfl) rfl (fun _=>rfl) fun e' L v a w hW hφ hv h0=>?_
        have e8:=h0 8 (by kernel_rfl);simp at e8;go_simp
       case p2 =>
        refine qQh (x:=.bool x.there) rfl rfl (.inl rfl) rfl (fun _=>rfl) fun e' L v a w hW hφ hv h0=>?_
        have e79:=hv 1 79 rfl (by kernel_rfl);rw[show v 1=_ from hφ 1 (by kernel_rfl)]at e79;simp at e79;have hcell:=hcy w hW 0;simp at hcell;go_simp
       case p3 =>
        refine qQG (cs:=#[.bool x.there]) (t:=4) (c:=1) (by decide) rfl rfl rfl rfl (fun _=>rfl) fun e' L v a w hW hφ hv=>?_
        have e80:=hv 2 80 rfl (by kernel_rfl);rw[show v 2=_ from hφ 2 (by kernel_rfl)]at e80;simp at e80;go_simp
       case p4 =>
        refine qQL (f:=47) (bytes:=[x.there].flatMap qZ4) (before:=[]) (after:=[(10,[x.vol,x.at_].flatMap qQw)]) rfl rfl rfl rfl rfl (by kernel_rfl) rfl (fun _=>rfl) (fun _ _ _=>rfl) fun e' L v a w hgh hW hn hd hE hφ hv h0=>?_
        have e78:=hv 0 78 rfl (by kernel_rfl);rw[show v 0=_ from hφ 0 (by kernel_rfl)]at e78;simp at e78;have e81:=hv 3 81 rfl (by kernel_rfl);have hsl:SlE w base (v 3) _:=hφ 3 (by kernel_rfl);simp at e81;generalize v 3=sv at e81 hsl;rw[hgh _ rfl]at hE⊢;exact⟨#[.pointer (some ⟨e,0,none⟩),sv],by go_simp,eb_any w base e _ hE sv [x.there] (hsl) (by simp) (by have:=qZb x.there;have:=qQe x.vol;have:=qQe x.at_;have:=hpl2;simp[qQO];omega)⟩
       case p5 =>
        refine qQh (x:=.pointer (some ⟨y,1,none⟩)) rfl rfl (.inl rfl) rfl (fun _=>rfl) fun e' L v a w hW hφ hv h0=>?_
        have e8:=h0 8 (by kernel_rfl);simp at e8;go_simp
       case p6 =>
        refine qQh (x:=.int .i64 x.vol) rfl rfl (.inl rfl) rfl (fun _=>rfl) fun e' L v a w hW hφ hv h0=>?_
        have e83:=hv 5 83 rfl (by kernel_rfl);rw[show v 5=_ from hφ 5 (by kernel_rfl)]at e83;simp at e83;have hcell:=hcy w hW 1;simp at hcell;go_simp
       case p7 =>
        refine qQh (x:=.pointer (some ⟨y,2,none⟩)) rfl rfl (.inl rfl) rfl (fun _=>rfl) fun e' L v a w hW hφ hv h0=>?_
        have e8:=h0 8 (by kernel_rfl);simp at e8;go_simp
       case p8 =>
        refine qQh (x:=.int .i64 x.at_) rfl rfl (.inl rfl) rfl (fun _=>rfl) fun e' L v a w hW hφ hv h0=>?_
        have e85:=hv 7 85 rfl (by kernel_rfl);rw[show v 7=_ from hφ 7 (by kernel_rfl)]at e85;simp at e85;have hcell:=hcy w hW 2;simp at hcell;go_simp
       case p9 =>
        refine qQG (cs:=#[.int .i64 x.vol,.int .i64 x.at_]) (t:=3) (c:=2) (by decide) rfl rfl rfl rfl (fun _=>rfl) fun e' L v a w hW hφ hv=>?_
        have e84:=hv 6 84 rfl (by kernel_rfl);rw[show v 6=_ from hφ 6 (by kernel_rfl)]at e84;simp at e84;have e86:=hv 8 86 rfl (by kernel_rfl);rw[show v 8=_ from hφ 8 (by kernel_rfl)]at e86;simp at e86;go_simp
       case p10 =>
        refine qQL (f:=41) (bytes:=[x.vol,x.at_].flatMap qQw) (before:=[(4,[x.there].flatMap qZ4)]) (after:=[]) rfl rfl rfl rfl rfl (by kernel_rfl) rfl (fun _=>rfl) (fun _ _ _=>rfl) fun e' L v a w hgh hW hn hd hE hφ hv h0=>?_
        have e82:=hv 4 82 rfl (by kernel_rfl);rw[show v 4=_ from hφ 4 (by kernel_rfl)]at e82;simp at e82;rw[hgh _ rfl]at e82;have e87:=hv 9 87 rfl (by kernel_rfl);have hsl:SlE w base (v 9) _:=hφ 9 (by kernel_rfl);simp at e87;generalize v 9=sv at e87 hsl;rw[hgh _ rfl]at hE⊢;exact⟨#[.pointer (some ⟨e,0,none⟩),sv],by go_simp,qZT w base e _ hE sv [x.vol,x.at_] (hsl) (by simp;omega) (by simp) (by have hcl:=qQP L [(4,[x.there].flatMap qZ4)];have:=qZb x.there;have:=qQe x.vol;have:=qQe x.at_;have:=hpl2;simp at hcl⊢;omega)⟩
      case finp =>
       intro e' L v w2 hall hG hφ;obtain⟨hee,hW1,hE1⟩:=hG;have hee':=hee _ rfl;replace hE1:=hE1 rfl;rw[hee',qZQ (fun c b hm=>hall c (by simp at hm;rcases hm with h|h <;> rw[h.1] <;> decide))]at hE1;clear hee hee'
       change Exit.inBlock _ (Exit.then _ _) _ (qQC _ v _ 11) w2
       simp only[qQC,qQD,Act.put];simp only[List.getElem?_toArray,List.getElem?_cons_zero,List.getElem?_cons_succ,Option.bind_some,List.setIfInBounds_toArray,List.set_cons_zero,List.set_cons_succ]
       have hT11:qZA w1 w2 base e (pre2++qZw x):=⟨hTj.1.trans (hXy.drew.trans hW1),by
        have:pre2++qZw x=pre2++([(4,[x.there].flatMap qZ4),(10,[x.vol,x.at_].flatMap qQw)]).flatMap (·.2):=by simp[qZw]
        rw[this];exact hE1⟩
       clear hW1 hE1 hE0 hcy hy hXy hTy hTj hφ hall;go_wp2_with fail
       go_roundw
       case rel=>exact⟨j+1,by go_num,by omega,by rw[HS.out];exact hT11⟩
       case measure=>simp[intOf];omega
     ·obtain rfl:j=2:=by omega
      have hA8:=hA7.enc (by decide) hTj.1;have hO8:=own_enc hO7 (by decide) hTj.1;have hT8:qZA w wr base e (pre1++cpE rb 2):=⟨hT7.1.trans hTj.1,hTj.2⟩;have r11:=hA8.cell 11;simp at r11;have hpn:=HOK.out.pins;have hn50:=HI.out.2
      have hl8:(pre1++cpE rb 2).length≤15300:=by
       have:=cpE_length rb 2
       rw[List.length_append];omega
      generalize pre1++cpE rb 2=pre2 at hT8 hl8 HST2;clear hTj hT7 hA7 hO7 hA8 hbl7;go_wp2_with fail
      refine(qZT _ base e pre2 (hT8.2.alloc _) _ [rb.pins] (SlE.new (t:=3) (cs:=#[.int .i64 rb.pins]) wr base (by decide)) (by simp;omega) (by simp) (by simp;omega)).mono ?_
      rintro r w3 ⟨rfl,hT9⟩;have hO9:=own_enc hO8 (by decide) (((qQu.refl wr base).alloc _).trans hT9.1);have hT10:qZA w w3 base e (pre2++[rb.pins].flatMap qQw):=⟨(hT8.1.alloc _).trans hT9.1,hT9.2⟩;clear hT8 hT9 hO8 r11 hpn;go_wp2_with fail
      go_roundw
      case rel=>exact⟨k+1,by go_num,by omega,by rw[HST2.out];exact hT10,hO9⟩
      case measure=>simp[intOf];omega
  ·obtain rfl:k=P.L.length:=by omega
   rw[List.take_length]at hT;have hrg:=vl_range hCk;rw[HR.out.vols]at hrg;have hinf:=vl_info hvl;have HIX:Hid (∀j:Nat,j<12→∃x:Vl,P.vols[j]? = some x∧∀w,(Instr.index 98 (vlArr P.vols) (.int .i64 (j:Int))).run prog w=.ok (.agg #[.bool x.closed,.bool x.erase,.int .i64 x.gen]) w):=Hh (vl_idx hvl);have HRG:=Hh hrg;have HINF:=Hh hinf;clear hO hCk hrg hinf
   go_wp2_with (refine wpList_load_mid rfl 98 _ rfl c 2 rfl _ _ HRG.out underlying98 rfl HINF.out ?_)
   rw[show Value.agg ((P.vols.map qQY).flatten).toArray=vlArr P.vols from rfl];generalize vlArr P.vols=va at HIX⊢;clear HRG HINF;go_wp2_with fail
   go_loopw [102] (fun jv wx=>∃j:Nat,jv=.int .i64 (j:Int)∧j≤12∧qZA w wx base e (([(P.L.length:Int)].flatMap qQw++P.L.flatMap qZI)++(P.vols.take j).flatMap qXA)) (fun jv _=>12 - (intOf jv).toNat)
   case atStart=>exact⟨0,rfl,Nat.zero_le _,by simpa using hT⟩
   case round =>
    clear hT;obtain⟨j,rfl,hj,hTj⟩:=hrel;have hpl2:=enc_pre2 HI.out.1 hpl j
    by_cases hj2:j<12
    ·obtain⟨x,hxj,hix⟩:=HIX.out j hj2;have HS:=Hh (enc_step hxj qXA ([(P.L.length:Int)].flatMap qQw++P.L.flatMap qZI));have hxg:=HI.out.1.gen x (List.mem_of_getElem? hxj);have hn50:=HI.out.2;generalize ([(P.L.length:Int)].flatMap qQw++P.L.flatMap qZI)++(P.vols.take j).flatMap qXA=pre2 at hTj hpl2 HS;clear hxj
     go_upto_region 18 with fail
     have hy:=At.new wr 97 #[.bool x.closed,.bool x.erase,.int .i64 x.gen];have hXy:=(qQu.refl wr base).alloc (.cells #[.bool x.closed,.bool x.erase,.int .i64 x.gen] 97);have hTy:=hTj.2.alloc (.cells #[.bool x.closed,.bool x.erase,.int .i64 x.gen] 97);clear hix;generalize wr.heap.size=y at hy⊢;generalize wr.alloc (.cells #[.bool x.closed,.bool x.erase,.int .i64 x.gen] 97)=W at *;have hE0:qZH W.drew base e pre2:=hTy.drew;have hcy:=qXm (base:=base) hy (by decide);go_wp2_with fail
     refine qQq (Γ := Nat) (spφ [.val (.pointer (some ⟨e,0,none⟩)),.val (.pointer (some ⟨y,0,none⟩)),.val (.bool x.closed),.val (.pointer (some ⟨y,1,none⟩)),.val (.bool x.erase),.sl [.bool x.closed,.bool x.erase],.ptr,.val (.pointer (some ⟨y,2,none⟩)),.val (.int .i64 x.gen),.sl [.int .i64 x.gen],.ptr] base)
      (spG (some e) [(6,[x.closed,x.erase].flatMap qZ4),(10,[x.gen].flatMap qQw)] pre2 (fun _=>true) W.drew base) (by kernel_rfl) (by kernel_rfl) (by kernel_rfl) e ⟨fun _ h=>(by injection h),qQu.refl _ _,fun _=>(by simpa[qQO]using hE0)⟩ ?stepsq ?finq
     case stepsq =>
      show qQV _ _ _ _ _ _ 11
      refine⟨⟨⟨⟨⟨⟨⟨⟨⟨⟨⟨trivial,?q0⟩,?q1⟩,?q2⟩,?q3⟩,?q4⟩,?q5⟩,?q6⟩,?q7⟩,?q8⟩,?q9⟩,?q10⟩
      case q0 =>
       refine qQh (x:=.pointer (some ⟨e,0,none⟩)) rfl rfl (.inl rfl) rfl (fun _=>rfl) fun e' L v a w hW hφ hv h0=>?_
       have e3:=h0 3 (by kernel_rfl);simp at e3;go_simp
      case q1 =>
       refine qQh (x:=.pointer (some ⟨y,0,none⟩)) rfl rfl (.inl rfl) rfl (fun _=>rfl) fun e' L v a w hW hφ hv h0=>?_
       have e10:=h0 10 (by kernel_rfl);simp at e10;go_simp
      case q2 =>
       refine qQh (x:=.bool x.closed) rfl rfl (.inl rfl) rfl (fun _=>rfl) fun e' L v a w hW hφ hv h0=>?_
       have e106:=hv 1 106 rfl (by kernel_rfl);rw[show v 1=_ from hφ 1 (by kernel_rfl)]at e106;simp at e106;have hcell:=hcy w hW 0;simp at hcell;go_simp
      case q3 =>
       refine qQh (x:=.pointer (some ⟨y,1,none⟩)) rfl rfl (.inl rfl) rfl (fun _=>rfl) fun e' L v a w hW hφ hv h0=>?_
       have e10:=h0 10 (by kernel_rfl);simp at e10;go_simp
      case q4 =>
       refine qQh (x:=.bool x.erase) rfl rfl (.inl rfl) rfl (fun _=>rfl) fun e' L v a w hW hφ hv h0=>?_
       have e108:=hv 3 108 rfl (by kernel_rfl);rw[show v 3=_ from hφ 3 (by kernel_rfl)]at e108;simp at e108;have hcell:=hcy w hW 1;simp at hcell;go_simp
      case q5 =>
       refine qQG (cs:=#[.bool x.closed,.bool x.erase]) (t:=4) (c:=2) (by decide) rfl rfl rfl rfl (fun _=>rfl) fun e' L v a w hW hφ hv=>?_
       have e107:=hv 2 107 rfl (by kernel_rfl);rw[show v 2=_ from hφ 2 (by kernel_rfl)]at e107;simp at e107;have e109:=hv 4 109 rfl (by kernel_rfl);rw[show v 4=_ from hφ 4 (by kernel_rfl)]at e109;simp at e109;go_simp
      case q6 =>
       refine qQL (f:=47) (bytes:=[x.closed,x.erase].flatMap qZ4) (before:=[]) (after:=[(10,[x.gen].flatMap qQw)]) rfl rfl rfl rfl rfl (by kernel_rfl) rfl (fun _=>rfl) (fun _ _ _=>rfl) fun e' L v a w hgh hW hn hd hE hφ hv h0=>?_
       have e105:=hv 0 105 rfl (by kernel_rfl);rw[show v 0=_ from hφ 0 (by kernel_rfl)]at e105;simp at e105;have e110:=hv 5 110 rfl (by kernel_rfl);have hsl:SlE w base (v 5) _:=hφ 5 (by kernel_rfl);simp at e110;generalize v 5=sv at e110 hsl;rw[hgh _ rfl]at hE⊢;exact⟨#[.pointer (some ⟨e,0,none⟩),sv],by go_simp,eb_any w base e _ hE sv [x.closed,x.erase] (hsl) (by simp) (by have:=qZb x.closed;have:=qZb x.erase;have:=qQe x.gen;have:=hpl2;simp[qQO];omega)⟩
      case q7 =>
       refine qQh (x:=.pointer (some ⟨y,2,none⟩)) rfl rfl (.inl rfl) rfl (fun _=>rfl) fun e' L v a w hW hφ hv h0=>?_
       have e10:=h0 10 (by kernel_rfl);simp at e10;go_simp
      case q8 =>
       refine qQh (x:=.int .i64 x.gen) rfl rfl (.inl rfl) rfl (fun _=>rfl) fun e' L v a w hW hφ hv h0=>?_
       have e112:=hv 7 112 rfl (by kernel_rfl);rw[show v 7=_ from hφ 7 (by kernel_rfl)]at e112;simp at e112;have hcell:=hcy w hW 2;simp at hcell;go_simp
      case q9 =>
       refine qQG (cs:=#[.int .i64 x.gen]) (t:=3) (c:=1) (by decide) rfl rfl rfl rfl (fun _=>rfl) fun e' L v a w hW hφ hv=>?_
       have e113:=hv 8 113 rfl (by kernel_rfl);rw[show v 8=_ from hφ 8 (by kernel_rfl)]at e113;simp at e113;go_simp
      case q10 =>
       refine qQL (f:=41) (bytes:=[x.gen].flatMap qQw) (before:=[(6,[x.closed,x.erase].flatMap qZ4)]) (after:=[]) rfl rfl rfl rfl rfl (by kernel_rfl) rfl (fun _=>rfl) (fun _ _ _=>rfl) fun e' L v a w hgh hW hn hd hE hφ hv h0=>?_
       have e111:=hv 6 111 rfl (by kernel_rfl);rw[show v 6=_ from hφ 6 (by kernel_rfl)]at e111;simp at e111;rw[hgh _ rfl]at e111;have e114:=hv 9 114 rfl (by kernel_rfl);have hsl:SlE w base (v 9) _:=hφ 9 (by kernel_rfl);simp at e114;generalize v 9=sv at e114 hsl;rw[hgh _ rfl]at hE⊢;exact⟨#[.pointer (some ⟨e,0,none⟩),sv],by go_simp,qZT w base e _ hE sv [x.gen] (hsl) (by simp;omega) (by simp) (by have hcl:=qQP L [(6,[x.closed,x.erase].flatMap qZ4)];have:=qZb x.closed;have:=qZb x.erase;have:=qQe x.gen;have:=hpl2;simp at hcl⊢;omega)⟩
     case finq =>
      intro e' L v w1 hall hG hφ;obtain⟨hee,hW1,hE1⟩:=hG;have hee':=hee _ rfl;replace hE1:=hE1 rfl;rw[hee',qZQ (fun c b hm=>hall c (by simp at hm;rcases hm with h|h <;> rw[h.1] <;> decide))]at hE1;clear hee hee'
      change Exit.inBlock _ (Exit.then _ _) _ (qQC _ v _ 11) w1
      simp only[qQC,qQD,Act.put];simp only[List.getElem?_toArray,List.getElem?_cons_zero,List.getElem?_cons_succ,Option.bind_some,List.setIfInBounds_toArray,List.set_cons_zero,List.set_cons_succ]
      have hT11:qZA w w1 base e (pre2++qXA x):=⟨hTj.1.trans (hXy.drew.trans hW1),by
       have:pre2++qXA x=pre2++([(6,[x.closed,x.erase].flatMap qZ4),(10,[x.gen].flatMap qQw)]).flatMap (·.2):=by simp[qXA]
       rw[this];exact hE1⟩
      clear hW1 hE1 hE0 hcy hy hXy hTy hTj hφ hall;go_wp2_with fail
      go_roundw
      case rel=>exact⟨j+1,by go_num,by omega,by rw[HS.out];exact hT11⟩
      case measure=>simp[intOf];omega
    ·obtain rfl:j=12:=by omega
     have e12:P.vols.take 12=P.vols:=List.take_of_length_le (by omega);rw[e12]at hTj;have hF:qZA w wr base e P.enc:=hTj;clear hTj e12 hpl2;go_wp2_with fail
     refine(bytes_any wr base e P.enc hF.2).mono ?_
     rintro r w3 ⟨rfl,rfl⟩;go_wp2_with fail
     go_ret
     exact⟨rfl,hF.1.below hle⟩
open Go.RowKit Go.Sort
def eI:Int→Value:=Value.int .i64
theorem sortI_ids{ss ids:List Int}(h:ss.Perm ids)(hi:ids.Pairwise (· < ·)):qJt ss=ids:=by
 have h1:(qJt ss).Perm ids:=(List.mergeSort_perm _ _).trans h
 have h2:(qJt ss).Pairwise (fun x y=>x≤y):=by
  have:=List.pairwise_mergeSort (le:=fun x y:Int=>decide (x≤y)) (fun a b c h h'=>by simp at *;omega) (fun a b=>by simp;omega) ss
  exact this.imp fun h=>by simpa using h
 exact List.Perm.eq_of_pairwise (le:=fun x y=>x≤y) (fun a b _ _ h h'=>by omega) h2 (hi.imp fun h=>by omega) h1
theorem ikeys1_in(F:Fence)(n:Nat)(hfn:F.fn 77)(hro:F.round=none)(hn:1≤n)(l Bm b:Nat)(L:List (Int×(Last×Value)))(J:List Int→World→Prop)
 (hY:∀pre x W,J pre W→pre.length<L.length→YieldAt F (n - 1) prog l #[eI x] W fun e W'=>e=.returned (.bool true)∧J (pre++[x]) W'∧KeepsWalks W W')
 (W:World) (hJ:AbidesFrom W.heap.size J) (hm:W.cell? ⟨Bm,0,none⟩=some (.map (some b))) (hM:qQE qZM qXo W b L) (h0:J [] W) :
 CallsIn F n prog 77 #[.func (.yield l) #[] #[],.pointer (some ⟨Bm,0,none⟩)] W fun e W'=>(∃v,e=.returned v)∧∃ss:List Int,ss.Perm (L.map (·.1))∧J ss W':=by
 obtain⟨w0,hrun,hR,hE⟩:=hM.range qXp;have HY:=Hh hY;have HJ:=Hh hJ;clear hY hJ;refine callsIn_of_wp func77 rfl hfn ?_ hro;simp only[ntmps77,List.size_toArray,List.length_cons,List.length_nil,Nat.reduceAdd,Nat.reduceSub,Array.replicate_succ,Array.replicate_zero,List.push_toArray,List.append_toArray,List.nil_append,List.cons_append]
 gi_wp2
 have hJ0:J [] w0:=HJ.out [] W w0 none h0 hE.grown (fun r e=>by cases e);clear hrun h0 hm hM;obtain⟨r,hr⟩:∃r,r=W.heap.size:=⟨_,rfl⟩;rw[←hr]at hR⊢;have hrg:W.heap.size≤r:=by omega
 clear hr hE
 gi_loopg [3] L.length (fun k _ wr=>∃left ss,left.length=k∧(L.map (·.1)).Perm (ss++left.map (·.1))∧qQ4 qZM qXo wr b r L left∧J ss wr)
 case atStart=>exact⟨L,[],rfl,List.Perm.refl _,hR,hJ0⟩
 case round =>
  obtain⟨left,ss,rfl,hp,hRk,hJs⟩:=hrel;clear hR hJ0;have HP:=Hh hp;clear hp;rcases hRk.next (P:=prog) 0 with⟨rfl,hrun⟩|⟨p,left',w1,hperm,hrun,hR1,hC1,hent⟩
  ·have hrun':∀ty,(Instr.next (.pointer (some ⟨r,0,none⟩)) false ty).run prog wr=.ok (.tuple #[.bool false]) wr:=fun _=>hrun
   clear hrun
   gi_wp2
   go_end0
   exact⟨⟨_,rfl⟩,ss,by have:=HP.out;simpa using this.symm,hJs⟩
  ·have hrun':∀ty,(Instr.next (.pointer (some ⟨r,0,none⟩)) false ty).run prog wr=.ok (.tuple #[.bool true,.int .i64 p.1,qXo p.2]) w1:=fun _=>hrun
   have hent':(Instr.entry (.pointer (some ⟨r,0,none⟩))).run prog w1=.ok (.tuple #[.int .i64 p.1,qXo p.2]) w1:=hent;clear hrun hent;have hlen:left'.length<left.length:=by have:=hperm.length_eq;simp at this;omega
   have hp2:(L.map (·.1)).Perm ((ss++[p.1])++left'.map (·.1)):=by
    refine HP.out.trans ?_;rw[List.append_assoc];exact(hperm.map _).append_left ss
   have hsl:ss.length<L.length:=by have:=hp2.length_eq;simp at this;omega
   have HP2:=Hh hp2;clear hp2 hperm HP;have hJ2:J ss w1:=HJ.out ss wr w1 (some r) hJs hC1.grown (fun r' e=>by cases e;exact⟨hrg,hRk.iter_walk⟩);obtain⟨fn,tmps,assign,body,hy,hRd⟩:=HY.out ss p.1 w1 hJ2 hsl;clear hJs hRk hC1;unfold eI at hy
   gi_wp2
   refine hRd.mono ?_;rintro e W3 ⟨rfl,hJ3,hk3⟩
   gi_wp2
   gi_roundg left'.length
   case measure=>exact hlen
   case rel=>exact⟨left',ss++[p.1],rfl,HP2.out,hR1.walks hk3,hJ3⟩
theorem ikeys_gives(F:Fence)(n:Nat)(hfn:F.fn 77)(hro:F.round=none)(hn:1≤n)(Bm b:Nat)(L:List (Int×(Last×Value)))(w:World)(hBm:Bm<w.heap.size)
 (hm:w.cell? ⟨Bm,0,none⟩=some (.map (some b))) (hM:qQE qZM qXo w b L) :
 SeqGives F n prog 77 #[.pointer (some ⟨Bm,0,none⟩)] eI (fun ss=>ss.Perm (L.map (·.1))) L.length w:=fun l J W hW hJ hY h0=>by
 have hE:Ext w W:=Ext.of_below hW;exact ikeys1_in F n hfn hro hn l Bm b L J hY W hJ ((Ext.cell hE hBm).trans hm) (hM.ext hE) h0
theorem ikeysU_in(F:Fence)(n:Nat)(h7:F.fn 49)(hro:F.round=none)(mb:Option Nat)(w:World) :
 CallsIn F n prog 49 #[.map mb] w fun e w'=>e=.returned (.func (.func 77) #[] #[.pointer (some ⟨w.heap.size,0,none⟩)])∧w'=w.alloc (.cells #[.map mb] 69):=by
 refine callsIn_of_wp func49 rfl h7 ?_ hro;simp only[ntmps49,List.size_toArray,List.length_cons,List.length_nil,Nat.reduceAdd,Nat.reduceSub,Array.replicate_succ,Array.replicate_zero,List.push_toArray,List.append_toArray,List.nil_append,List.cons_append]
 gi_wp2
 go_ret
 exact⟨rfl,rfl⟩
open Go.RowKit Go.Maps Go.Sort Go.Shelf
def qJC:Code:=(Code.region 2 #[{ dst:=some 5,op:=Op.assign (Operand.tmp 7),type:=3,pos := "iter.go:51",after:=#[],guard:=none }] false)
def iuapBody:Code:=(Code.block 1 (Code.region 3 #[{ dst:=some 8,op:=Op.load 27 (Operand.tmp 2),type:=27,pos := "iter.go:52",after:=#[],guard:=none }, { dst:=some 9,op:=Op.move (Operand.tmp 5),type:=3,pos := "iter.go:52",after:=#[],guard:=none }, { dst:=some 10,op:=Op.buildSlice 27 1 #[(0,Operand.tmp 9)],type:=27,pos := "iter.go:52",after:=#[{ on:=1,ground:=Ground.data }],guard:=none }, { dst:=some 11,op:=Op.call { callee:=Callee.builtin Builtin.append,args:=#[Operand.tmp 8,Operand.tmp 10],argTypes:=#[27,27] },type:=27,pos := "iter.go:52",after:=#[{ on:=0,ground:=Ground.data }, { on:=2,ground:=Ground.data }],guard:=none }, { dst:=none,op:=Op.store 27 (Operand.tmp 2) (Operand.tmp 11),type:=0,pos := "iter.go:52",after:=#[{ on:=3,ground:=Ground.data }, { on:=3,ground:=Ground.chain }, { on:=0,ground:=Ground.phase }, { on:=1,ground:=Ground.phase }, { on:=2,ground:=Ground.phase }, { on:=3,ground:=Ground.phase }],guard:=none }] false))
def qZ2(fn:FuncId)(sv:Value)(Bs D:Nat)(st:LoopState)(pend:Option Code):Loop :=
 { state:=st,pending:=pend,fn,tmps:=#[.slice none 0 0,sv,.pointer (some ⟨Bs,0,none⟩),undef,.slice none 0 0,undef,sv,undef,undef,undef,undef,undef,undef],params:=#[7],assign:=qJC,body:=iuapBody,defers:=D }
structure iuApAt (w0:World) (fn:FuncId) (sv:Value) (Bs l D:Nat) (ss:List Int) (W:World):Prop where
 box:∃v,W.heap[Bs]? = some (.cells #[v] 27 (0,0))∧W.ownsRow w0.heap.size 3 1 v ss.length (ss.map (Value.int .i64))∧(v=.slice none 0 0↔ss=[])
 L:W.heap[l]? = some (.loop (qZ2 fn sv Bs D .ready none))
 K:W.heap[D]? = some (.deferred (some []))
 below:Below w0.heap.size w0 W
theorem iuap_abides(w0:World)(fn:FuncId)(sv:Value)(Bs l D B:Nat)(hB:w0.heap.size≤B):AbidesFrom B (iuApAt w0 fn sv Bs l D):=fun s W W' row h hg hrow=>by
 have hrow':∀r,row=some r→∃o:Obj,W.heap[r]? = some o∧o.isWalk=true:=fun r e=>(hrow r e).2
 obtain⟨v,hv,hr,hn⟩:=h.box
 exact⟨⟨v,(grownBy_keeps hg hrow' hv rfl).trans hv,ownsRow_abides_a hr hg hrow',hn⟩,(grownBy_keeps hg hrow' h.L rfl).trans h.L,(grownBy_keeps hg hrow' h.K rfl).trans h.K,
  h.below.grown hg h.below.size (fun k e=>Nat.le_trans hB (hrow k e).1)⟩
theorem iuapYield(F:Fence)(m:Nat)(w0:World)(fn:FuncId)(hfn:F.fn fn)(sv:Value)(Bs l D:Nat)(hBl:Bs≠l)(hDl:D≠l)(hDB:D≠Bs)(h0B:w0.heap.size≤Bs)(h0l:w0.heap.size≤l)
 (N:Nat) (hN:N≤maxLen) (hNb:N * 8≤140737488355328) (ss:List Int) (x:Int) (W:World) (h:iuApAt w0 fn sv Bs l D ss W) (hlen:ss.length<N) :
 YieldAt F m prog l #[Value.int .i64 x] W fun e W'=>e=.returned (.bool true)∧iuApAt w0 fn sv Bs l D (ss++[x]) W'∧KeepsWalks W W':=by
 obtain⟨i0,hi,hz0,hz1,hz2⟩:=info_parts int_info;obtain⟨v,hv,hrow,_⟩:=h.box;refine⟨fn,#[.slice none 0 0,sv,.pointer (some ⟨Bs,0,none⟩),undef,.slice none 0 0,undef,sv,Value.int .i64 x,undef,undef,undef,undef,undef],qJC,iuapBody,by simpa[qZ2]using run_yield (P:=prog) (args:=#[Value.int .i64 x]) h.L rfl,roundIn_of_wpIn hfn ?_⟩
 have hl:l<W.heap.size:=(Array.getElem?_eq_some_iff.1 h.L).1;have hbr:=run_beginRound (P:=prog) h.L rfl;obtain⟨W2,hW2⟩:∃W2,W.putObj l (.loop { qZ2 fn sv Bs D .ready none with state:=.busy })=W2:=⟨_,rfl⟩;rw[hW2]at hbr;have hg2:W.grownBy W2 (some l):=by rw[←hW2];exact grownBy_putObj_a _ _ _
 have hk2:KeepsWalks W W2:=by rw[←hW2];exact KeepsWalks.putObj _ h.L rfl
 have hv2:W2.heap[Bs]? = some (.cells #[v] 27 (0,0)):=by rw[←hW2];exact(World.putObj_heap_other hBl).trans hv
 have hK2:W2.heap[D]? = some (.deferred (some [])):=by rw[←hW2];exact(World.putObj_heap_other hDl).trans h.K
 have hL2:W2.heap[l]? = some (.loop { qZ2 fn sv Bs D .ready none with state:=.busy }):=by rw[←hW2];exact World.putObj_heap_same hl
 have hrow2:W2.ownsRow w0.heap.size 3 1 v ss.length (ss.map (Value.int .i64)):=hrow.kept hg2 (ownsRow_ne_a hrow h.L (fun cur e=>by first|cases e|exact absurd (Obj.cells.inj e).2.1 (by decide)));have hb2:Below w0.heap.size w0 W2:=h.below.grown hg2 h.below.size (fun k e=>by cases e;exact h0l);obtain⟨hc2,hf2⟩:=cell_of_box_a hv2;have hBlt:Bs<W2.heap.size:=(Array.getElem?_eq_some_iff.1 hv2).1;have hl2:l<W2.heap.size:=(Array.getElem?_eq_some_iff.1 hL2).1;have hDlt:D<W2.heap.size:=(Array.getElem?_eq_some_iff.1 hK2).1
 have ne_of:∀ {j:Nat} {o:Obj},W2.heap[j]? = some o→(∀cur,o≠.cells cur 3 (0,0))→some j≠v.ownBlock:=fun hj hno=>by
  rcases ownsRow_ne_a hrow2 hj hno with e|e
  ·rw[e];simp
  ·exact fun e'=>e e'.symm
 clear hW2;unfold qJC
 gi_wp2_with gi_round_op_a
 unfold iuapBody
 gi_wp2_with (first
  | (gi_at_builtin;refine wpListIn_append_own _ rfl _ _ 27 rfl w0.heap.size 3 i0 (.int .i64 0) 1 8 underlying27 hi hz0 hz1 hz2 rfl (by decide) _ _ _ rfl (hrow2.alloc _) ⟨W2.heap.size,0,none⟩ 1 1 [Value.int .i64 x] rfl rfl (cell_one_new _ _ _) (by simp[Value.oneCell']) (by omega) (by omega) (by have:=hb2.size;simp;omega) ?_;intro v' w3 hown' hg3 hnil3
     have hv3:w3.heap[Bs]? = some (.cells #[v] 27 (0,0)):=(hg3.block Bs (by simp;omega) (ne_of hv2 (fun cur e=>by first|cases e|exact absurd (Obj.cells.inj e).2.1 (by decide)))).trans ((Below.heap_alloc _ _ Bs hBlt).trans hv2);obtain⟨hc3,hf3⟩:=cell_of_box_a hv3
     obtain⟨g',cap',cur',rfl,hbase',hgb',hr1,hr2,hr3,hr4⟩:∃g' cap' cur',v'=.slice (some ⟨g',0,none⟩) (ss.length+1) cap'∧w0.heap.size≤g'∧w3.heap[g']? = some (.cells cur' 3 (0,0))∧ss.length+1≤cap'∧cap'≤maxLen∧cur'.size=cap' * 1∧cur'.toList.take ((ss.length+1) * 1)=ss.map (Value.int .i64)++[Value.int .i64 x]:=by
      rcases hown'.2 with⟨_,h0⟩|h'
      ·exact absurd h0 (by omega)
      ·exact h'
     go_frame)
  | gi_round_op_a)
 have hg3':(W2.alloc (.cells #[Value.int .i64 x] 3)).grownBy w3 v.ownBlock:=hg3;have hL3:w3.heap[l]? = some (.loop { qZ2 fn sv Bs D .ready none with state:=.busy }):=(hg3'.block l (by simp;omega) (ne_of hL2 (fun cur e=>by first|cases e|exact absurd (Obj.cells.inj e).2.1 (by decide)))).trans ((Below.heap_alloc _ _ l hl2).trans hL2);have hK3:w3.heap[D]? = some (.deferred (some [])):=(hg3'.block D (by simp;omega) (ne_of hK2 (fun cur e=>by first|cases e|exact absurd (Obj.cells.inj e).2.1 (by decide)))).trans ((Below.heap_alloc _ _ D hDlt).trans hK2);obtain⟨w4,hw4⟩:∃w4,w3.setCell ⟨Bs,0,none⟩ (.slice (some ⟨g',0,none⟩) (ss.length+1) cap')=w4:=⟨_,rfl⟩;rw[hw4];have hg4:w3.grownBy w4 (some Bs):=by rw[←hw4];exact grownBy_setCell0_a _ _ _
 have hv4:w4.heap[Bs]? = some (.cells #[.slice (some ⟨g',0,none⟩) (ss.length+1) cap'] 27 (0,0)):=by rw[←hw4];exact heap_setCell_box_a _ hv3
 have hL4:w4.heap[l]? = some (.loop { qZ2 fn sv Bs D .ready none with state:=.busy }):=(hg4.block l (Array.getElem?_eq_some_iff.1 hL3).1 (fun e=>hBl (by cases e;rfl))).trans hL3;have hK4:w4.heap[D]? = some (.deferred (some [])):=(hg4.block D (Array.getElem?_eq_some_iff.1 hK3).1 (fun e=>hDB (by cases e;rfl))).trans hK3;have hrow4:=hown'.kept hg4 (ownsRow_ne_a hown' hv3 (fun cur e=>by first|cases e|exact absurd (Obj.cells.inj e).2.1 (by decide)));have hl4:l<w4.heap.size:=(Array.getElem?_eq_some_iff.1 hL4).1;have hb3:Below w0.heap.size w0 w3:=(hb2.alloc hb2.size _).grown hg3' (by have:=hb2.size;simp;omega) (fun k e=>(hrow2.lt k e).1);have hb4:Below w0.heap.size w0 w4:=hb3.grown hg4 hb3.size (fun k e=>by cases e;exact h0B);have hk4:KeepsWalks W w4:=((hk2.trans (KeepsWalks.alloc _ _)).trans (KeepsWalks.of_grownBy hg3' (ownsRow_not_walk_a (hrow2.alloc _)))).trans (by rw[←hw4];exact KeepsWalks.setCell _ _ _);clear hw4;refine⟨_,_,run_endRound none hL4,rfl,⟨⟨_,(World.putObj_heap_other hBl).trans hv4,?_,by simp⟩,World.putObj_heap_same hl4,(World.putObj_heap_other hDl).trans hK4,hb4.grown (grownBy_putObj_a _ _ _) hb4.size (fun k e=>by cases e;exact h0l)⟩,hk4.trans (KeepsWalks.putObj _ hL4 rfl)⟩
 have:=hrow4.kept (grownBy_putObj_a w4 l (.loop { { qZ2 fn sv Bs D .ready none with state:=.busy } with state:=if(none:Option Code).isNone then .ready else .done,pending:=none })) (ownsRow_ne_a hrow4 hL4 (fun cur e=>by first|cases e|exact absurd (Obj.cells.inj e).2.1 (by decide)))
 simpa using this
theorem iuappendSeq_in(F:Fence)(n:Nat)(h11:F.fn 110)(hro:F.round=none)(hn:2≤n)(g:Nat)(lb:Array Value)(hFg:F.fn g)(eg:∀args w,(callFunc g args).run prog w=.ok (.enter g args) w)
 (S:List Int→Prop) (N:Nat) (hN:N≤maxLen) (hNb:N * 8≤140737488355328) (w:World) (hseq:SeqGives F (n - 1) prog g lb (Value.int .i64) S N w) :
 CallsIn F n prog 110 #[.slice none 0 0,.func (.func g) #[] lb] w fun e w'=>∃(v:Value) (ss:List Int),e=.returned v∧S ss∧w'.ownsRow w.heap.size 3 1 v ss.length (ss.map (Value.int .i64))∧(v=.slice none 0 0↔ss=[])∧Below w.heap.size w w':=by
 have h1:1≤n:=by omega
 refine callsIn_of_wp_marks func110 rfl h11 ?_ hro;simp only[ntmps110,List.size_toArray,List.length_cons,List.length_nil,Nat.reduceAdd,Nat.reduceSub,Array.replicate_succ,Array.replicate_zero,List.push_toArray,List.append_toArray,List.nil_append,List.cons_append]
 gi_wp2
 refine wpIn_rangeFunc ?_;intro fn hfn;rw[hro];obtain⟨W0,hW0⟩:∃W0,w.alloc (.cells #[.slice none 0 0] 27)=W0:=⟨_,rfl⟩;have hs0:W0.heap.size=w.heap.size+1:=by rw[←hW0];simp
 have hv0:W0.heap[w.heap.size]? = some (.cells #[.slice none 0 0] 27 (0,0)):=by rw[←hW0];exact World.alloc_heap_new w _
 have hb0:Below w.heap.size w W0:=by rw[←hW0];exact(Below.refl _ w).alloc (Nat.le_refl _) _
 rw[hW0];obtain⟨W1,hW1⟩:∃W1,(W0.alloc (.deferred (some []))).alloc (.loop (qZ2 fn (.func (.func g) #[] lb) w.heap.size W0.heap.size .ready none))=W1:=⟨_,rfl⟩
 have hold:∀k,k<W0.heap.size→W1.heap[k]? = W0.heap[k]? := fun k hk=>by
  rw[←hW1];exact(Below.heap_alloc _ _ k (by simp;omega)).trans (Below.heap_alloc _ _ k hk)
 have hb1:Below w.heap.size w W1:=by rw[←hW1];exact(hb0.alloc hb0.size _).alloc (by have:=hb0.size;simp;omega) _
 have hs1:W1.heap.size=W0.heap.size+2:=by rw[←hW1];simp
 have hM:iuApAt w fn (.func (.func g) #[] lb) w.heap.size (W0.heap.size+1) W0.heap.size [] W1 :=
  ⟨⟨_,(hold w.heap.size (by omega)).trans hv0,⟨rfl,.inl ⟨rfl,rfl⟩⟩,by simp⟩,
   by rw[←hW1];have:=World.alloc_heap_new (W0.alloc (.deferred (some []))) (.loop (qZ2 fn (.func (.func g) #[] lb) w.heap.size W0.heap.size .ready none));rwa[World.size_alloc]at this,
   by rw[←hW1];exact(Below.heap_alloc _ _ _ (by simp)).trans (World.alloc_heap_new W0 _),hb1⟩
 refine⟨W0.heap.size+1,[{ target:=.collected W0.heap.size,args:=#[] }],W1, { target:=.fn (.func g) lb,args:=#[.func (.yield (W0.heap.size+1)) #[] #[]] },W1,g,
  #[.func (.yield (W0.heap.size+1)) #[] #[]]++lb,W1,?_,?_,?_,?_,fun _=>h1,?_⟩
 ·rw[←hW1];exact run_enterLoop_outer _ _ _ _ _
 ·simp[resolve,go_sem]
 ·intro f' hf';simp[Target.leads]at hf';subst hf';exact hFg
 ·simp[invoke,go_sem,eg]
 ·refine(hseq (W0.heap.size+1) (iuApAt w fn (.func (.func g) #[] lb) w.heap.size (W0.heap.size+1) W0.heap.size) W1 hb1 (iuap_abides _ _ _ _ _ _ _ hb1.size)
   (fun pre x W hJ hl=>iuapYield F (n - 1 - 1) w fn hfn _ w.heap.size (W0.heap.size+1) W0.heap.size (by omega) (by omega) (by omega) (Nat.le_refl _) (by omega) N hN hNb pre x W hJ hl) hM).mono ?_
  rintro e W2 ⟨⟨v0,rfl⟩,ss,hS,h2⟩;obtain⟨v,hv,hrow,hnil⟩:=h2.box;have hend:=run_endLoop (P:=prog) h2.L (by simp[qZ2]);obtain⟨W3,hW3⟩:∃W3,W2.putObj (W0.heap.size+1) (.loop { qZ2 fn (.func (.func g) #[] lb) w.heap.size W0.heap.size .ready none with state:=.exhausted })=W3:=⟨_,rfl⟩;rw[hW3]at hend;have hg3:W2.grownBy W3 (some (W0.heap.size+1)):=by rw[←hW3];exact grownBy_putObj_a _ _ _
  have hv3:W3.heap[w.heap.size]? = some (.cells #[v] 27 (0,0)):=by rw[←hW3];exact(World.putObj_heap_other (by omega)).trans hv
  have hK3:W3.heap[W0.heap.size]? = some (.deferred (some [])):=by rw[←hW3];exact(World.putObj_heap_other (by omega)).trans h2.K
  have hrow3:=hrow.kept hg3 (ownsRow_ne_a hrow h2.L (fun cur e=>by first|cases e|exact absurd (Obj.cells.inj e).2.1 (by decide)));have hb3:Below w.heap.size w W3:=h2.below.grown hg3 h2.below.size (fun k e=>by cases e;omega);obtain⟨hc3,hf3⟩:=cell_of_box_a hv3;clear hW3;refine⟨none,W3,hend,?_⟩
  gi_wp2
  rw[←hs0];refine⟨by simp,.inl ⟨_,_,rfl,run_takeDeferred hK3,?_⟩⟩
  exact⟨_,results_tmp rfl _ _ _,v,ss,rfl,hS,hrow3.kept (grownBy_putObj_a _ _ _) (ownsRow_ne_a hrow3 hK3 (fun cur e=>by first|cases e|exact absurd (Obj.cells.inj e).2.1 (by decide))),hnil,hb3.grown (grownBy_putObj_a _ _ _) hb3.size (fun k e=>by cases e;omega)⟩
theorem iucollect_in(F:Fence)(n:Nat)(h8:F.fn 76)(h11:F.fn 110)(hro:F.round=none)(hn:3≤n)(g:Nat)(lb:Array Value)(hFg:F.fn g)(eg:∀args w,(callFunc g args).run prog w=.ok (.enter g args) w)
 (S:List Int→Prop) (N:Nat) (hN:N≤maxLen) (hNb:N * 8≤140737488355328) (w:World) (hseq:SeqGives F (n - 1 - 1) prog g lb (Value.int .i64) S N w) :
 CallsIn F n prog 76 #[.func (.func g) #[] lb] w fun e w'=>∃(v:Value) (ss:List Int),e=.returned v∧S ss∧w'.ownsRow w.heap.size 3 1 v ss.length (ss.map (Value.int .i64))∧(v=.slice none 0 0↔ss=[])∧Below w.heap.size w w':=by
 have h1:1≤n:=by omega
 refine callsIn_of_wp func76 rfl h8 ?_ hro;simp only[ntmps76,List.size_toArray,List.length_cons,List.length_nil,Nat.reduceAdd,Nat.reduceSub,Array.replicate_succ,Array.replicate_zero,List.push_toArray,List.append_toArray,List.nil_append,List.cons_append]
 gi_wp2_with (gi_at_call 110;refine(iuappendSeq_in F (n - 1) h11 hro (by omega) g lb hFg eg S N hN hNb _ hseq).mono ?_;rintro e w' ⟨v,ss,rfl,hS,hrow,hnil,hb⟩)
 go_ret
 exact⟨v,ss,rfl,hS,hrow,hnil,hb⟩
open Go.RowKit Go.Sort
theorem isortedu_any(Bm b:Nat)(L:List (Int×(Last×Value)))(ids:List Int)(w:World)(hm:w.cell? ⟨Bm,0,none⟩=some (.map (some b)))(hM:qQE qZM qXo w b L)(hi:ids.Pairwise (· < ·))(hp:ids.Perm (L.map (·.1)))(h50:ids.length≤100000) :
 Calls prog 48 #[.func (.func 77) #[] #[.pointer (some ⟨Bm,0,none⟩)]] w fun e w'=>∃v,e=.returned v ∧
  w'.ownsRow w.heap.size 3 1 v ids.length (ids.map (Value.int .i64))∧Ext w w':=by
 have hlL:L.length≤100000:=by have:=hp.length_eq;simp at this;omega
 have hseq:SeqGives Fence.wide (3 - 1 - 1) prog 77 #[.pointer (some ⟨Bm,0,none⟩)] (Value.int .i64) (fun ss:List Int=>ss.Perm (L.map (fun p:Int×(Last×Value)=>p.1))) L.length w:=ikeys_gives Fence.wide 1 trivial rfl (Nat.le_refl _) Bm b L w (qZl hm) hm hM;have HC:=Hh (callsIn_wide.1 (iucollect_in Fence.wide 3 trivial trivial rfl (Nat.le_refl _) _ #[.pointer (some ⟨Bm,0,none⟩)] trivial (enters_of func77 (by kernel_rfl) rfl) (fun ss:List Int=>ss.Perm (L.map (fun p:Int×(Last×Value)=>p.1))) L.length (by unfold maxLen;omega) (by omega) w hseq));clear hm hM hseq
 go_enter func48,ntmps48
 go_wp2_with fail
 refine HC.out.mono ?_;rintro e w1 ⟨v,ss,rfl,hS,hO,hnil,hb⟩;have hE:=Ext.of_below hb;have HS:=Hh hS;have hsl:ss.length=ids.length:=by rw[hS.length_eq,hp.length_eq]
 have HSL:=Hh hsl;have HNIL:=Hh hnil;clear hS hb hsl HC hnil;rcases hO.2 with⟨rfl,hz⟩|⟨gb,cap,cur,rfl,hbase,hgb,r1,r2,r3,r4⟩
 ·have hss:ss=[]:=List.eq_nil_of_length_eq_zero hz;subst hss;have hid:ids=[]:=List.eq_nil_of_length_eq_zero HSL.out.symm;subst hid;go_wp2_with fail
  refine(sort_own (w:=w1) (zs:=[]) hO (by decide)).mono ?_
  rintro e w' ⟨rfl,hO2,hC⟩;have hE2:Ext w w':=Chg.mono (hE.chg_trans hC) (fun k hk e=>by cases e);go_wp2_with fail
  go_ret
  exact⟨_,rfl,by simpa[qJt]using hO2,hE2⟩
 ·have HP:=Hh (sort_own (w:=w1) (zs:=ss) hO (by have:=HSL.out;omega));have hfin:qJt ss=ids:=sortI_ids (HS.out.trans hp.symm) hi;have hids:=HSL.out;rw[hfin,hids]at HP;clear r1 r2 r3 r4 hgb hO;rw[hids];go_wp2_with fail
  refine HP.out.mono ?_;rintro e w2 ⟨rfl,hO2,hC⟩;have hE2:Ext w w2:=Chg.mono (hE.chg_trans hC) (fun k hk e=>by have e2:some k=some gb:=e;injection e2 with e2;omega);clear HP;go_wp2_with fail
  go_ret
  exact⟨_,rfl,hO2,hE2⟩
open Go.RowKit Go.Sort
section
variable{P:Program}{ops:Array Oper}{Q:Exit→Act→World→Prop}{a0:Act}{sp:List Sp}{E0:Option Nat}{items:List (Nat×List UInt8)}{pre:List UInt8}{live:(Nat→Bool)→Bool}{W0:World}{base:Nat}{j:Nat}{o:Oper}
theorem enc_callv{f:FuncId}{x:Value}(ho:ops[j]? = some o)(hg:o.guard=none)(hs:sp.getD j .any=.val x)(hi:(items.all fun x=>x.1 != j)=true)(hl:∀L:Nat→Bool,live (fun i=>i == j||L i)=live L)
 (h:∀(e:Nat) (_L:Nat→Bool) (v:Nat→Value) (a:Act) (w:World),qQu W0 w base→(∀d,qZm ops j d=true→(sp.getD d .any).holds base e (v d) w)→(∀d t,qQD ops d=some t→qZm ops j d=true→a.tmps.getD t undef=v d) →
   ∃args,(execOp a.eval o).run P w=.ok (.enter f args) w∧Calls P f args w fun r w'=>r=.returned x∧Ext w w') :
 qZS P ops Q a0 (spφ sp base) (spG E0 items pre live W0 base) j:=by
 intro e L v a w hdown hLj hneed hG hφ hval h0;obtain⟨args,hrun,hcall⟩:=h e L v a w hG.2.1 (fun d hd=>hφ d (hneed d hd)) (fun d t hd hn=>hval d t hd (hneed d hn));refine qXi ho hg hrun (hcall.mono ?_);rintro r w' ⟨rfl,hE⟩;refine⟨_,rfl,_,e,rfl,?_,fun d _ _ hh=>Sp.stays hh (qQu.ext hE),hG.1,hG.2.1.trans (qQu.ext hE),fun hlv=>?_⟩
 ·unfold spφ;rw[hs];rfl
 ·rw[hl]at hlv;rw[qZq (L':=L) fun c b hm=>by have:=List.all_eq_true.1 hi _ hm;simp at this;simp[this]];exact(hG.2.2 hlv).ext hE
end
theorem mwrite_gen{w:World}{B:Nat→Prop}{m n:Nat}{M:Mach}(h:qZo w B m M)(hi:MW n M) :
 Calls prog 21 #[.pointer (some ⟨m,0,none⟩)] w fun r w'=>r=.returned (.string ⟨M.enc.toArray⟩)∧Ext w w':=by
 obtain⟨c,mb,mn,mc,rows,hM⟩:=h;obtain⟨base,hbase⟩:∃n,n=w.heap.size:=⟨_,rfl⟩;have hle:w.heap.size≤base:=by omega
 have hrl:rows.length=M.cl.length:=by rw[←hM.cl];simp
 have hscl:M.scl.length=M.cl.length:=M.scl_perm.length_eq;have hcl:=hi.len;have HI:=Hh hi;have HM:=Hh hM
 go_enter func21,ntmps21
 go_upto_region 2 with fail
 have hE0:qZH (w.alloc (.cells #[.slice none 0 0] 91)) base w.heap.size []:=⟨by omega,_,At.new w 91 #[.slice none 0 0],rfl,.inl ⟨rfl,rfl⟩⟩;have hX0:qQu w (w.alloc (.cells #[.slice none 0 0] 91)) base:=(qQu.refl w base).alloc _;have hMw:=hM.blk.ext ((Er w).alloc (.cells #[.slice none 0 0] 91));generalize w.heap.size=e at hE0 hbase⊢;generalize w.alloc (.cells #[.slice none 0 0] 91)=w0 at *;replace hE0:qZH w0.drew base e []:=hE0.drew;have hX0:=hX0.drew;have hM0:At w0 m 71 #[.pointer (some ⟨c,0,none⟩),.map (some mc),.int .i64 M.n]:=hMw;have hcm:=qXm (base:=base) hM0 (by decide);have hnum:=hi.num
 have hps:(⟨M.P.enc.toArray⟩:ByteArray).size≤15200:=by
  have:=penc_len hi.cat hi.L
  show M.P.enc.toArray.size≤_
  simpa using this
 have hpl:=qZJ (⟨M.P.enc.toArray⟩:ByteArray);have hil:=qQe M.n;have HCW:Hid (∀W,Ext w W→Calls prog 20 #[.pointer (some ⟨c,0,none⟩)] W fun r w'=>r=.returned (.string ⟨M.P.enc.toArray⟩)∧Ext W w'):=Hh fun W hE=>cwrite_gen (hM.cat.ext hE) hi.cat hi.L hi.n2
 have HLN:Hid (∀W,Ext w W→(Builtin.len_ #[69] 3 #[.map (some mc)]).run prog W=.ok (.int .i64 (M.cl.length:Int)) W):=Hh fun W hE=>by
  have:=(hM.map.ext hE).len (P:=prog) qXp 3
  rw[hrl]at this;exact this
 clear hi hM hMw;go_wp2_with fail
 refine qQq (Γ := Nat) (spφ [.val (.pointer (some ⟨e,0,none⟩)),.val (.pointer (some ⟨m,0,none⟩)),.val (.pointer (some ⟨m,0,none⟩)),.val (.pointer (some ⟨m,2,none⟩)),.val (.int .i64 M.n),.sl [.int .i64 M.n],.ptr,.val (.pointer (some ⟨m,0,none⟩)),.val (.pointer (some ⟨m,0,none⟩)),.val (.pointer (some ⟨m,0,none⟩)),.val (.pointer (some ⟨c,0,none⟩)),.val (.string ⟨M.P.enc.toArray⟩),.sl [.string ⟨M.P.enc.toArray⟩],.ptr,.val (.pointer (some ⟨m,0,none⟩)),.val (.pointer (some ⟨m,0,none⟩)),.val (.pointer (some ⟨m,1,none⟩)),.val (.map (some mc)),.val (.int .i64 (M.cl.length:Int)),.sl [.int .i64 (M.cl.length:Int)],.ptr] base)
  (spG (some e) [(6,[M.n].flatMap qQw),(13,[(⟨M.P.enc.toArray⟩:ByteArray)].flatMap qZh),(20,[(M.cl.length:Int)].flatMap qQw)] [] (fun _=>true) w0.drew base) (by kernel_rfl) (by kernel_rfl) (by kernel_rfl) e ⟨fun _ h=>(by injection h),qQu.refl _ _,fun _=>(by simpa[qQO]using hE0)⟩ ?stepss ?fins
 case stepss =>
  show qQV _ _ _ _ _ _ 21
  refine⟨⟨⟨⟨⟨⟨⟨⟨⟨⟨⟨⟨⟨⟨⟨⟨⟨⟨⟨⟨⟨trivial,?s0⟩,?s1⟩,?s2⟩,?s3⟩,?s4⟩,?s5⟩,?s6⟩,?s7⟩,?s8⟩,?s9⟩,?s10⟩,?s11⟩,?s12⟩,?s13⟩,?s14⟩,?s15⟩,?s16⟩,?s17⟩,?s18⟩,?s19⟩,?s20⟩
  case s0 =>
   refine qQh (x:=.pointer (some ⟨e,0,none⟩)) rfl rfl (.inl rfl) rfl (fun _=>rfl) fun e' L v a w hW hφ hv h0=>?_
   have e3:=h0 3 (by kernel_rfl);simp at e3;go_simp
  case s1 =>
   refine qQh (x:=.pointer (some ⟨m,0,none⟩)) rfl rfl (.inl rfl) rfl (fun _=>rfl) fun e' L v a w hW hφ hv h0=>?_
   have e0:=h0 0 (by kernel_rfl);simp at e0;go_simp
  case s2 =>
   refine qQh (x:=.pointer (some ⟨m,0,none⟩)) rfl rfl (.inl rfl) rfl (fun _=>rfl) fun e' L v a w hW hφ hv h0=>?_
   have e10:=hv 1 10 rfl (by kernel_rfl);rw[show v 1=_ from hφ 1 (by kernel_rfl)]at e10;simp at e10;go_simp
  case s3 =>
   refine qQh (x:=.pointer (some ⟨m,2,none⟩)) rfl rfl (.inl rfl) rfl (fun _=>rfl) fun e' L v a w hW hφ hv h0=>?_
   have e11:=hv 2 11 rfl (by kernel_rfl);rw[show v 2=_ from hφ 2 (by kernel_rfl)]at e11;simp at e11;go_simp
  case s4 =>
   refine qQh (x:=.int .i64 M.n) rfl rfl (.inl rfl) rfl (fun _=>rfl) fun e' L v a w hW hφ hv h0=>?_
   have e12:=hv 3 12 rfl (by kernel_rfl);rw[show v 3=_ from hφ 3 (by kernel_rfl)]at e12;simp at e12;have hcell:=hcm w hW 2;simp at hcell;go_simp
  case s5 =>
   refine qQG (cs:=#[.int .i64 M.n]) (t:=3) (c:=1) (by decide) rfl rfl rfl rfl (fun _=>rfl) fun e' L v a w hW hφ hv=>?_
   have e13:=hv 4 13 rfl (by kernel_rfl);rw[show v 4=_ from hφ 4 (by kernel_rfl)]at e13;simp at e13;go_simp
  case s6 =>
   refine qQL (f:=41) (bytes:=[M.n].flatMap qQw) (before:=[]) (after:=[(13,[(⟨M.P.enc.toArray⟩:ByteArray)].flatMap qZh),(20,[(M.cl.length:Int)].flatMap qQw)]) rfl rfl rfl rfl rfl (by kernel_rfl) rfl (fun _=>rfl) (fun _ _ _=>rfl) fun e' L v a w hgh hW hn hd hE hφ hv h0=>?_
   have e9:=hv 0 9 rfl (by kernel_rfl);rw[show v 0=_ from hφ 0 (by kernel_rfl)]at e9;simp at e9;have e14:=hv 5 14 rfl (by kernel_rfl);have hsl:SlE w base (v 5) _:=hφ 5 (by kernel_rfl);simp at e14;generalize v 5=sv at e14 hsl;rw[hgh _ rfl]at hE⊢;exact⟨#[.pointer (some ⟨e,0,none⟩),sv],by go_simp,qZT w base e _ hE sv [M.n] (hsl) (by simp;omega) (by simp) (by have:=hpl;have:=hil;have:=hps;simp[qQO] <;> omega)⟩
  case s7 =>
   refine qQh (x:=.pointer (some ⟨m,0,none⟩)) rfl rfl (.inl rfl) rfl (fun _=>rfl) fun e' L v a w hW hφ hv h0=>?_
   have e0:=h0 0 (by kernel_rfl);simp at e0;go_simp
  case s8 =>
   refine qQh (x:=.pointer (some ⟨m,0,none⟩)) rfl rfl (.inl rfl) rfl (fun _=>rfl) fun e' L v a w hW hφ hv h0=>?_
   have e16:=hv 7 16 rfl (by kernel_rfl);rw[show v 7=_ from hφ 7 (by kernel_rfl)]at e16;simp at e16;go_simp
  case s9 =>
   refine qQh (x:=.pointer (some ⟨m,0,none⟩)) rfl rfl (.inl rfl) rfl (fun _=>rfl) fun e' L v a w hW hφ hv h0=>?_
   have e17:=hv 8 17 rfl (by kernel_rfl);rw[show v 8=_ from hφ 8 (by kernel_rfl)]at e17;simp at e17;go_simp
  case s10 =>
   refine qQh (x:=.pointer (some ⟨c,0,none⟩)) rfl rfl (.inl rfl) rfl (fun _=>rfl) fun e' L v a w hW hφ hv h0=>?_
   have e18:=hv 9 18 rfl (by kernel_rfl);rw[show v 9=_ from hφ 9 (by kernel_rfl)]at e18;simp at e18;have hcell:=hcm w hW 0;simp at hcell;go_simp
  case s11 =>
   refine enc_callv (f:=20) (x:=.string ⟨M.P.enc.toArray⟩) rfl rfl rfl rfl (fun _=>rfl) fun e' L v a wi hW hφ hv=>?_
   have e19:=hv 10 19 rfl (by kernel_rfl);rw[show v 10=_ from hφ 10 (by kernel_rfl)]at e19;simp at e19;exact⟨#[.pointer (some ⟨c,0,none⟩)],by go_simp,HCW.out wi ((hX0.trans hW).below hle)⟩
  case s12 =>
   refine qQG (cs:=#[.string ⟨M.P.enc.toArray⟩]) (t:=9) (c:=1) (by decide) rfl rfl rfl rfl (fun _=>rfl) fun e' L v a w hW hφ hv=>?_
   have e20:=hv 11 20 rfl (by kernel_rfl);rw[show v 11=_ from hφ 11 (by kernel_rfl)]at e20;simp at e20;go_simp
  case s13 =>
   refine qQL (f:=42) (bytes:=[(⟨M.P.enc.toArray⟩:ByteArray)].flatMap qZh) (before:=[(6,[M.n].flatMap qQw)]) (after:=[(20,[(M.cl.length:Int)].flatMap qQw)]) rfl rfl rfl rfl rfl (by kernel_rfl) rfl (fun _=>rfl) (fun _ _ _=>rfl) fun e' L v a w hgh hW hn hd hE hφ hv h0=>?_
   have e15:=hv 6 15 rfl (by kernel_rfl);rw[show v 6=_ from hφ 6 (by kernel_rfl)]at e15;simp at e15;rw[hgh _ rfl]at e15;have e21:=hv 12 21 rfl (by kernel_rfl);have hsl:SlE w base (v 12) _:=hφ 12 (by kernel_rfl);simp at e21;generalize v 12=sv at e21 hsl;rw[hgh _ rfl]at hE⊢;exact⟨#[.pointer (some ⟨e,0,none⟩),sv],by go_simp,es_any w base e _ hE sv [(⟨M.P.enc.toArray⟩:ByteArray)] (hsl) (by simp at hps⊢;omega) (by simp) (by have hcl:=qQP L [(6,[M.n].flatMap qQw)];have:=hpl;have:=hil;have:=hps;simp at hcl⊢;omega)⟩
  case s14 =>
   refine qQh (x:=.pointer (some ⟨m,0,none⟩)) rfl rfl (.inl rfl) rfl (fun _=>rfl) fun e' L v a w hW hφ hv h0=>?_
   have e0:=h0 0 (by kernel_rfl);simp at e0;go_simp
  case s15 =>
   refine qQh (x:=.pointer (some ⟨m,0,none⟩)) rfl rfl (.inl rfl) rfl (fun _=>rfl) fun e' L v a w hW hφ hv h0=>?_
   have e23:=hv 14 23 rfl (by kernel_rfl);rw[show v 14=_ from hφ 14 (by kernel_rfl)]at e23;simp at e23;go_simp
  case s16 =>
   refine qQh (x:=.pointer (some ⟨m,1,none⟩)) rfl rfl (.inl rfl) rfl (fun _=>rfl) fun e' L v a w hW hφ hv h0=>?_
   have e24:=hv 15 24 rfl (by kernel_rfl);rw[show v 15=_ from hφ 15 (by kernel_rfl)]at e24;simp at e24;go_simp
  case s17 =>
   refine qQh (x:=.map (some mc)) rfl rfl (.inl rfl) rfl (fun _=>rfl) fun e' L v a w hW hφ hv h0=>?_
   have e25:=hv 16 25 rfl (by kernel_rfl);rw[show v 16=_ from hφ 16 (by kernel_rfl)]at e25;simp at e25;have hcell:=hcm w hW 1;simp at hcell;go_simp
  case s18 =>
   refine qQh (x:=.int .i64 (M.cl.length:Int)) rfl rfl (.inl rfl) rfl (fun _=>rfl) fun e' L v a wi hW hφ hv h0=>?_
   have e26:=hv 17 26 rfl (by kernel_rfl);rw[show v 17=_ from hφ 17 (by kernel_rfl)]at e26;simp at e26;have hlen:=HLN.out wi ((hX0.trans hW).below hle);simp[execOp,resolve,invoke,builtin,Act.eval,e26,hlen,Result.andThen]
  case s19 =>
   refine qQG (cs:=#[.int .i64 (M.cl.length:Int)]) (t:=3) (c:=1) (by decide) rfl rfl rfl rfl (fun _=>rfl) fun e' L v a w hW hφ hv=>?_
   have e27:=hv 18 27 rfl (by kernel_rfl);rw[show v 18=_ from hφ 18 (by kernel_rfl)]at e27;simp at e27;go_simp
  case s20 =>
   refine qQL (f:=41) (bytes:=[(M.cl.length:Int)].flatMap qQw) (before:=[(6,[M.n].flatMap qQw),(13,[(⟨M.P.enc.toArray⟩:ByteArray)].flatMap qZh)]) (after:=[]) rfl rfl rfl rfl rfl (by kernel_rfl) rfl (fun _=>rfl) (fun _ _ _=>rfl) fun e' L v a w hgh hW hn hd hE hφ hv h0=>?_
   have e22:=hv 13 22 rfl (by kernel_rfl);rw[show v 13=_ from hφ 13 (by kernel_rfl)]at e22;simp at e22;rw[hgh _ rfl]at e22;have e28:=hv 19 28 rfl (by kernel_rfl);have hsl:SlE w base (v 19) _:=hφ 19 (by kernel_rfl);simp at e28;generalize v 19=sv at e28 hsl;rw[hgh _ rfl]at hE⊢;exact⟨#[.pointer (some ⟨e,0,none⟩),sv],by go_simp,qZT w base e _ hE sv [(M.cl.length:Int)] (hsl) (by simp;omega) (by simp) (by have hcl:=qQP L [(6,[M.n].flatMap qQw),(13,[(⟨M.P.enc.toArray⟩:ByteArray)].flatMap qZh)];have:=hpl;have:=hil;have:=hps;simp at hcl⊢;omega)⟩
 case fins =>
  intro e' L v w1 hall hG hφ;obtain⟨hee,hW1,hE1⟩:=hG;have hee':=hee _ rfl;replace hE1:=hE1 rfl;rw[hee',qZQ (fun c b hm=>hall c (by simp at hm;rcases hm with h|h|h <;> rw[h.1] <;> decide))]at hE1;clear hee hee'
  change Exit.then _ _ _ (qQC _ v _ 21) w1
  simp only[qQC,qQD,Act.put];simp only[List.getElem?_toArray,List.getElem?_cons_zero,List.getElem?_cons_succ,Option.bind_some,List.setIfInBounds_toArray,List.set_cons_zero,List.set_cons_succ]
  have hT:qZA w w1 base e M.head:=⟨hX0.trans hW1,by
   have:M.head=[]++([(6,[M.n].flatMap qQw),(13,[(⟨M.P.enc.toArray⟩:ByteArray)].flatMap qZh),(20,[(M.cl.length:Int)].flatMap qQw)]).flatMap (·.2):=by simp[Mach.head]
   rw[this];exact hE1⟩
  have HNM:=Hh hnum;clear hW1 hE1 hE0 hcm hX0 hM0 hnum hps hpl hil HCW HLN hφ hall;have hM1:=HM.out.ext (hT.1.below hle);obtain⟨_,c1,_,_⟩:=hM1.cells;have HK:=Hh (callsIn_wide.1 (ikeysU_in Fence.wide 1 trivial rfl (some mc) w1));have hX:=At.new w1 69 #[.map (some mc)];have hE:=(Er w1).alloc (.cells #[.map (some mc)] 69)
  have HS:=Hh (isortedu_any w1.heap.size mc rows (M.scl.map (·.1)) (w1.alloc (.cells #[.map (some mc)] 69)) (hX.cell 0) (hM1.map.ext hE) (Mach.scl_asc HI.out.nd) (by
   have h1:rows.map (·.1)=M.cl.map (·.1):=by rw[←hM1.cl,List.map_map];rfl
   rw[h1];exact M.scl_perm.map _) (by rw[List.length_map];omega))
  rw[List.length_map]at HS;clear hX hM1;go_wp2_with fail
  refine HK.out.mono ?_;rintro r w2 ⟨rfl,rfl⟩;go_wp2_with fail
  refine HS.out.mono ?_;rintro r w3 ⟨iv,rfl,hO,hE3⟩;obtain⟨iA,ic,rfl⟩:=qQc hO;replace hO:=qQR hO;have hT3:qZA w w3 base e M.head:=⟨hT.1.trans (qQu.ext (hE.trans hE3)),hT.2.ext (hE.trans hE3)⟩;clear HK HS hE hE3 hT c1;go_wp2_with fail
  go_loopw [37] (fun kv wr=>∃i:Nat,kv=.int .i64 (i:Int)∧i≤M.scl.length∧qZA w wr base e (M.head++(M.scl.take i).flatMap qQX)∧wr.ownsRow 0 3 1 (.slice iA M.scl.length ic) M.scl.length ((M.scl.map (·.1)).map (Value.int .i64))) (fun kv _=>M.scl.length - (intOf kv).toNat)
  case atStart=>exact⟨0,rfl,Nat.zero_le _,by simpa using hT3,hO⟩
  case round =>
   clear hT3 hO;obtain⟨i,rfl,hi,hT,hO⟩:=hrel;have hMk:=HM.out.ext (hT.1.below hle)
   by_cases hlt:i<M.scl.length
   ·obtain⟨⟨k,l⟩,hp⟩:∃p,M.scl[i]? = some p:=⟨_,List.getElem?_eq_getElem hlt⟩;obtain⟨hg,hmem⟩:=scl_get HI.out hp;obtain⟨hk1,hk2,hrk⟩:=HI.out.cl _ hmem;simp only at hg hk1 hk2 hrk;have hr:=rows_get hMk.cl k;rw[hg,Option.map_eq_some_iff]at hr;obtain⟨⟨l',nv⟩,hlk,hl'⟩:=hr;simp only at hl';subst hl';have hno:=hMk.nms _ (qXW hlk);simp only at hno;obtain⟨nA,nc,rfl⟩:=qQc hno;have hlook:=hMk.look0 k;rw[hlk]at hlook;simp only[Option.elim,qXo]at hlook;obtain⟨_,c1,_,_⟩:=hMk.cells
    have hic:∃ib,iA=some ⟨ib,0,none⟩:=by
     rcases hO.2 with⟨e,h0⟩|⟨g,cap,cur,e,_⟩
     ·omega
     ·injection e with e1 _ _;exact⟨g,e1⟩
    obtain⟨ib,rfl⟩:=hic;have i1:=hO.cellAt i (by simpa using hlt);rw[List.getElem?_map,List.getElem?_map,hp]at i1;simp only[Option.map_some]at i1;have HRK:=Hh hrk;have HRG:=Hh (And.intro hk1 hk2);have HL8:Hid ((qQw k).length≤10∧(qQw l'.seq).length≤10∧(qQw l'.r.err).length≤10∧(qQ1 l'.r.blob).length≤10∧(qQw l'.r.size).length≤10∧(qQ1 l'.r.sum).length≤10∧(qQw (l'.r.names.length:Int)).length≤10):=Hh ⟨qQe _,qQe _,qQe _,qQF _,qQe _,qQF _,qQe _⟩;have HST:Hid (M.head++(M.scl.take (i+1)).flatMap qQX=(M.head++(M.scl.take i).flatMap qQX)++qQX (k,l')):=Hh (enc_step hp qQX _);have hpl2:=menc_pre HI.out i;generalize M.head++(M.scl.take i).flatMap qQX=pre at hT HST hpl2;clear hp hg hmem hk1 hk2 hrk hlk hMk;have hL:=At.new wr 76 #[.int .i64 l'.seq,.int .i64 l'.r.err,.int .u64 (l'.r.blob:Int),.int .i64 l'.r.size,.int .u32 (l'.r.sum:Int),.slice nA l'.r.names.length nc];have hEl:=(Er wr).alloc (.cells #[.int .i64 l'.seq,.int .i64 l'.r.err,.int .u64 (l'.r.blob:Int),.int .i64 l'.r.size,.int .u32 (l'.r.sum:Int),.slice nA l'.r.names.length nc] 76)
    go_upto_region 7 with fail
    clear i1 c1 hlook;generalize wr.heap.size=lb at hL⊢;generalize wr.alloc (.cells _ 76)=W2 at hL hEl⊢
    have hlr:W2.rangeAt lb 1 (#[.int .i64 l'.r.err,.int .u64 (l'.r.blob:Int),.int .i64 l'.r.size,.int .u32 (l'.r.sum:Int),.slice nA l'.r.names.length nc]:Array Value).toList:=fun j u hu=>by
     have hj:=(List.getElem?_eq_some_iff.1 hu).1
     have:=hL.cell (1+j)
     rw[this];rw[←hu]
     match j,hj with
     | 0,_=>rfl
     | 1,_=>rfl
     | 2,_=>rfl
     | 3,_=>rfl
     | 4,_=>rfl
    have HLR:=Hh hlr;have hR:=At.new W2 36 #[.int .i64 l'.r.err,.int .u64 (l'.r.blob:Int),.int .i64 l'.r.size,.int .u32 (l'.r.sum:Int),.slice nA l'.r.names.length nc];have hEr:=(Er W2).alloc (.cells #[.int .i64 l'.r.err,.int .u64 (l'.r.blob:Int),.int .i64 l'.r.size,.int .u32 (l'.r.sum:Int),.slice nA l'.r.names.length nc] 36);clear hlr
    go_upto_region 8 with(refine wpList_load_mid rfl 36 _ rfl lb 1 rfl _ _ HLR.out underlying36 rfl qQs ?_)
    clear HLR;generalize W2.heap.size=rb at hR⊢;generalize W2.alloc (.cells _ 36)=W3 at hR hEr⊢;have hX3:qQu wr W3 base:=qQu.ext (hEl.trans hEr);have hL3:=hL.ext hEr;have hn3:=own_kx hno (hEl.trans hEr);have hO3:=own_kx hO (hEl.trans hEr);have hE0:qZH W3.drew base e pre:=(hT.2.ext (hEl.trans hEr)).drew;have hT1:=hT.1;clear hL hEl hEr hno hO hT;have hcl:=qXm (base:=base) hL3 (by decide);have hcr:=qXm (base:=base) hR (by decide);have hSn:∀w',qQu W3.drew w' base→SlE w' base (.slice nA l'.r.names.length nc) (l'.r.names.map Value.string):=fun w' hc=>((own_sle hn3 (by decide)).ext (Er W3).drew).chg hc
    go_wp2_with fail
    refine qQq (Γ := Nat) (spφ [.val (.pointer (some ⟨e,0,none⟩)),.val (.int .i64 k),.val (.pointer (some ⟨lb,0,none⟩)),.val (.int .i64 l'.seq),.val (.pointer (some ⟨rb,0,none⟩)),.val (.int .i64 l'.r.err),.sl [.int .i64 k,.int .i64 l'.seq,.int .i64 l'.r.err],.ptr,.val (.pointer (some ⟨rb,1,none⟩)),.val (.int .u64 (l'.r.blob:Int)),.sl [.int .u64 (l'.r.blob:Int)],.ptr,.val (.pointer (some ⟨rb,2,none⟩)),.val (.int .i64 l'.r.size),.sl [.int .i64 l'.r.size],.ptr,.val (.pointer (some ⟨rb,3,none⟩)),.val (.int .u32 (l'.r.sum:Int)),.val (.int .u64 (l'.r.sum:Int)),.sl [.int .u64 (l'.r.sum:Int)],.ptr,.val (.pointer (some ⟨rb,4,none⟩)),.val (.slice nA l'.r.names.length nc),.val (.int .i64 (l'.r.names.length:Int)),.sl [.int .i64 (l'.r.names.length:Int)],.ptr,.val (.pointer (some ⟨rb,4,none⟩)),.val (.slice nA l'.r.names.length nc),.ptr] base)
     (spG (some e) [(7,[k,l'.seq,l'.r.err].flatMap qQw),(11,[l'.r.blob].flatMap qQ1),(15,[l'.r.size].flatMap qQw),(20,[l'.r.sum].flatMap qQ1),(25,[(l'.r.names.length:Int)].flatMap qQw),(28,l'.r.names.flatMap qZh)] pre (fun _=>true) W3.drew base) (by kernel_rfl) (by kernel_rfl) (by kernel_rfl) e ⟨fun _ h=>(by injection h),qQu.refl _ _,fun _=>(by simpa[qQO]using hE0)⟩ ?stepsq ?finq
    case stepsq =>
     show qQV _ _ _ _ _ _ 29
     refine⟨⟨⟨⟨⟨⟨⟨⟨⟨⟨⟨⟨⟨⟨⟨⟨⟨⟨⟨⟨⟨⟨⟨⟨⟨⟨⟨⟨⟨trivial,?q0⟩,?q1⟩,?q2⟩,?q3⟩,?q4⟩,?q5⟩,?q6⟩,?q7⟩,?q8⟩,?q9⟩,?q10⟩,?q11⟩,?q12⟩,?q13⟩,?q14⟩,?q15⟩,?q16⟩,?q17⟩,?q18⟩,?q19⟩,?q20⟩,?q21⟩,?q22⟩,?q23⟩,?q24⟩,?q25⟩,?q26⟩,?q27⟩,?q28⟩
     case q0 =>
      refine qQh (x:=.pointer (some ⟨e,0,none⟩)) rfl rfl (.inl rfl) rfl (fun _=>rfl) fun e' L v a w hW hφ hv h0=>?_
      have e3:=h0 3 (by kernel_rfl);simp at e3;go_simp
     case q1 =>
      refine qQh (x:=.int .i64 k) rfl rfl (.inl rfl) rfl (fun _=>rfl) fun e' L v a w hW hφ hv h0=>?_
      have e5:=h0 5 (by kernel_rfl);simp at e5;go_simp
     case q2 =>
      refine qQh (x:=.pointer (some ⟨lb,0,none⟩)) rfl rfl (.inl rfl) rfl (fun _=>rfl) fun e' L v a w hW hφ hv h0=>?_
      have e6:=h0 6 (by kernel_rfl);simp at e6;go_simp
     case q3 =>
      refine qQh (x:=.int .i64 l'.seq) rfl rfl (.inl rfl) rfl (fun _=>rfl) fun e' L v a w hW hφ hv h0=>?_
      have e51:=hv 2 51 rfl (by kernel_rfl);rw[show v 2=_ from hφ 2 (by kernel_rfl)]at e51;simp at e51;have hcell:=hcl w hW 0;simp at hcell;go_simp
     case q4 =>
      refine qQh (x:=.pointer (some ⟨rb,0,none⟩)) rfl rfl (.inl rfl) rfl (fun _=>rfl) fun e' L v a w hW hφ hv h0=>?_
      have e7:=h0 7 (by kernel_rfl);simp at e7;go_simp
     case q5 =>
      refine qQh (x:=.int .i64 l'.r.err) rfl rfl (.inl rfl) rfl (fun _=>rfl) fun e' L v a w hW hφ hv h0=>?_
      have e53:=hv 4 53 rfl (by kernel_rfl);rw[show v 4=_ from hφ 4 (by kernel_rfl)]at e53;simp at e53;have hcell:=hcr w hW 0;simp at hcell;go_simp
     case q6 =>
      refine qQG (cs:=#[.int .i64 k,.int .i64 l'.seq,.int .i64 l'.r.err]) (t:=3) (c:=3) (by decide) rfl rfl rfl rfl (fun _=>rfl) fun e' L v a w hW hφ hv=>?_
      have e50:=hv 1 50 rfl (by kernel_rfl);rw[show v 1=_ from hφ 1 (by kernel_rfl)]at e50;simp at e50;have e52:=hv 3 52 rfl (by kernel_rfl);rw[show v 3=_ from hφ 3 (by kernel_rfl)]at e52;simp at e52;have e54:=hv 5 54 rfl (by kernel_rfl);rw[show v 5=_ from hφ 5 (by kernel_rfl)]at e54;simp at e54;go_simp
     case q7 =>
      refine qQL (f:=41) (bytes:=[k,l'.seq,l'.r.err].flatMap qQw) (before:=[]) (after:=[(11,[l'.r.blob].flatMap qQ1),(15,[l'.r.size].flatMap qQw),(20,[l'.r.sum].flatMap qQ1),(25,[(l'.r.names.length:Int)].flatMap qQw),(28,l'.r.names.flatMap qZh)]) rfl rfl rfl rfl rfl (by kernel_rfl) rfl (fun _=>rfl) (fun _ _ _=>rfl) fun e' L v a w hgh hW hn hd hE hφ hv h0=>?_
      have e49:=hv 0 49 rfl (by kernel_rfl);rw[show v 0=_ from hφ 0 (by kernel_rfl)]at e49;simp at e49;have e55:=hv 6 55 rfl (by kernel_rfl);have hsl:SlE w base (v 6) _:=hφ 6 (by kernel_rfl);simp at e55;generalize v 6=sv at e55 hsl;rw[hgh _ rfl]at hE⊢;exact⟨#[.pointer (some ⟨e,0,none⟩),sv],by go_simp,qZT w base e _ hE sv [k,l'.seq,l'.r.err] (hsl) (by simp;have:=HRG.out;have:=HRK.out.err;omega) (by simp) (by have:=HL8.out.1;have:=HL8.out.2.1;have:=HL8.out.2.2.1;have:=HL8.out.2.2.2.1;have:=HL8.out.2.2.2.2.1;have:=HL8.out.2.2.2.2.2.1;have:=HL8.out.2.2.2.2.2.2;have:=hpl2;have:=HRK.out.len;simp[qQO] <;> omega)⟩
     case q8 =>
      refine qQh (x:=.pointer (some ⟨rb,1,none⟩)) rfl rfl (.inl rfl) rfl (fun _=>rfl) fun e' L v a w hW hφ hv h0=>?_
      have e7:=h0 7 (by kernel_rfl);simp at e7;go_simp
     case q9 =>
      refine qQh (x:=.int .u64 (l'.r.blob:Int)) rfl rfl (.inl rfl) rfl (fun _=>rfl) fun e' L v a w hW hφ hv h0=>?_
      have e57:=hv 8 57 rfl (by kernel_rfl);rw[show v 8=_ from hφ 8 (by kernel_rfl)]at e57;simp at e57;have hcell:=hcr w hW 1;simp at hcell;go_simp
     case q10 =>
      refine qQG (cs:=#[.int .u64 (l'.r.blob:Int)]) (t:=29) (c:=1) (by decide) rfl rfl rfl rfl (fun _=>rfl) fun e' L v a w hW hφ hv=>?_
      have e58:=hv 9 58 rfl (by kernel_rfl);rw[show v 9=_ from hφ 9 (by kernel_rfl)]at e58;simp at e58;go_simp
     case q11 =>
      refine qQL (f:=43) (bytes:=[l'.r.blob].flatMap qQ1) (before:=[(7,[k,l'.seq,l'.r.err].flatMap qQw)]) (after:=[(15,[l'.r.size].flatMap qQw),(20,[l'.r.sum].flatMap qQ1),(25,[(l'.r.names.length:Int)].flatMap qQw),(28,l'.r.names.flatMap qZh)]) rfl rfl rfl rfl rfl (by kernel_rfl) rfl (fun _=>rfl) (fun _ _ _=>rfl) fun e' L v a w hgh hW hn hd hE hφ hv h0=>?_
      have e56:=hv 7 56 rfl (by kernel_rfl);rw[show v 7=_ from hφ 7 (by kernel_rfl)]at e56;simp at e56;rw[hgh _ rfl]at e56;have e59:=hv 10 59 rfl (by kernel_rfl);have hsl:SlE w base (v 10) _:=hφ 10 (by kernel_rfl);simp at e59;generalize v 10=sv at e59 hsl;rw[hgh _ rfl]at hE⊢;exact⟨#[.pointer (some ⟨e,0,none⟩),sv],by go_simp,eu_any w base e _ hE sv [l'.r.blob] (hsl) (by simp;exact HRK.out.blob) (by simp) (by have hcl:=qQP L [(7,[k,l'.seq,l'.r.err].flatMap qQw)];have:=HL8.out.1;have:=HL8.out.2.1;have:=HL8.out.2.2.1;have:=HL8.out.2.2.2.1;have:=HL8.out.2.2.2.2.1;have:=HL8.out.2.2.2.2.2.1;have:=HL8.out.2.2.2.2.2.2;have:=hpl2;have:=HRK.out.len;simp at hcl⊢;omega)⟩
     case q12 =>
      refine qQh (x:=.pointer (some ⟨rb,2,none⟩)) rfl rfl (.inl rfl) rfl (fun _=>rfl) fun e' L v a w hW hφ hv h0=>?_
      have e7:=h0 7 (by kernel_rfl);simp at e7;go_simp
     case q13 =>
      refine qQh (x:=.int .i64 l'.r.size) rfl rfl (.inl rfl) rfl (fun _=>rfl) fun e' L v a w hW hφ hv h0=>?_
      have e61:=hv 12 61 rfl (by kernel_rfl);rw[show v 12=_ from hφ 12 (by kernel_rfl)]at e61;simp at e61;have hcell:=hcr w hW 2;simp at hcell;go_simp
     case q14 =>
      refine qQG (cs:=#[.int .i64 l'.r.size]) (t:=3) (c:=1) (by decide) rfl rfl rfl rfl (fun _=>rfl) fun e' L v a w hW hφ hv=>?_
      have e62:=hv 13 62 rfl (by kernel_rfl);rw[show v 13=_ from hφ 13 (by kernel_rfl)]at e62;simp at e62;go_simp
     case q15 =>
      refine qQL (f:=41) (bytes:=[l'.r.size].flatMap qQw) (before:=[(7,[k,l'.seq,l'.r.err].flatMap qQw),(11,[l'.r.blob].flatMap qQ1)]) (after:=[(20,[l'.r.sum].flatMap qQ1),(25,[(l'.r.names.length:Int)].flatMap qQw),(28,l'.r.names.flatMap qZh)]) rfl rfl rfl rfl rfl (by kernel_rfl) rfl (fun _=>rfl) (fun _ _ _=>rfl) fun e' L v a w hgh hW hn hd hE hφ hv h0=>?_
      have e60:=hv 11 60 rfl (by kernel_rfl);rw[show v 11=_ from hφ 11 (by kernel_rfl)]at e60;simp at e60;rw[hgh _ rfl]at e60;have e63:=hv 14 63 rfl (by kernel_rfl);have hsl:SlE w base (v 14) _:=hφ 14 (by kernel_rfl);simp at e63;generalize v 14=sv at e63 hsl;rw[hgh _ rfl]at hE⊢;exact⟨#[.pointer (some ⟨e,0,none⟩),sv],by go_simp,qZT w base e _ hE sv [l'.r.size] (hsl) (by simp;have:=HRK.out.size;omega) (by simp) (by have hcl:=qQP L [(7,[k,l'.seq,l'.r.err].flatMap qQw),(11,[l'.r.blob].flatMap qQ1)];have:=HL8.out.1;have:=HL8.out.2.1;have:=HL8.out.2.2.1;have:=HL8.out.2.2.2.1;have:=HL8.out.2.2.2.2.1;have:=HL8.out.2.2.2.2.2.1;have:=HL8.out.2.2.2.2.2.2;have:=hpl2;have:=HRK.out.len;simp at hcl⊢;omega)⟩
     case q16 =>
      refine qQh (x:=.pointer (some ⟨rb,3,none⟩)) rfl rfl (.inl rfl) rfl (fun _=>rfl) fun e' L v a w hW hφ hv h0=>?_
      have e7:=h0 7 (by kernel_rfl);simp at e7;go_simp
     case q17 =>
      refine qQh (x:=.int .u32 (l'.r.sum:Int)) rfl rfl (.inl rfl) rfl (fun _=>rfl) fun e' L v a w hW hφ hv h0=>?_
      have e65:=hv 16 65 rfl (by kernel_rfl);rw[show v 16=_ from hφ 16 (by kernel_rfl)]at e65;simp at e65;have hcell:=hcr w hW 3;simp at hcell;go_simp
     case q18 =>
      refine qQh (x:=.int .u64 (l'.r.sum:Int)) rfl rfl (.inl rfl) rfl (fun _=>rfl) fun e' L v a w hW hφ hv h0=>?_
      have e66:=hv 17 66 rfl (by kernel_rfl);rw[show v 17=_ from hφ 17 (by kernel_rfl)]at e66;simp at e66;have hw:=u64_inE (x:=l'.r.sum) (by have:=HRK.out.sum;omega);go_simp
     case q19 =>
      refine qQG (cs:=#[.int .u64 (l'.r.sum:Int)]) (t:=29) (c:=1) (by decide) rfl rfl rfl rfl (fun _=>rfl) fun e' L v a w hW hφ hv=>?_
      have e67:=hv 18 67 rfl (by kernel_rfl);rw[show v 18=_ from hφ 18 (by kernel_rfl)]at e67;simp at e67;go_simp
     case q20 =>
      refine qQL (f:=43) (bytes:=[l'.r.sum].flatMap qQ1) (before:=[(7,[k,l'.seq,l'.r.err].flatMap qQw),(11,[l'.r.blob].flatMap qQ1),(15,[l'.r.size].flatMap qQw)]) (after:=[(25,[(l'.r.names.length:Int)].flatMap qQw),(28,l'.r.names.flatMap qZh)]) rfl rfl rfl rfl rfl (by kernel_rfl) rfl (fun _=>rfl) (fun _ _ _=>rfl) fun e' L v a w hgh hW hn hd hE hφ hv h0=>?_
      have e64:=hv 15 64 rfl (by kernel_rfl);rw[show v 15=_ from hφ 15 (by kernel_rfl)]at e64;simp at e64;rw[hgh _ rfl]at e64;have e68:=hv 19 68 rfl (by kernel_rfl);have hsl:SlE w base (v 19) _:=hφ 19 (by kernel_rfl);simp at e68;generalize v 19=sv at e68 hsl;rw[hgh _ rfl]at hE⊢;exact⟨#[.pointer (some ⟨e,0,none⟩),sv],by go_simp,eu_any w base e _ hE sv [l'.r.sum] (hsl) (by simp;have:=HRK.out.sum;omega) (by simp) (by have hcl:=qQP L [(7,[k,l'.seq,l'.r.err].flatMap qQw),(11,[l'.r.blob].flatMap qQ1),(15,[l'.r.size].flatMap qQw)];have:=HL8.out.1;have:=HL8.out.2.1;have:=HL8.out.2.2.1;have:=HL8.out.2.2.2.1;have:=HL8.out.2.2.2.2.1;have:=HL8.out.2.2.2.2.2.1;have:=HL8.out.2.2.2.2.2.2;have:=hpl2;have:=HRK.out.len;simp at hcl⊢;omega)⟩
     case q21 =>
      refine qQh (x:=.pointer (some ⟨rb,4,none⟩)) rfl rfl (.inl rfl) rfl (fun _=>rfl) fun e' L v a w hW hφ hv h0=>?_
      have e7:=h0 7 (by kernel_rfl);simp at e7;go_simp
     case q22 =>
      refine qQh (x:=.slice nA l'.r.names.length nc) rfl rfl (.inl rfl) rfl (fun _=>rfl) fun e' L v a w hW hφ hv h0=>?_
      have e70:=hv 21 70 rfl (by kernel_rfl);rw[show v 21=_ from hφ 21 (by kernel_rfl)]at e70;simp at e70;have hcell:=hcr w hW 4;simp at hcell;go_simp
     case q23 =>
      refine qQh (x:=.int .i64 (l'.r.names.length:Int)) rfl rfl (.inl rfl) rfl (fun _=>rfl) fun e' L v a wi hW hφ hv h0=>?_
      have e71:=hv 22 71 rfl (by kernel_rfl);rw[show v 22=_ from hφ 22 (by kernel_rfl)]at e71;simp at e71;go_simp
     case q24 =>
      refine qQG (cs:=#[.int .i64 (l'.r.names.length:Int)]) (t:=3) (c:=1) (by decide) rfl rfl rfl rfl (fun _=>rfl) fun e' L v a w hW hφ hv=>?_
      have e72:=hv 23 72 rfl (by kernel_rfl);rw[show v 23=_ from hφ 23 (by kernel_rfl)]at e72;simp at e72;go_simp
     case q25 =>
      refine qQL (f:=41) (bytes:=[(l'.r.names.length:Int)].flatMap qQw) (before:=[(7,[k,l'.seq,l'.r.err].flatMap qQw),(11,[l'.r.blob].flatMap qQ1),(15,[l'.r.size].flatMap qQw),(20,[l'.r.sum].flatMap qQ1)]) (after:=[(28,l'.r.names.flatMap qZh)]) rfl rfl rfl rfl rfl (by kernel_rfl) rfl (fun _=>rfl) (fun _ _ _=>rfl) fun e' L v a w hgh hW hn hd hE hφ hv h0=>?_
      have e69:=hv 20 69 rfl (by kernel_rfl);rw[show v 20=_ from hφ 20 (by kernel_rfl)]at e69;simp at e69;rw[hgh _ rfl]at e69;have e73:=hv 24 73 rfl (by kernel_rfl);have hsl:SlE w base (v 24) _:=hφ 24 (by kernel_rfl);simp at e73;generalize v 24=sv at e73 hsl;rw[hgh _ rfl]at hE⊢;exact⟨#[.pointer (some ⟨e,0,none⟩),sv],by go_simp,qZT w base e _ hE sv [(l'.r.names.length:Int)] (hsl) (by simp;have:=HRK.out.len;omega) (by simp) (by have hcl:=qQP L [(7,[k,l'.seq,l'.r.err].flatMap qQw),(11,[l'.r.blob].flatMap qQ1),(15,[l'.r.size].flatMap qQw),(20,[l'.r.sum].flatMap qQ1)];have:=HL8.out.1;have:=HL8.out.2.1;have:=HL8.out.2.2.1;have:=HL8.out.2.2.2.1;have:=HL8.out.2.2.2.2.1;have:=HL8.out.2.2.2.2.2.1;have:=HL8.out.2.2.2.2.2.2;have:=hpl2;have:=HRK.out.len;simp at hcl⊢;omega)⟩
     case q26 =>
      refine qQh (x:=.pointer (some ⟨rb,4,none⟩)) rfl rfl (.inl rfl) rfl (fun _=>rfl) fun e' L v a w hW hφ hv h0=>?_
      have e7:=h0 7 (by kernel_rfl);simp at e7;go_simp
     case q27 =>
      refine qQh (x:=.slice nA l'.r.names.length nc) rfl rfl (.inl rfl) rfl (fun _=>rfl) fun e' L v a w hW hφ hv h0=>?_
      have e75:=hv 26 75 rfl (by kernel_rfl);rw[show v 26=_ from hφ 26 (by kernel_rfl)]at e75;simp at e75;have hcell:=hcr w hW 4;simp at hcell;go_simp
     case q28 =>
      refine qQL (f:=42) (bytes:=l'.r.names.flatMap qZh) (before:=[(7,[k,l'.seq,l'.r.err].flatMap qQw),(11,[l'.r.blob].flatMap qQ1),(15,[l'.r.size].flatMap qQw),(20,[l'.r.sum].flatMap qQ1),(25,[(l'.r.names.length:Int)].flatMap qQw)]) (after:=[]) rfl rfl rfl rfl rfl (by kernel_rfl) rfl (fun _=>rfl) (fun _ _ _=>rfl) fun e' L v a w hgh hW hn hd hE hφ hv h0=>?_
      have e74:=hv 25 74 rfl (by kernel_rfl);rw[show v 25=_ from hφ 25 (by kernel_rfl)]at e74;simp at e74;rw[hgh _ rfl]at e74;have e76:=hv 27 76 rfl (by kernel_rfl);rw[show v 27=_ from hφ 27 (by kernel_rfl)]at e76;simp at e76;rw[hgh _ rfl]at hE⊢;exact⟨#[.pointer (some ⟨e,0,none⟩),.slice nA l'.r.names.length nc],by go_simp,es_any w base e _ hE (.slice nA l'.r.names.length nc) l'.r.names (hSn w hW) (fun m hm=>by have:=HRK.out.nm m hm;omega) (by have:=HRK.out.len;omega) (by have hcl:=qQP L [(7,[k,l'.seq,l'.r.err].flatMap qQw),(11,[l'.r.blob].flatMap qQ1),(15,[l'.r.size].flatMap qQw),(20,[l'.r.sum].flatMap qQ1),(25,[(l'.r.names.length:Int)].flatMap qQw)];have:=HL8.out.1;have:=HL8.out.2.1;have:=HL8.out.2.2.1;have:=HL8.out.2.2.2.1;have:=HL8.out.2.2.2.2.1;have:=HL8.out.2.2.2.2.2.1;have:=HL8.out.2.2.2.2.2.2;have:=hpl2;have:=HRK.out.len;simp at hcl⊢;omega)⟩
    case finq =>
     intro e' L v wz hall hG hφ;obtain⟨hee,hW1,hE1⟩:=hG;have hee':=hee _ rfl;replace hE1:=hE1 rfl;rw[hee',qZQ (fun c b hm=>hall c (by simp at hm;rcases hm with h|h|h|h|h|h <;> rw[h.1] <;> decide))]at hE1;clear hee hee'
     change Exit.inBlock _ (Exit.then _ _) _ (qQC _ v _ 29) wz
     simp only[qQC,qQD,Act.put];simp only[List.getElem?_toArray,List.getElem?_cons_zero,List.getElem?_cons_succ,Option.bind_some,List.setIfInBounds_toArray,List.set_cons_zero,List.set_cons_succ]
     have hT8:qZA w wz base e (pre++qQX (k,l')):=⟨hT1.trans (hX3.drew.trans hW1),by
      have:pre++qQX (k,l')=pre++([(7,[k,l'.seq,l'.r.err].flatMap qQw),(11,[l'.r.blob].flatMap qQ1),(15,[l'.r.size].flatMap qQw),(20,[l'.r.sum].flatMap qQ1),(25,[(l'.r.names.length:Int)].flatMap qQw),(28,l'.r.names.flatMap qZh)]).flatMap (·.2):=by simp[qQX,lastA]
      rw[this];exact hE1⟩
     have hO8:=own_enc hO3 (by decide) ((qQu.refl W3 base).drew.trans hW1);clear hW1 hE1 hE0 hcl hcr hSn hX3 hL3 hR hn3 hO3 hT1 hφ hall hpl2;go_wp2_with fail
     go_roundw
     case rel=>exact⟨i+1,by go_num,by omega,by rw[HST.out];exact hT8,hO8⟩
     case measure=>simp[intOf];omega
   ·obtain rfl:i=M.scl.length:=by omega
    rw[List.take_length]at hT;have hF:qZA w wr base e M.enc:=hT;clear hT hO hMk;go_wp2_with fail
    refine(bytes_any wr base e M.enc hF.2).mono ?_
    rintro r w3 ⟨rfl,rfl⟩;go_wp2_with fail
    go_ret
    exact⟨rfl,hF.1.below hle⟩
theorem mwrite_any{w:World}{B:Nat→Prop}{m n:Nat}{M:Mach}(h:qZo w B m M)(hi:MInv n M)(hn:n<50) :
 Calls prog 21 #[.pointer (some ⟨m,0,none⟩)] w fun r w'=>r=.returned (.string ⟨M.enc.toArray⟩)∧Ext w w' :=
 mwrite_gen h (hi.w hn)
open Go.RowKit
def qJa:Nat→List ByteArray→Dc→List ByteArray×Dc
 | 0,L,d=>(L,d)
 | n+1,L,d=>if(d.s 32).2.err=0 then qJa n (L++[⟨(d.s 32).1.toArray⟩]) (d.s 32).2 else(L,(d.s 32).2)
structure Rr where
 er:Nat×Dc
 bl:Nat×Dc
 sz:Nat×Dc
 su:Nat×Dc
 n:Nat×Dc
 nm:List ByteArray×Dc
def rdR(d:Dc):Rr :=
 let er:=d.i 17
 let bl:=er.2.u
 let sz:=bl.2.i 4000
 let su:=sz.2.u
 let n:=(qJs su).i 100000
 ⟨er,bl,sz,su,n,qJa n.1 [] n.2⟩
def Rr.r(q:Rr):Rs:=⟨q.er.1,q.bl.1,q.sz.1,q.su.1 % 4294967296,q.nm.1⟩
structure Re where
 k:Nat×Dc
 s:Nat×Dc
 r:Rr
def rdE(d:Dc):Re :=
 let k:=d.i 1073741824
 let s:=k.2.i 1073741824
 ⟨k,s,rdR s.2⟩
def Re.e(q:Re):Int×Last:=(q.k.1,⟨q.s.1,q.r.r⟩)
def qXB(L:List (Int×Last)):Int:=match L.getLast? with
 | some p=>p.1
 | none=>0
def ckE(L:List (Int×Last))(e:Int×Last)(d:Dc):Dc:=if(decide (e.1≤qXB L)||decide (e.2.seq=0))=true then d.fail 3 else d
def rdEs:Nat→List (Int×Last)→Dc→List (Int×Last)×Dc
 | 0,L,d=>(L,d)
 | n+1,L,d=>if(ckE L (rdE d).e (rdE d).r.nm.2).err=0 then rdEs n (L++[(rdE d).e]) (ckE L (rdE d).e (rdE d).r.nm.2)else(L,ckE L (rdE d).e (rdE d).r.nm.2)
structure Rh where
 c:Nat×Dc
 t:List UInt8×Dc
 n:Nat×Dc
def rdH(d:Dc):Rh :=
 let c:=d.i 1099511627776
 let t:=c.2.s 9223372036854775807
 ⟨c,t,t.2.i 1048576⟩
def qZ3(s:List UInt8):Mach×Int :=
 if(rdH ⟨s,0⟩).n.2.err=0 then
  if(qXt (rdH ⟨s,0⟩).t.1).2=0 then
   if(rdEs (rdH ⟨s,0⟩).n.1 [] (rdH ⟨s,0⟩).n.2).2.done.err=0 then
    (⟨(qXt (rdH ⟨s,0⟩).t.1).1,(rdEs (rdH ⟨s,0⟩).n.1 [] (rdH ⟨s,0⟩).n.2).1.reverse,(rdH ⟨s,0⟩).c.1⟩,0)
   else(Mach.empty,(rdEs (rdH ⟨s,0⟩).n.1 [] (rdH ⟨s,0⟩).n.2).2.done.err)
  else(Mach.empty,(qXt (rdH ⟨s,0⟩).t.1).2)
 else(Mach.empty,(rdH ⟨s,0⟩).n.2.err)
theorem nms_step:∀(n:Nat) (L:List ByteArray) (d:Dc),(qJa n L d).2.err=0→∃M,(qJa n L d).1=L++M∧M.length=n∧d.err=0∧d.rest=M.flatMap qZh++(qJa n L d).2.rest∧∀m∈M,m.size≤32
 | 0,L,d,h=>⟨[],by simp[qJa],rfl,h,by simp[qJa],fun m hm=>by cases hm⟩
 | n+1,L,d,h=>by
  unfold qJa at h⊢
  split at h
  ·rename_i he
   rw[if_pos he];obtain⟨g0,g1,g2⟩:=s_step he;obtain⟨M,m1,m2,m3,m4,m5⟩:=nms_step n _ _ h;refine⟨⟨(d.s 32).1.toArray⟩::M,by rw[m1];simp,by simp[m2],g0,?_,fun m hm=>?_⟩
   ·rw[g1,List.flatMap_cons,List.append_assoc,←m4]
   ·rcases List.mem_cons.1 hm with rfl|hm
    ·show(d.s 32).1.toArray.size≤32
     rw[List.size_toArray];omega
    ·exact m5 m hm
  ·rename_i he
   exact absurd h he
theorem nms_enc(r:List UInt8):∀(M L:List ByteArray),(∀m∈M,m.size≤32)→qJa M.length L ⟨M.flatMap qZh++r,0⟩=(L++M,⟨r,0⟩)
 | [],L,_=>by simp[qJa]
 | m::M,L,h=>by
  have hm:=h m (List.mem_cons_self ..);rw[List.flatMap_cons,List.append_assoc,List.length_cons];unfold qJa;rw[s_enc (by omega) (by decide)];rw[if_pos rfl,nms_enc r M _ (fun m hm=>h m (List.mem_cons_of_mem _ hm))];simp
def rEnc(r:Rs):List UInt8:=qQw r.err++(qQ1 r.blob++(qQw r.size++(qQ1 r.sum++(qQw (r.names.length:Int)++r.names.flatMap qZh))))
theorem lastEnc_eq(p:Int×Last):qQX p=qQw p.1++(qQw p.2.seq++rEnc p.2.r):=by
 unfold qQX lastA rEnc;simp
theorem r_step{d:Dc}(h:(rdR d).nm.2.err=0):d.err=0∧d.rest=rEnc (rdR d).r++(rdR d).nm.2.rest∧RsOk 100000 (rdR d).r:=by
 unfold rdR at h⊢;simp only at h⊢;unfold Rr.r;simp only;obtain⟨M,m1,m2,m3,m4,m5⟩:=nms_step _ _ _ h;obtain⟨h5,e5,l5⟩:=qXJ m3
 have f5:∀q:Nat×Dc,(qJs q).err=0→q.1≤4294967295∧q.2.err=0∧qJs q=q.2:=fun q hq=>by
  unfold qJs at hq⊢
  have:=failIf hq
  exact⟨by simpa using this.1,this.2,failEq hq⟩
 obtain⟨r5,g5,q5⟩:=f5 _ h5;rw[q5]at m1 m2 m4 e5 l5⊢;obtain⟨h4,e4,_⟩:=u_step' g5;obtain⟨h3,e3,l3⟩:=qXJ h4;obtain⟨h2,e2,l2⟩:=u_step' h3;obtain⟨h1,e1,l1⟩:=qXJ h2;rw[m1,List.nil_append];refine⟨h1,?_,⟨⟨Int.natCast_nonneg _,l1⟩,l2,⟨Int.natCast_nonneg _,l3⟩,Nat.mod_lt _ (by decide),by show M.length≤_;omega,m5⟩⟩
 rw[e1,e2,e3,e4,e5,m4];unfold rEnc;simp only[List.append_assoc];rw[Nat.mod_eq_of_lt (by omega),m2]
theorem r_enc{n:Nat}{q:Rs}(h:RsOk n q)(hn:n≤100000)(r:List UInt8):(rdR ⟨rEnc q++r,0⟩).r=q∧(rdR ⟨rEnc q++r,0⟩).nm.2=⟨r,0⟩:=by
 have e0:rEnc q++r=qQw q.err++(qQ1 q.blob++(qQw q.size++(qQ1 q.sum++(qQw (q.names.length:Int)++(q.names.flatMap qZh++r))))):=by
  unfold rEnc;simp
 have e4:∀t,qJs (q.sum,(⟨t,0⟩:Dc))=⟨t,0⟩:=fun t=>by
  unfold qJs;rw[if_neg]
  have:=h.sum
  simp
  omega
 have key:rdR ⟨rEnc q++r,0⟩=⟨(q.err.toNat,⟨qQ1 q.blob++(qQw q.size++(qQ1 q.sum++(qQw (q.names.length:Int)++(q.names.flatMap qZh++r)))),0⟩),(q.blob,⟨qQw q.size++(qQ1 q.sum++(qQw (q.names.length:Int)++(q.names.flatMap qZh++r))),0⟩),
  (q.size.toNat,⟨qQ1 q.sum++(qQw (q.names.length:Int)++(q.names.flatMap qZh++r)),0⟩),(q.sum,⟨qQw (q.names.length:Int)++(q.names.flatMap qZh++r),0⟩),(q.names.length,⟨q.names.flatMap qZh++r,0⟩),(q.names,⟨r,0⟩)⟩:=by
  unfold rdR;rw[e0]
  try simp only
  rw[qZW h.err.1 h.err.2 (by decide)]
  try simp only
  rw[u_enc h.blob]
  try simp only
  rw[qZW h.size.1 h.size.2 (by decide)]
  try simp only
  rw[u_enc (by have:=h.sum;omega),e4]
  try simp only
  rw[qZW (by omega) (by have:=h.len;omega) (by decide)]
  try simp only
  rw[Int.toNat_natCast,nms_enc r _ _ h.nm];simp
 rw[key];refine⟨?_,rfl⟩
 unfold Rr.r;simp only;have h1:=h.err.1;have h2:=h.size.1;rw[show((q.err.toNat:Nat):Int)=q.err by omega,show((q.size.toNat:Nat):Int)=q.size by omega,Nat.mod_eq_of_lt h.sum]
structure EsW (L:List (Int×Last)):Prop where
 asc:L.Pairwise fun a b=>a.1<b.1
 ok:∀p∈L,(1≤p.1∧p.1≤1073741824)∧(1≤p.2.seq∧p.2.seq≤1073741824)∧RsOk 100000 p.2.r
theorem EsW.nil:EsW []:=⟨List.Pairwise.nil,fun p hp=>by cases hp⟩
theorem e_step{d:Dc}(h:(rdE d).r.nm.2.err=0):d.err=0∧d.rest=qQX (rdE d).e++(rdE d).r.nm.2.rest∧(0≤(rdE d).e.1∧(rdE d).e.1≤1073741824)∧(0≤(rdE d).e.2.seq∧(rdE d).e.2.seq≤1073741824)∧RsOk 100000 (rdE d).e.2.r:=by
 unfold rdE at h⊢;simp only at h⊢;unfold Re.e;simp only;obtain⟨h3,e3,k3⟩:=r_step h;obtain⟨h2,e2,l2⟩:=qXJ h3;obtain⟨h1,e1,l1⟩:=qXJ h2;refine⟨h1,?_,⟨Int.natCast_nonneg _,l1⟩,⟨Int.natCast_nonneg _,l2⟩,k3⟩
 rw[e1,e2,e3,lastEnc_eq];simp only[List.append_assoc]
theorem e_enc{p:Int×Last}(h:(1≤p.1∧p.1≤1073741824)∧(1≤p.2.seq∧p.2.seq≤1073741824)∧RsOk 100000 p.2.r)(r:List UInt8):(rdE ⟨qQX p++r,0⟩).e=p∧(rdE ⟨qQX p++r,0⟩).r.nm.2=⟨r,0⟩:=by
 obtain⟨h1,h2,h3⟩:=h;obtain⟨q1,q2⟩:=r_enc h3 (Nat.le_refl _) r
 have key:rdE ⟨qQX p++r,0⟩=⟨(p.1.toNat,⟨qQw p.2.seq++(rEnc p.2.r++r),0⟩),(p.2.seq.toNat,⟨rEnc p.2.r++r,0⟩),rdR ⟨rEnc p.2.r++r,0⟩⟩:=by
  unfold rdE;rw[lastEnc_eq,List.append_assoc,List.append_assoc]
  try simp only
  rw[qZW (by omega) h1.2 (by decide)]
  try simp only
  rw[qZW (by omega) h2.2 (by decide)]
 rw[key];refine⟨?_,q2⟩
 unfold Re.e;simp only;rw[q1,show((p.1.toNat:Nat):Int)=p.1 by omega,show((p.2.seq.toNat:Nat):Int)=p.2.seq by omega]
theorem lastK_lt{L:List (Int×Last)}{k:Int}(h:EsW L)(hk:qXB L<k):∀p∈L,p.1<k:=by
 intro p hp;unfold qXB at hk;cases hl:L.getLast? with
 | none=>rw[List.getLast?_eq_none_iff]at hl;subst hl;cases hp
 | some q =>
  rw[hl]at hk;simp only at hk;obtain⟨i,hi,rfl⟩:=List.mem_iff_getElem.1 hp;rw[List.getLast?_eq_getElem?]at hl;obtain⟨hj,hl⟩:=List.getElem?_eq_some_iff.1 hl
  by_cases e:i=L.length - 1
  ·subst e;rw[hl];exact hk
  ·have:=List.pairwise_iff_getElem.1 h.asc i (L.length - 1) hi hj (by omega)
   rw[hl]at this;omega
theorem lastK_nn{L:List (Int×Last)}(h:EsW L):0≤qXB L:=by
 unfold qXB;cases hl:L.getLast? with
 | none=>exact Int.le_refl _
 | some q=>have:=(h.ok q (List.mem_of_getLast? hl)).1;simp only;omega
theorem EsW.snoc{L:List (Int×Last)}(h:EsW L){e:Int×Last}(hk:qXB L<e.1)(ho:e.1≤1073741824∧(1≤e.2.seq∧e.2.seq≤1073741824)∧RsOk 100000 e.2.r):EsW (L++[e]):=by
 have:=lastK_nn h
 refine⟨List.pairwise_append.2 ⟨h.asc,List.pairwise_singleton _ _,fun p hp q hq=>?_⟩,fun p hp=>?_⟩
 ·rw[List.mem_singleton.1 hq];exact lastK_lt h hk p hp
 ·rcases List.mem_append.1 hp with hp|hp
  ·exact h.ok p hp
  ·rw[List.mem_singleton.1 hp];exact⟨⟨by omega,ho.1⟩,ho.2⟩
theorem EsW.left{L M:List (Int×Last)}(h:EsW (L++M)):EsW L:=⟨(List.pairwise_append.1 h.asc).1,fun p hp=>h.ok p (by simp[hp])⟩
theorem ckE_ok{L:List (Int×Last)}{e:Int×Last}{r:List UInt8}(h:EsW (L++[e])):ckE L e ⟨r,0⟩=⟨r,0⟩:=by
 have h1:qXB L<e.1:=by
  unfold qXB;cases hl:L.getLast? with
  | none=>have:=(h.ok e (by simp)).1;simp only;omega
  | some c=>exact(List.pairwise_append.1 h.asc).2.2 c (List.mem_of_getLast? hl) e (List.mem_singleton.2 rfl)
 have h2:=(h.ok e (by simp)).2.1;unfold ckE;rw[if_neg];simp;omega
theorem es_enc(r:List UInt8):∀(M L:List (Int×Last)),EsW (L++M)→rdEs M.length L ⟨M.flatMap qQX++r,0⟩=(L++M,⟨r,0⟩)
 | [],L,_=>by simp[rdEs]
 | b::M,L,h=>by
  have h':EsW ((L++[b])++M):=by simpa using h
  have hb:=h.ok b (by simp);obtain⟨e1,e2⟩:=e_enc hb (M.flatMap qQX++r);rw[List.flatMap_cons,List.append_assoc,List.length_cons];unfold rdEs;rw[e1,e2,ckE_ok h'.left,if_pos rfl,es_enc r M (L++[b]) h'];simp
theorem scl_asc{M:Mach}(h:(M.cl.map (·.1)).Nodup):M.scl.Pairwise fun a b=>a.1<b.1:=by
 have:=Mach.scl_asc h
 rwa[List.pairwise_map]at this
theorem MW.es{n:Nat}{M:Mach}(h:MW n M):EsW M.scl:=⟨scl_asc h.nd,fun p hp=>by
 have:=h.cl p (M.scl_perm.mem_iff.1 hp)
 exact⟨this.1,this.2.1,this.2.2.le (by decide)⟩⟩
theorem rdMach_enc{n:Nat}{M:Mach}(h:MW n M)(hn:n≤100000):qZ3 M.enc=(⟨M.P,M.scl.reverse,M.n⟩,0):=by
 have e0:M.enc=qQw M.n++(qZh ⟨M.P.enc.toArray⟩++(qQw (M.scl.length:Int)++(M.scl.flatMap qQX++[]))):=by
  unfold Mach.enc Mach.head;rw[M.scl_perm.length_eq];simp
 have hsz:(⟨M.P.enc.toArray⟩:ByteArray).size≤15200:=by
  have:=penc_len h.cat h.L
  show M.P.enc.toArray.size≤_
  simpa using this
 have hl:M.scl.length≤100:=by rw[M.scl_perm.length_eq];exact h.len
 have hH:rdH ⟨M.enc,0⟩=⟨(M.n.toNat,⟨qZh ⟨M.P.enc.toArray⟩++(qQw (M.scl.length:Int)++(M.scl.flatMap qQX++[])),0⟩),(M.P.enc,⟨qQw (M.scl.length:Int)++(M.scl.flatMap qQX++[]),0⟩),(M.scl.length,⟨M.scl.flatMap qQX++[],0⟩)⟩:=by
  unfold rdH;rw[e0]
  try simp only
  rw[qZW h.num.1 h.num.2 (by decide)]
  try simp only
  rw[s_enc (by omega) (by decide)]
  try simp only
  rw[qZW (by omega) (by omega) (by decide)];simp
 have hE:rdEs M.scl.length [] ⟨M.scl.flatMap qQX++[],0⟩=(M.scl,⟨[],0⟩):=by
  have:=es_enc [] M.scl [] (by simpa using h.es)
  simpa using this
 have hC:qXt M.P.enc=(M.P,0):=rdCat_enc h.cat hn;unfold qZ3;rw[hH];simp only;rw[hE,hC];simp only;have hnn:=h.num.1;rw[show((M.n.toNat:Nat):Int)=M.n by omega];rfl
end Go.Proofs.YtimjipcplmnpbaaGreat
