/-
  Part 36 of what the law leans on.
-/
import Derived.Test.YtkkbfdencgdbhaaGreatDoorSA20
import Derived.Test.YtkkbfdencgdbhaaGreatDoorSA26
import Derived.Deep.MidRow
set_option linter.unusedVariables false
set_option linter.unusedSimpArgs false
set_option linter.unusedSectionVars false
namespace Go.Proofs.YtkkbfdencgdbhaaGreatDoor
open Go.RowKit Go.Sort
section
variable{w w':World}{base:Nat}
theorem At.enc{g:Nat}{t:TypeId}{cs:Array Value}(h:At w g t cs)(ht:t≠63∧t≠5)(hc:EncChg w w' base):At w' g t cs:=by
 refine h.chg hc fun hs=>?_
 obtain⟨_,cs',t',m,h2,h3⟩:=hs
 unfold At at h
 rw[h]at h2
 injection h2 with h2
 injection h2 with _ h2 _
 subst h2
 rcases h3 with h3|h3
 ·exact ht.1 h3
 ·exact ht.2 h3
theorem own_enc{b0:Nat}{t:TypeId}{size:Nat}{v:Value}{n:Nat}{xs:List Value}(h:w.ownsRow b0 t size v n xs)(ht:t≠63∧t≠5)(hc:EncChg w w' base):w'.ownsRow b0 t size v n xs:=by
 refine own_keep h hc fun k hk hs=>?_
 rcases h.2 with⟨rfl,_⟩|⟨g,cap,cur,rfl,_,hg,_⟩
 ·cases hk
 ·have e:k=g:=by injection hk
  subst e
  obtain⟨_,cs',t',m,h2,h3⟩:=hs
  rw[hg]at h2
  injection h2 with h2
  injection h2 with _ h2 _
  subst h2
  rcases h3 with h3|h3
  ·exact ht.1 h3
  ·exact ht.2 h3
theorem own_sl{b0:Nat}{t:TypeId}{v:Value}{n:Nat}{xs:List Value}(h:w.ownsRow b0 t 1 v n xs):Sl w v xs:=by
 have hl:xs.length=n:=by have:=h.1;omega
 obtain⟨A,m,c,rfl⟩:=own_slice h
 rcases h.2 with⟨e,e2⟩|⟨g,cap,cur,e,_⟩
 ·injection e with e1 e3 e4
  subst e1 e3 e4
  have:xs=[]:=List.eq_nil_of_length_eq_zero (by omega)
  subst this
  exact⟨_,_,rfl,fun hne=>absurd rfl hne⟩
 ·injection e with e1 e3 e4
  subst e1 e3 e4
  exact⟨_,_,by rw[hl],fun _=>⟨g,0,rfl,fun i x hi=>by rw[Nat.zero_add];have:=h.cells (g:=g) rfl i x hi;rw[Go.WideShapes.add_plain,Nat.zero_add]at this;exact this⟩⟩
theorem own_sle{b0:Nat}{t:TypeId}{v:Value}{n:Nat}{xs:List Value}(h:w.ownsRow b0 t 1 v n xs)(ht:t≠63∧t≠5):SlE w base v xs:=by
 refine⟨own_sl h,fun b o n' c hv hne hs=>?_⟩
 rcases h.2 with⟨rfl,e⟩|⟨g,cap,cur,rfl,_,hg,_⟩
 ·exact hne (List.eq_nil_of_length_eq_zero (by have:=h.1;omega))
 ·injection hv with hv1
  injection hv1 with hv1
  injection hv1 with hb _
  subst hb
  obtain⟨_,cs',t',m,h2,h3⟩:=hs
  rw[hg]at h2
  injection h2 with h2
  injection h2 with _ h2 _
  subst h2
  rcases h3 with h3|h3
  ·exact ht.1 h3
  ·exact ht.2 h3
theorem cells_enc{g:Nat}{t:TypeId}{cs:Array Value}(h:At w g t cs)(ht:t≠63∧t≠5):∀w',EncChg w.drew w' base→∀i:Nat,w'.cell? ⟨g,i,none⟩=cs[i]? := fun _w' hc i=>(At.enc h.drew ht hc).cell i
end
def cpE(b:Bl):Nat→List UInt8
 | 0=>[]
 | 1=>cpEnc b.a
 | _=>cpEnc b.a++cpEnc b.b
abbrev cpArr(b:Bl):Value:=.agg #[.bool b.a.there,.int .i64 b.a.vol,.int .i64 b.a.at_,.bool b.b.there,.int .i64 b.b.vol,.int .i64 b.b.at_]
set_option maxRecDepth 100000 in
theorem cidx0(a0 a1 a2 a3 a4 a5:Value):∀w,(Instr.index 159 (.agg #[a0,a1,a2,a3,a4,a5]) (.int .i64 0)).run Tryz.prog w=.ok (.agg #[a0,a1,a2]) w:=fun _=>by first|kernel_rfl|rfl
set_option maxRecDepth 100000 in
theorem cidx1(a0 a1 a2 a3 a4 a5:Value):∀w,(Instr.index 159 (.agg #[a0,a1,a2,a3,a4,a5]) (.int .i64 1)).run Tryz.prog w=.ok (.agg #[a3,a4,a5]) w:=fun _=>by first|kernel_rfl|rfl
theorem cp_at{n:Nat}{b:Bl}(h:BlOk n b)(j:Nat)(hj:j<2):∃x:Cp,(∀w,(Instr.index 159 (cpArr b) (.int .i64 (j:Int))).run Tryz.prog w=.ok (.agg #[.bool x.there,.int .i64 x.vol,.int .i64 x.at_]) w) ∧
 cpE b (j+1)=cpE b j++cpEnc x∧0≤x.vol∧x.vol≤11∧0≤x.at_∧x.at_≤1073741824:=by
 have h2:j=0∨j=1:=by omega
 rcases h2 with rfl|rfl
 ·refine⟨b.a,cidx0 _ _ _ _ _ _,rfl,?_⟩
  rcases h.ca with e|⟨_,_,h1,h2,h3,h4⟩
  ·rw[e];decide
  ·exact⟨h1,h2,h3,h4⟩
 ·refine⟨b.b,cidx1 _ _ _ _ _ _,rfl,?_⟩
  rcases h.cb with e|⟨_,_,h1,h2,h3,h4⟩
  ·rw[e];decide
  ·exact⟨h1,h2,h3,h4⟩
theorem cpE_length(b:Bl)(j:Nat):(cpE b j).length≤42:=by
 have h1:=cpEnc_length b.a
 have h2:=cpEnc_length b.b
 unfold cpE
 split
 ·simp
 ·omega
 ·rw[List.length_append];omega
theorem twelve{α : Type}{V:List α}(h:V.length=12):∃a0 a1 a2 a3 a4 a5 a6 a7 a8 a9 a10 a11,V=[a0,a1,a2,a3,a4,a5,a6,a7,a8,a9,a10,a11]:=by
 match V,h with
 | [a0,a1,a2,a3,a4,a5,a6,a7,a8,a9,a10,a11],_=>exact⟨a0,a1,a2,a3,a4,a5,a6,a7,a8,a9,a10,a11,rfl⟩
abbrev vlArr(V:List Vl):Value:=.agg ((V.map vlRow).flatten).toArray
set_option maxRecDepth 100000 in
theorem vl_idx{V:List Vl}(h:V.length=12)(j:Nat)(hj:j<12):∃x:Vl,V[j]? = some x∧∀w,(Instr.index 135 (vlArr V) (.int .i64 (j:Int))).run Tryz.prog w=.ok (.agg #[.bool x.closed,.bool x.erase,.int .i64 x.gen]) w:=by
 obtain⟨a0,a1,a2,a3,a4,a5,a6,a7,a8,a9,a10,a11,rfl⟩:=twelve h
 have h2:j=0∨j=1∨j=2∨j=3∨j=4∨j=5∨j=6∨j=7∨j=8∨j=9∨j=10∨j=11:=by omega
 rcases h2 with rfl|rfl|rfl|rfl|rfl|rfl|rfl|rfl|rfl|rfl|rfl|rfl
 ·exact⟨a0,rfl,fun _=>by kernel_rfl⟩
 ·exact⟨a1,rfl,fun _=>by kernel_rfl⟩
 ·exact⟨a2,rfl,fun _=>by kernel_rfl⟩
 ·exact⟨a3,rfl,fun _=>by kernel_rfl⟩
 ·exact⟨a4,rfl,fun _=>by kernel_rfl⟩
 ·exact⟨a5,rfl,fun _=>by kernel_rfl⟩
 ·exact⟨a6,rfl,fun _=>by kernel_rfl⟩
 ·exact⟨a7,rfl,fun _=>by kernel_rfl⟩
 ·exact⟨a8,rfl,fun _=>by kernel_rfl⟩
 ·exact⟨a9,rfl,fun _=>by kernel_rfl⟩
 ·exact⟨a10,rfl,fun _=>by kernel_rfl⟩
 ·exact⟨a11,rfl,fun _=>by kernel_rfl⟩
theorem vl_range{w:World}{B:Nat→Prop}{c mb mn:Nat}{C:Ct}(h:CtAt w B c mb mn C):w.rangeAt c 2 ((C.vols.map vlRow).flatten):=fun j v hv=>by
 have:=h.blk.cell (2+j)
 rw[this,List.getElem?_toArray,show 2+j=j+1+1 by omega,List.getElem?_cons_succ,List.getElem?_cons_succ]
 exact hv
set_option maxRecDepth 100000 in
theorem vl_info{V:List Vl}(h:V.length=12):(Tryz.prog.info? 135).map (·.size)=some ((V.map vlRow).flatten).length:=by
 obtain⟨a0,a1,a2,a3,a4,a5,a6,a7,a8,a9,a10,a11,e⟩:=twelve h
 rw[e]
 kernel_rfl
end Go.Proofs.YtkkbfdencgdbhaaGreatDoor
namespace Go.Proofs.YtkkbfdencgdbhaaGreatDoor
open Go.RowKit Go.Sort
set_option maxRecDepth 100000 in
set_option maxHeartbeats 16000000 in
theorem cwrite_gen{w:World}{B:Nat→Prop}{c mb mn n:Nat}{P:Pm}(h:CatIn w B c mb mn P)(hi:PInv n P)(hpl:P.L.length<50)(hn:n≤2147483648) :
 Calls Tryz.prog 46 #[.pointer (some ⟨c,0,none⟩)] w fun r w'=>r=.returned (.string ⟨P.enc.toArray⟩)∧Ext w w':=by
 obtain⟨C,hC,hR⟩:=h
 obtain⟨base,hbase⟩:∃n,n=w.heap.size:=⟨_,rfl⟩
 have hle:w.heap.size≤base:=by omega
 have hil:C.idx.length=P.L.length:=by
  have:=(hR.ids hi).length_eq
  simpa using this.symm
 have hvl:=hi.vlen
 have HI:=Lib.hid (And.intro hi hn)
 clear hi hn
 go_enter Tryz.func46,Tryz.ntmps46
 go_upto_region 2 with fail
 have hE0:EncAt (w.alloc (.cells #[.slice none 0 0] 63)) base w.heap.size []:=⟨by omega,_,At.new w 63 #[.slice none 0 0],rfl,.inl ⟨rfl,rfl⟩⟩
 have hX0:EncChg w (w.alloc (.cells #[.slice none 0 0] 63)) base:=(EncChg.refl w base).alloc _
 have hC0:=hC.ext ((Ext.refl w).alloc (.cells #[.slice none 0 0] 63))
 generalize w.heap.size=e at hE0 hbase⊢
 generalize w.alloc (.cells #[.slice none 0 0] 63)=w0 at *
 obtain⟨c0,c1⟩:=hC0.c0
 have hlen:=hC0.bm.len (P:=Tryz.prog) map_blobs
 rw[hil]at hlen
 have HC:=Lib.hid hC
 have HR:=Lib.hid hR
 clear hC hR hC0 c1 hil
 go_wp2_with fail
 refine(ei_any _ base e [] (hE0.alloc _) _ [(P.L.length:Int)] (SlE.new (t:=3) (cs:=#[.int .i64 (P.L.length:Int)]) w0 base (by decide)) (by simp;omega) (by simp) (by simp)).mono ?_
 rintro r w1 ⟨rfl,hT1⟩
 have hT:EncTo w w1 base e ([(P.L.length:Int)].flatMap ienc):=⟨(hX0.alloc _).trans hT1.1,hT1.2⟩
 clear hT1 hE0 hX0 hlen c0
 have HID:=Lib.hid (ids_any w1 B c mb mn C (HC.out.ext (hT.1.below hle)) (P.L.map fun b=>(b.id:Int)) (idsOf_asc HI.out.1.asc) (HR.out.ids HI.out.1) (by simpa using hpl))
 rw[List.length_map]at HID
 go_wp2_with fail
 refine HID.out.mono ?_
 rintro r w2 ⟨iv,rfl,hOI,hE2⟩
 have hT2:EncTo w w2 base e ([(P.L.length:Int)].flatMap ienc):=⟨hT.1.trans (EncChg.ext hE2),hT.2.ext hE2⟩
 obtain⟨iA,ic,rfl⟩:=own_slc hOI
 generalize w1.heap.size=b0 at hOI
 clear HID hT hE2
 go_wp2_with fail
 go_loopw [23] (fun kv wr=>∃k:Nat,kv=.int .i64 (k:Int)∧k≤P.L.length∧EncTo w wr base e ([(P.L.length:Int)].flatMap ienc++(P.L.take k).flatMap blEnc)∧wr.ownsRow b0 30 1 (.slice iA P.L.length ic) P.L.length ((P.L.map fun b=>(b.id:Int)).map (Value.int .u64))) (fun kv _=>P.L.length - (intOf kv).toNat)
 case atStart=>exact⟨0,rfl,Nat.zero_le _,by simpa using hT2,hOI⟩
 case round =>
  clear hT2 hOI
  obtain⟨k,rfl,hk,hT,hO⟩:=hrel
  have hCk:=HC.out.ext (hT.1.below hle)
  by_cases hlt:k<P.L.length
  ·obtain⟨b,hb⟩:∃b,P.L[k]? = some b:=⟨_,List.getElem?_eq_getElem hlt⟩
   have hbm:=List.mem_of_getElem? hb
   obtain⟨⟨rb,g,dv⟩,hr,hrb,hf⟩:=row_of HR.out HI.out.1 hbm
   obtain rfl:rb=b:=hrb
   have hlk:=hCk.look rb.id
   rw[hf]at hlk
   simp only[ptrO]at hlk
   obtain⟨c0,c1⟩:=hCk.c0
   obtain⟨hA,hD⟩:=hCk.bl _ hr
   have hok:=HI.out.1.bl _ hbm
   have HDL:Hid (rb.disks.length≤6):=Lib.hid (rises_len hok.rises)
   have HDB:Hid (∀d∈rb.disks,0≤d∧d≤5):=Lib.hid (fun d hd=>rises_lim hok.rises d hd)
   have HOK:=Lib.hid hok
   have HLN:Hid ((uenc rb.id).length≤10∧(senc rb.name).length≤42∧(ienc rb.size).length≤10∧(uenc rb.sum).length≤10∧(lenc rb.disks).length≤70∧(benc (!rb.dead)).length=1):=Lib.hid ⟨uenc_length _,by have:=senc_length rb.name;have:=hok.name.2;omega,ienc_length _,uenc_length _,by have:=lenc_length rb.disks;have:=HDL.out;omega,rfl⟩
   have hic:∃ib,iA=some ⟨ib,0,none⟩:=by
    rcases hO.2 with⟨e,h0⟩|⟨g,cap,cur,e,_⟩
    ·omega
    ·injection e with e1 _ _;exact⟨g,e1⟩
   obtain⟨ib,rfl⟩:=hic
   have i1:=hO.cellAt k (by omega)
   rw[List.getElem?_map,List.getElem?_map,hb]at i1
   simp only[Option.map_some]at i1
   have HB:=Lib.hid hb
   have HST:Hid (([(P.L.length:Int)].flatMap ienc++(P.L.take (k+1)).flatMap blEnc)=(([(P.L.length:Int)].flatMap ienc++(P.L.take k).flatMap blEnc))++blEnc rb):=Lib.hid (enc_step hb blEnc _)
   have hpl2:=enc_pre HI.out.1 hpl k
   generalize hpre:[(P.L.length:Int)].flatMap ienc++(P.L.take k).flatMap blEnc=pre at hT HST hpl2
   clear hpre hb hbm hr hf hok hCk c1
   go_wp2_with fail
   clear i1 hlk c0
   have hE0:EncAt wr.drew base e pre:=hT.2.drew
   have hcg:=cells_enc (base:=base) hA (by decide)
   have hSd:∀w',EncChg wr.drew w' base→SlE w' base dv (rb.disks.map (Value.int .i64)):=fun w' hc=>((own_sle hD (by decide)).ext (Ext.refl wr).drew).chg hc
   refine wp_region_phi (Γ := Nat) (spφ [.val (.pointer (some ⟨e,0,none⟩)),.val (.pointer (some ⟨g,0,none⟩)),.val (.pointer (some ⟨g,0,none⟩)),.val (.pointer (some ⟨g,0,none⟩)),.val (.int .u64 (rb.id:Int)),.sl [.int .u64 (rb.id:Int)],.ptr,.val (.pointer (some ⟨g,0,none⟩)),.val (.pointer (some ⟨g,0,none⟩)),.val (.pointer (some ⟨g,1,none⟩)),.val (.string rb.name),.sl [.string rb.name],.ptr,.val (.pointer (some ⟨g,0,none⟩)),.val (.pointer (some ⟨g,0,none⟩)),.val (.pointer (some ⟨g,12,none⟩)),.val (.bool rb.dead),.val (.bool (!rb.dead)),.sl [.bool (!rb.dead)],.ptr,.val (.pointer (some ⟨g,0,none⟩)),.val (.pointer (some ⟨g,0,none⟩)),.val (.pointer (some ⟨g,2,none⟩)),.val (.int .i64 rb.size),.sl [.int .i64 rb.size],.ptr,.val (.pointer (some ⟨g,0,none⟩)),.val (.pointer (some ⟨g,0,none⟩)),.val (.pointer (some ⟨g,3,none⟩)),.val (.int .u32 (rb.sum:Int)),.val (.int .u64 (rb.sum:Int)),.sl [.int .u64 (rb.sum:Int)],.ptr,.val (.pointer (some ⟨g,0,none⟩)),.val (.pointer (some ⟨g,0,none⟩)),.val (.pointer (some ⟨g,4,none⟩)),.val (dv),.ptr] base)
    (spG (some e) [(6,[rb.id].flatMap uenc),(12,[rb.name].flatMap senc),(19,[!rb.dead].flatMap benc),(25,[rb.size].flatMap ienc),(32,[rb.sum].flatMap uenc),(37,lenc rb.disks)] pre (fun _=>true) wr.drew base) (by kernel_rfl) (by kernel_rfl) (by kernel_rfl) e ⟨fun _ h=>(by injection h),EncChg.refl _ _,fun _=>(by simpa[chainL]using hE0)⟩ ?stepss ?fins
   case stepss =>
    show StepsTo _ _ _ _ _ _ 38
    refine⟨⟨⟨⟨⟨⟨⟨⟨⟨⟨⟨⟨⟨⟨⟨⟨⟨⟨⟨⟨⟨⟨⟨⟨⟨⟨⟨⟨⟨⟨⟨⟨⟨⟨⟨⟨⟨⟨trivial,?s0⟩,?s1⟩,?s2⟩,?s3⟩,?s4⟩,?s5⟩,?s6⟩,?s7⟩,?s8⟩,?s9⟩,?s10⟩,?s11⟩,?s12⟩,?s13⟩,?s14⟩,?s15⟩,?s16⟩,?s17⟩,?s18⟩,?s19⟩,?s20⟩,?s21⟩,?s22⟩,?s23⟩,?s24⟩,?s25⟩,?s26⟩,?s27⟩,?s28⟩,?s29⟩,?s30⟩,?s31⟩,?s32⟩,?s33⟩,?s34⟩,?s35⟩,?s36⟩,?s37⟩
    case s0 =>
     refine enc_val (x:=.pointer (some ⟨e,0,none⟩)) rfl rfl (.inl rfl) rfl (fun _=>rfl) fun e' L v a w hW hφ hv h0=>?_
     have e3:=h0 3 (by kernel_rfl)
     simp at e3
     go_simp
    case s1 =>
     refine enc_val (x:=.pointer (some ⟨g,0,none⟩)) rfl rfl (.inl rfl) rfl (fun _=>rfl) fun e' L v a w hW hφ hv h0=>?_
     have e6:=h0 6 (by kernel_rfl)
     simp at e6
     go_simp
    case s2 =>
     refine enc_val (x:=.pointer (some ⟨g,0,none⟩)) rfl rfl (.inl rfl) rfl (fun _=>rfl) fun e' L v a w hW hφ hv h0=>?_
     have e34:=hv 1 34 rfl (by kernel_rfl)
     rw[show v 1=_ from hφ 1 (by kernel_rfl)]at e34
     simp at e34
     go_simp
    case s3 =>
     refine enc_val (x:=.pointer (some ⟨g,0,none⟩)) rfl rfl (.inl rfl) rfl (fun _=>rfl) fun e' L v a w hW hφ hv h0=>?_
     have e35:=hv 2 35 rfl (by kernel_rfl)
     rw[show v 2=_ from hφ 2 (by kernel_rfl)]at e35
     simp at e35
     go_simp
    case s4 =>
     refine enc_val (x:=.int .u64 (rb.id:Int)) rfl rfl (.inl rfl) rfl (fun _=>rfl) fun e' L v a w hW hφ hv h0=>?_
     have e36:=hv 3 36 rfl (by kernel_rfl)
     rw[show v 3=_ from hφ 3 (by kernel_rfl)]at e36
     simp at e36
     have hcell:=hcg w hW 0
     simp at hcell
     go_simp
    case s5 =>
     refine enc_slice (cs:=#[.int .u64 (rb.id:Int)]) (t:=30) (c:=1) (by decide) rfl rfl rfl rfl (fun _=>rfl) fun e' L v a w hW hφ hv=>?_
     have e37:=hv 4 37 rfl (by kernel_rfl)
     rw[show v 4=_ from hφ 4 (by kernel_rfl)]at e37
     simp at e37
     go_simp
    case s6 =>
     refine enc_call (f:=21) (bytes:=[rb.id].flatMap uenc) (before:=[]) (after:=[(12,[rb.name].flatMap senc),(19,[!rb.dead].flatMap benc),(25,[rb.size].flatMap ienc),(32,[rb.sum].flatMap uenc),(37,lenc rb.disks)]) rfl rfl rfl rfl rfl (by kernel_rfl) rfl (fun _=>rfl) (fun _ _ _=>rfl) fun e' L v a w hgh hW hn hd hE hφ hv h0=>?_
     have e33:=hv 0 33 rfl (by kernel_rfl)
     rw[show v 0=_ from hφ 0 (by kernel_rfl)]at e33
     simp at e33
     have e38:=hv 5 38 rfl (by kernel_rfl)
     have hsl:SlE w base (v 5) _:=hφ 5 (by kernel_rfl)
     simp at e38
     generalize v 5=sv at e38 hsl
     rw[hgh _ rfl]at hE⊢
     exact⟨#[.pointer (some ⟨e,0,none⟩),sv],by go_simp,eu_any w base e _ hE sv [rb.id] (hsl) (by simp;exact HOK.out.id.2) (by simp) (by have:=HLN.out.1;have:=HLN.out.2.1;have:=HLN.out.2.2.1;have:=HLN.out.2.2.2.1;have:=HLN.out.2.2.2.2;have:=hpl2;have:=HDL.out;simp[chainL];omega)⟩
    case s7 =>
     refine enc_val (x:=.pointer (some ⟨g,0,none⟩)) rfl rfl (.inl rfl) rfl (fun _=>rfl) fun e' L v a w hW hφ hv h0=>?_
     have e6:=h0 6 (by kernel_rfl)
     simp at e6
     go_simp
    case s8 =>
     refine enc_val (x:=.pointer (some ⟨g,0,none⟩)) rfl rfl (.inl rfl) rfl (fun _=>rfl) fun e' L v a w hW hφ hv h0=>?_
     have e40:=hv 7 40 rfl (by kernel_rfl)
     rw[show v 7=_ from hφ 7 (by kernel_rfl)]at e40
     simp at e40
     go_simp
    case s9 =>
     refine enc_val (x:=.pointer (some ⟨g,1,none⟩)) rfl rfl (.inl rfl) rfl (fun _=>rfl) fun e' L v a w hW hφ hv h0=>?_
     have e41:=hv 8 41 rfl (by kernel_rfl)
     rw[show v 8=_ from hφ 8 (by kernel_rfl)]at e41
     simp at e41
     go_simp
    case s10 =>
     refine enc_val (x:=.string rb.name) rfl rfl (.inl rfl) rfl (fun _=>rfl) fun e' L v a w hW hφ hv h0=>?_
     have e42:=hv 9 42 rfl (by kernel_rfl)
     rw[show v 9=_ from hφ 9 (by kernel_rfl)]at e42
     simp at e42
     have hcell:=hcg w hW 1
     simp at hcell
     go_simp
    case s11 =>
     refine enc_slice (cs:=#[.string rb.name]) (t:=9) (c:=1) (by decide) rfl rfl rfl rfl (fun _=>rfl) fun e' L v a w hW hφ hv=>?_
     have e43:=hv 10 43 rfl (by kernel_rfl)
     rw[show v 10=_ from hφ 10 (by kernel_rfl)]at e43
     simp at e43
     go_simp
    case s12 =>
     refine enc_call (f:=45) (bytes:=[rb.name].flatMap senc) (before:=[(6,[rb.id].flatMap uenc)]) (after:=[(19,[!rb.dead].flatMap benc),(25,[rb.size].flatMap ienc),(32,[rb.sum].flatMap uenc),(37,lenc rb.disks)]) rfl rfl rfl rfl rfl (by kernel_rfl) rfl (fun _=>rfl) (fun _ _ _=>rfl) fun e' L v a w hgh hW hn hd hE hφ hv h0=>?_
     have e39:=hv 6 39 rfl (by kernel_rfl)
     rw[show v 6=_ from hφ 6 (by kernel_rfl)]at e39
     simp at e39
     rw[hgh _ rfl]at e39
     have e44:=hv 11 44 rfl (by kernel_rfl)
     have hsl:SlE w base (v 11) _:=hφ 11 (by kernel_rfl)
     simp at e44
     generalize v 11=sv at e44 hsl
     rw[hgh _ rfl]at hE⊢
     exact⟨#[.pointer (some ⟨e,0,none⟩),sv],by go_simp,es_any w base e _ hE sv [rb.name] (hsl) (by simp;have:=HOK.out.name.2;omega) (by simp) (by have hcl:=chainL_le L [(6,[rb.id].flatMap uenc)];have:=HLN.out.1;have:=HLN.out.2.1;have:=HLN.out.2.2.1;have:=HLN.out.2.2.2.1;have:=HLN.out.2.2.2.2;have:=hpl2;have:=HDL.out;simp at hcl⊢;omega)⟩
    case s13 =>
     refine enc_val (x:=.pointer (some ⟨g,0,none⟩)) rfl rfl (.inl rfl) rfl (fun _=>rfl) fun e' L v a w hW hφ hv h0=>?_
     have e6:=h0 6 (by kernel_rfl)
     simp at e6
     go_simp
    case s14 =>
     refine enc_val (x:=.pointer (some ⟨g,0,none⟩)) rfl rfl (.inl rfl) rfl (fun _=>rfl) fun e' L v a w hW hφ hv h0=>?_
     have e46:=hv 13 46 rfl (by kernel_rfl)
     rw[show v 13=_ from hφ 13 (by kernel_rfl)]at e46
     simp at e46
     go_simp
    case s15 =>
     refine enc_val (x:=.pointer (some ⟨g,12,none⟩)) rfl rfl (.inl rfl) rfl (fun _=>rfl) fun e' L v a w hW hφ hv h0=>?_
     have e47:=hv 14 47 rfl (by kernel_rfl)
     rw[show v 14=_ from hφ 14 (by kernel_rfl)]at e47
     simp at e47
     go_simp
    case s16 =>
     refine enc_val (x:=.bool rb.dead) rfl rfl (.inl rfl) rfl (fun _=>rfl) fun e' L v a w hW hφ hv h0=>?_
     have e48:=hv 15 48 rfl (by kernel_rfl)
     rw[show v 15=_ from hφ 15 (by kernel_rfl)]at e48
     simp at e48
     have hcell:=hcg w hW 12
     simp at hcell
     go_simp
    case s17 =>
     refine enc_val (x:=.bool (!rb.dead)) rfl rfl (.inl rfl) rfl (fun _=>rfl) fun e' L v a w hW hφ hv h0=>?_
     have e49:=hv 16 49 rfl (by kernel_rfl)
     rw[show v 16=_ from hφ 16 (by kernel_rfl)]at e49
     simp at e49
     go_simp
    case s18 =>
     refine enc_slice (cs:=#[.bool (!rb.dead)]) (t:=4) (c:=1) (by decide) rfl rfl rfl rfl (fun _=>rfl) fun e' L v a w hW hφ hv=>?_
     have e50:=hv 17 50 rfl (by kernel_rfl)
     rw[show v 17=_ from hφ 17 (by kernel_rfl)]at e50
     simp at e50
     go_simp
    case s19 =>
     refine enc_call (f:=89) (bytes:=[!rb.dead].flatMap benc) (before:=[(6,[rb.id].flatMap uenc),(12,[rb.name].flatMap senc)]) (after:=[(25,[rb.size].flatMap ienc),(32,[rb.sum].flatMap uenc),(37,lenc rb.disks)]) rfl rfl rfl rfl rfl (by kernel_rfl) rfl (fun _=>rfl) (fun _ _ _=>rfl) fun e' L v a w hgh hW hn hd hE hφ hv h0=>?_
     have e45:=hv 12 45 rfl (by kernel_rfl)
     rw[show v 12=_ from hφ 12 (by kernel_rfl)]at e45
     simp at e45
     rw[hgh _ rfl]at e45
     have e51:=hv 18 51 rfl (by kernel_rfl)
     have hsl:SlE w base (v 18) _:=hφ 18 (by kernel_rfl)
     simp at e51
     generalize v 18=sv at e51 hsl
     rw[hgh _ rfl]at hE⊢
     exact⟨#[.pointer (some ⟨e,0,none⟩),sv],by go_simp,eb_any w base e _ hE sv [!rb.dead] (hsl) (by simp) (by have hcl:=chainL_le L [(6,[rb.id].flatMap uenc),(12,[rb.name].flatMap senc)];have:=HLN.out.1;have:=HLN.out.2.1;have:=HLN.out.2.2.1;have:=HLN.out.2.2.2.1;have:=HLN.out.2.2.2.2;have:=hpl2;have:=HDL.out;simp at hcl⊢;omega)⟩
    case s20 =>
     refine enc_val (x:=.pointer (some ⟨g,0,none⟩)) rfl rfl (.inl rfl) rfl (fun _=>rfl) fun e' L v a w hW hφ hv h0=>?_
     have e6:=h0 6 (by kernel_rfl)
     simp at e6
     go_simp
    case s21 =>
     refine enc_val (x:=.pointer (some ⟨g,0,none⟩)) rfl rfl (.inl rfl) rfl (fun _=>rfl) fun e' L v a w hW hφ hv h0=>?_
     have e53:=hv 20 53 rfl (by kernel_rfl)
     rw[show v 20=_ from hφ 20 (by kernel_rfl)]at e53
     simp at e53
     go_simp
    case s22 =>
     refine enc_val (x:=.pointer (some ⟨g,2,none⟩)) rfl rfl (.inl rfl) rfl (fun _=>rfl) fun e' L v a w hW hφ hv h0=>?_
     have e54:=hv 21 54 rfl (by kernel_rfl)
     rw[show v 21=_ from hφ 21 (by kernel_rfl)]at e54
     simp at e54
     go_simp
    case s23 =>
     refine enc_val (x:=.int .i64 rb.size) rfl rfl (.inl rfl) rfl (fun _=>rfl) fun e' L v a w hW hφ hv h0=>?_
     have e55:=hv 22 55 rfl (by kernel_rfl)
     rw[show v 22=_ from hφ 22 (by kernel_rfl)]at e55
     simp at e55
     have hcell:=hcg w hW 2
     simp at hcell
     go_simp
    case s24 =>
     refine enc_slice (cs:=#[.int .i64 rb.size]) (t:=3) (c:=1) (by decide) rfl rfl rfl rfl (fun _=>rfl) fun e' L v a w hW hφ hv=>?_
     have e56:=hv 23 56 rfl (by kernel_rfl)
     rw[show v 23=_ from hφ 23 (by kernel_rfl)]at e56
     simp at e56
     go_simp
    case s25 =>
     refine enc_call (f:=44) (bytes:=[rb.size].flatMap ienc) (before:=[(6,[rb.id].flatMap uenc),(12,[rb.name].flatMap senc),(19,[!rb.dead].flatMap benc)]) (after:=[(32,[rb.sum].flatMap uenc),(37,lenc rb.disks)]) rfl rfl rfl rfl rfl (by kernel_rfl) rfl (fun _=>rfl) (fun _ _ _=>rfl) fun e' L v a w hgh hW hn hd hE hφ hv h0=>?_
     have e52:=hv 19 52 rfl (by kernel_rfl)
     rw[show v 19=_ from hφ 19 (by kernel_rfl)]at e52
     simp at e52
     rw[hgh _ rfl]at e52
     have e57:=hv 24 57 rfl (by kernel_rfl)
     have hsl:SlE w base (v 24) _:=hφ 24 (by kernel_rfl)
     simp at e57
     generalize v 24=sv at e57 hsl
     rw[hgh _ rfl]at hE⊢
     exact⟨#[.pointer (some ⟨e,0,none⟩),sv],by go_simp,ei_any w base e _ hE sv [rb.size] (hsl) (by simp;have:=HOK.out.size;omega) (by simp) (by have hcl:=chainL_le L [(6,[rb.id].flatMap uenc),(12,[rb.name].flatMap senc),(19,[!rb.dead].flatMap benc)];have:=HLN.out.1;have:=HLN.out.2.1;have:=HLN.out.2.2.1;have:=HLN.out.2.2.2.1;have:=HLN.out.2.2.2.2;have:=hpl2;have:=HDL.out;simp at hcl⊢;omega)⟩
    case s26 =>
     refine enc_val (x:=.pointer (some ⟨g,0,none⟩)) rfl rfl (.inl rfl) rfl (fun _=>rfl) fun e' L v a w hW hφ hv h0=>?_
     have e6:=h0 6 (by kernel_rfl)
     simp at e6
     go_simp
    case s27 =>
     refine enc_val (x:=.pointer (some ⟨g,0,none⟩)) rfl rfl (.inl rfl) rfl (fun _=>rfl) fun e' L v a w hW hφ hv h0=>?_
     have e59:=hv 26 59 rfl (by kernel_rfl)
     rw[show v 26=_ from hφ 26 (by kernel_rfl)]at e59
     simp at e59
     go_simp
    case s28 =>
     refine enc_val (x:=.pointer (some ⟨g,3,none⟩)) rfl rfl (.inl rfl) rfl (fun _=>rfl) fun e' L v a w hW hφ hv h0=>?_
     have e60:=hv 27 60 rfl (by kernel_rfl)
     rw[show v 27=_ from hφ 27 (by kernel_rfl)]at e60
     simp at e60
     go_simp
    case s29 =>
     refine enc_val (x:=.int .u32 (rb.sum:Int)) rfl rfl (.inl rfl) rfl (fun _=>rfl) fun e' L v a w hW hφ hv h0=>?_
     have e61:=hv 28 61 rfl (by kernel_rfl)
     rw[show v 28=_ from hφ 28 (by kernel_rfl)]at e61
     simp at e61
     have hcell:=hcg w hW 3
     simp at hcell
     go_simp
    case s30 =>
     refine enc_val (x:=.int .u64 (rb.sum:Int)) rfl rfl (.inl rfl) rfl (fun _=>rfl) fun e' L v a w hW hφ hv h0=>?_
     have e62:=hv 29 62 rfl (by kernel_rfl)
     rw[show v 29=_ from hφ 29 (by kernel_rfl)]at e62
     simp at e62
     have hw:=u64_inE (x:=rb.sum) (by have:=HOK.out.sum;omega)
     go_simp
    case s31 =>
     refine enc_slice (cs:=#[.int .u64 (rb.sum:Int)]) (t:=30) (c:=1) (by decide) rfl rfl rfl rfl (fun _=>rfl) fun e' L v a w hW hφ hv=>?_
     have e63:=hv 30 63 rfl (by kernel_rfl)
     rw[show v 30=_ from hφ 30 (by kernel_rfl)]at e63
     simp at e63
     go_simp
    case s32 =>
     refine enc_call (f:=21) (bytes:=[rb.sum].flatMap uenc) (before:=[(6,[rb.id].flatMap uenc),(12,[rb.name].flatMap senc),(19,[!rb.dead].flatMap benc),(25,[rb.size].flatMap ienc)]) (after:=[(37,lenc rb.disks)]) rfl rfl rfl rfl rfl (by kernel_rfl) rfl (fun _=>rfl) (fun _ _ _=>rfl) fun e' L v a w hgh hW hn hd hE hφ hv h0=>?_
     have e58:=hv 25 58 rfl (by kernel_rfl)
     rw[show v 25=_ from hφ 25 (by kernel_rfl)]at e58
     simp at e58
     rw[hgh _ rfl]at e58
     have e64:=hv 31 64 rfl (by kernel_rfl)
     have hsl:SlE w base (v 31) _:=hφ 31 (by kernel_rfl)
     simp at e64
     generalize v 31=sv at e64 hsl
     rw[hgh _ rfl]at hE⊢
     exact⟨#[.pointer (some ⟨e,0,none⟩),sv],by go_simp,eu_any w base e _ hE sv [rb.sum] (hsl) (by simp;have:=HOK.out.sum;omega) (by simp) (by have hcl:=chainL_le L [(6,[rb.id].flatMap uenc),(12,[rb.name].flatMap senc),(19,[!rb.dead].flatMap benc),(25,[rb.size].flatMap ienc)];have:=HLN.out.1;have:=HLN.out.2.1;have:=HLN.out.2.2.1;have:=HLN.out.2.2.2.1;have:=HLN.out.2.2.2.2;have:=hpl2;have:=HDL.out;simp at hcl⊢;omega)⟩
    case s33 =>
     refine enc_val (x:=.pointer (some ⟨g,0,none⟩)) rfl rfl (.inl rfl) rfl (fun _=>rfl) fun e' L v a w hW hφ hv h0=>?_
     have e6:=h0 6 (by kernel_rfl)
     simp at e6
     go_simp
    case s34 =>
     refine enc_val (x:=.pointer (some ⟨g,0,none⟩)) rfl rfl (.inl rfl) rfl (fun _=>rfl) fun e' L v a w hW hφ hv h0=>?_
     have e66:=hv 33 66 rfl (by kernel_rfl)
     rw[show v 33=_ from hφ 33 (by kernel_rfl)]at e66
     simp at e66
     go_simp
    case s35 =>
     refine enc_val (x:=.pointer (some ⟨g,4,none⟩)) rfl rfl (.inl rfl) rfl (fun _=>rfl) fun e' L v a w hW hφ hv h0=>?_
     have e67:=hv 34 67 rfl (by kernel_rfl)
     rw[show v 34=_ from hφ 34 (by kernel_rfl)]at e67
     simp at e67
     go_simp
    case s36 =>
     refine enc_val (x:=dv) rfl rfl (.inl rfl) rfl (fun _=>rfl) fun e' L v a w hW hφ hv h0=>?_
     have e68:=hv 35 68 rfl (by kernel_rfl)
     rw[show v 35=_ from hφ 35 (by kernel_rfl)]at e68
     simp at e68
     have hcell:=hcg w hW 4
     simp at hcell
     go_simp
    case s37 =>
     refine enc_call (f:=82) (bytes:=lenc rb.disks) (before:=[(6,[rb.id].flatMap uenc),(12,[rb.name].flatMap senc),(19,[!rb.dead].flatMap benc),(25,[rb.size].flatMap ienc),(32,[rb.sum].flatMap uenc)]) (after:=[]) rfl rfl rfl rfl rfl (by kernel_rfl) rfl (fun _=>rfl) (fun _ _ _=>rfl) fun e' L v a w hgh hW hn hd hE hφ hv h0=>?_
     have e65:=hv 32 65 rfl (by kernel_rfl)
     rw[show v 32=_ from hφ 32 (by kernel_rfl)]at e65
     simp at e65
     rw[hgh _ rfl]at e65
     have e69:=hv 36 69 rfl (by kernel_rfl)
     rw[show v 36=_ from hφ 36 (by kernel_rfl)]at e69
     simp at e69
     rw[hgh _ rfl]at hE⊢
     exact⟨#[.pointer (some ⟨e,0,none⟩),dv],by go_simp,elist_any w base e _ hE (dv) rb.disks (hSd w hW) (fun d hd=>by have:=HDB.out d hd;omega) (by have:=HDL.out;omega) (by have hcl:=chainL_le L [(6,[rb.id].flatMap uenc),(12,[rb.name].flatMap senc),(19,[!rb.dead].flatMap benc),(25,[rb.size].flatMap ienc),(32,[rb.sum].flatMap uenc)];have:=HLN.out.1;have:=HLN.out.2.1;have:=HLN.out.2.2.1;have:=HLN.out.2.2.2.1;have:=HLN.out.2.2.2.2;have:=hpl2;have:=HDL.out;simp at hcl⊢;omega)⟩
   case fins =>
    intro e' L v w1 hall hG hφ
    obtain⟨hee,hW1,hE1⟩:=hG
    have hee':=hee _ rfl
    replace hE1:=hE1 rfl
    rw[hee',chainL_on (fun c b hm=>hall c (by simp at hm;rcases hm with h|h|h|h|h|h <;> rw[h.1] <;> decide))]at hE1
    clear hee hee'
    change Exit.then _ _ _ (putAll _ v _ 38) w1
    simp only[putAll,dstOf,Act.put]
    simp only[List.getElem?_toArray,List.getElem?_cons_zero,List.getElem?_cons_succ,Option.bind_some,List.setIfInBounds_toArray,List.set_cons_zero,List.set_cons_succ]
    have hT7:EncTo w w1 base e (pre++blA rb):=⟨hT.1.drew.trans hW1,by
     have:pre++blA rb=pre++([(6,[rb.id].flatMap uenc),(12,[rb.name].flatMap senc),(19,[!rb.dead].flatMap benc),(25,[rb.size].flatMap ienc),(32,[rb.sum].flatMap uenc),(37,lenc rb.disks)]).flatMap (·.2):=by simp[blA]
     rw[this];exact hE1⟩
    have hX7:EncChg wr w1 base:=((EncChg.refl wr base).drew).trans hW1
    have hA7:=hA.enc (by decide) hX7
    have hO7:=own_enc hO (by decide) hX7
    clear hW1 hE1 hE0 hcg hSd hD hA hO hT hX7 hφ hall
    have hbl7:(pre++blA rb).length≤15210:=by
     have:=blA_length HOK.out
     rw[List.length_append];omega
    have HST2:Hid ([(P.L.length:Int)].flatMap ienc++(P.L.take (k+1)).flatMap blEnc=((pre++blA rb)++cpE rb 2)++[rb.pins].flatMap ienc):=Lib.hid (by rw[HST.out];simp[blEnc,cpE])
    clear HST hpl2 HLN HDL HDB
    generalize pre++blA rb=pre1 at hT7 hbl7 HST2
    have q5:=hA7.cell 5
    have q6:=hA7.cell 6
    have q7:=hA7.cell 7
    have q8:=hA7.cell 8
    have q9:=hA7.cell 9
    have q10:=hA7.cell 10
    simp at q5 q6 q7 q8 q9 q10
    go_wp2_with fail
    clear q5 q6 q7 q8 q9 q10
    go_loopw [75] (fun jv wx=>∃j:Nat,jv=.int .i64 (j:Int)∧j≤2∧EncTo w1 wx base e (pre1++cpE rb j)) (fun jv _=>2 - (intOf jv).toNat)
    case atStart=>exact⟨0,rfl,Nat.zero_le _,EncChg.refl _ _,by simpa[cpE]using hT7.2⟩
    case round =>
     obtain⟨j,rfl,hj,hTj⟩:=hrel
     by_cases hj2:j<2
     ·obtain⟨x,hix,hstep,hx1,hx2,hx3,hx4⟩:=cp_at HOK.out j hj2
      have hpl2:(pre1++cpE rb j).length≤15300:=by
       have:=cpE_length rb j
       rw[List.length_append];omega
      have HS:=Lib.hid (show pre1++cpE rb (j+1)=(pre1++cpE rb j)++cpEnc x by rw[hstep,List.append_assoc])
      generalize pre1++cpE rb j=pre2 at hTj hpl2 HS
      clear hstep hbl7
      go_upto_region 11 with fail
      have hy:=At.new wr 158 #[.bool x.there,.int .i64 x.vol,.int .i64 x.at_]
      have hXy:=(EncChg.refl wr base).alloc (.cells #[.bool x.there,.int .i64 x.vol,.int .i64 x.at_] 158)
      have hTy:=hTj.2.alloc (.cells #[.bool x.there,.int .i64 x.vol,.int .i64 x.at_] 158)
      clear hix
      generalize wr.heap.size=y at hy⊢
      generalize wr.alloc (.cells #[.bool x.there,.int .i64 x.vol,.int .i64 x.at_] 158)=W at *
      have hE0:EncAt W.drew base e pre2:=hTy.drew
      have hcy:=cells_enc (base:=base) hy (by decide)
      go_wp2_with fail
      refine wp_region_phi (Γ := Nat) (spφ [.val (.pointer (some ⟨e,0,none⟩)),.val (.pointer (some ⟨y,0,none⟩)),.val (.bool x.there),.sl [.bool x.there],.ptr,.val (.pointer (some ⟨y,1,none⟩)),.val (.int .i64 x.vol),.val (.pointer (some ⟨y,2,none⟩)),.val (.int .i64 x.at_),.sl [.int .i64 x.vol,.int .i64 x.at_],.ptr] base)
       (spG (some e) [(4,[x.there].flatMap benc),(10,[x.vol,x.at_].flatMap ienc)] pre2 (fun _=>true) W.drew base) (by kernel_rfl) (by kernel_rfl) (by kernel_rfl) e ⟨fun _ h=>(by injection h),EncChg.refl _ _,fun _=>(by simpa[chainL]using hE0)⟩ ?stepsp ?finp
      case stepsp =>
       show StepsTo _ _ _ _ _ _ 11
       refine⟨⟨⟨⟨⟨⟨⟨⟨⟨⟨⟨trivial,?p0⟩,?p1⟩,?p2⟩,?p3⟩,?p4⟩,?p5⟩,?p6⟩,?p7⟩,?p8⟩,?p9⟩,?p10⟩
       case p0 =>
        refine enc_val (x:=.pointer (some ⟨e,0,none⟩)) rfl rfl (.inl rfl) rfl (fun _=>rfl) fun e' L v a w hW hφ hv h0=>?_
        have e3:=h0 3 (by kernel_rfl)
        simp at e3
        go_simp
       case p1 =>
        refine enc_val (x:=.pointer (some ⟨y,0,none⟩)) rfl rfl (.inl rfl) rfl (fun _=>rfl) fun e' L v a w hW hφ hv h0=>?_
        have e8:=h0 8 (by kernel_rfl)
        simp at e8
        go_simp
       case p2 =>
        refine enc_val (x:=.bool x.there) rfl rfl (.inl rfl) rfl (fun _=>rfl) fun e' L v a w hW hφ hv h0=>?_
        have e79:=hv 1 79 rfl (by kernel_rfl)
        rw[show v 1=_ from hφ 1 (by kernel_rfl)]at e79
        simp at e79
        have hcell:=hcy w hW 0
        simp at hcell
        go_simp
       case p3 =>
        refine enc_slice (cs:=#[.bool x.there]) (t:=4) (c:=1) (by decide) rfl rfl rfl rfl (fun _=>rfl) fun e' L v a w hW hφ hv=>?_
        have e80:=hv 2 80 rfl (by kernel_rfl)
        rw[show v 2=_ from hφ 2 (by kernel_rfl)]at e80
        simp at e80
        go_simp
       case p4 =>
        refine enc_call (f:=89) (bytes:=[x.there].flatMap benc) (before:=[]) (after:=[(10,[x.vol,x.at_].flatMap ienc)]) rfl rfl rfl rfl rfl (by kernel_rfl) rfl (fun _=>rfl) (fun _ _ _=>rfl) fun e' L v a w hgh hW hn hd hE hφ hv h0=>?_
        have e78:=hv 0 78 rfl (by kernel_rfl)
        rw[show v 0=_ from hφ 0 (by kernel_rfl)]at e78
        simp at e78
        have e81:=hv 3 81 rfl (by kernel_rfl)
        have hsl:SlE w base (v 3) _:=hφ 3 (by kernel_rfl)
        simp at e81
        generalize v 3=sv at e81 hsl
        rw[hgh _ rfl]at hE⊢
        exact⟨#[.pointer (some ⟨e,0,none⟩),sv],by go_simp,eb_any w base e _ hE sv [x.there] (hsl) (by simp) (by have:=benc_length x.there;have:=ienc_length x.vol;have:=ienc_length x.at_;have:=hpl2;simp[chainL];omega)⟩
       case p5 =>
        refine enc_val (x:=.pointer (some ⟨y,1,none⟩)) rfl rfl (.inl rfl) rfl (fun _=>rfl) fun e' L v a w hW hφ hv h0=>?_
        have e8:=h0 8 (by kernel_rfl)
        simp at e8
        go_simp
       case p6 =>
        refine enc_val (x:=.int .i64 x.vol) rfl rfl (.inl rfl) rfl (fun _=>rfl) fun e' L v a w hW hφ hv h0=>?_
        have e83:=hv 5 83 rfl (by kernel_rfl)
        rw[show v 5=_ from hφ 5 (by kernel_rfl)]at e83
        simp at e83
        have hcell:=hcy w hW 1
        simp at hcell
        go_simp
       case p7 =>
        refine enc_val (x:=.pointer (some ⟨y,2,none⟩)) rfl rfl (.inl rfl) rfl (fun _=>rfl) fun e' L v a w hW hφ hv h0=>?_
        have e8:=h0 8 (by kernel_rfl)
        simp at e8
        go_simp
       case p8 =>
        refine enc_val (x:=.int .i64 x.at_) rfl rfl (.inl rfl) rfl (fun _=>rfl) fun e' L v a w hW hφ hv h0=>?_
        have e85:=hv 7 85 rfl (by kernel_rfl)
        rw[show v 7=_ from hφ 7 (by kernel_rfl)]at e85
        simp at e85
        have hcell:=hcy w hW 2
        simp at hcell
        go_simp
       case p9 =>
        refine enc_slice (cs:=#[.int .i64 x.vol,.int .i64 x.at_]) (t:=3) (c:=2) (by decide) rfl rfl rfl rfl (fun _=>rfl) fun e' L v a w hW hφ hv=>?_
        have e84:=hv 6 84 rfl (by kernel_rfl)
        rw[show v 6=_ from hφ 6 (by kernel_rfl)]at e84
        simp at e84
        have e86:=hv 8 86 rfl (by kernel_rfl)
        rw[show v 8=_ from hφ 8 (by kernel_rfl)]at e86
        simp at e86
        go_simp
       case p10 =>
        refine enc_call (f:=44) (bytes:=[x.vol,x.at_].flatMap ienc) (before:=[(4,[x.there].flatMap benc)]) (after:=[]) rfl rfl rfl rfl rfl (by kernel_rfl) rfl (fun _=>rfl) (fun _ _ _=>rfl) fun e' L v a w hgh hW hn hd hE hφ hv h0=>?_
        have e82:=hv 4 82 rfl (by kernel_rfl)
        rw[show v 4=_ from hφ 4 (by kernel_rfl)]at e82
        simp at e82
        rw[hgh _ rfl]at e82
        have e87:=hv 9 87 rfl (by kernel_rfl)
        have hsl:SlE w base (v 9) _:=hφ 9 (by kernel_rfl)
        simp at e87
        generalize v 9=sv at e87 hsl
        rw[hgh _ rfl]at hE⊢
        exact⟨#[.pointer (some ⟨e,0,none⟩),sv],by go_simp,ei_any w base e _ hE sv [x.vol,x.at_] (hsl) (by simp;omega) (by simp) (by have hcl:=chainL_le L [(4,[x.there].flatMap benc)];have:=benc_length x.there;have:=ienc_length x.vol;have:=ienc_length x.at_;have:=hpl2;simp at hcl⊢;omega)⟩
      case finp =>
       intro e' L v w2 hall hG hφ
       obtain⟨hee,hW1,hE1⟩:=hG
       have hee':=hee _ rfl
       replace hE1:=hE1 rfl
       rw[hee',chainL_on (fun c b hm=>hall c (by simp at hm;rcases hm with h|h <;> rw[h.1] <;> decide))]at hE1
       clear hee hee'
       change Exit.inBlock _ (Exit.then _ _) _ (putAll _ v _ 11) w2
       simp only[putAll,dstOf,Act.put]
       simp only[List.getElem?_toArray,List.getElem?_cons_zero,List.getElem?_cons_succ,Option.bind_some,List.setIfInBounds_toArray,List.set_cons_zero,List.set_cons_succ]
       have hT11:EncTo w1 w2 base e (pre2++cpEnc x):=⟨hTj.1.trans (hXy.drew.trans hW1),by
        have:pre2++cpEnc x=pre2++([(4,[x.there].flatMap benc),(10,[x.vol,x.at_].flatMap ienc)]).flatMap (·.2):=by simp[cpEnc]
        rw[this];exact hE1⟩
       clear hW1 hE1 hE0 hcy hy hXy hTy hTj hφ hall
       go_wp2_with fail
       go_roundw
       case rel=>exact⟨j+1,by go_num,by omega,by rw[HS.out];exact hT11⟩
       case measure=>simp[intOf];omega
     ·obtain rfl:j=2:=by omega
      have hA8:=hA7.enc (by decide) hTj.1
      have hO8:=own_enc hO7 (by decide) hTj.1
      have hT8:EncTo w wr base e (pre1++cpE rb 2):=⟨hT7.1.trans hTj.1,hTj.2⟩
      have r11:=hA8.cell 11
      simp at r11
      have hpn:=HOK.out.pins
      have hn50:=HI.out.2
      have hl8:(pre1++cpE rb 2).length≤15300:=by
       have:=cpE_length rb 2
       rw[List.length_append];omega
      generalize pre1++cpE rb 2=pre2 at hT8 hl8 HST2
      clear hTj hT7 hA7 hO7 hA8 hbl7
      go_wp2_with fail
      refine(ei_any _ base e pre2 (hT8.2.alloc _) _ [rb.pins] (SlE.new (t:=3) (cs:=#[.int .i64 rb.pins]) wr base (by decide)) (by simp;omega) (by simp) (by simp;omega)).mono ?_
      rintro r w3 ⟨rfl,hT9⟩
      have hO9:=own_enc hO8 (by decide) (((EncChg.refl wr base).alloc _).trans hT9.1)
      have hT10:EncTo w w3 base e (pre2++[rb.pins].flatMap ienc):=⟨(hT8.1.alloc _).trans hT9.1,hT9.2⟩
      clear hT8 hT9 hO8 r11 hpn
      go_wp2_with fail
      go_roundw
      case rel=>exact⟨k+1,by go_num,by omega,by rw[HST2.out];exact hT10,hO9⟩
      case measure=>simp[intOf];omega
  ·obtain rfl:k=P.L.length:=by omega
   rw[List.take_length]at hT
   have hrg:=vl_range hCk
   rw[HR.out.vols]at hrg
   have hinf:=vl_info hvl
   have HIX:Hid (∀j:Nat,j<12→∃x:Vl,P.vols[j]? = some x∧∀w,(Instr.index 135 (vlArr P.vols) (.int .i64 (j:Int))).run Tryz.prog w=.ok (.agg #[.bool x.closed,.bool x.erase,.int .i64 x.gen]) w):=Lib.hid (vl_idx hvl)
   have HRG:=Lib.hid hrg
   have HINF:=Lib.hid hinf
   clear hO hCk hrg hinf
   go_wp2_with (refine wpList_load_mid rfl 135 _ rfl c 2 rfl _ _ HRG.out Tryz.underlying135 rfl HINF.out ?_)
   rw[show Value.agg ((P.vols.map vlRow).flatten).toArray=vlArr P.vols from rfl]
   generalize vlArr P.vols=va at HIX⊢
   clear HRG HINF
   go_wp2_with fail
   go_loopw [102] (fun jv wx=>∃j:Nat,jv=.int .i64 (j:Int)∧j≤12∧EncTo w wx base e (([(P.L.length:Int)].flatMap ienc++P.L.flatMap blEnc)++(P.vols.take j).flatMap vlEnc)) (fun jv _=>12 - (intOf jv).toNat)
   case atStart=>exact⟨0,rfl,Nat.zero_le _,by simpa using hT⟩
   case round =>
    clear hT
    obtain⟨j,rfl,hj,hTj⟩:=hrel
    have hpl2:=enc_pre2 HI.out.1 hpl j
    by_cases hj2:j<12
    ·obtain⟨x,hxj,hix⟩:=HIX.out j hj2
     have HS:=Lib.hid (enc_step hxj vlEnc ([(P.L.length:Int)].flatMap ienc++P.L.flatMap blEnc))
     have hxg:=HI.out.1.gen x (List.mem_of_getElem? hxj)
     have hn50:=HI.out.2
     generalize ([(P.L.length:Int)].flatMap ienc++P.L.flatMap blEnc)++(P.vols.take j).flatMap vlEnc=pre2 at hTj hpl2 HS
     clear hxj
     go_upto_region 18 with fail
     have hy:=At.new wr 134 #[.bool x.closed,.bool x.erase,.int .i64 x.gen]
     have hXy:=(EncChg.refl wr base).alloc (.cells #[.bool x.closed,.bool x.erase,.int .i64 x.gen] 134)
     have hTy:=hTj.2.alloc (.cells #[.bool x.closed,.bool x.erase,.int .i64 x.gen] 134)
     clear hix
     generalize wr.heap.size=y at hy⊢
     generalize wr.alloc (.cells #[.bool x.closed,.bool x.erase,.int .i64 x.gen] 134)=W at *
     have hE0:EncAt W.drew base e pre2:=hTy.drew
     have hcy:=cells_enc (base:=base) hy (by decide)
     go_wp2_with fail
     refine wp_region_phi (Γ := Nat) (spφ [.val (.pointer (some ⟨e,0,none⟩)),.val (.pointer (some ⟨y,0,none⟩)),.val (.bool x.closed),.val (.pointer (some ⟨y,1,none⟩)),.val (.bool x.erase),.sl [.bool x.closed,.bool x.erase],.ptr,.val (.pointer (some ⟨y,2,none⟩)),.val (.int .i64 x.gen),.sl [.int .i64 x.gen],.ptr] base)
      (spG (some e) [(6,[x.closed,x.erase].flatMap benc),(10,[x.gen].flatMap ienc)] pre2 (fun _=>true) W.drew base) (by kernel_rfl) (by kernel_rfl) (by kernel_rfl) e ⟨fun _ h=>(by injection h),EncChg.refl _ _,fun _=>(by simpa[chainL]using hE0)⟩ ?stepsq ?finq
     case stepsq =>
      show StepsTo _ _ _ _ _ _ 11
      refine⟨⟨⟨⟨⟨⟨⟨⟨⟨⟨⟨trivial,?q0⟩,?q1⟩,?q2⟩,?q3⟩,?q4⟩,?q5⟩,?q6⟩,?q7⟩,?q8⟩,?q9⟩,?q10⟩
      case q0 =>
       refine enc_val (x:=.pointer (some ⟨e,0,none⟩)) rfl rfl (.inl rfl) rfl (fun _=>rfl) fun e' L v a w hW hφ hv h0=>?_
       have e3:=h0 3 (by kernel_rfl)
       simp at e3
       go_simp
      case q1 =>
       refine enc_val (x:=.pointer (some ⟨y,0,none⟩)) rfl rfl (.inl rfl) rfl (fun _=>rfl) fun e' L v a w hW hφ hv h0=>?_
       have e10:=h0 10 (by kernel_rfl)
       simp at e10
       go_simp
      case q2 =>
       refine enc_val (x:=.bool x.closed) rfl rfl (.inl rfl) rfl (fun _=>rfl) fun e' L v a w hW hφ hv h0=>?_
       have e106:=hv 1 106 rfl (by kernel_rfl)
       rw[show v 1=_ from hφ 1 (by kernel_rfl)]at e106
       simp at e106
       have hcell:=hcy w hW 0
       simp at hcell
       go_simp
      case q3 =>
       refine enc_val (x:=.pointer (some ⟨y,1,none⟩)) rfl rfl (.inl rfl) rfl (fun _=>rfl) fun e' L v a w hW hφ hv h0=>?_
       have e10:=h0 10 (by kernel_rfl)
       simp at e10
       go_simp
      case q4 =>
       refine enc_val (x:=.bool x.erase) rfl rfl (.inl rfl) rfl (fun _=>rfl) fun e' L v a w hW hφ hv h0=>?_
       have e108:=hv 3 108 rfl (by kernel_rfl)
       rw[show v 3=_ from hφ 3 (by kernel_rfl)]at e108
       simp at e108
       have hcell:=hcy w hW 1
       simp at hcell
       go_simp
      case q5 =>
       refine enc_slice (cs:=#[.bool x.closed,.bool x.erase]) (t:=4) (c:=2) (by decide) rfl rfl rfl rfl (fun _=>rfl) fun e' L v a w hW hφ hv=>?_
       have e107:=hv 2 107 rfl (by kernel_rfl)
       rw[show v 2=_ from hφ 2 (by kernel_rfl)]at e107
       simp at e107
       have e109:=hv 4 109 rfl (by kernel_rfl)
       rw[show v 4=_ from hφ 4 (by kernel_rfl)]at e109
       simp at e109
       go_simp
      case q6 =>
       refine enc_call (f:=89) (bytes:=[x.closed,x.erase].flatMap benc) (before:=[]) (after:=[(10,[x.gen].flatMap ienc)]) rfl rfl rfl rfl rfl (by kernel_rfl) rfl (fun _=>rfl) (fun _ _ _=>rfl) fun e' L v a w hgh hW hn hd hE hφ hv h0=>?_
       have e105:=hv 0 105 rfl (by kernel_rfl)
       rw[show v 0=_ from hφ 0 (by kernel_rfl)]at e105
       simp at e105
       have e110:=hv 5 110 rfl (by kernel_rfl)
       have hsl:SlE w base (v 5) _:=hφ 5 (by kernel_rfl)
       simp at e110
       generalize v 5=sv at e110 hsl
       rw[hgh _ rfl]at hE⊢
       exact⟨#[.pointer (some ⟨e,0,none⟩),sv],by go_simp,eb_any w base e _ hE sv [x.closed,x.erase] (hsl) (by simp) (by have:=benc_length x.closed;have:=benc_length x.erase;have:=ienc_length x.gen;have:=hpl2;simp[chainL];omega)⟩
      case q7 =>
       refine enc_val (x:=.pointer (some ⟨y,2,none⟩)) rfl rfl (.inl rfl) rfl (fun _=>rfl) fun e' L v a w hW hφ hv h0=>?_
       have e10:=h0 10 (by kernel_rfl)
       simp at e10
       go_simp
      case q8 =>
       refine enc_val (x:=.int .i64 x.gen) rfl rfl (.inl rfl) rfl (fun _=>rfl) fun e' L v a w hW hφ hv h0=>?_
       have e112:=hv 7 112 rfl (by kernel_rfl)
       rw[show v 7=_ from hφ 7 (by kernel_rfl)]at e112
       simp at e112
       have hcell:=hcy w hW 2
       simp at hcell
       go_simp
      case q9 =>
       refine enc_slice (cs:=#[.int .i64 x.gen]) (t:=3) (c:=1) (by decide) rfl rfl rfl rfl (fun _=>rfl) fun e' L v a w hW hφ hv=>?_
       have e113:=hv 8 113 rfl (by kernel_rfl)
       rw[show v 8=_ from hφ 8 (by kernel_rfl)]at e113
       simp at e113
       go_simp
      case q10 =>
       refine enc_call (f:=44) (bytes:=[x.gen].flatMap ienc) (before:=[(6,[x.closed,x.erase].flatMap benc)]) (after:=[]) rfl rfl rfl rfl rfl (by kernel_rfl) rfl (fun _=>rfl) (fun _ _ _=>rfl) fun e' L v a w hgh hW hn hd hE hφ hv h0=>?_
       have e111:=hv 6 111 rfl (by kernel_rfl)
       rw[show v 6=_ from hφ 6 (by kernel_rfl)]at e111
       simp at e111
       rw[hgh _ rfl]at e111
       have e114:=hv 9 114 rfl (by kernel_rfl)
       have hsl:SlE w base (v 9) _:=hφ 9 (by kernel_rfl)
       simp at e114
       generalize v 9=sv at e114 hsl
       rw[hgh _ rfl]at hE⊢
       exact⟨#[.pointer (some ⟨e,0,none⟩),sv],by go_simp,ei_any w base e _ hE sv [x.gen] (hsl) (by simp;omega) (by simp) (by have hcl:=chainL_le L [(6,[x.closed,x.erase].flatMap benc)];have:=benc_length x.closed;have:=benc_length x.erase;have:=ienc_length x.gen;have:=hpl2;simp at hcl⊢;omega)⟩
     case finq =>
      intro e' L v w1 hall hG hφ
      obtain⟨hee,hW1,hE1⟩:=hG
      have hee':=hee _ rfl
      replace hE1:=hE1 rfl
      rw[hee',chainL_on (fun c b hm=>hall c (by simp at hm;rcases hm with h|h <;> rw[h.1] <;> decide))]at hE1
      clear hee hee'
      change Exit.inBlock _ (Exit.then _ _) _ (putAll _ v _ 11) w1
      simp only[putAll,dstOf,Act.put]
      simp only[List.getElem?_toArray,List.getElem?_cons_zero,List.getElem?_cons_succ,Option.bind_some,List.setIfInBounds_toArray,List.set_cons_zero,List.set_cons_succ]
      have hT11:EncTo w w1 base e (pre2++vlEnc x):=⟨hTj.1.trans (hXy.drew.trans hW1),by
       have:pre2++vlEnc x=pre2++([(6,[x.closed,x.erase].flatMap benc),(10,[x.gen].flatMap ienc)]).flatMap (·.2):=by simp[vlEnc]
       rw[this];exact hE1⟩
      clear hW1 hE1 hE0 hcy hy hXy hTy hTj hφ hall
      go_wp2_with fail
      go_roundw
      case rel=>exact⟨j+1,by go_num,by omega,by rw[HS.out];exact hT11⟩
      case measure=>simp[intOf];omega
    ·obtain rfl:j=12:=by omega
     have e12:P.vols.take 12=P.vols:=List.take_of_length_le (by omega)
     rw[e12]at hTj
     have hF:EncTo w wr base e P.enc:=hTj
     clear hTj e12 hpl2
     go_wp2_with fail
     refine(bytes_any wr base e P.enc hF.2).mono ?_
     rintro r w3 ⟨rfl,rfl⟩
     go_wp2_with fail
     go_ret
     exact⟨rfl,hF.1.below hle⟩
end Go.Proofs.YtkkbfdencgdbhaaGreatDoor
