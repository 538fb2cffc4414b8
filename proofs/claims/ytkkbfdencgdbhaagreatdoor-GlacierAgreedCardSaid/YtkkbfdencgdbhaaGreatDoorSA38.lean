/-
  Part 38 of what the law leans on.
-/
import Derived.Test.YtkkbfdencgdbhaaGreatDoorSA30
import Derived.Test.YtkkbfdencgdbhaaGreatDoorSA35
import Derived.Test.YtkkbfdencgdbhaaGreatDoorSA36
import Derived.Test.YtkkbfdencgdbhaaGreatDoorSA37
set_option linter.unusedVariables false
set_option linter.unusedSimpArgs false
set_option linter.unusedSectionVars false
namespace Go.Proofs.YtkkbfdencgdbhaaGreatDoor
open Go.RowKit Go.Sort
section
variable{P:Program}{ops:Array Oper}{Q:Exit→Act→World→Prop}{a0:Act}{sp:List Sp}{E0:Option Nat}{items:List (Nat×List UInt8)}{pre:List UInt8}{live:(Nat→Bool)→Bool}{W0:World}{base:Nat}{j:Nat}{o:Oper}
theorem enc_callv{f:FuncId}{x:Value}(ho:ops[j]? = some o)(hg:o.guard=none)(hs:sp.getD j .any=.val x)(hi:(items.all fun x=>x.1 != j)=true)(hl:∀L:Nat→Bool,live (fun i=>i == j||L i)=live L)
 (h:∀(e:Nat) (_L:Nat→Bool) (v:Nat→Value) (a:Act) (w:World),EncChg W0 w base→(∀d,needs ops j d=true→(sp.getD d .any).holds base e (v d) w)→(∀d t,dstOf ops d=some t→needs ops j d=true→a.tmps.getD t undef=v d) →
   ∃args,(execOp a.eval o).run P w=.ok (.enter f args) w∧Calls P f args w fun r w'=>r=.returned x∧Ext w w') :
 StepAt P ops Q a0 (spφ sp base) (spG E0 items pre live W0 base) j:=by
 intro e L v a w hdown hLj hneed hG hφ hval h0
 obtain⟨args,hrun,hcall⟩:=h e L v a w hG.2.1 (fun d hd=>hφ d (hneed d hd)) (fun d t hd hn=>hval d t hd (hneed d hn))
 refine wpOp_calls ho hg hrun (hcall.mono ?_)
 rintro r w' ⟨rfl,hE⟩
 refine⟨_,rfl,_,e,rfl,?_,fun d _ _ hh=>Sp.stays hh (EncChg.ext hE),hG.1,hG.2.1.trans (EncChg.ext hE),fun hlv=>?_⟩
 ·unfold spφ
  rw[hs];rfl
 ·rw[hl]at hlv
  rw[chainL_congr (L':=L) fun c b hm=>by have:=List.all_eq_true.1 hi _ hm;simp at this;simp[this]]
  exact(hG.2.2 hlv).ext hE
end
set_option maxRecDepth 100000 in
set_option maxHeartbeats 16000000 in
theorem mwrite_gen{w:World}{B:Nat→Prop}{m n:Nat}{M:Mach}(h:MachIn w B m M)(hi:MW n M) :
 Calls Tryz.prog 15 #[.pointer (some ⟨m,0,none⟩)] w fun r w'=>r=.returned (.string ⟨M.enc.toArray⟩)∧Ext w w':=by
 obtain⟨c,mb,mn,mc,rows,hM⟩:=h
 obtain⟨base,hbase⟩:∃n,n=w.heap.size:=⟨_,rfl⟩
 have hle:w.heap.size≤base:=by omega
 have hrl:rows.length=M.cl.length:=by rw[←hM.cl];simp
 have hscl:M.scl.length=M.cl.length:=M.scl_perm.length_eq
 have hcl:=hi.len
 have HI:=Lib.hid hi
 have HM:=Lib.hid hM
 go_enter Tryz.func15,Tryz.ntmps15
 go_upto_region 2 with fail
 have hE0:EncAt (w.alloc (.cells #[.slice none 0 0] 63)) base w.heap.size []:=⟨by omega,_,At.new w 63 #[.slice none 0 0],rfl,.inl ⟨rfl,rfl⟩⟩
 have hX0:EncChg w (w.alloc (.cells #[.slice none 0 0] 63)) base:=(EncChg.refl w base).alloc _
 have hMw:=hM.blk.ext ((Ext.refl w).alloc (.cells #[.slice none 0 0] 63))
 generalize w.heap.size=e at hE0 hbase⊢
 generalize w.alloc (.cells #[.slice none 0 0] 63)=w0 at *
 replace hE0:EncAt w0.drew base e []:=hE0.drew
 have hX0:=hX0.drew
 have hM0:At w0 m 81 #[.pointer (some ⟨c,0,none⟩),.map (some mc),.int .i64 M.n]:=hMw
 have hcm:=cells_enc (base:=base) hM0 (by decide)
 have hnum:=hi.num
 have hps:(⟨M.P.enc.toArray⟩:ByteArray).size≤15200:=by
  have:=penc_len hi.cat hi.L
  show M.P.enc.toArray.size≤_
  simpa using this
 have hpl:=senc_length (⟨M.P.enc.toArray⟩:ByteArray)
 have hil:=ienc_length M.n
 have HCW:Hid (∀W,Ext w W→Calls Tryz.prog 46 #[.pointer (some ⟨c,0,none⟩)] W fun r w'=>r=.returned (.string ⟨M.P.enc.toArray⟩)∧Ext W w'):=Lib.hid fun W hE=>cwrite_gen (hM.cat.ext hE) hi.cat hi.L hi.n2
 have HLN:Hid (∀W,Ext w W→(Builtin.len_ #[79] 3 #[.map (some mc)]).run Tryz.prog W=.ok (.int .i64 (M.cl.length:Int)) W):=Lib.hid fun W hE=>by
  have:=(hM.map.ext hE).len (P:=Tryz.prog) map_lasts 3
  rw[hrl]at this
  exact this
 clear hi hM hMw
 go_wp2_with fail
 refine wp_region_phi (Γ := Nat) (spφ [.val (.pointer (some ⟨e,0,none⟩)),.val (.pointer (some ⟨m,0,none⟩)),.val (.pointer (some ⟨m,0,none⟩)),.val (.pointer (some ⟨m,2,none⟩)),.val (.int .i64 M.n),.sl [.int .i64 M.n],.ptr,.val (.pointer (some ⟨m,0,none⟩)),.val (.pointer (some ⟨m,0,none⟩)),.val (.pointer (some ⟨m,0,none⟩)),.val (.pointer (some ⟨c,0,none⟩)),.val (.string ⟨M.P.enc.toArray⟩),.sl [.string ⟨M.P.enc.toArray⟩],.ptr,.val (.pointer (some ⟨m,0,none⟩)),.val (.pointer (some ⟨m,0,none⟩)),.val (.pointer (some ⟨m,1,none⟩)),.val (.map (some mc)),.val (.int .i64 (M.cl.length:Int)),.sl [.int .i64 (M.cl.length:Int)],.ptr] base)
  (spG (some e) [(6,[M.n].flatMap ienc),(13,[(⟨M.P.enc.toArray⟩:ByteArray)].flatMap senc),(20,[(M.cl.length:Int)].flatMap ienc)] [] (fun _=>true) w0.drew base) (by kernel_rfl) (by kernel_rfl) (by kernel_rfl) e ⟨fun _ h=>(by injection h),EncChg.refl _ _,fun _=>(by simpa[chainL]using hE0)⟩ ?stepss ?fins
 case stepss =>
  show StepsTo _ _ _ _ _ _ 21
  refine⟨⟨⟨⟨⟨⟨⟨⟨⟨⟨⟨⟨⟨⟨⟨⟨⟨⟨⟨⟨⟨trivial,?s0⟩,?s1⟩,?s2⟩,?s3⟩,?s4⟩,?s5⟩,?s6⟩,?s7⟩,?s8⟩,?s9⟩,?s10⟩,?s11⟩,?s12⟩,?s13⟩,?s14⟩,?s15⟩,?s16⟩,?s17⟩,?s18⟩,?s19⟩,?s20⟩
  case s0 =>
   refine enc_val (x:=.pointer (some ⟨e,0,none⟩)) rfl rfl (.inl rfl) rfl (fun _=>rfl) fun e' L v a w hW hφ hv h0=>?_
   have e3:=h0 3 (by kernel_rfl)
   simp at e3
   go_simp
  case s1 =>
   refine enc_val (x:=.pointer (some ⟨m,0,none⟩)) rfl rfl (.inl rfl) rfl (fun _=>rfl) fun e' L v a w hW hφ hv h0=>?_
   have e0:=h0 0 (by kernel_rfl)
   simp at e0
   go_simp
  case s2 =>
   refine enc_val (x:=.pointer (some ⟨m,0,none⟩)) rfl rfl (.inl rfl) rfl (fun _=>rfl) fun e' L v a w hW hφ hv h0=>?_
   have e10:=hv 1 10 rfl (by kernel_rfl)
   rw[show v 1=_ from hφ 1 (by kernel_rfl)]at e10
   simp at e10
   go_simp
  case s3 =>
   refine enc_val (x:=.pointer (some ⟨m,2,none⟩)) rfl rfl (.inl rfl) rfl (fun _=>rfl) fun e' L v a w hW hφ hv h0=>?_
   have e11:=hv 2 11 rfl (by kernel_rfl)
   rw[show v 2=_ from hφ 2 (by kernel_rfl)]at e11
   simp at e11
   go_simp
  case s4 =>
   refine enc_val (x:=.int .i64 M.n) rfl rfl (.inl rfl) rfl (fun _=>rfl) fun e' L v a w hW hφ hv h0=>?_
   have e12:=hv 3 12 rfl (by kernel_rfl)
   rw[show v 3=_ from hφ 3 (by kernel_rfl)]at e12
   simp at e12
   have hcell:=hcm w hW 2
   simp at hcell
   go_simp
  case s5 =>
   refine enc_slice (cs:=#[.int .i64 M.n]) (t:=3) (c:=1) (by decide) rfl rfl rfl rfl (fun _=>rfl) fun e' L v a w hW hφ hv=>?_
   have e13:=hv 4 13 rfl (by kernel_rfl)
   rw[show v 4=_ from hφ 4 (by kernel_rfl)]at e13
   simp at e13
   go_simp
  case s6 =>
   refine enc_call (f:=44) (bytes:=[M.n].flatMap ienc) (before:=[]) (after:=[(13,[(⟨M.P.enc.toArray⟩:ByteArray)].flatMap senc),(20,[(M.cl.length:Int)].flatMap ienc)]) rfl rfl rfl rfl rfl (by kernel_rfl) rfl (fun _=>rfl) (fun _ _ _=>rfl) fun e' L v a w hgh hW hn hd hE hφ hv h0=>?_
   have e9:=hv 0 9 rfl (by kernel_rfl)
   rw[show v 0=_ from hφ 0 (by kernel_rfl)]at e9
   simp at e9
   have e14:=hv 5 14 rfl (by kernel_rfl)
   have hsl:SlE w base (v 5) _:=hφ 5 (by kernel_rfl)
   simp at e14
   generalize v 5=sv at e14 hsl
   rw[hgh _ rfl]at hE⊢
   exact⟨#[.pointer (some ⟨e,0,none⟩),sv],by go_simp,ei_any w base e _ hE sv [M.n] (hsl) (by simp;omega) (by simp) (by have:=hpl;have:=hil;have:=hps;simp[chainL] <;> omega)⟩
  case s7 =>
   refine enc_val (x:=.pointer (some ⟨m,0,none⟩)) rfl rfl (.inl rfl) rfl (fun _=>rfl) fun e' L v a w hW hφ hv h0=>?_
   have e0:=h0 0 (by kernel_rfl)
   simp at e0
   go_simp
  case s8 =>
   refine enc_val (x:=.pointer (some ⟨m,0,none⟩)) rfl rfl (.inl rfl) rfl (fun _=>rfl) fun e' L v a w hW hφ hv h0=>?_
   have e16:=hv 7 16 rfl (by kernel_rfl)
   rw[show v 7=_ from hφ 7 (by kernel_rfl)]at e16
   simp at e16
   go_simp
  case s9 =>
   refine enc_val (x:=.pointer (some ⟨m,0,none⟩)) rfl rfl (.inl rfl) rfl (fun _=>rfl) fun e' L v a w hW hφ hv h0=>?_
   have e17:=hv 8 17 rfl (by kernel_rfl)
   rw[show v 8=_ from hφ 8 (by kernel_rfl)]at e17
   simp at e17
   go_simp
  case s10 =>
   refine enc_val (x:=.pointer (some ⟨c,0,none⟩)) rfl rfl (.inl rfl) rfl (fun _=>rfl) fun e' L v a w hW hφ hv h0=>?_
   have e18:=hv 9 18 rfl (by kernel_rfl)
   rw[show v 9=_ from hφ 9 (by kernel_rfl)]at e18
   simp at e18
   have hcell:=hcm w hW 0
   simp at hcell
   go_simp
  case s11 =>
   refine enc_callv (f:=46) (x:=.string ⟨M.P.enc.toArray⟩) rfl rfl rfl rfl (fun _=>rfl) fun e' L v a wi hW hφ hv=>?_
   have e19:=hv 10 19 rfl (by kernel_rfl)
   rw[show v 10=_ from hφ 10 (by kernel_rfl)]at e19
   simp at e19
   exact⟨#[.pointer (some ⟨c,0,none⟩)],by go_simp,HCW.out wi ((hX0.trans hW).below hle)⟩
  case s12 =>
   refine enc_slice (cs:=#[.string ⟨M.P.enc.toArray⟩]) (t:=9) (c:=1) (by decide) rfl rfl rfl rfl (fun _=>rfl) fun e' L v a w hW hφ hv=>?_
   have e20:=hv 11 20 rfl (by kernel_rfl)
   rw[show v 11=_ from hφ 11 (by kernel_rfl)]at e20
   simp at e20
   go_simp
  case s13 =>
   refine enc_call (f:=45) (bytes:=[(⟨M.P.enc.toArray⟩:ByteArray)].flatMap senc) (before:=[(6,[M.n].flatMap ienc)]) (after:=[(20,[(M.cl.length:Int)].flatMap ienc)]) rfl rfl rfl rfl rfl (by kernel_rfl) rfl (fun _=>rfl) (fun _ _ _=>rfl) fun e' L v a w hgh hW hn hd hE hφ hv h0=>?_
   have e15:=hv 6 15 rfl (by kernel_rfl)
   rw[show v 6=_ from hφ 6 (by kernel_rfl)]at e15
   simp at e15
   rw[hgh _ rfl]at e15
   have e21:=hv 12 21 rfl (by kernel_rfl)
   have hsl:SlE w base (v 12) _:=hφ 12 (by kernel_rfl)
   simp at e21
   generalize v 12=sv at e21 hsl
   rw[hgh _ rfl]at hE⊢
   exact⟨#[.pointer (some ⟨e,0,none⟩),sv],by go_simp,es_any w base e _ hE sv [(⟨M.P.enc.toArray⟩:ByteArray)] (hsl) (by simp at hps⊢;omega) (by simp) (by have hcl:=chainL_le L [(6,[M.n].flatMap ienc)];have:=hpl;have:=hil;have:=hps;simp at hcl⊢;omega)⟩
  case s14 =>
   refine enc_val (x:=.pointer (some ⟨m,0,none⟩)) rfl rfl (.inl rfl) rfl (fun _=>rfl) fun e' L v a w hW hφ hv h0=>?_
   have e0:=h0 0 (by kernel_rfl)
   simp at e0
   go_simp
  case s15 =>
   refine enc_val (x:=.pointer (some ⟨m,0,none⟩)) rfl rfl (.inl rfl) rfl (fun _=>rfl) fun e' L v a w hW hφ hv h0=>?_
   have e23:=hv 14 23 rfl (by kernel_rfl)
   rw[show v 14=_ from hφ 14 (by kernel_rfl)]at e23
   simp at e23
   go_simp
  case s16 =>
   refine enc_val (x:=.pointer (some ⟨m,1,none⟩)) rfl rfl (.inl rfl) rfl (fun _=>rfl) fun e' L v a w hW hφ hv h0=>?_
   have e24:=hv 15 24 rfl (by kernel_rfl)
   rw[show v 15=_ from hφ 15 (by kernel_rfl)]at e24
   simp at e24
   go_simp
  case s17 =>
   refine enc_val (x:=.map (some mc)) rfl rfl (.inl rfl) rfl (fun _=>rfl) fun e' L v a w hW hφ hv h0=>?_
   have e25:=hv 16 25 rfl (by kernel_rfl)
   rw[show v 16=_ from hφ 16 (by kernel_rfl)]at e25
   simp at e25
   have hcell:=hcm w hW 1
   simp at hcell
   go_simp
  case s18 =>
   refine enc_val (x:=.int .i64 (M.cl.length:Int)) rfl rfl (.inl rfl) rfl (fun _=>rfl) fun e' L v a wi hW hφ hv h0=>?_
   have e26:=hv 17 26 rfl (by kernel_rfl)
   rw[show v 17=_ from hφ 17 (by kernel_rfl)]at e26
   simp at e26
   have hlen:=HLN.out wi ((hX0.trans hW).below hle)
   simp[execOp,resolve,invoke,builtin,Act.eval,e26,hlen,Result.andThen]
  case s19 =>
   refine enc_slice (cs:=#[.int .i64 (M.cl.length:Int)]) (t:=3) (c:=1) (by decide) rfl rfl rfl rfl (fun _=>rfl) fun e' L v a w hW hφ hv=>?_
   have e27:=hv 18 27 rfl (by kernel_rfl)
   rw[show v 18=_ from hφ 18 (by kernel_rfl)]at e27
   simp at e27
   go_simp
  case s20 =>
   refine enc_call (f:=44) (bytes:=[(M.cl.length:Int)].flatMap ienc) (before:=[(6,[M.n].flatMap ienc),(13,[(⟨M.P.enc.toArray⟩:ByteArray)].flatMap senc)]) (after:=[]) rfl rfl rfl rfl rfl (by kernel_rfl) rfl (fun _=>rfl) (fun _ _ _=>rfl) fun e' L v a w hgh hW hn hd hE hφ hv h0=>?_
   have e22:=hv 13 22 rfl (by kernel_rfl)
   rw[show v 13=_ from hφ 13 (by kernel_rfl)]at e22
   simp at e22
   rw[hgh _ rfl]at e22
   have e28:=hv 19 28 rfl (by kernel_rfl)
   have hsl:SlE w base (v 19) _:=hφ 19 (by kernel_rfl)
   simp at e28
   generalize v 19=sv at e28 hsl
   rw[hgh _ rfl]at hE⊢
   exact⟨#[.pointer (some ⟨e,0,none⟩),sv],by go_simp,ei_any w base e _ hE sv [(M.cl.length:Int)] (hsl) (by simp;omega) (by simp) (by have hcl:=chainL_le L [(6,[M.n].flatMap ienc),(13,[(⟨M.P.enc.toArray⟩:ByteArray)].flatMap senc)];have:=hpl;have:=hil;have:=hps;simp at hcl⊢;omega)⟩
 case fins =>
  intro e' L v w1 hall hG hφ
  obtain⟨hee,hW1,hE1⟩:=hG
  have hee':=hee _ rfl
  replace hE1:=hE1 rfl
  rw[hee',chainL_on (fun c b hm=>hall c (by simp at hm;rcases hm with h|h|h <;> rw[h.1] <;> decide))]at hE1
  clear hee hee'
  change Exit.then _ _ _ (putAll _ v _ 21) w1
  simp only[putAll,dstOf,Act.put]
  simp only[List.getElem?_toArray,List.getElem?_cons_zero,List.getElem?_cons_succ,Option.bind_some,List.setIfInBounds_toArray,List.set_cons_zero,List.set_cons_succ]
  have hT:EncTo w w1 base e M.head:=⟨hX0.trans hW1,by
   have:M.head=[]++([(6,[M.n].flatMap ienc),(13,[(⟨M.P.enc.toArray⟩:ByteArray)].flatMap senc),(20,[(M.cl.length:Int)].flatMap ienc)]).flatMap (·.2):=by simp[Mach.head]
   rw[this];exact hE1⟩
  have HNM:=Lib.hid hnum
  clear hW1 hE1 hE0 hcm hX0 hM0 hnum hps hpl hil HCW HLN hφ hall
  have hM1:=HM.out.ext (hT.1.below hle)
  obtain⟨_,c1,_,_⟩:=hM1.cells
  have HK:=Lib.hid (callsIn_wide.1 (ikeysU_in Fence.wide 1 trivial rfl (some mc) w1))
  have hX:=At.new w1 79 #[.map (some mc)]
  have hE:=(Ext.refl w1).alloc (.cells #[.map (some mc)] 79)
  have HS:=Lib.hid (isortedu_any w1.heap.size mc rows (M.scl.map (·.1)) (w1.alloc (.cells #[.map (some mc)] 79)) (hX.cell 0) (hM1.map.ext hE) (Mach.scl_asc HI.out.nd) (by
   have h1:rows.map (·.1)=M.cl.map (·.1):=by rw[←hM1.cl,List.map_map];rfl
   rw[h1]
   exact M.scl_perm.map _) (by rw[List.length_map];omega))
  rw[List.length_map]at HS
  clear hX hM1
  go_wp2_with fail
  refine HK.out.mono ?_
  rintro r w2 ⟨rfl,rfl⟩
  go_wp2_with fail
  refine HS.out.mono ?_
  rintro r w3 ⟨iv,rfl,hO,hE3⟩
  obtain⟨iA,ic,rfl⟩:=own_slc hO
  replace hO:=own_base0 hO
  have hT3:EncTo w w3 base e M.head:=⟨hT.1.trans (EncChg.ext (hE.trans hE3)),hT.2.ext (hE.trans hE3)⟩
  clear HK HS hE hE3 hT c1
  go_wp2_with fail
  go_loopw [37] (fun kv wr=>∃i:Nat,kv=.int .i64 (i:Int)∧i≤M.scl.length∧EncTo w wr base e (M.head++(M.scl.take i).flatMap lastEnc)∧wr.ownsRow 0 3 1 (.slice iA M.scl.length ic) M.scl.length ((M.scl.map (·.1)).map (Value.int .i64))) (fun kv _=>M.scl.length - (intOf kv).toNat)
  case atStart=>exact⟨0,rfl,Nat.zero_le _,by simpa using hT3,hO⟩
  case round =>
   clear hT3 hO
   obtain⟨i,rfl,hi,hT,hO⟩:=hrel
   have hMk:=HM.out.ext (hT.1.below hle)
   by_cases hlt:i<M.scl.length
   ·obtain⟨⟨k,l⟩,hp⟩:∃p,M.scl[i]? = some p:=⟨_,List.getElem?_eq_getElem hlt⟩
    obtain⟨hg,hmem⟩:=scl_get HI.out hp
    obtain⟨hk1,hk2,hrk⟩:=HI.out.cl _ hmem
    simp only at hg hk1 hk2 hrk
    have hr:=rows_get hMk.cl k
    rw[hg,Option.map_eq_some_iff]at hr
    obtain⟨⟨l',nv⟩,hlk,hl'⟩:=hr
    simp only at hl'
    subst hl'
    have hno:=hMk.nms _ (lget_mem hlk)
    simp only at hno
    obtain⟨nA,nc,rfl⟩:=own_slc hno
    have hlook:=hMk.look0 k
    rw[hlk]at hlook
    simp only[Option.elim,lastV]at hlook
    obtain⟨_,c1,_,_⟩:=hMk.cells
    have hic:∃ib,iA=some ⟨ib,0,none⟩:=by
     rcases hO.2 with⟨e,h0⟩|⟨g,cap,cur,e,_⟩
     ·omega
     ·injection e with e1 _ _;exact⟨g,e1⟩
    obtain⟨ib,rfl⟩:=hic
    have i1:=hO.cellAt i (by simpa using hlt)
    rw[List.getElem?_map,List.getElem?_map,hp]at i1
    simp only[Option.map_some]at i1
    have HRK:=Lib.hid hrk
    have HRG:=Lib.hid (And.intro hk1 hk2)
    have HL8:Hid ((ienc k).length≤10∧(ienc l'.seq).length≤10∧(ienc l'.r.err).length≤10∧(uenc l'.r.blob).length≤10∧(ienc l'.r.size).length≤10∧(uenc l'.r.sum).length≤10∧(ienc (l'.r.names.length:Int)).length≤10):=Lib.hid ⟨ienc_length _,ienc_length _,ienc_length _,uenc_length _,ienc_length _,uenc_length _,ienc_length _⟩
    have HST:Hid (M.head++(M.scl.take (i+1)).flatMap lastEnc=(M.head++(M.scl.take i).flatMap lastEnc)++lastEnc (k,l')):=Lib.hid (enc_step hp lastEnc _)
    have hpl2:=menc_pre HI.out i
    generalize M.head++(M.scl.take i).flatMap lastEnc=pre at hT HST hpl2
    clear hp hg hmem hk1 hk2 hrk hlk hMk
    have hL:=At.new wr 86 #[.int .i64 l'.seq,.int .i64 l'.r.err,.int .u64 (l'.r.blob:Int),.int .i64 l'.r.size,.int .u32 (l'.r.sum:Int),.slice nA l'.r.names.length nc]
    have hEl:=(Ext.refl wr).alloc (.cells #[.int .i64 l'.seq,.int .i64 l'.r.err,.int .u64 (l'.r.blob:Int),.int .i64 l'.r.size,.int .u32 (l'.r.sum:Int),.slice nA l'.r.names.length nc] 86)
    go_upto_region 7 with fail
    clear i1 c1 hlook
    generalize wr.heap.size=lb at hL⊢
    generalize wr.alloc (.cells _ 86)=W2 at hL hEl⊢
    have hlr:W2.rangeAt lb 1 (#[.int .i64 l'.r.err,.int .u64 (l'.r.blob:Int),.int .i64 l'.r.size,.int .u32 (l'.r.sum:Int),.slice nA l'.r.names.length nc]:Array Value).toList:=fun j u hu=>by
     have hj:=(List.getElem?_eq_some_iff.1 hu).1
     have:=hL.cell (1+j)
     rw[this]
     rw[←hu]
     match j,hj with
     | 0,_=>rfl
     | 1,_=>rfl
     | 2,_=>rfl
     | 3,_=>rfl
     | 4,_=>rfl
    have HLR:=Lib.hid hlr
    have hR:=At.new W2 34 #[.int .i64 l'.r.err,.int .u64 (l'.r.blob:Int),.int .i64 l'.r.size,.int .u32 (l'.r.sum:Int),.slice nA l'.r.names.length nc]
    have hEr:=(Ext.refl W2).alloc (.cells #[.int .i64 l'.r.err,.int .u64 (l'.r.blob:Int),.int .i64 l'.r.size,.int .u32 (l'.r.sum:Int),.slice nA l'.r.names.length nc] 34)
    clear hlr
    go_upto_region 8 with(refine wpList_load_mid rfl 34 _ rfl lb 1 rfl _ _ HLR.out Tryz.underlying34 rfl cres_info ?_)
    clear HLR
    generalize W2.heap.size=rb at hR⊢
    generalize W2.alloc (.cells _ 34)=W3 at hR hEr⊢
    have hX3:EncChg wr W3 base:=EncChg.ext (hEl.trans hEr)
    have hL3:=hL.ext hEr
    have hn3:=own_keep hno (hEl.trans hEr) (fun _ _ hh=>hh)
    have hO3:=own_keep hO (hEl.trans hEr) (fun _ _ hh=>hh)
    have hE0:EncAt W3.drew base e pre:=(hT.2.ext (hEl.trans hEr)).drew
    have hT1:=hT.1
    clear hL hEl hEr hno hO hT
    have hcl:=cells_enc (base:=base) hL3 (by decide)
    have hcr:=cells_enc (base:=base) hR (by decide)
    have hSn:∀w',EncChg W3.drew w' base→SlE w' base (.slice nA l'.r.names.length nc) (l'.r.names.map Value.string):=fun w' hc=>((own_sle hn3 (by decide)).ext (Ext.refl W3).drew).chg hc
    go_wp2_with fail
    refine wp_region_phi (Γ := Nat) (spφ [.val (.pointer (some ⟨e,0,none⟩)),.val (.int .i64 k),.val (.pointer (some ⟨lb,0,none⟩)),.val (.int .i64 l'.seq),.val (.pointer (some ⟨rb,0,none⟩)),.val (.int .i64 l'.r.err),.sl [.int .i64 k,.int .i64 l'.seq,.int .i64 l'.r.err],.ptr,.val (.pointer (some ⟨rb,1,none⟩)),.val (.int .u64 (l'.r.blob:Int)),.sl [.int .u64 (l'.r.blob:Int)],.ptr,.val (.pointer (some ⟨rb,2,none⟩)),.val (.int .i64 l'.r.size),.sl [.int .i64 l'.r.size],.ptr,.val (.pointer (some ⟨rb,3,none⟩)),.val (.int .u32 (l'.r.sum:Int)),.val (.int .u64 (l'.r.sum:Int)),.sl [.int .u64 (l'.r.sum:Int)],.ptr,.val (.pointer (some ⟨rb,4,none⟩)),.val (.slice nA l'.r.names.length nc),.val (.int .i64 (l'.r.names.length:Int)),.sl [.int .i64 (l'.r.names.length:Int)],.ptr,.val (.pointer (some ⟨rb,4,none⟩)),.val (.slice nA l'.r.names.length nc),.ptr] base)
     (spG (some e) [(7,[k,l'.seq,l'.r.err].flatMap ienc),(11,[l'.r.blob].flatMap uenc),(15,[l'.r.size].flatMap ienc),(20,[l'.r.sum].flatMap uenc),(25,[(l'.r.names.length:Int)].flatMap ienc),(28,l'.r.names.flatMap senc)] pre (fun _=>true) W3.drew base) (by kernel_rfl) (by kernel_rfl) (by kernel_rfl) e ⟨fun _ h=>(by injection h),EncChg.refl _ _,fun _=>(by simpa[chainL]using hE0)⟩ ?stepsq ?finq
    case stepsq =>
     show StepsTo _ _ _ _ _ _ 29
     refine⟨⟨⟨⟨⟨⟨⟨⟨⟨⟨⟨⟨⟨⟨⟨⟨⟨⟨⟨⟨⟨⟨⟨⟨⟨⟨⟨⟨⟨trivial,?q0⟩,?q1⟩,?q2⟩,?q3⟩,?q4⟩,?q5⟩,?q6⟩,?q7⟩,?q8⟩,?q9⟩,?q10⟩,?q11⟩,?q12⟩,?q13⟩,?q14⟩,?q15⟩,?q16⟩,?q17⟩,?q18⟩,?q19⟩,?q20⟩,?q21⟩,?q22⟩,?q23⟩,?q24⟩,?q25⟩,?q26⟩,?q27⟩,?q28⟩
     case q0 =>
      refine enc_val (x:=.pointer (some ⟨e,0,none⟩)) rfl rfl (.inl rfl) rfl (fun _=>rfl) fun e' L v a w hW hφ hv h0=>?_
      have e3:=h0 3 (by kernel_rfl)
      simp at e3
      go_simp
     case q1 =>
      refine enc_val (x:=.int .i64 k) rfl rfl (.inl rfl) rfl (fun _=>rfl) fun e' L v a w hW hφ hv h0=>?_
      have e5:=h0 5 (by kernel_rfl)
      simp at e5
      go_simp
     case q2 =>
      refine enc_val (x:=.pointer (some ⟨lb,0,none⟩)) rfl rfl (.inl rfl) rfl (fun _=>rfl) fun e' L v a w hW hφ hv h0=>?_
      have e6:=h0 6 (by kernel_rfl)
      simp at e6
      go_simp
     case q3 =>
      refine enc_val (x:=.int .i64 l'.seq) rfl rfl (.inl rfl) rfl (fun _=>rfl) fun e' L v a w hW hφ hv h0=>?_
      have e51:=hv 2 51 rfl (by kernel_rfl)
      rw[show v 2=_ from hφ 2 (by kernel_rfl)]at e51
      simp at e51
      have hcell:=hcl w hW 0
      simp at hcell
      go_simp
     case q4 =>
      refine enc_val (x:=.pointer (some ⟨rb,0,none⟩)) rfl rfl (.inl rfl) rfl (fun _=>rfl) fun e' L v a w hW hφ hv h0=>?_
      have e7:=h0 7 (by kernel_rfl)
      simp at e7
      go_simp
     case q5 =>
      refine enc_val (x:=.int .i64 l'.r.err) rfl rfl (.inl rfl) rfl (fun _=>rfl) fun e' L v a w hW hφ hv h0=>?_
      have e53:=hv 4 53 rfl (by kernel_rfl)
      rw[show v 4=_ from hφ 4 (by kernel_rfl)]at e53
      simp at e53
      have hcell:=hcr w hW 0
      simp at hcell
      go_simp
     case q6 =>
      refine enc_slice (cs:=#[.int .i64 k,.int .i64 l'.seq,.int .i64 l'.r.err]) (t:=3) (c:=3) (by decide) rfl rfl rfl rfl (fun _=>rfl) fun e' L v a w hW hφ hv=>?_
      have e50:=hv 1 50 rfl (by kernel_rfl)
      rw[show v 1=_ from hφ 1 (by kernel_rfl)]at e50
      simp at e50
      have e52:=hv 3 52 rfl (by kernel_rfl)
      rw[show v 3=_ from hφ 3 (by kernel_rfl)]at e52
      simp at e52
      have e54:=hv 5 54 rfl (by kernel_rfl)
      rw[show v 5=_ from hφ 5 (by kernel_rfl)]at e54
      simp at e54
      go_simp
     case q7 =>
      refine enc_call (f:=44) (bytes:=[k,l'.seq,l'.r.err].flatMap ienc) (before:=[]) (after:=[(11,[l'.r.blob].flatMap uenc),(15,[l'.r.size].flatMap ienc),(20,[l'.r.sum].flatMap uenc),(25,[(l'.r.names.length:Int)].flatMap ienc),(28,l'.r.names.flatMap senc)]) rfl rfl rfl rfl rfl (by kernel_rfl) rfl (fun _=>rfl) (fun _ _ _=>rfl) fun e' L v a w hgh hW hn hd hE hφ hv h0=>?_
      have e49:=hv 0 49 rfl (by kernel_rfl)
      rw[show v 0=_ from hφ 0 (by kernel_rfl)]at e49
      simp at e49
      have e55:=hv 6 55 rfl (by kernel_rfl)
      have hsl:SlE w base (v 6) _:=hφ 6 (by kernel_rfl)
      simp at e55
      generalize v 6=sv at e55 hsl
      rw[hgh _ rfl]at hE⊢
      exact⟨#[.pointer (some ⟨e,0,none⟩),sv],by go_simp,ei_any w base e _ hE sv [k,l'.seq,l'.r.err] (hsl) (by simp;have:=HRG.out;have:=HRK.out.err;omega) (by simp) (by have:=HL8.out.1;have:=HL8.out.2.1;have:=HL8.out.2.2.1;have:=HL8.out.2.2.2.1;have:=HL8.out.2.2.2.2.1;have:=HL8.out.2.2.2.2.2.1;have:=HL8.out.2.2.2.2.2.2;have:=hpl2;have:=HRK.out.len;simp[chainL] <;> omega)⟩
     case q8 =>
      refine enc_val (x:=.pointer (some ⟨rb,1,none⟩)) rfl rfl (.inl rfl) rfl (fun _=>rfl) fun e' L v a w hW hφ hv h0=>?_
      have e7:=h0 7 (by kernel_rfl)
      simp at e7
      go_simp
     case q9 =>
      refine enc_val (x:=.int .u64 (l'.r.blob:Int)) rfl rfl (.inl rfl) rfl (fun _=>rfl) fun e' L v a w hW hφ hv h0=>?_
      have e57:=hv 8 57 rfl (by kernel_rfl)
      rw[show v 8=_ from hφ 8 (by kernel_rfl)]at e57
      simp at e57
      have hcell:=hcr w hW 1
      simp at hcell
      go_simp
     case q10 =>
      refine enc_slice (cs:=#[.int .u64 (l'.r.blob:Int)]) (t:=30) (c:=1) (by decide) rfl rfl rfl rfl (fun _=>rfl) fun e' L v a w hW hφ hv=>?_
      have e58:=hv 9 58 rfl (by kernel_rfl)
      rw[show v 9=_ from hφ 9 (by kernel_rfl)]at e58
      simp at e58
      go_simp
     case q11 =>
      refine enc_call (f:=21) (bytes:=[l'.r.blob].flatMap uenc) (before:=[(7,[k,l'.seq,l'.r.err].flatMap ienc)]) (after:=[(15,[l'.r.size].flatMap ienc),(20,[l'.r.sum].flatMap uenc),(25,[(l'.r.names.length:Int)].flatMap ienc),(28,l'.r.names.flatMap senc)]) rfl rfl rfl rfl rfl (by kernel_rfl) rfl (fun _=>rfl) (fun _ _ _=>rfl) fun e' L v a w hgh hW hn hd hE hφ hv h0=>?_
      have e56:=hv 7 56 rfl (by kernel_rfl)
      rw[show v 7=_ from hφ 7 (by kernel_rfl)]at e56
      simp at e56
      rw[hgh _ rfl]at e56
      have e59:=hv 10 59 rfl (by kernel_rfl)
      have hsl:SlE w base (v 10) _:=hφ 10 (by kernel_rfl)
      simp at e59
      generalize v 10=sv at e59 hsl
      rw[hgh _ rfl]at hE⊢
      exact⟨#[.pointer (some ⟨e,0,none⟩),sv],by go_simp,eu_any w base e _ hE sv [l'.r.blob] (hsl) (by simp;exact HRK.out.blob) (by simp) (by have hcl:=chainL_le L [(7,[k,l'.seq,l'.r.err].flatMap ienc)];have:=HL8.out.1;have:=HL8.out.2.1;have:=HL8.out.2.2.1;have:=HL8.out.2.2.2.1;have:=HL8.out.2.2.2.2.1;have:=HL8.out.2.2.2.2.2.1;have:=HL8.out.2.2.2.2.2.2;have:=hpl2;have:=HRK.out.len;simp at hcl⊢;omega)⟩
     case q12 =>
      refine enc_val (x:=.pointer (some ⟨rb,2,none⟩)) rfl rfl (.inl rfl) rfl (fun _=>rfl) fun e' L v a w hW hφ hv h0=>?_
      have e7:=h0 7 (by kernel_rfl)
      simp at e7
      go_simp
     case q13 =>
      refine enc_val (x:=.int .i64 l'.r.size) rfl rfl (.inl rfl) rfl (fun _=>rfl) fun e' L v a w hW hφ hv h0=>?_
      have e61:=hv 12 61 rfl (by kernel_rfl)
      rw[show v 12=_ from hφ 12 (by kernel_rfl)]at e61
      simp at e61
      have hcell:=hcr w hW 2
      simp at hcell
      go_simp
     case q14 =>
      refine enc_slice (cs:=#[.int .i64 l'.r.size]) (t:=3) (c:=1) (by decide) rfl rfl rfl rfl (fun _=>rfl) fun e' L v a w hW hφ hv=>?_
      have e62:=hv 13 62 rfl (by kernel_rfl)
      rw[show v 13=_ from hφ 13 (by kernel_rfl)]at e62
      simp at e62
      go_simp
     case q15 =>
      refine enc_call (f:=44) (bytes:=[l'.r.size].flatMap ienc) (before:=[(7,[k,l'.seq,l'.r.err].flatMap ienc),(11,[l'.r.blob].flatMap uenc)]) (after:=[(20,[l'.r.sum].flatMap uenc),(25,[(l'.r.names.length:Int)].flatMap ienc),(28,l'.r.names.flatMap senc)]) rfl rfl rfl rfl rfl (by kernel_rfl) rfl (fun _=>rfl) (fun _ _ _=>rfl) fun e' L v a w hgh hW hn hd hE hφ hv h0=>?_
      have e60:=hv 11 60 rfl (by kernel_rfl)
      rw[show v 11=_ from hφ 11 (by kernel_rfl)]at e60
      simp at e60
      rw[hgh _ rfl]at e60
      have e63:=hv 14 63 rfl (by kernel_rfl)
      have hsl:SlE w base (v 14) _:=hφ 14 (by kernel_rfl)
      simp at e63
      generalize v 14=sv at e63 hsl
      rw[hgh _ rfl]at hE⊢
      exact⟨#[.pointer (some ⟨e,0,none⟩),sv],by go_simp,ei_any w base e _ hE sv [l'.r.size] (hsl) (by simp;have:=HRK.out.size;omega) (by simp) (by have hcl:=chainL_le L [(7,[k,l'.seq,l'.r.err].flatMap ienc),(11,[l'.r.blob].flatMap uenc)];have:=HL8.out.1;have:=HL8.out.2.1;have:=HL8.out.2.2.1;have:=HL8.out.2.2.2.1;have:=HL8.out.2.2.2.2.1;have:=HL8.out.2.2.2.2.2.1;have:=HL8.out.2.2.2.2.2.2;have:=hpl2;have:=HRK.out.len;simp at hcl⊢;omega)⟩
     case q16 =>
      refine enc_val (x:=.pointer (some ⟨rb,3,none⟩)) rfl rfl (.inl rfl) rfl (fun _=>rfl) fun e' L v a w hW hφ hv h0=>?_
      have e7:=h0 7 (by kernel_rfl)
      simp at e7
      go_simp
     case q17 =>
      refine enc_val (x:=.int .u32 (l'.r.sum:Int)) rfl rfl (.inl rfl) rfl (fun _=>rfl) fun e' L v a w hW hφ hv h0=>?_
      have e65:=hv 16 65 rfl (by kernel_rfl)
      rw[show v 16=_ from hφ 16 (by kernel_rfl)]at e65
      simp at e65
      have hcell:=hcr w hW 3
      simp at hcell
      go_simp
     case q18 =>
      refine enc_val (x:=.int .u64 (l'.r.sum:Int)) rfl rfl (.inl rfl) rfl (fun _=>rfl) fun e' L v a w hW hφ hv h0=>?_
      have e66:=hv 17 66 rfl (by kernel_rfl)
      rw[show v 17=_ from hφ 17 (by kernel_rfl)]at e66
      simp at e66
      have hw:=u64_inE (x:=l'.r.sum) (by have:=HRK.out.sum;omega)
      go_simp
     case q19 =>
      refine enc_slice (cs:=#[.int .u64 (l'.r.sum:Int)]) (t:=30) (c:=1) (by decide) rfl rfl rfl rfl (fun _=>rfl) fun e' L v a w hW hφ hv=>?_
      have e67:=hv 18 67 rfl (by kernel_rfl)
      rw[show v 18=_ from hφ 18 (by kernel_rfl)]at e67
      simp at e67
      go_simp
     case q20 =>
      refine enc_call (f:=21) (bytes:=[l'.r.sum].flatMap uenc) (before:=[(7,[k,l'.seq,l'.r.err].flatMap ienc),(11,[l'.r.blob].flatMap uenc),(15,[l'.r.size].flatMap ienc)]) (after:=[(25,[(l'.r.names.length:Int)].flatMap ienc),(28,l'.r.names.flatMap senc)]) rfl rfl rfl rfl rfl (by kernel_rfl) rfl (fun _=>rfl) (fun _ _ _=>rfl) fun e' L v a w hgh hW hn hd hE hφ hv h0=>?_
      have e64:=hv 15 64 rfl (by kernel_rfl)
      rw[show v 15=_ from hφ 15 (by kernel_rfl)]at e64
      simp at e64
      rw[hgh _ rfl]at e64
      have e68:=hv 19 68 rfl (by kernel_rfl)
      have hsl:SlE w base (v 19) _:=hφ 19 (by kernel_rfl)
      simp at e68
      generalize v 19=sv at e68 hsl
      rw[hgh _ rfl]at hE⊢
      exact⟨#[.pointer (some ⟨e,0,none⟩),sv],by go_simp,eu_any w base e _ hE sv [l'.r.sum] (hsl) (by simp;have:=HRK.out.sum;omega) (by simp) (by have hcl:=chainL_le L [(7,[k,l'.seq,l'.r.err].flatMap ienc),(11,[l'.r.blob].flatMap uenc),(15,[l'.r.size].flatMap ienc)];have:=HL8.out.1;have:=HL8.out.2.1;have:=HL8.out.2.2.1;have:=HL8.out.2.2.2.1;have:=HL8.out.2.2.2.2.1;have:=HL8.out.2.2.2.2.2.1;have:=HL8.out.2.2.2.2.2.2;have:=hpl2;have:=HRK.out.len;simp at hcl⊢;omega)⟩
     case q21 =>
      refine enc_val (x:=.pointer (some ⟨rb,4,none⟩)) rfl rfl (.inl rfl) rfl (fun _=>rfl) fun e' L v a w hW hφ hv h0=>?_
      have e7:=h0 7 (by kernel_rfl)
      simp at e7
      go_simp
     case q22 =>
      refine enc_val (x:=.slice nA l'.r.names.length nc) rfl rfl (.inl rfl) rfl (fun _=>rfl) fun e' L v a w hW hφ hv h0=>?_
      have e70:=hv 21 70 rfl (by kernel_rfl)
      rw[show v 21=_ from hφ 21 (by kernel_rfl)]at e70
      simp at e70
      have hcell:=hcr w hW 4
      simp at hcell
      go_simp
     case q23 =>
      refine enc_val (x:=.int .i64 (l'.r.names.length:Int)) rfl rfl (.inl rfl) rfl (fun _=>rfl) fun e' L v a wi hW hφ hv h0=>?_
      have e71:=hv 22 71 rfl (by kernel_rfl)
      rw[show v 22=_ from hφ 22 (by kernel_rfl)]at e71
      simp at e71
      go_simp
     case q24 =>
      refine enc_slice (cs:=#[.int .i64 (l'.r.names.length:Int)]) (t:=3) (c:=1) (by decide) rfl rfl rfl rfl (fun _=>rfl) fun e' L v a w hW hφ hv=>?_
      have e72:=hv 23 72 rfl (by kernel_rfl)
      rw[show v 23=_ from hφ 23 (by kernel_rfl)]at e72
      simp at e72
      go_simp
     case q25 =>
      refine enc_call (f:=44) (bytes:=[(l'.r.names.length:Int)].flatMap ienc) (before:=[(7,[k,l'.seq,l'.r.err].flatMap ienc),(11,[l'.r.blob].flatMap uenc),(15,[l'.r.size].flatMap ienc),(20,[l'.r.sum].flatMap uenc)]) (after:=[(28,l'.r.names.flatMap senc)]) rfl rfl rfl rfl rfl (by kernel_rfl) rfl (fun _=>rfl) (fun _ _ _=>rfl) fun e' L v a w hgh hW hn hd hE hφ hv h0=>?_
      have e69:=hv 20 69 rfl (by kernel_rfl)
      rw[show v 20=_ from hφ 20 (by kernel_rfl)]at e69
      simp at e69
      rw[hgh _ rfl]at e69
      have e73:=hv 24 73 rfl (by kernel_rfl)
      have hsl:SlE w base (v 24) _:=hφ 24 (by kernel_rfl)
      simp at e73
      generalize v 24=sv at e73 hsl
      rw[hgh _ rfl]at hE⊢
      exact⟨#[.pointer (some ⟨e,0,none⟩),sv],by go_simp,ei_any w base e _ hE sv [(l'.r.names.length:Int)] (hsl) (by simp;have:=HRK.out.len;omega) (by simp) (by have hcl:=chainL_le L [(7,[k,l'.seq,l'.r.err].flatMap ienc),(11,[l'.r.blob].flatMap uenc),(15,[l'.r.size].flatMap ienc),(20,[l'.r.sum].flatMap uenc)];have:=HL8.out.1;have:=HL8.out.2.1;have:=HL8.out.2.2.1;have:=HL8.out.2.2.2.1;have:=HL8.out.2.2.2.2.1;have:=HL8.out.2.2.2.2.2.1;have:=HL8.out.2.2.2.2.2.2;have:=hpl2;have:=HRK.out.len;simp at hcl⊢;omega)⟩
     case q26 =>
      refine enc_val (x:=.pointer (some ⟨rb,4,none⟩)) rfl rfl (.inl rfl) rfl (fun _=>rfl) fun e' L v a w hW hφ hv h0=>?_
      have e7:=h0 7 (by kernel_rfl)
      simp at e7
      go_simp
     case q27 =>
      refine enc_val (x:=.slice nA l'.r.names.length nc) rfl rfl (.inl rfl) rfl (fun _=>rfl) fun e' L v a w hW hφ hv h0=>?_
      have e75:=hv 26 75 rfl (by kernel_rfl)
      rw[show v 26=_ from hφ 26 (by kernel_rfl)]at e75
      simp at e75
      have hcell:=hcr w hW 4
      simp at hcell
      go_simp
     case q28 =>
      refine enc_call (f:=45) (bytes:=l'.r.names.flatMap senc) (before:=[(7,[k,l'.seq,l'.r.err].flatMap ienc),(11,[l'.r.blob].flatMap uenc),(15,[l'.r.size].flatMap ienc),(20,[l'.r.sum].flatMap uenc),(25,[(l'.r.names.length:Int)].flatMap ienc)]) (after:=[]) rfl rfl rfl rfl rfl (by kernel_rfl) rfl (fun _=>rfl) (fun _ _ _=>rfl) fun e' L v a w hgh hW hn hd hE hφ hv h0=>?_
      have e74:=hv 25 74 rfl (by kernel_rfl)
      rw[show v 25=_ from hφ 25 (by kernel_rfl)]at e74
      simp at e74
      rw[hgh _ rfl]at e74
      have e76:=hv 27 76 rfl (by kernel_rfl)
      rw[show v 27=_ from hφ 27 (by kernel_rfl)]at e76
      simp at e76
      rw[hgh _ rfl]at hE⊢
      exact⟨#[.pointer (some ⟨e,0,none⟩),.slice nA l'.r.names.length nc],by go_simp,es_any w base e _ hE (.slice nA l'.r.names.length nc) l'.r.names (hSn w hW) (fun m hm=>by have:=HRK.out.nm m hm;omega) (by have:=HRK.out.len;omega) (by have hcl:=chainL_le L [(7,[k,l'.seq,l'.r.err].flatMap ienc),(11,[l'.r.blob].flatMap uenc),(15,[l'.r.size].flatMap ienc),(20,[l'.r.sum].flatMap uenc),(25,[(l'.r.names.length:Int)].flatMap ienc)];have:=HL8.out.1;have:=HL8.out.2.1;have:=HL8.out.2.2.1;have:=HL8.out.2.2.2.1;have:=HL8.out.2.2.2.2.1;have:=HL8.out.2.2.2.2.2.1;have:=HL8.out.2.2.2.2.2.2;have:=hpl2;have:=HRK.out.len;simp at hcl⊢;omega)⟩
    case finq =>
     intro e' L v wz hall hG hφ
     obtain⟨hee,hW1,hE1⟩:=hG
     have hee':=hee _ rfl
     replace hE1:=hE1 rfl
     rw[hee',chainL_on (fun c b hm=>hall c (by simp at hm;rcases hm with h|h|h|h|h|h <;> rw[h.1] <;> decide))]at hE1
     clear hee hee'
     change Exit.inBlock _ (Exit.then _ _) _ (putAll _ v _ 29) wz
     simp only[putAll,dstOf,Act.put]
     simp only[List.getElem?_toArray,List.getElem?_cons_zero,List.getElem?_cons_succ,Option.bind_some,List.setIfInBounds_toArray,List.set_cons_zero,List.set_cons_succ]
     have hT8:EncTo w wz base e (pre++lastEnc (k,l')):=⟨hT1.trans (hX3.drew.trans hW1),by
      have:pre++lastEnc (k,l')=pre++([(7,[k,l'.seq,l'.r.err].flatMap ienc),(11,[l'.r.blob].flatMap uenc),(15,[l'.r.size].flatMap ienc),(20,[l'.r.sum].flatMap uenc),(25,[(l'.r.names.length:Int)].flatMap ienc),(28,l'.r.names.flatMap senc)]).flatMap (·.2):=by simp[lastEnc,lastA]
      rw[this];exact hE1⟩
     have hO8:=own_enc hO3 (by decide) ((EncChg.refl W3 base).drew.trans hW1)
     clear hW1 hE1 hE0 hcl hcr hSn hX3 hL3 hR hn3 hO3 hT1 hφ hall hpl2
     go_wp2_with fail
     go_roundw
     case rel=>exact⟨i+1,by go_num,by omega,by rw[HST.out];exact hT8,hO8⟩
     case measure=>simp[intOf];omega
   ·obtain rfl:i=M.scl.length:=by omega
    rw[List.take_length]at hT
    have hF:EncTo w wr base e M.enc:=hT
    clear hT hO hMk
    go_wp2_with fail
    refine(bytes_any wr base e M.enc hF.2).mono ?_
    rintro r w3 ⟨rfl,rfl⟩
    go_wp2_with fail
    go_ret
    exact⟨rfl,hF.1.below hle⟩
theorem mwrite_any{w:World}{B:Nat→Prop}{m n:Nat}{M:Mach}(h:MachIn w B m M)(hi:MInv n M)(hn:n<50) :
 Calls Tryz.prog 15 #[.pointer (some ⟨m,0,none⟩)] w fun r w'=>r=.returned (.string ⟨M.enc.toArray⟩)∧Ext w w' :=
 mwrite_gen h (hi.w hn)
end Go.Proofs.YtkkbfdencgdbhaaGreatDoor
