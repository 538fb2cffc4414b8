/-
  Part 33 of what the law leans on.
-/
import Derived.Test.YtkkbfdencgdbhaaGreatDoorSA8
import Derived.Test.YtkkbfdencgdbhaaGreatDoorSA15
set_option linter.unusedVariables false
set_option linter.unusedSimpArgs false
set_option linter.unusedSectionVars false
namespace Go.Proofs.YtkkbfdencgdbhaaGreatDoor
open Go.RowKit
section
variable(w:World)(c:Cmd)(dv:Value)
set_option maxRecDepth 100000 in
set_option maxHeartbeats 4000000 in
theorem kwrite_any(hc:c.Wf)(hS:Sl w dv (c.disks.map (Value.int .i64)))(hl:c.disks.length≤1048576)(hnm:c.name.size≤1048576) :
 Calls Tryz.prog 37 #[cmdVal c dv] w fun r w'=>r=.returned (.string ⟨c.enc.toArray⟩)∧Ext w w':=by
 unfold cmdVal
 go_enter Tryz.func37,Tryz.ntmps37
 go_wp2_with fail
 have hB:=At.new w 39 #[.int .i64 c.kind,.int .i64 c.client,.int .i64 c.seq,.string c.name,.int .u64 (c.blob:Int),.int .i64 c.size,.int .u32 (c.sum:Int),dv,.int .i64 c.pool,.int .i64 c.vol,.int .i64 c.at_]
 have hE:=(Ext.refl w).alloc (.cells #[.int .i64 c.kind,.int .i64 c.client,.int .i64 c.seq,.string c.name,.int .u64 (c.blob:Int),.int .i64 c.size,.int .u32 (c.sum:Int),dv,.int .i64 c.pool,.int .i64 c.vol,.int .i64 c.at_] 39)
 generalize w.alloc (.cells #[.int .i64 c.kind,.int .i64 c.client,.int .i64 c.seq,.string c.name,.int .u64 (c.blob:Int),.int .i64 c.size,.int .u32 (c.sum:Int),dv,.int .i64 c.pool,.int .i64 c.vol,.int .i64 c.at_] 39)=W at hB hE⊢
 generalize w.heap.size=b at hB⊢
 obtain⟨base,hbase⟩:∃n,n=W.heap.size:=⟨_,rfl⟩
 have hblt:b<base:=by rw[hbase];exact hB.lt
 have hcells:∀(w':World),EncChg W.drew w' base→∀i:Nat,w'.cell? ⟨b,i,none⟩=(#[Value.int .i64 c.kind,.int .i64 c.client,.int .i64 c.seq,.string c.name,.int .u64 (c.blob:Int),.int .i64 c.size,.int .u32 (c.sum:Int),dv,.int .i64 c.pool,.int .i64 c.vol,.int .i64 c.at_]:Array Value)[i]? := by
  intro w' hW i
  rw[←hB.cell i]
  exact Chg.cell (w:=W.drew) (p:=⟨b,i,none⟩) hW hB.lt (fun hs=>by have:=hs.1;simp at this;omega)
 have hSE:SlE W base dv (c.disks.map (Value.int .i64)):=by
  refine⟨hS.ext hE,fun b' o n c' hv hne hs=>?_⟩
  obtain⟨A,c'',hv',hx⟩:=hS
  obtain⟨b'',o',rfl,hcell⟩:=hx hne
  rw[hv']at hv
  injection hv with hv1
  injection hv1 with hv1
  injection hv1 with hb ho
  subst hb
  have h1:=hs.1
  have h2:b''<w.heap.size:=by
   generalize hxs:c.disks.map (Value.int .i64)=xs at hcell hne
   cases xs with
   | nil=>exact absurd rfl hne
   | cons y r=>exact cell_lt (hcell 0 y rfl)
  have:=hE.size
  omega
 refine wp_region_phi (Γ := Nat) (spφ [.ptr,.val (.pointer (some ⟨b,0,none⟩)),.val (.int .i64 c.kind),.val (.pointer (some ⟨b,1,none⟩)),.val (.int .i64 c.client),.val (.pointer (some ⟨b,2,none⟩)),.val (.int .i64 c.seq),.sl [.int .i64 c.kind,.int .i64 c.client,.int .i64 c.seq],.ptr,
  .val (.pointer (some ⟨b,3,none⟩)),.val (.string c.name),.sl [.string c.name],.ptr,.val (.pointer (some ⟨b,4,none⟩)),.val (.int .u64 (c.blob:Int)),.sl [.int .u64 (c.blob:Int)],.ptr,.val (.pointer (some ⟨b,5,none⟩)),.val (.int .i64 c.size),.sl [.int .i64 c.size],.ptr,
  .val (.pointer (some ⟨b,6,none⟩)),.val (.int .u32 (c.sum:Int)),.val (.int .u64 (c.sum:Int)),.sl [.int .u64 (c.sum:Int)],.ptr,.ptr] base)
  (spG none [(8,[c.kind,c.client,c.seq].flatMap ienc),(12,[c.name].flatMap senc),(16,[c.blob].flatMap uenc),(20,[c.size].flatMap ienc),(25,[c.sum].flatMap uenc)] [] (fun L=>L 0) W.drew base) (by kernel_rfl) (by kernel_rfl) (by kernel_rfl) 0 ⟨fun _ h=>(by cases h),EncChg.refl _ _,fun h=>by cases h⟩ ?steps ?fin
 case steps =>
  show StepsTo _ _ _ _ _ _ 27
  refine⟨⟨⟨⟨⟨⟨⟨⟨⟨⟨⟨⟨⟨⟨⟨⟨⟨⟨⟨⟨⟨⟨⟨⟨⟨⟨⟨trivial,?s0⟩,?s1⟩,?s2⟩,?s3⟩,?s4⟩,?s5⟩,?s6⟩,?s7⟩,?s8⟩,?s9⟩,?s10⟩,?s11⟩,?s12⟩,?s13⟩,?s14⟩,?s15⟩,?s16⟩,?s17⟩,?s18⟩,?s19⟩,?s20⟩,?s21⟩,?s22⟩,?s23⟩,?s24⟩,?s25⟩,?s26⟩
  case s0 =>
   refine enc_alloc [8,12,16,20,25,26] rfl (fun w hW=>by rw[hbase];exact hW.size) rfl rfl rfl rfl rfl (by kernel_rfl) rfl rfl fun a w=>?_
   go_simp
  case s1 =>
   refine enc_val (x:=.pointer (some ⟨b,0,none⟩)) rfl rfl (.inl rfl) rfl (fun _=>rfl) fun e L v a w hW hφ hv h0=>?_
   have e1:=h0 1 (by kernel_rfl)
   simp at e1
   go_simp
  case s2 =>
   refine enc_val (x:=.int .i64 c.kind) rfl rfl (.inl rfl) rfl (fun _=>rfl) fun e L v a w hW hφ hv h0=>?_
   have e5:=hv 1 5 rfl (by kernel_rfl)
   rw[show v 1=_ from hφ 1 (by kernel_rfl)]at e5
   simp at e5
   have hcell:=hcells w hW 0
   simp at hcell
   go_simp
  case s3 =>
   refine enc_val (x:=.pointer (some ⟨b,1,none⟩)) rfl rfl (.inl rfl) rfl (fun _=>rfl) fun e L v a w hW hφ hv h0=>?_
   have e1:=h0 1 (by kernel_rfl)
   simp at e1
   go_simp
  case s4 =>
   refine enc_val (x:=.int .i64 c.client) rfl rfl (.inl rfl) rfl (fun _=>rfl) fun e L v a w hW hφ hv h0=>?_
   have e7:=hv 3 7 rfl (by kernel_rfl)
   rw[show v 3=_ from hφ 3 (by kernel_rfl)]at e7
   simp at e7
   have hcell:=hcells w hW 1
   simp at hcell
   go_simp
  case s5 =>
   refine enc_val (x:=.pointer (some ⟨b,2,none⟩)) rfl rfl (.inl rfl) rfl (fun _=>rfl) fun e L v a w hW hφ hv h0=>?_
   have e1:=h0 1 (by kernel_rfl)
   simp at e1
   go_simp
  case s6 =>
   refine enc_val (x:=.int .i64 c.seq) rfl rfl (.inl rfl) rfl (fun _=>rfl) fun e L v a w hW hφ hv h0=>?_
   have e9:=hv 5 9 rfl (by kernel_rfl)
   rw[show v 5=_ from hφ 5 (by kernel_rfl)]at e9
   simp at e9
   have hcell:=hcells w hW 2
   simp at hcell
   go_simp
  case s7 =>
   refine enc_slice (cs:=#[.int .i64 c.kind,.int .i64 c.client,.int .i64 c.seq]) (t:=3) (c:=3) (by decide) rfl rfl rfl rfl (fun _=>rfl) fun e L v a w hW hφ hv=>?_
   have e6:=hv 2 6 rfl (by kernel_rfl)
   rw[show v 2=_ from hφ 2 (by kernel_rfl)]at e6
   simp at e6
   have e8:=hv 4 8 rfl (by kernel_rfl)
   rw[show v 4=_ from hφ 4 (by kernel_rfl)]at e8
   simp at e8
   have e10:=hv 6 10 rfl (by kernel_rfl)
   rw[show v 6=_ from hφ 6 (by kernel_rfl)]at e10
   simp at e10
   go_simp
  case s8 =>
   refine enc_call (f:=44) (bytes:=[c.kind,c.client,c.seq].flatMap ienc) (before:=[]) (after:=[(12,[c.name].flatMap senc),(16,[c.blob].flatMap uenc),(20,[c.size].flatMap ienc),(25,[c.sum].flatMap uenc)]) rfl rfl rfl rfl rfl (by kernel_rfl) rfl (fun _=>rfl) (fun L hd hn=>hn 0 (by kernel_rfl)) fun e L v a w hgh hW hn hd hE hφ hv h0=>?_
   have e4:=hv 0 4 rfl (by kernel_rfl)
   rw[show v 0=_ from hφ 0 (by kernel_rfl)]at e4
   simp at e4
   have e11:=hv 7 11 rfl (by kernel_rfl)
   have hsl:SlE w base (v 7) _:=hφ 7 (by kernel_rfl)
   simp at e11
   generalize v 7=sv at e11 hsl
   exact⟨#[.pointer (some ⟨e,0,none⟩),sv],by go_simp,ei_any w base e _ hE sv [c.kind,c.client,c.seq] hsl (by simp[hc.kind,hc.client,hc.seq]) (by simp) (by simp[chainL])⟩
  case s9 =>
   refine enc_val (x:=.pointer (some ⟨b,3,none⟩)) rfl rfl (.inl rfl) rfl (fun _=>rfl) fun e L v a w hW hφ hv h0=>?_
   have e1:=h0 1 (by kernel_rfl)
   simp at e1
   go_simp
  case s10 =>
   refine enc_val (x:=.string c.name) rfl rfl (.inl rfl) rfl (fun _=>rfl) fun e L v a w hW hφ hv h0=>?_
   have e13:=hv 9 13 rfl (by kernel_rfl)
   rw[show v 9=_ from hφ 9 (by kernel_rfl)]at e13
   simp at e13
   have hcell:=hcells w hW 3
   simp at hcell
   go_simp
  case s11 =>
   refine enc_slice (cs:=#[.string c.name]) (t:=9) (c:=1) (by decide) rfl rfl rfl rfl (fun _=>rfl) fun e L v a w hW hφ hv=>?_
   have e14:=hv 10 14 rfl (by kernel_rfl)
   rw[show v 10=_ from hφ 10 (by kernel_rfl)]at e14
   simp at e14
   go_simp
  case s12 =>
   refine enc_call (f:=45) (bytes:=[c.name].flatMap senc) (before:=[(8,[c.kind,c.client,c.seq].flatMap ienc)]) (after:=[(16,[c.blob].flatMap uenc),(20,[c.size].flatMap ienc),(25,[c.sum].flatMap uenc)]) rfl rfl rfl rfl rfl (by kernel_rfl) rfl (fun _=>rfl) (fun L hd hn=>path_on (r:=[8]) (a:=0) hd (by kernel_rfl) (hn 8 (by kernel_rfl))) fun e L v a w hgh hW hn hd hE hφ hv h0=>?_
   have e12:=hv 8 12 rfl (by kernel_rfl)
   rw[show v 8=_ from hφ 8 (by kernel_rfl)]at e12
   simp at e12
   have e15:=hv 11 15 rfl (by kernel_rfl)
   have hsl:SlE w base (v 11) _:=hφ 11 (by kernel_rfl)
   simp at e15
   generalize v 11=sv at e15 hsl
   exact⟨#[.pointer (some ⟨e,0,none⟩),sv],by go_simp,es_any w base e _ hE sv [c.name] hsl (by simp;exact hnm) (by simp) (by have:=chainL_le L [(8,[c.kind,c.client,c.seq].flatMap ienc)];have:=ienc_length c.kind;have:=ienc_length c.client;have:=ienc_length c.seq;simp at *;omega)⟩
  case s13 =>
   refine enc_val (x:=.pointer (some ⟨b,4,none⟩)) rfl rfl (.inl rfl) rfl (fun _=>rfl) fun e L v a w hW hφ hv h0=>?_
   have e1:=h0 1 (by kernel_rfl)
   simp at e1
   go_simp
  case s14 =>
   refine enc_val (x:=.int .u64 (c.blob:Int)) rfl rfl (.inl rfl) rfl (fun _=>rfl) fun e L v a w hW hφ hv h0=>?_
   have e17:=hv 13 17 rfl (by kernel_rfl)
   rw[show v 13=_ from hφ 13 (by kernel_rfl)]at e17
   simp at e17
   have hcell:=hcells w hW 4
   simp at hcell
   go_simp
  case s15 =>
   refine enc_slice (cs:=#[.int .u64 (c.blob:Int)]) (t:=30) (c:=1) (by decide) rfl rfl rfl rfl (fun _=>rfl) fun e L v a w hW hφ hv=>?_
   have e18:=hv 14 18 rfl (by kernel_rfl)
   rw[show v 14=_ from hφ 14 (by kernel_rfl)]at e18
   simp at e18
   go_simp
  case s16 =>
   refine enc_call (f:=21) (bytes:=[c.blob].flatMap uenc) (before:=[(8,[c.kind,c.client,c.seq].flatMap ienc),(12,[c.name].flatMap senc)]) (after:=[(20,[c.size].flatMap ienc),(25,[c.sum].flatMap uenc)]) rfl rfl rfl rfl rfl (by kernel_rfl) rfl (fun _=>rfl) (fun L hd hn=>path_on (r:=[8,12]) (a:=0) hd (by kernel_rfl) (hn 12 (by kernel_rfl))) fun e L v a w hgh hW hn hd hE hφ hv h0=>?_
   have e16:=hv 12 16 rfl (by kernel_rfl)
   rw[show v 12=_ from hφ 12 (by kernel_rfl)]at e16
   simp at e16
   have e19:=hv 15 19 rfl (by kernel_rfl)
   have hsl:SlE w base (v 15) _:=hφ 15 (by kernel_rfl)
   simp at e19
   generalize v 15=sv at e19 hsl
   exact⟨#[.pointer (some ⟨e,0,none⟩),sv],by go_simp,eu_any w base e _ hE sv [c.blob] hsl (by simp;exact hc.blob) (by simp) (by have:=chainL_le L [(8,[c.kind,c.client,c.seq].flatMap ienc),(12,[c.name].flatMap senc)];have:=ienc_length c.kind;have:=ienc_length c.client;have:=ienc_length c.seq;have:=ienc_length c.name.size;simp[senc]at *;omega)⟩
  case s17 =>
   refine enc_val (x:=.pointer (some ⟨b,5,none⟩)) rfl rfl (.inl rfl) rfl (fun _=>rfl) fun e L v a w hW hφ hv h0=>?_
   have e1:=h0 1 (by kernel_rfl)
   simp at e1
   go_simp
  case s18 =>
   refine enc_val (x:=.int .i64 c.size) rfl rfl (.inl rfl) rfl (fun _=>rfl) fun e L v a w hW hφ hv h0=>?_
   have e21:=hv 17 21 rfl (by kernel_rfl)
   rw[show v 17=_ from hφ 17 (by kernel_rfl)]at e21
   simp at e21
   have hcell:=hcells w hW 5
   simp at hcell
   go_simp
  case s19 =>
   refine enc_slice (cs:=#[.int .i64 c.size]) (t:=3) (c:=1) (by decide) rfl rfl rfl rfl (fun _=>rfl) fun e L v a w hW hφ hv=>?_
   have e22:=hv 18 22 rfl (by kernel_rfl)
   rw[show v 18=_ from hφ 18 (by kernel_rfl)]at e22
   simp at e22
   go_simp
  case s20 =>
   refine enc_call (f:=44) (bytes:=[c.size].flatMap ienc) (before:=[(8,[c.kind,c.client,c.seq].flatMap ienc),(12,[c.name].flatMap senc),(16,[c.blob].flatMap uenc)]) (after:=[(25,[c.sum].flatMap uenc)]) rfl rfl rfl rfl rfl (by kernel_rfl) rfl (fun _=>rfl) (fun L hd hn=>path_on (r:=[8,12,16]) (a:=0) hd (by kernel_rfl) (hn 16 (by kernel_rfl))) fun e L v a w hgh hW hn hd hE hφ hv h0=>?_
   have e20:=hv 16 20 rfl (by kernel_rfl)
   rw[show v 16=_ from hφ 16 (by kernel_rfl)]at e20
   simp at e20
   have e23:=hv 19 23 rfl (by kernel_rfl)
   have hsl:SlE w base (v 19) _:=hφ 19 (by kernel_rfl)
   simp at e23
   generalize v 19=sv at e23 hsl
   exact⟨#[.pointer (some ⟨e,0,none⟩),sv],by go_simp,ei_any w base e _ hE sv [c.size] hsl (by simp;exact hc.size) (by simp) (by have:=chainL_le L [(8,[c.kind,c.client,c.seq].flatMap ienc),(12,[c.name].flatMap senc),(16,[c.blob].flatMap uenc)];have:=ienc_length c.kind;have:=ienc_length c.client;have:=ienc_length c.seq;have:=ienc_length c.name.size;have:=uenc_length c.blob;simp[senc]at *;omega)⟩
  case s21 =>
   refine enc_val (x:=.pointer (some ⟨b,6,none⟩)) rfl rfl (.inl rfl) rfl (fun _=>rfl) fun e L v a w hW hφ hv h0=>?_
   have e1:=h0 1 (by kernel_rfl)
   simp at e1
   go_simp
  case s22 =>
   refine enc_val (x:=.int .u32 (c.sum:Int)) rfl rfl (.inl rfl) rfl (fun _=>rfl) fun e L v a w hW hφ hv h0=>?_
   have e25:=hv 21 25 rfl (by kernel_rfl)
   rw[show v 21=_ from hφ 21 (by kernel_rfl)]at e25
   simp at e25
   have hcell:=hcells w hW 6
   simp at hcell
   go_simp
  case s23 =>
   refine enc_val (x:=.int .u64 (c.sum:Int)) rfl rfl (.inl rfl) rfl (fun _=>rfl) fun e L v a w hW hφ hv h0=>?_
   have e26:=hv 22 26 rfl (by kernel_rfl)
   rw[show v 22=_ from hφ 22 (by kernel_rfl)]at e26
   simp at e26
   have hw:=IntWalk.u64_in (c.sum:Int) (by have:=hc.sum;omega)
   go_simp
  case s24 =>
   refine enc_slice (cs:=#[.int .u64 (c.sum:Int)]) (t:=30) (c:=1) (by decide) rfl rfl rfl rfl (fun _=>rfl) fun e L v a w hW hφ hv=>?_
   have e27:=hv 23 27 rfl (by kernel_rfl)
   rw[show v 23=_ from hφ 23 (by kernel_rfl)]at e27
   simp at e27
   go_simp
  case s25 =>
   refine enc_call (f:=21) (bytes:=[c.sum].flatMap uenc) (before:=[(8,[c.kind,c.client,c.seq].flatMap ienc),(12,[c.name].flatMap senc),(16,[c.blob].flatMap uenc),(20,[c.size].flatMap ienc)]) (after:=[]) rfl rfl rfl rfl rfl (by kernel_rfl) rfl (fun _=>rfl) (fun L hd hn=>path_on (r:=[8,12,16,20]) (a:=0) hd (by kernel_rfl) (hn 20 (by kernel_rfl))) fun e L v a w hgh hW hn hd hE hφ hv h0=>?_
   have e24:=hv 20 24 rfl (by kernel_rfl)
   rw[show v 20=_ from hφ 20 (by kernel_rfl)]at e24
   simp at e24
   have e28:=hv 24 28 rfl (by kernel_rfl)
   have hsl:SlE w base (v 24) _:=hφ 24 (by kernel_rfl)
   simp at e28
   generalize v 24=sv at e28 hsl
   exact⟨#[.pointer (some ⟨e,0,none⟩),sv],by go_simp,eu_any w base e _ hE sv [c.sum] hsl (by simp;have:=hc.sum;omega) (by simp) (by have:=chainL_le L [(8,[c.kind,c.client,c.seq].flatMap ienc),(12,[c.name].flatMap senc),(16,[c.blob].flatMap uenc),(20,[c.size].flatMap ienc)];have:=ienc_length c.kind;have:=ienc_length c.client;have:=ienc_length c.seq;have:=ienc_length c.name.size;have:=uenc_length c.blob;have:=ienc_length c.size;simp[senc]at *;omega)⟩
  case s26 =>
   refine enc_hand rfl rfl rfl rfl (fun _=>rfl) fun e L v a w hφ hv=>?_
   have e29:=hv 25 29 rfl (by kernel_rfl)
   rw[show v 25=_ from hφ 25 (by kernel_rfl)]at e29
   simp at e29
   go_simp
 case fin =>
  intro e L v w1 hall hG hφ
  obtain⟨_,hW1,hE1⟩:=hG
  replace hE1:=hE1 (hall 0 (by decide))
  rw[chainL_on (fun c b hm=>hall c (by simp at hm;rcases hm with h|h|h|h|h <;> rw[h.1] <;> decide))]at hE1
  have hE2:EncAt w1.drew base e c.enc1:=by
   have:c.enc1=[]++[(8,[c.kind,c.client,c.seq].flatMap ienc),(12,[c.name].flatMap senc),(16,[c.blob].flatMap uenc),(20,[c.size].flatMap ienc),(25,[c.sum].flatMap uenc)].flatMap (·.2):=by simp[Cmd.enc1]
   rw[this];exact hE1.drew
  have hl1:c.enc1.length≤1048676:=by
   have:=ienc_length c.kind;have:=ienc_length c.client;have:=ienc_length c.seq;have:=ienc_length c.name.size;have:=uenc_length c.blob;have:=ienc_length c.size;have:=uenc_length c.sum
   simp[Cmd.enc1,senc];omega
  have hcells2:∀(w':World),EncChg w1.drew w' base→∀i:Nat,w'.cell? ⟨b,i,none⟩=(#[Value.int .i64 c.kind,.int .i64 c.client,.int .i64 c.seq,.string c.name,.int .u64 (c.blob:Int),.int .i64 c.size,.int .u32 (c.sum:Int),dv,.int .i64 c.pool,.int .i64 c.vol,.int .i64 c.at_]:Array Value)[i]? :=
   fun w' h=>hcells w' (hW1.drew.trans h)
  have hS2:∀w',EncChg w1.drew w' base→SlE w' base dv (c.disks.map (Value.int .i64)):=fun w' h=>(hSE.ext (Ext.refl W).drew).chg (hW1.drew.trans h)
  have hx1:Ext w w1.drew:=(hE.drew.trans (hW1.below (by rw[hbase];exact Nat.le_refl _))).drew
  clear hcells hE1 hSE
  rename_i hcells0
  have q25:v 26=.pointer (some ⟨e,0,none⟩):=hφ 26 (by decide)
  change Exit.then _ _ _ (putAll _ v _ 27) w1
  simp only[putAll,dstOf,Act.put]
  simp only[List.getElem?_toArray,List.getElem?_cons_zero,List.getElem?_cons_succ,Option.bind_some,List.setIfInBounds_toArray,List.set_cons_zero,List.set_cons_succ]
  rw[q25]
  go_wp2_with fail
  have hcells:=hcells2
  refine wp_region_phi (Γ := Nat) (spφ [.val (.pointer (some ⟨e,0,none⟩)),.val (.pointer (some ⟨b,7,none⟩)),.val dv,.ptr,.val (.pointer (some ⟨b,8,none⟩)),.val (.int .i64 c.pool),.val (.pointer (some ⟨b,9,none⟩)),.val (.int .i64 c.vol),.val (.pointer (some ⟨b,10,none⟩)),.val (.int .i64 c.at_),.sl [.int .i64 c.pool,.int .i64 c.vol,.int .i64 c.at_],.ptr,.val (.string ⟨c.enc.toArray⟩),.val (.string ⟨c.enc.toArray⟩)] base)
   (spG (some e) [(3,lenc c.disks),(11,[c.pool,c.vol,c.at_].flatMap ienc)] c.enc1 (fun _=>true) w1.drew base) (by kernel_rfl) (by kernel_rfl) (by kernel_rfl) e ⟨fun _ h=>(by injection h),EncChg.refl _ _,fun _=>(by simpa[chainL]using hE2)⟩ ?steps2 ?fin2
  case steps2 =>
   show StepsTo _ _ _ _ _ _ 14
   refine⟨⟨⟨⟨⟨⟨⟨⟨⟨⟨⟨⟨⟨⟨trivial,?r0⟩,?r1⟩,?r2⟩,?r3⟩,?r4⟩,?r5⟩,?r6⟩,?r7⟩,?r8⟩,?r9⟩,?r10⟩,?r11⟩,?r12⟩,?r13⟩
   case r0 =>
    refine enc_val (x:=.pointer (some ⟨e,0,none⟩)) rfl rfl (.inl rfl) rfl (fun _=>rfl) fun e' L v a w hW hφ hv h0=>?_
    have e3:=h0 3 (by kernel_rfl)
    simp at e3
    go_simp
   case r1 =>
    refine enc_val (x:=.pointer (some ⟨b,7,none⟩)) rfl rfl (.inl rfl) rfl (fun _=>rfl) fun e L v a w hW hφ hv h0=>?_
    have e1:=h0 1 (by kernel_rfl)
    simp at e1
    go_simp
   case r2 =>
    refine enc_val (x:=dv) rfl rfl (.inl rfl) rfl (fun _=>rfl) fun e L v a w hW hφ hv h0=>?_
    have e31:=hv 1 31 rfl (by kernel_rfl)
    rw[show v 1=_ from hφ 1 (by kernel_rfl)]at e31
    simp at e31
    have hcell:=hcells w hW 7
    simp at hcell
    go_simp
   case r3 =>
    refine enc_call (f:=82) (bytes:=lenc c.disks) (before:=[]) (after:=[(11,[c.pool,c.vol,c.at_].flatMap ienc)]) rfl rfl rfl rfl rfl (by kernel_rfl) rfl (fun _=>rfl) (fun _ _ _=>rfl) fun e' L v a w hgh hW hn hd hE hφ hv h0=>?_
    have e30:=hv 0 30 rfl (by kernel_rfl)
    rw[show v 0=_ from hφ 0 (by kernel_rfl)]at e30
    simp at e30
    have e32:=hv 2 32 rfl (by kernel_rfl)
    rw[show v 2=_ from hφ 2 (by kernel_rfl)]at e32
    simp at e32
    rw[hgh _ rfl]at hE⊢
    exact⟨#[.pointer (some ⟨e,0,none⟩),dv],by go_simp,elist_any w base e _ hE dv c.disks (hS2 w hW) hc.disks hl (by rw[chainL];simp;omega)⟩
   case r4 =>
    refine enc_val (x:=.pointer (some ⟨b,8,none⟩)) rfl rfl (.inl rfl) rfl (fun _=>rfl) fun e L v a w hW hφ hv h0=>?_
    have e1:=h0 1 (by kernel_rfl)
    simp at e1
    go_simp
   case r5 =>
    refine enc_val (x:=.int .i64 c.pool) rfl rfl (.inl rfl) rfl (fun _=>rfl) fun e L v a w hW hφ hv h0=>?_
    have e34:=hv 4 34 rfl (by kernel_rfl)
    rw[show v 4=_ from hφ 4 (by kernel_rfl)]at e34
    simp at e34
    have hcell:=hcells w hW 8
    simp at hcell
    go_simp
   case r6 =>
    refine enc_val (x:=.pointer (some ⟨b,9,none⟩)) rfl rfl (.inl rfl) rfl (fun _=>rfl) fun e L v a w hW hφ hv h0=>?_
    have e1:=h0 1 (by kernel_rfl)
    simp at e1
    go_simp
   case r7 =>
    refine enc_val (x:=.int .i64 c.vol) rfl rfl (.inl rfl) rfl (fun _=>rfl) fun e L v a w hW hφ hv h0=>?_
    have e36:=hv 6 36 rfl (by kernel_rfl)
    rw[show v 6=_ from hφ 6 (by kernel_rfl)]at e36
    simp at e36
    have hcell:=hcells w hW 9
    simp at hcell
    go_simp
   case r8 =>
    refine enc_val (x:=.pointer (some ⟨b,10,none⟩)) rfl rfl (.inl rfl) rfl (fun _=>rfl) fun e L v a w hW hφ hv h0=>?_
    have e1:=h0 1 (by kernel_rfl)
    simp at e1
    go_simp
   case r9 =>
    refine enc_val (x:=.int .i64 c.at_) rfl rfl (.inl rfl) rfl (fun _=>rfl) fun e L v a w hW hφ hv h0=>?_
    have e38:=hv 8 38 rfl (by kernel_rfl)
    rw[show v 8=_ from hφ 8 (by kernel_rfl)]at e38
    simp at e38
    have hcell:=hcells w hW 10
    simp at hcell
    go_simp
   case r10 =>
    refine enc_slice (cs:=#[.int .i64 c.pool,.int .i64 c.vol,.int .i64 c.at_]) (t:=3) (c:=3) (by decide) rfl rfl rfl rfl (fun _=>rfl) fun e L v a w hW hφ hv=>?_
    have e35:=hv 5 35 rfl (by kernel_rfl)
    rw[show v 5=_ from hφ 5 (by kernel_rfl)]at e35
    simp at e35
    have e37:=hv 7 37 rfl (by kernel_rfl)
    rw[show v 7=_ from hφ 7 (by kernel_rfl)]at e37
    simp at e37
    have e39:=hv 9 39 rfl (by kernel_rfl)
    rw[show v 9=_ from hφ 9 (by kernel_rfl)]at e39
    simp at e39
    go_simp
   case r11 =>
    refine enc_call (f:=44) (bytes:=[c.pool,c.vol,c.at_].flatMap ienc) (before:=[(3,lenc c.disks)]) (after:=[]) rfl rfl rfl rfl rfl (by kernel_rfl) rfl (fun _=>rfl) (fun _ _ _=>rfl) fun e' L v a w hgh hW hn hd hE hφ hv h0=>?_
    have e33:=hv 3 33 rfl (by kernel_rfl)
    rw[show v 3=_ from hφ 3 (by kernel_rfl)]at e33
    simp at e33
    have e40:=hv 10 40 rfl (by kernel_rfl)
    have hsl:SlE w base (v 10) _:=hφ 10 (by kernel_rfl)
    simp at e40
    generalize v 10=sv at e40 hsl
    exact⟨#[.pointer (some ⟨e',0,none⟩),sv],by go_simp,ei_any w base e' _ hE sv [c.pool,c.vol,c.at_] hsl (by simp[hc.pool,hc.vol,hc.at_]) (by simp) (by have:=chainL_le L [(3,lenc c.disks)];have:=iflat_length c.disks;have:=ienc_length c.disks.length;simp[lenc]at *;omega)⟩
   case r12 =>
    refine enc_read (f:=22) (x:=.string ⟨c.enc.toArray⟩) rfl rfl rfl rfl (fun _=>rfl) (fun _ _ _=>rfl) fun e' L v a w hgh hn hd hE hφ hv=>?_
    have e41:=hv 11 41 rfl (by kernel_rfl)
    rw[show v 11=_ from hφ 11 (by kernel_rfl)]at e41
    simp at e41
    have h3:=hd 11 3 (hn 11 (by kernel_rfl)) (by kernel_rfl)
    rw[chainL_on (fun k b hm=>by simp at hm;rcases hm with h|h <;> rw[h.1];exact h3;exact hn 11 (by kernel_rfl))]at hE
    have he:c.enc1++[(3,lenc c.disks),(11,[c.pool,c.vol,c.at_].flatMap ienc)].flatMap (·.2)=c.enc:=by simp[Cmd.enc]
    rw[he]at hE
    exact⟨#[.pointer (some ⟨e',0,none⟩)],by go_simp,(bytes_any w base e' _ hE).mono fun _ _ ⟨h,h'⟩=>⟨h,h' ▸ Ext.refl _⟩⟩
   case r13 =>
    refine enc_val (x:=.string ⟨c.enc.toArray⟩) rfl rfl (.inl rfl) rfl (fun _=>rfl) fun e L v a w hW hφ hv h0=>?_
    have e42:=hv 12 42 rfl (by kernel_rfl)
    rw[show v 12=_ from hφ 12 (by kernel_rfl)]at e42
    simp at e42
    go_simp
  case fin2 =>
   intro e2 L2 v2 w2 hall2 hG2 hφ2
   have q13:v2 13=.string ⟨c.enc.toArray⟩:=hφ2 13 (by decide)
   have hx2:Ext w w2:=hE.drew.trans ((hW1.drew.trans hG2.2.1).below (by rw[hbase];exact Nat.le_refl _))
   change Exit.then _ _ _ (putAll _ v2 _ 14) w2
   simp only[putAll,dstOf,Act.put]
   simp only[List.getElem?_toArray,List.getElem?_cons_zero,List.getElem?_cons_succ,Option.bind_some,List.setIfInBounds_toArray,List.set_cons_zero,List.set_cons_succ]
   rw[q13]
   go_wp2_with fail
   go_ret
   exact⟨rfl,hx2⟩
end
end Go.Proofs.YtkkbfdencgdbhaaGreatDoor
