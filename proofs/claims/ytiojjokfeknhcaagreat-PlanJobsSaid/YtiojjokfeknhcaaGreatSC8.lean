/-
  Part 8 of what the law leans on.
-/
import Derived.Test.YtiojjokfeknhcaaGreatSC7
namespace Go.Proofs.YtiojjokfeknhcaaGreat
set_option maxRecDepth 100000
set_option maxHeartbeats 8000000
set_option linter.unusedVariables false
set_option linter.unusedSimpArgs false
set_option linter.unusedSectionVars false
open _root_.Go.Proofs.Tryz
open Go.RowKit Go.Sort
theorem pins_le{n:Nat} : ∀ {L:List Bl},(∀b∈L,0≤b.pins∧b.pins≤(n:Int))→0≤qQE L∧qQE L≤(L.length:Int) * n
 | [],_=>by simp[qQE]
 | b::r,h=>by
  have h1:=h b (List.mem_cons_self ..);have h2:=pins_le (L:=r) fun x hx=>h x (List.mem_cons_of_mem _ hx)
  have e:qQE (b::r)=b.pins+qQE r:=rfl;rw[e,List.length_cons];have e2:((r.length+1:Nat):Int) * n=(r.length:Int) * n+n:=by rw[Int.natCast_add,Int.add_mul];simp
  rw[e2];omega
theorem qJb(L:List Bl)(b:Bl):qQE (L++[b])=qQE L+b.pins:=by
 unfold qQE
 induction L with
 | nil=>simp
 | cons x r ih=>simp only[List.cons_append,List.map_cons,List.foldr_cons]at ih⊢;rw[ih];omega
theorem qZI(w:World)(n m:Int):Calls prog 107 #[.int .i64 n,.int .i64 m] w fun e w'=>e=.returned (.bool (upB n m))∧w=w':=by
 go_enter func107,ntmps107
 unfold upB
 by_cases h1:0≤n
 ·have e1:decide (0≤n)=true:=by simpa using h1
  rw[e1];go_wp2_with fail
  go_ret
  exact⟨ret_bool (by simp),rfl⟩
 ·have e1:decide (0≤n)=false:=by simpa using h1
  rw[e1];go_wp2_with fail
  go_ret
  exact⟨ret_bool (by simp),rfl⟩
section live
theorem onVol_snoc(L:List Bl)(v:Int)(k:Nat){b:Bl}(hb:L[k]? = some b):(L.take (k+1)).filter (onV v)=(L.take k).filter (onV v)++(if onV v b=true then [b]else []):=by
 rw[List.take_add_one,hb,List.filter_append]
 by_cases e:onV v b=true <;> simp[e]
theorem rlive_any(w:World)(v:Value)(P:Pm)(n:Nat)(h:qQZ w v P)(hi:PInv n P)(hn:n≤1000000)(vol:Nat)(hvol:vol<12) :
 Calls prog 68 #[v,.int .i64 (vol:Int)] w fun e w'=>e=.returned (.tuple #[.int .i64 ((P.onVol vol).length:Int),.int .i64 (qQE (P.onVol vol))])∧Ext w w':=by
 obtain⟨lv,DV,rfl,hDV,hR⟩:=h;have hlen:DV.length=P.L.length:=by rw[←hDV,List.length_map]
 obtain⟨A,c,rfl⟩:=qQa hR.own;have HX:Hid (qQj (.slice A DV.length c) P.vols=(.slice A DV.length c::(P.vols.map qQK).flatten).toArray):=Hh rfl;generalize hX:qQj (.slice A DV.length c) P.vols=X at HX⊢;clear hX;have hX0:X[0]? = some (.slice A DV.length c):=by rw[HX.out];rfl
 have hl2:DV.length≤1000000:=by have:=hi.len;omega
 have HDV:=Hh hDV;have HR:=Hh hR;have HPN:Hid (∀b∈P.L,0≤b.pins∧b.pins≤(n:Int)):=Hh (fun b hb=>(hi.bl b hb).pins)
 have hsum:∀k,k≤DV.length→0≤qQE ((P.L.take k).filter (onV vol))∧qQE ((P.L.take k).filter (onV vol))≤1000000000000:=fun k hk=>by
  have h1:=pins_le (n:=n) (L:=(P.L.take k).filter (onV vol)) fun b hb=>HPN.out b (List.mem_of_mem_take (List.mem_filter.1 hb).1)
  refine⟨h1.1,Int.le_trans h1.2 ?_⟩
  have h2:((P.L.take k).filter (onV vol)).length≤1000000:=Nat.le_trans (List.length_filter_le _ _) (Nat.le_trans (List.length_take_le _ _) (by omega));have h3:((((P.L.take k).filter (onV vol)).length * n:Nat):Int)≤((1000000 * 1000000:Nat):Int):=Int.ofNat_le.2 (Nat.mul_le_mul h2 hn);have h4:((((P.L.take k).filter (onV vol)).length * n:Nat):Int)=(((P.L.take k).filter (onV vol)).length:Int) * n:=Int.natCast_mul _ _;omega
 have HSUM:=Hh hsum;have hlenk:∀k,((P.L.take k).filter (onV vol)).length≤k:=fun k=>Nat.le_trans (List.length_filter_le _ _) (List.length_take_le _ _)
 have HLEN:=Hh hlenk;clear hDV hlen hR hi hsum hlenk hn;have hpar:vol % 2=0∨vol % 2=1:=by omega
 go_enter func68,ntmps68
 have hB:=At.new w 35 X;have hE:=(Er w).alloc (.cells X 35)
 go_upto_region 1 with fail
 generalize w.heap.size=xb at hB⊢;generalize w.alloc (.cells X 35)=W at hB hE⊢;have c0:=hB.cell 0;rw[hX0]at c0;clear hB hX0;go_wp2_with fail
 clear c0
 go_loopw [6,7,14] (fun nv pv kv wr=>∃k:Nat,kv=.int .i64 (k:Int)∧nv=.int .i64 (((P.L.take k).filter (onV vol)).length:Int)∧pv=.int .i64 (qQE ((P.L.take k).filter (onV vol)))∧k≤DV.length∧Ext w wr) (fun _ _ kv _=>DV.length - (intOf kv).toNat)
 case atStart=>exact⟨0,rfl,rfl,rfl,Nat.zero_le _,hE⟩
 case round =>
  clear hE;obtain⟨k,rfl,rfl,rfl,hk,hEr⟩:=hrel
  by_cases hlt:k<DV.length
  ·obtain⟨⟨b,dv⟩,hb⟩:∃q,DV[k]? = some q:=⟨_,List.getElem?_eq_getElem hlt⟩;have hbL:P.L[k]? = some b:=by rw[←HDV.out,List.getElem?_map,hb];rfl
   obtain⟨dA,dc,rfl⟩:∃A c,dv=.slice A b.disks.length c:=qQa (HR.out.dks _ (List.mem_of_getElem? hb));have hS:=HR.out.sln.ext hEr
   obtain⟨rb,ro,rfl⟩:=qQQ hS (fun e=>by
    have h0:=List.map_eq_nil_iff.1 e;rw[h0]at hb;simp at hb)
   obtain⟨r0,r1,r2,r3,r4,r5,r6,r7,r8,r9,r10,r11,r12⟩:=qQV hS hb;have hYb:=At.new wr 89 (blCells b (.slice dA b.disks.length dc));have hEb:=(Er wr).alloc (.cells (blCells b (.slice dA b.disks.length dc)) 89);have HST:=Hh (onVol_snoc P.L vol k hbL);have hs1:=HSUM.out k hk;have hln:=HLEN.out k;have hbp:=HPN.out b (List.mem_of_getElem? hbL);have hs2:=HSUM.out (k+1) hlt;clear hb hbL hS
   go_upto_region 6 with fail
   clear r0 r1 r2 r3 r4 r5 r6 r7 r8 r9 r10 r11 r12;have hEy:=hEr.trans hEb;clear hEr hEb;generalize wr.heap.size=yb at hYb⊢;generalize wr.alloc (.cells (blCells b (.slice dA b.disks.length dc)) 89)=W2 at hYb hEy⊢;have d0:=hYb.cell 0;have d1:=hYb.cell 1;have d2:=hYb.cell 2;have d3:=hYb.cell 3;have d4:=hYb.cell 4;have d5:=hYb.cell 5;have d6:=hYb.cell 6;have d7:=hYb.cell 7;have d8:=hYb.cell 8;have d9:=hYb.cell 9;have d10:=hYb.cell 10;have d11:=hYb.cell 11;have d12:=hYb.cell 12;simp at d0 d1 d2 d3 d4 d5 d6 d7 d8 d9 d10 d11 d12;have hyl:=hYb.lt;rcases hpar with hp|hp
   ·have hon:onV vol b=(b.a.there&&decide (b.a.vol=(vol:Int))):=by
     unfold onV;rw[if_neg (by omega)]
    have hq:((vol:Int) % 2 == 1)=false:=by rw[beq_eq_false_iff_ne];omega
    rcases Bool.eq_false_or_eq_true b.a.there with ht|ht
    ·rw[ht]at d5
     by_cases hv:b.a.vol=(vol:Int)
     ·rw[hv]at d6;have hn:onV vol b=true:=by rw[hon,ht,hv];simp
      have h1:=HST.out;rw[if_pos hn]at h1;rw[h1,qJb]at hs2;have H1:=Hh h1;clear h1 hn hon ht hv HST hYb;generalize (P.L.take k).filter (onV vol)=T at *;have hw1:IntKind.i64.wrap ((T.length:Int)+1)=(T.length:Int)+1:=IntWalk.i64_in _ (by omega);have hw2:IntKind.i64.wrap (qQE T+b.pins)=qQE T+b.pins:=IntWalk.i64_in _ (by omega);have hwk:IntKind.i64.wrap ((k:Int)+1)=(k:Int)+1:=IntWalk.i64_in _ (by omega);go_wp2_with fail
      go_roundw
      case rel=>exact⟨k+1,by go_num,by rw[H1.out,List.length_append];rfl,by rw[H1.out,qJb],by omega,hEy.alloc _⟩
      case measure=>simp[intOf];omega
     ·have hn:onV vol b=false:=by rw[hon,ht];simp[hv]
      have hvb:(b.a.vol == (vol:Int))=false:=by rw[beq_eq_false_iff_ne];exact hv
      have h1:=HST.out;rw[hn,if_neg (by simp),List.append_nil]at h1;have H1:=Hh h1;clear h1 hn hon ht hv HST hYb hs2;go_wp2_with fail
      go_roundw
      case rel=>exact⟨k+1,by go_num,by rw[H1.out],by rw[H1.out],by omega,hEy.alloc _⟩
      case measure=>simp[intOf];omega
    ·rw[ht]at d5;have hn:onV vol b=false:=by rw[hon,ht];simp
     have h1:=HST.out;rw[hn,if_neg (by simp),List.append_nil]at h1;have H1:=Hh h1;clear h1 hn hon ht HST hYb hs2;go_wp2_with fail
     go_roundw
     case rel=>exact⟨k+1,by go_num,by rw[H1.out],by rw[H1.out],by omega,hEy.alloc _⟩
     case measure=>simp[intOf];omega
   ·have hon:onV vol b=(b.b.there&&decide (b.b.vol=(vol:Int))):=by
     unfold onV;rw[if_pos (by omega)]
    have hq:((vol:Int) % 2 == 1)=true:=by rw[beq_iff_eq];omega
    rcases Bool.eq_false_or_eq_true b.b.there with ht|ht
    ·rw[ht]at d8
     by_cases hv:b.b.vol=(vol:Int)
     ·rw[hv]at d9;have hn:onV vol b=true:=by rw[hon,ht,hv];simp
      have h1:=HST.out;rw[if_pos hn]at h1;rw[h1,qJb]at hs2;have H1:=Hh h1;clear h1 hn hon ht hv HST hYb;generalize (P.L.take k).filter (onV vol)=T at *;have hw1:IntKind.i64.wrap ((T.length:Int)+1)=(T.length:Int)+1:=IntWalk.i64_in _ (by omega);have hw2:IntKind.i64.wrap (qQE T+b.pins)=qQE T+b.pins:=IntWalk.i64_in _ (by omega);have hwk:IntKind.i64.wrap ((k:Int)+1)=(k:Int)+1:=IntWalk.i64_in _ (by omega);go_wp2_with fail
      go_roundw
      case rel=>exact⟨k+1,by go_num,by rw[H1.out,List.length_append];rfl,by rw[H1.out,qJb],by omega,hEy.alloc _⟩
      case measure=>simp[intOf];omega
     ·have hn:onV vol b=false:=by rw[hon,ht];simp[hv]
      have hvb:(b.b.vol == (vol:Int))=false:=by rw[beq_eq_false_iff_ne];exact hv
      have h1:=HST.out;rw[hn,if_neg (by simp),List.append_nil]at h1;have H1:=Hh h1;clear h1 hn hon ht hv HST hYb hs2;go_wp2_with fail
      go_roundw
      case rel=>exact⟨k+1,by go_num,by rw[H1.out],by rw[H1.out],by omega,hEy.alloc _⟩
      case measure=>simp[intOf];omega
    ·rw[ht]at d8;have hn:onV vol b=false:=by rw[hon,ht];simp
     have h1:=HST.out;rw[hn,if_neg (by simp),List.append_nil]at h1;have H1:=Hh h1;clear h1 hn hon ht HST hYb hs2;go_wp2_with fail
     go_roundw
     case rel=>exact⟨k+1,by go_num,by rw[H1.out],by rw[H1.out],by omega,hEy.alloc _⟩
     case measure=>simp[intOf];omega
  ·obtain rfl:k=DV.length:=by omega
   have hT:P.L.take DV.length=P.L:=List.take_of_length_le (by rw[←HDV.out];simp);rw[hT];go_wp2_with fail
   refine bodyPost_ret (v:=.tuple #[.int .i64 (((P.L.filter (onV vol)).length:Nat):Int),.int .i64 (qQE (P.L.filter (onV vol)))]) (by simp[results,results68,go_sem]) rfl ?_;exact⟨rfl,hEr⟩
end live
open Go.RowKit Go.Sort
def dkOk(ds:List Int)(k:Nat):Prop:=∀i,i<k→qZn ds i=true
theorem dk_ge{ds:List Int}{k:Nat}(h:dkOk ds k)(i:Nat)(hi:i<k):0≤ds.getD i 0:=by
 have:=h i hi
 unfold qZn upB at this;simp only[Bool.and_eq_true,decide_eq_true_eq]at this;exact this.1.1
def lastD(ds:List Int)(k:Nat):Int:=if k=0 then -1 else ds.getD (k - 1) 0
theorem lastD_ge{ds:List Int}{k:Nat}(h:dkOk ds k) : -1≤lastD ds k:=by
 unfold lastD;split
 ·omega
 ·have:=dk_ge h (k - 1) (by omega);omega
theorem dk_step{ds:List Int}{k:Nat}(h:dkOk ds k){d:Int}(hd:ds.getD k 0=d):(d≤lastD ds k∨5<d)↔qZn ds k=false:=by
 unfold qZn upB;rw[hd];have h1:=lastD_ge h;unfold lastD at h1⊢
 by_cases hk:k=0
 ·subst hk;simp
  omega
 ·rw[if_neg hk]at h1⊢;have h2:=dk_ge h (k - 1) (by omega);simp only[List.getD_eq_getElem?_getD]at h1 h2⊢;simp[hk];omega
theorem dk_all{ds:List Int}(h:dkOk ds ds.length):qZE ds=true:=by
 unfold qZE;exact List.all_eq_true.2 fun k hk=>h k (List.mem_range.1 hk)
theorem dk_bad{ds:List Int}{k:Nat}(hk:k<ds.length)(h:qZn ds k=false):qZE ds=false:=by
 cases e:qZE ds
 ·rfl
 ·unfold qZE at e;rw[List.all_eq_true.1 e k (List.mem_range.2 hk)]at h;cases h
theorem qXf(w:World)(c:Cmd)(dv:Value)(hS:Sl w dv (c.disks.map (Value.int .i64)))(hl:c.disks.length≤17592186043904)(hnm:c.name.size≤9223372036854775807) :
 Calls prog 79 #[qQd c dv] w fun e w'=>e=.returned (.bool c.good)∧Ext w w':=by
 obtain⟨dA,dc,rfl,hx⟩:=hS;rw[List.length_map];unfold qQd
 go_enter func79,ntmps79
 have hB:=At.new w 117 #[.int .i64 c.kind,.int .i64 c.client,.int .i64 c.seq,.string c.name,.int .u64 (c.blob:Int),.int .i64 c.size,.int .u32 (c.sum:Int),.slice dA c.disks.length dc,.int .i64 c.pool,.int .i64 c.vol,.int .i64 c.at_];have hE:=(Er w).alloc (.cells #[.int .i64 c.kind,.int .i64 c.client,.int .i64 c.seq,.string c.name,.int .u64 (c.blob:Int),.int .i64 c.size,.int .u32 (c.sum:Int),.slice dA c.disks.length dc,.int .i64 c.pool,.int .i64 c.vol,.int .i64 c.at_] 117)
 go_upto_region 1 with fail
 generalize w.heap.size=xb at hB⊢;generalize w.alloc (.cells #[.int .i64 c.kind,.int .i64 c.client,.int .i64 c.seq,.string c.name,.int .u64 (c.blob:Int),.int .i64 c.size,.int .u32 (c.sum:Int),.slice dA c.disks.length dc,.int .i64 c.pool,.int .i64 c.vol,.int .i64 c.at_] 117)=W at hB hE⊢;have c7:=hB.cell 7;simp at c7;go_wp2_with fail
 clear c7
 go_loopw [3,9] (fun lv kv wr=>∃k:Nat,kv=.int .i64 (k:Int)∧lv=.int .i64 (lastD c.disks k)∧k≤c.disks.length∧dkOk c.disks k∧wr=W) (fun _ kv _=>c.disks.length - (intOf kv).toNat)
 case atStart=>exact⟨0,rfl,rfl,Nat.zero_le _,fun i hi=>by omega,rfl⟩
 case round =>
  obtain⟨k,rfl,rfl,hk,hok,rfl⟩:=hrel
  by_cases hlt:k<c.disks.length
  ·obtain⟨b,o,rfl,hcell⟩:=hx (by intro e;rw[List.map_eq_nil_iff]at e;rw[e]at hlt;simp at hlt);obtain⟨d,hd⟩:∃d,c.disks[k]? = some d:=⟨_,List.getElem?_eq_getElem hlt⟩;have r0:=hcell k (.int .i64 d) (by rw[List.getElem?_map,hd];rfl);have r1:wr.cell? ⟨b,o+k,none⟩=some (.int .i64 d):=(hE.cell (p:=⟨b,o+k,none⟩) (qQv r0)).trans r0;have hdd:c.disks.getD k 0=d:=by rw[List.getD_eq_getElem?_getD,hd];rfl
   have hst:=dk_step hok hdd;have hll:lastD c.disks (k+1)=d:=by unfold lastD;rw[if_neg (by omega)];exact hdd
   have HLL:=Hh hll;have HOK:=Hh hok;have HST:=Hh hst;clear hcell r0 hd hdd hst hll hok hB;generalize hla:lastD c.disks k=la at HST⊢;clear hla
   by_cases h1:d≤la
   ·have hb:=dk_bad hlt (HST.out.1 (.inl h1));have hg:c.good=false:=by unfold Cmd.good;rw[hb];simp
    have HG:=Hh hg;clear hb hg;go_wp2_with fail
    go_ret
    exact⟨by rw[HG.out];rfl,hE⟩
   ·by_cases h2:5<d
    ·have hb:=dk_bad hlt (HST.out.1 (.inr h2));have hg:c.good=false:=by unfold Cmd.good;rw[hb];simp
     have HG:=Hh hg;clear hb hg;go_wp2_with fail
     go_ret
     exact⟨by rw[HG.out];rfl,hE⟩
    ·have hs:qZn c.disks k=true:=by
      cases e:qZn c.disks k
      ·have:=HST.out.2 e;omega
      ·rfl
     have HS:=Hh hs;clear hs;go_wp2_with fail
     go_roundw
     case rel =>
      refine⟨k+1,by go_num,by rw[HLL.out],by omega,fun i hi=>?_,by first|rfl|trivial⟩
      by_cases e:i=k
      ·subst e;exact HS.out
      ·exact HOK.out i (by omega)
     case measure=>simp[intOf];omega
  ·obtain rfl:k=c.disks.length:=by omega
   have hrs:=dk_all hok;have HRS:=Hh hrs;clear hx hok hrs;have c0:=hB.cell 0;have c1:=hB.cell 1;have c2:=hB.cell 2;have c3:=hB.cell 3;have c4:=hB.cell 4;have c5:=hB.cell 5;have c6:=hB.cell 6;have c7:=hB.cell 7;have c8:=hB.cell 8;have c9:=hB.cell 9;have c10:=hB.cell 10;simp at c0 c1 c2 c3 c4 c5 c6 c7 c8 c9 c10;clear hB;obtain⟨gB1,hgB1⟩:∃g,upB c.client 1073741824=g:=⟨_,rfl⟩;have KB1:=Hh (fun X=>qZI X c.client 1073741824);rw[hgB1]at KB1;have HB1:=Hh hgB1;clear hgB1;obtain⟨gB2,hgB2⟩:∃g,upB c.seq 1073741824=g:=⟨_,rfl⟩;have KB2:=Hh (fun X=>qZI X c.seq 1073741824);rw[hgB2]at KB2;have HB2:=Hh hgB2;clear hgB2;obtain⟨gB4,hgB4⟩:∃g,upB c.size 4000=g:=⟨_,rfl⟩;have KB4:=Hh (fun X=>qZI X c.size 4000);rw[hgB4]at KB4;have HB4:=Hh hgB4;clear hgB4;obtain⟨gB5,hgB5⟩:∃g,upB c.pool 1=g:=⟨_,rfl⟩;have KB5:=Hh (fun X=>qZI X c.pool 1);rw[hgB5]at KB5;have HB5:=Hh hgB5;clear hgB5;obtain⟨gB6,hgB6⟩:∃g,upB c.vol 11=g:=⟨_,rfl⟩;have KB6:=Hh (fun X=>qZI X c.vol 11);rw[hgB6]at KB6;have HB6:=Hh hgB6;clear hgB6;obtain⟨gB7,hgB7⟩:∃g,upB c.at_ 1073741824=g:=⟨_,rfl⟩;have KB7:=Hh (fun X=>qZI X c.at_ 1073741824);rw[hgB7]at KB7;have HB7:=Hh hgB7;clear hgB7
   have HK:Hid ((upB c.kind 14&&(c.kind != 0))=(decide (0<c.kind)&&decide (c.kind<15))):=Hh (by
    unfold upB;rw[Bool.eq_iff_iff];simp
    omega)
   have fin:∀(k1 k2 nn:Bool),decide (0<c.kind)=k1→decide (c.kind<15)=k2→decide (c.name.size≤32)=nn→c.good=(k1&&k2&&gB1&&gB2&&nn&&gB4&&gB5&&gB6&&gB7):=by
    intro k1 k2 nn e1 e2 e3;unfold Cmd.good;rw[HK.out,e1,e2,HRS.out,HB1.out,HB2.out,e3,HB4.out,HB5.out,HB6.out,HB7.out,Bool.and_true]
   have FIN:=Hh fin;clear fin HK
   by_cases h1:0<c.kind
   rotate_left
   ·skip
    have HG:Hid (c.good=false):=Hh (by rw[FIN.out _ _ _ (decide_eq_false h1) rfl rfl];simp);go_wp2_with fail
    go_ret
    exact⟨by rw[HG.out];rfl,hE⟩
   ·by_cases h2:c.kind<15
    rotate_left
    ·skip
     have HG:Hid (c.good=false):=Hh (by rw[FIN.out _ _ _ (decide_eq_true h1) (decide_eq_false h2) rfl];simp);go_wp2_with fail
     go_ret
     exact⟨by rw[HG.out];rfl,hE⟩
    ·skip
     go_wp2_with fail
     refine(KB1.out _).mono ?_
     rintro e w' ⟨rfl,hw'⟩;subst hw';cases gB1
     ·skip
      have HG:Hid (c.good=false):=Hh (by rw[FIN.out _ _ _ (decide_eq_true h1) (decide_eq_true h2) rfl];simp);go_wp2_with fail
      go_ret
      exact⟨by rw[HG.out];rfl,hE⟩
     ·skip
      go_wp2_with fail
      refine(KB2.out _).mono ?_
      rintro e w' ⟨rfl,hw'⟩;subst hw';cases gB2
      ·skip
       have HG:Hid (c.good=false):=Hh (by rw[FIN.out _ _ _ (decide_eq_true h1) (decide_eq_true h2) rfl];simp);go_wp2_with fail
       go_ret
       exact⟨by rw[HG.out];rfl,hE⟩
      ·skip
       by_cases hn:c.name.size≤32
       rotate_left
       ·skip
        have HG:Hid (c.good=false):=Hh (by rw[FIN.out _ _ _ (decide_eq_true h1) (decide_eq_true h2) (decide_eq_false hn)];simp);go_wp2_with fail
        go_ret
        exact⟨by rw[HG.out];rfl,hE⟩
       ·skip
        go_wp2_with fail
        refine(KB4.out _).mono ?_
        rintro e w' ⟨rfl,hw'⟩;subst hw';cases gB4
        ·skip
         have HG:Hid (c.good=false):=Hh (by rw[FIN.out _ _ _ (decide_eq_true h1) (decide_eq_true h2) (decide_eq_true hn)];simp);go_wp2_with fail
         go_ret
         exact⟨by rw[HG.out];rfl,hE⟩
        ·skip
         go_wp2_with fail
         refine(KB5.out _).mono ?_
         rintro e w' ⟨rfl,hw'⟩;subst hw';cases gB5
         ·skip
          have HG:Hid (c.good=false):=Hh (by rw[FIN.out _ _ _ (decide_eq_true h1) (decide_eq_true h2) (decide_eq_true hn)];simp);go_wp2_with fail
          go_ret
          exact⟨by rw[HG.out];rfl,hE⟩
         ·skip
          go_wp2_with fail
          refine(KB6.out _).mono ?_
          rintro e w' ⟨rfl,hw'⟩;subst hw';cases gB6
          ·skip
           have HG:Hid (c.good=false):=Hh (by rw[FIN.out _ _ _ (decide_eq_true h1) (decide_eq_true h2) (decide_eq_true hn)];simp);go_wp2_with fail
           go_ret
           exact⟨by rw[HG.out];rfl,hE⟩
          ·skip
           go_wp2_with fail
           refine(KB7.out _).mono ?_
           rintro e w' ⟨rfl,hw'⟩;subst hw';cases gB7
           ·skip
            have HG:Hid (c.good=false):=Hh (by rw[FIN.out _ _ _ (decide_eq_true h1) (decide_eq_true h2) (decide_eq_true hn)];simp);go_wp2_with fail
            go_ret
            exact⟨by rw[HG.out];rfl,hE⟩
           ·skip
            have HG:Hid (c.good=true):=Hh (by rw[FIN.out _ _ _ (decide_eq_true h1) (decide_eq_true h2) (decide_eq_true hn)];simp);go_wp2_with fail
            go_ret
            exact⟨by rw[HG.out];rfl,hE⟩
open Go.RowKit Go.Sort
theorem qXC:(prog.info? 9).map (fun i=>(i.zero,i.size,i.bytes))=some (some (.string ByteArray.empty),1,16):=by kernel_rfl
theorem own_lowR{w:World}{b b':Nat}{e:TypeId}{size:Nat}{v:Value}{n:Nat}{xs:List Value}(h:w.ownsRow b e size v n xs)(hb:b'≤b):w.ownsRow b' e size v n xs:=by
 obtain⟨h1,h2⟩:=h;refine⟨h1,?_⟩
 rcases h2 with h2|⟨g,cap,cur,h3,h4,h5⟩
 ·exact .inl h2
 ·exact .inr ⟨g,cap,cur,h3,Nat.le_trans hb h4,h5⟩
theorem less_eqR(a b:ByteArray):Op.bytesLess a.toList b.toList=blt a b:=by
 have key:∀(x y:List UInt8),Op.bytesLess x y=decide (x<y):=by
  intro x
  induction x with
  | nil=>intro y;cases y <;> simp[Op.bytesLess]
  | cons a x ih =>
   intro y;cases y with
   | nil=>simp[Op.bytesLess]
   | cons b y =>
    have:=ih y
    simp[Op.bytesLess,List.cons_lt_cons_iff,this]
    by_cases e:a=b <;> simp[e]
 rw[key,Lib.toList_data,Lib.toList_data];rfl
def nst(m:ByteArray)(s:List ByteArray×Bool)(n:ByteArray):List ByteArray×Bool:=if(!s.2&&blt m n)=true then(s.1++[m,n],true)else(s.1++[n],s.2)
def nfin(m:ByteArray)(s:List ByteArray×Bool):List ByteArray:=if s.2=true then s.1 else s.1++[m]
def nins(O:List ByteArray)(m:ByteArray):List ByteArray:=nfin m (O.foldl (nst m) ([],false))
def leS(a b:ByteArray):Prop:=leN a b=true
theorem leS_tr{a b c:ByteArray}(h:leS a b)(h':leS b c):leS a c:=by
 unfold leS at *;simp only[leN,decide_eq_true_eq]at *;exact List.le_trans h h'
theorem leS_of_blt{a b:ByteArray}(h:blt a b=true):leS a b:=by
 unfold leS blt at *;simp only[leN,decide_eq_true_eq]at *;exact Std.le_of_lt h
theorem leS_of_not{a b:ByteArray}(h:blt a b=false):leS b a:=by
 unfold leS blt at *;simp only[leN,decide_eq_true_eq,decide_eq_false_iff_not]at *;exact Std.not_lt.1 h
theorem nst_on(m:ByteArray):∀(l O:List ByteArray),l.foldl (nst m) (O,true)=(O++l,true)
 | [],O=>by simp
 | n::r,O=>by
  have e:nst m (O,true) n=(O++[n],true):=rfl;rw[List.foldl_cons,e,nst_on m r];simp
theorem nins_perm(m:ByteArray):∀(l O:List ByteArray),(nfin m (l.foldl (nst m) (O,false))).Perm (O++m::l)
 | [],O=>by simp[nfin]
 | n::r,O=>by
  rw[List.foldl_cons];cases hb:blt m n
  ·have e:nst m (O,false) n=(O++[n],false):=by unfold nst;rw[hb];rfl
   rw[e];refine(nins_perm m r _).trans ?_
   rw[List.append_assoc];exact(List.Perm.swap m n r).append_left O
  ·have e:nst m (O,false) n=(O++[m,n],true):=by unfold nst;rw[hb];rfl
   rw[e,nst_on];simp[nfin]
theorem nins_sorted(m:ByteArray):∀(l O:List ByteArray),(O++l).Pairwise leS→(∀x∈O,leS x m)→(nfin m (l.foldl (nst m) (O,false))).Pairwise leS
 | [],O,h,h2=>by
  rw[List.append_nil]at h
  show(O++[m]).Pairwise leS
  rw[List.pairwise_append];exact⟨h,List.pairwise_singleton _ _,fun x hx y hy=>by rw[List.mem_singleton.1 hy];exact h2 x hx⟩
 | n::r,O,h,h2=>by
  rw[List.foldl_cons];cases hb:blt m n
  ·have e:nst m (O,false) n=(O++[n],false):=by unfold nst;rw[hb];rfl
   rw[e];refine nins_sorted m r (O++[n]) (by simpa using h) fun x hx=>?_
   rcases List.mem_append.1 hx with hx|hx
   ·exact h2 x hx
   ·rw[List.mem_singleton.1 hx];exact leS_of_not hb
  ·have e:nst m (O,false) n=(O++[m,n],true):=by unfold nst;rw[hb];rfl
   rw[e,nst_on]
   show((O++[m,n])++r).Pairwise leS
   have e2:(O++[m,n])++r=O++(m::n::r):=by simp
   rw[e2];obtain⟨p1,p2,p3⟩:=List.pairwise_append.1 h;rw[List.pairwise_append];refine⟨p1,List.pairwise_cons.2 ⟨fun y hy=>?_,p2⟩,fun x hx y hy=>?_⟩
   ·rcases List.mem_cons.1 hy with rfl|hy
    ·exact leS_of_blt hb
    ·exact leS_tr (leS_of_blt hb) ((List.pairwise_cons.1 p2).1 y hy)
   ·rcases List.mem_cons.1 hy with rfl|hy
    ·exact h2 x hx
    ·exact p3 x hx y hy
theorem ninsAll(l:List ByteArray):(l.foldl nins []).Perm l∧(l.foldl nins []).Pairwise leS:=by
 have key:∀(l O:List ByteArray),O.Pairwise leS→(l.foldl nins O).Perm (O++l)∧(l.foldl nins O).Pairwise leS:=by
  intro l
  induction l with
  | nil=>intro O h;simpa using h
  | cons m r ih =>
   intro O h;rw[List.foldl_cons];have h1:(nins O m).Perm (m::O):=nins_perm m O [];have h2:(nins O m).Pairwise leS:=nins_sorted m O [] (by simpa using h) fun x hx=>by cases hx
   obtain⟨g1,g2⟩:=ih _ h2;refine⟨g1.trans ((h1.append_right r).trans ?_),g2⟩
   simpa using(List.perm_middle (a:=m) (l₁:=O) (l₂:=r)).symm
 simpa using key l [] List.Pairwise.nil
theorem names_ins(L:List Bl):(((L.filter fun b => !b.dead).map Bl.name).foldl nins [])=qZz L:=by
 obtain⟨h1,h2⟩:=ninsAll ((L.filter fun b => !b.dead).map Bl.name);have tr:∀a b c:ByteArray,leN a b=true→leN b c=true→leN a c=true:=fun a b c h h'=>leS_tr h h'
 have tot:∀a b:ByteArray,(leN a b||leN b a)=true:=fun a b=>by simp only[leN,Bool.or_eq_true,decide_eq_true_eq];exact List.le_total _ _
 refine List.Perm.eq_of_pairwise (le:=fun a b=>leN a b=true) (fun a b _ _ g1 g2=>?_) h2 (List.pairwise_mergeSort tr tot _) (h1.trans (List.mergeSort_perm _ leN).symm);simp only[leN,decide_eq_true_eq]at g1 g2;exact ByteArray.ext (by have:=List.le_antisymm g1 g2;exact Array.toList_inj.1 this)
def nmsK(L:List Bl)(k:Nat):List ByteArray:=(((L.take k).filter fun b => !b.dead).map Bl.name).foldl nins []
theorem nmsK_step{L:List Bl}{k:Nat}{b:Bl}(h:L[k]? = some b):nmsK L (k+1)=if b.dead=true then nmsK L k else nins (nmsK L k) b.name:=by
 unfold nmsK;rw[List.take_add_one,h,Option.toList_some,List.filter_append,List.map_append,List.foldl_append];cases hd:b.dead <;> simp[hd]
theorem nmsK_len(L:List Bl)(k:Nat):(nmsK L k).length≤k:=by
 unfold nmsK;have h:=(ninsAll (((L.take k).filter fun b => !b.dead).map Bl.name)).1.length_eq;rw[h,List.length_map];exact Nat.le_trans (List.length_filter_le _ _) (List.length_take_le _ _)
theorem rnames_any(w:World)(v:Value)(P:Pm)(h:qQZ w v P)(hl:P.L.length≤1000000) :
 Calls prog 108 #[v] w fun e w'=>∃nv,e=.returned nv∧w'.ownsRow w.heap.size 9 1 nv (qZz P.L).length ((qZz P.L).map Value.string)∧Ext w w':=by
 obtain⟨lv,DV,rfl,hDV,hR⟩:=h;have hlen:DV.length=P.L.length:=by rw[←hDV,List.length_map]
 obtain⟨A,c,rfl⟩:=qQa hR.own;have HX:Hid (qQj (.slice A DV.length c) P.vols=(.slice A DV.length c::(P.vols.map qQK).flatten).toArray):=Hh rfl;generalize hX:qQj (.slice A DV.length c) P.vols=X at HX⊢;clear hX;have hX0:X[0]? = some (.slice A DV.length c):=by rw[HX.out];rfl
 have hl2:DV.length≤1000000:=by omega
 have HDV:=Hh hDV;have HR:=Hh hR;clear hDV hlen hR hl
 go_enter func108,ntmps108
 have hB:=At.new w 35 X;have hE:=(Er w).alloc (.cells X 35)
 go_upto_region 1 with fail
 obtain⟨b0,hb0⟩:∃b0,w.heap.size=b0:=⟨_,rfl⟩;rw[hb0]at hB⊢;have hlt0:=hB.lt;generalize w.alloc (.cells X 35)=W at hB hE hlt0⊢;have hOb:=qZt (w:=W) (base:=b0) (e:=9) (size:=1) (by omega);have hE1:=hE.alloc (.cells #[] 9);have hB1:=hB.alloc (.cells #[] 9)
 go_upto_region 2 with fail
 generalize W.heap.size=ob at hOb⊢;generalize World.alloc _ _=W1 at hOb hE1 hB1⊢;have HB0:=Hh hb0;clear hE hB hlt0 hb0;have c0:=hB1.cell 0;rw[hX0]at c0;clear hB1;go_wp2_with fail
 clear c0 hX0
 go_loopw [3,14] (fun ov kv wr=>∃k:Nat,kv=.int .i64 (k:Int)∧k≤DV.length∧wr.ownsRow b0 9 1 ov (nmsK P.L k).length ((nmsK P.L k).map Value.string)∧Ext w wr) (fun _ kv _=>DV.length - (intOf kv).toNat)
 case atStart=>exact⟨0,rfl,Nat.zero_le _,hOb,hE1⟩
 case round =>
  clear hOb hE1;obtain⟨k,rfl,hk,hO,hEr⟩:=hrel;obtain⟨oA,oc,rfl⟩:=qQa hO;have hkl:=nmsK_len P.L k
  by_cases hlt:k<DV.length
  ·obtain⟨⟨b,dv⟩,hb⟩:∃q,DV[k]? = some q:=⟨_,List.getElem?_eq_getElem hlt⟩;have hbL:P.L[k]? = some b:=by rw[←HDV.out,List.getElem?_map,hb];rfl
   obtain⟨dA,dc,rfl⟩:∃A c,dv=.slice A b.disks.length c:=qQa (HR.out.dks _ (List.mem_of_getElem? hb));have hS:=HR.out.sln.ext hEr
   obtain⟨rb,ro,rfl⟩:=qQQ hS (fun e=>by
    have h0:=List.map_eq_nil_iff.1 e;rw[h0]at hb;simp at hb)
   obtain⟨r0,r1,r2,r3,r4,r5,r6,r7,r8,r9,r10,r11,r12⟩:=qQV hS hb;have hYb:=At.new wr 89 (blCells b (.slice dA b.disks.length dc));have hEb:=(Er wr).alloc (.cells (blCells b (.slice dA b.disks.length dc)) 89);have HST:=Hh (nmsK_step hbL);generalize nmsK P.L k=O at hO hkl HST⊢;clear hb hbL hS
   go_upto_region 5 with fail
   clear r0 r1 r2 r3 r4 r5 r6 r7 r8 r9 r10 r11 r12;have hOy:=own_kx hO hEb;have hEy:=hEr.trans hEb;clear hO hEr hEb;generalize wr.heap.size=yb at hYb⊢;generalize wr.alloc (.cells (blCells b (.slice dA b.disks.length dc)) 89)=W2 at *;have d12:=hYb.cell 12;simp at d12;rcases Bool.eq_false_or_eq_true b.dead with hd|hd
   ·rw[hd]at d12;have h1:=HST.out;rw[if_pos hd]at h1;have H1:=Hh h1;clear h1 hd hYb HST;go_wp2_with fail
    go_roundw
    case rel=>exact⟨k+1,by go_num,by omega,by rw[H1.out];exact hOy,hEy⟩
    case measure=>simp[intOf];omega
   ·rw[hd]at d12;have h1:=HST.out;rw[if_neg (by rw[hd];simp)]at h1;have H1:=Hh h1;clear h1 hd HST
    go_upto_region 6 with fail
    have hNb:=qZt (w:=W2) (base:=W2.heap.size) (e:=9) (size:=1) (Nat.le_refl _);have hEn:=(Er W2).alloc (.cells #[] 9)
    go_upto_region 7 with fail
    have hb02:b0≤W2.heap.size:=by have:=hEy.size;have:=HB0.out;omega
    generalize hnb:W2.heap.size=nb at hNb hb02⊢;generalize World.alloc _ _=W3 at hNb hEn⊢;go_wp2_with fail
    go_loopw [6,7,23] (fun nv bv jv wx=>∃(j:Nat) (N:List ByteArray) (d:Bool),jv=.int .i64 (j:Int)∧bv=.bool d∧j≤O.length∧N.length≤2 * j∧Hid ((O.take j).foldl (nst b.name) ([],false)=(N,d))∧wx.ownsRow nb 9 1 nv N.length (N.map Value.string)∧Ext W2 wx) (fun _ _ jv _=>O.length - (intOf jv).toNat)
    case atStart=>exact⟨0,[],false,rfl,rfl,Nat.zero_le _,Nat.le_refl _,Hh rfl,hNb,hEn⟩
    case round =>
     clear hNb hEn;obtain⟨j,N,d,rfl,rfl,hj,hNl,HF,hN,hEx⟩:=hrel;obtain⟨nA,nc,rfl⟩:=qQa hN;have d1:=(hYb.ext hEx).cell 1;simp at d1;have hnx:nb≤wr.heap.size:=by have:=hEx.size;omega
     by_cases hjl:j<O.length
     ·obtain⟨m,hm⟩:∃m,O[j]? = some m:=⟨_,List.getElem?_eq_getElem hjl⟩;have hOx:=own_kx hOy hEx
      have hic:∃ib,oA=some ⟨ib,0,none⟩:=by
       rcases hOx.2 with⟨e,h0⟩|⟨g,cap,cur,e,_⟩
       ·omega
       ·injection e with e1 _ _;exact⟨g,e1⟩
      obtain⟨ib,rfl⟩:=hic;have i1:=hOx.cellAt j (by omega);rw[List.getElem?_map,hm]at i1;simp only[Option.map_some]at i1;have HST:=Hh (show(O.take (j+1)).foldl (nst b.name) ([],false)=nst b.name (N,d) m by rw[fold_take hm,HF.out]);clear hm HF hOx;cases d
      ·have hbl:Op.bytesLess b.name.toList m.toList=blt b.name m:=less_eqR _ _;cases hbb:blt b.name m
       ·rw[hbb]at hbl;have HN:Hid ((O.take (j+1)).foldl (nst b.name) ([],false)=(N++[m],false)):=Hh (by rw[HST.out];unfold nst;rw[hbb];rfl);clear HST hbb
        go_wp2_with (at_builtin;refine qQp _ hN 70 underlying70 qXC rfl rfl (by decide) (by decide) rfl (by omega) (by omega) rfl _ _ rfl rfl rfl ?_)
        intro v1 w3 hO3 hC3;have k1:w3.ownsRow nb 9 1 v1 (N++[m]).length ((N++[m]).map Value.string):=by simpa using hO3
        have k2:Ext W2 w3:=Chg.own_ext hEx hC3 hN (by omega);clear hO3 hC3 hN hEx i1 d1 hbl;obtain⟨vA,vc,rfl⟩:=qQa k1;go_wp2_with fail
        go_roundw
        case rel=>exact⟨j+1,_,false,by go_num,rfl,by omega,by simp;omega,HN,k1,k2⟩
        case measure=>simp[intOf];omega
       ·rw[hbb]at hbl;have HN:Hid ((O.take (j+1)).foldl (nst b.name) ([],false)=(N++[b.name,m],true)):=Hh (by rw[HST.out];unfold nst;rw[hbb];rfl);clear HST hbb
        go_wp2_with (at_builtin;refine qQp _ hN 70 underlying70 qXC rfl rfl (by decide) (by decide) rfl (by omega) (by omega) rfl _ _ rfl rfl rfl ?_)
        intro v1 w3 hO3 hC3;have k1:w3.ownsRow nb 9 1 v1 (N++[b.name]).length ((N++[b.name]).map Value.string):=by simpa using hO3
        have k2:Ext W2 w3:=Chg.own_ext hEx hC3 hN (by omega);have k3:=k2.size;clear hO3 hC3 hN hEx i1 d1 hbl;obtain⟨vA,vc,rfl⟩:=qQa k1
        go_wp2_with (at_builtin;refine qQp _ k1 70 underlying70 qXC rfl rfl (by decide) (by decide) rfl (by simp;omega) (by omega) rfl _ _ rfl rfl rfl ?_)
        intro v2 w4 hO4 hC4;have m1:w4.ownsRow nb 9 1 v2 (N++[b.name,m]).length ((N++[b.name,m]).map Value.string):=by simpa using hO4
        have m2:Ext W2 w4:=Chg.own_ext k2 (by simpa using hC4) k1 (by omega);clear hO4 hC4 k1 k2 k3;obtain⟨uA,uc,rfl⟩:=qQa m1;go_wp2_with fail
        go_roundw
        case rel=>exact⟨j+1,_,true,by go_num,rfl,by omega,by simp;omega,HN,m1,m2⟩
        case measure=>simp[intOf];omega
      ·have HN:Hid ((O.take (j+1)).foldl (nst b.name) ([],false)=(N++[m],true)):=Hh (by rw[HST.out];rfl);clear HST
       go_wp2_with (at_builtin;refine qQp _ hN 70 underlying70 qXC rfl rfl (by decide) (by decide) rfl (by omega) (by omega) rfl _ _ rfl rfl rfl ?_)
       intro v1 w3 hO3 hC3;have k1:w3.ownsRow nb 9 1 v1 (N++[m]).length ((N++[m]).map Value.string):=by simpa using hO3
       have k2:Ext W2 w3:=Chg.own_ext hEx hC3 hN (by omega);clear hO3 hC3 hN hEx i1 d1;obtain⟨vA,vc,rfl⟩:=qQa k1;go_wp2_with fail
       go_roundw
       case rel=>exact⟨j+1,_,true,by go_num,rfl,by omega,by simp;omega,HN,k1,k2⟩
       case measure=>simp[intOf];omega
     ·obtain rfl:j=O.length:=by omega
      have hf:=HF.out;rw[List.take_length]at hf;have HN:Hid (nins O b.name=nfin b.name (N,d)):=Hh (by unfold nins;rw[hf]);clear hf HF;cases d
      ·go_wp2_with (at_builtin;refine qQp _ hN 70 underlying70 qXC rfl rfl (by decide) (by decide) rfl (by omega) (by omega) rfl _ _ rfl rfl rfl ?_)
       intro v1 w3 hO3 hC3;have k1:w3.ownsRow nb 9 1 v1 (N++[b.name]).length ((N++[b.name]).map Value.string):=by simpa using hO3
       have k2:Ext W2 w3:=Chg.own_ext hEx hC3 hN (by omega);have k3:=hEy.trans k2;have k4:=own_lowR k1 hb02;clear hO3 hC3 hN hEx d1 k1 k2;obtain⟨vA,vc,rfl⟩:=qQa k4;go_wp2_with fail
       go_roundw
       case rel=>exact⟨k+1,by go_num,by omega,by rw[H1.out,HN.out];exact k4,k3⟩
       case measure=>simp[intOf];omega
      ·have k3:=hEy.trans hEx;have k4:=own_lowR hN hb02;clear hN hEx d1;go_wp2_with fail
       go_roundw
       case rel=>exact⟨k+1,by go_num,by omega,by rw[H1.out,HN.out];exact k4,k3⟩
       case measure=>simp[intOf];omega
  ·obtain rfl:k=DV.length:=by omega
   have hT:nmsK P.L DV.length=qZz P.L:=by
    unfold nmsK;rw[List.take_of_length_le (by rw[←HDV.out];simp),names_ins]
   rw[hT]at hO⊢;clear hT;go_wp2_with fail
   go_ret
   exact⟨_,rfl,by rw[HB0.out];exact hO,hEr⟩
open Go.RowKit Go.Sort
theorem qQl{P:Program}{fn:Func}{p q r:Tmp}{ty:TypeId}(h:fn.results=#[.cell p ty,.tmp q,.tmp r])(tmps:Array Value){b o:Nat}(ha:tmps.getD p undef=.pointer (some ⟨b,o,none⟩)){v:Value}{w:World}
 (hl:(loadVar ty ⟨b,o,none⟩).run P w=.ok v w):(results fn tmps).run P w=.ok (.tuple #[v,tmps.getD q undef,tmps.getD r undef]) w:=by
 unfold results;rw[h];simp at ha;simp[ha,asAddr,hl]
theorem qQe:(prog.info? 89).map (·.size)=some 13:=by kernel_rfl
theorem qQO(b:Bl)(A:Option Addr)(n c:Nat):(blCells b (.slice A n c)).toList.toArray.all (·.oneCell')=true:=all_oneCell_toArray fun v hv=>by
 simp only[List.mem_cons,List.not_mem_nil,or_false]at hv;rcases hv with rfl|rfl|rfl|rfl|rfl|rfl|rfl|rfl|rfl|rfl|rfl|rfl|rfl <;> rfl
def qQG(closed:Bool)(b:Bl)(x:Cmd):Bl×Bool×Int :=
 if x.kind=10 then(if !b.dead||decide (0<b.pins)then(b,true,16)else(b,false,0))else((qZr closed b x).1,true,(qZr closed b x).2)
def RbOut(w:World)(r:Bl×Bool×Int)(e:Ending)(w':World):Prop :=
 ∃dv',e=.returned (.tuple #[.agg (blCells r.1 dv'),.bool r.2.1,.int .i64 r.2.2])∧w'.ownsRow 0 3 1 dv' r.1.disks.length (r.1.disks.map (Value.int .i64))∧Ext w w'
theorem qXs{lv:Value}{V:List Vl}{v:Nat}{y:Vl}(h:V[v]? = some y):(qQj lv V)[1+v * 3]? = some (.bool y.closed)∧(qQj lv V)[1+v * 3+1]? = some (.bool y.erase)∧(qQj lv V)[1+v * 3+2]? = some (.int .i64 y.gen):=by
 have key:∀j,j<3→(qQj lv V)[1+v * 3+j]? = (qQK y)[j]? := fun j hj=>by
  unfold qQj;rw[List.getElem?_toArray,show 1+v * 3+j=(3 * v+j)+1 by omega,List.getElem?_cons_succ,vol_flat _ _ _ hj,h];rfl
 exact⟨key 0 (by omega),key 1 (by omega),key 2 (by omega)⟩
section blob
variable(w:World)(X:Array Value)(b:Bl)(dv:Value)(x:Cmd)(dx:Value)(y:Vl)(hb:w.ownsRow 0 3 1 dv b.disks.length (b.disks.map (Value.int .i64)))(hx:w.ownsRow 0 3 1 dx x.disks.length (x.disks.map (Value.int .i64)))
 (hbl:b.disks.length≤17592186043904) (hxl:x.disks.length≤17592186043904)
include hb hx hbl hxl
theorem rblob_6(hk:x.kind=6)(hpn:0≤b.pins∧b.pins≤2147483648):Calls prog 82 #[.agg X,.agg (blCells b dv),qQd x dx] w (RbOut w (qQG y.closed b x)):=by
 have _hh:=And.intro hbl hxl;obtain⟨dA,dc,rfl⟩:=qQa hb;obtain⟨xA,xc,rfl⟩:=qQa hx;unfold qQd;have HK:=Hh hk;clear hk
 go_enter func82,ntmps82
 have hC:=(((At.new w 35 X).alloc (.cells (blCells b (.slice dA b.disks.length dc)) 89)).alloc (.cells (zZX x xA xc) 117)).alloc (.cells #[.int .u64 0,.string ⟨#[]⟩,.int .i64 0,.int .u32 0,.slice none 0 0,.bool false,.int .i64 0,.int .i64 0,.bool false,.int .i64 0,.int .i64 0,.int .i64 0,.bool false] 89);have hQ:=((At.new (w.alloc (.cells X 35)) 89 (blCells b (.slice dA b.disks.length dc))).alloc (.cells (zZX x xA xc) 117)).alloc (.cells #[.int .u64 0,.string ⟨#[]⟩,.int .i64 0,.int .u32 0,.slice none 0 0,.bool false,.int .i64 0,.int .i64 0,.bool false,.int .i64 0,.int .i64 0,.int .i64 0,.bool false] 89);have hY:=(At.new ((w.alloc (.cells X 35)).alloc (.cells (blCells b (.slice dA b.disks.length dc)) 89)) 117 (zZX x xA xc)).alloc (.cells #[.int .u64 0,.string ⟨#[]⟩,.int .i64 0,.int .u32 0,.slice none 0 0,.bool false,.int .i64 0,.int .i64 0,.bool false,.int .i64 0,.int .i64 0,.int .i64 0,.bool false] 89);have hZ:=At.new (((w.alloc (.cells X 35)).alloc (.cells (blCells b (.slice dA b.disks.length dc)) 89)).alloc (.cells (zZX x xA xc) 117)) 89 #[.int .u64 0,.string ⟨#[]⟩,.int .i64 0,.int .u32 0,.slice none 0 0,.bool false,.int .i64 0,.int .i64 0,.bool false,.int .i64 0,.int .i64 0,.int .i64 0,.bool false];have hE:=((((Er w).alloc (.cells X 35)).alloc (.cells (blCells b (.slice dA b.disks.length dc)) 89)).alloc (.cells (zZX x xA xc) 117)).alloc (.cells #[.int .u64 0,.string ⟨#[]⟩,.int .i64 0,.int .u32 0,.slice none 0 0,.bool false,.int .i64 0,.int .i64 0,.bool false,.int .i64 0,.int .i64 0,.int .i64 0,.bool false] 89);rw[show(w.alloc (.cells X 35)).heap.size=w.heap.size+1 by simp]at hQ;rw[show((w.alloc (.cells X 35)).alloc (.cells (blCells b (.slice dA b.disks.length dc)) 89)).heap.size=w.heap.size+1+1 by simp]at hY;rw[show(((w.alloc (.cells X 35)).alloc (.cells (blCells b (.slice dA b.disks.length dc)) 89)).alloc (.cells (zZX x xA xc) 117)).heap.size=w.heap.size+1+1+1 by simp]at hZ
 go_upto_region 1 with fail
 obtain⟨xb,hxb⟩:∃xb,w.heap.size=xb:=⟨_,rfl⟩;rw[hxb]at hC hQ hY hZ⊢;generalize World.alloc _ _=W at hC hQ hY hZ hE⊢;have HXB:=Hh (show w.heap.size≤xb by omega);have hxb2:=hZ.lt;have lC:=hC.lt;have lQ:=hQ.lt;have lY:=hY.lt;clear hxb;have HBO:=Hh hb;have HXO:=Hh hx;clear hb hx;have y0:=hY.cell 0;simp at y0;rw[HK.out]at y0;have q11:=hQ.cell 11;have f11:=hQ.frozen 11;simp at q11
 by_cases hp:b.pins=0
 ·rw[hp]at q11;have HP:=Hh hp;clear hp
  go_upto_region 4 with fail
  clear q11 f11 y0;have HEQ:Hid (qQG y.closed b x=(b,true,16)):=Hh (by unfold qQG qZr;rw[if_neg (by rw[HK.out];decide),if_pos HK.out,if_pos HP.out]);have HRG:=Hh hQ.range;have HTH:Hid (W.there (xb+1+1+1) 0 (blCells b (.slice dA b.disks.length dc)).toList.toArray.size):=Hh hZ.there;have hEF:Ext w (W.setCells (xb+1+1+1) 0 (blCells b (.slice dA b.disks.length dc)).toList):=hE.setCells (by have:=HXB.out;omega) _ _
  have hld:(loadVar 89 ⟨xb+1+1+1,0,none⟩).run prog (W.setCells (xb+1+1+1) 0 (blCells b (.slice dA b.disks.length dc)).toList)=.ok (.agg (blCells b (.slice dA b.disks.length dc))) (W.setCells (xb+1+1+1) 0 (blCells b (.slice dA b.disks.length dc)).toList) :=
   run_loadVar_mid (P:=prog) (W.setCells (xb+1+1+1) 0 (blCells b (.slice dA b.disks.length dc)).toList) (xb+1+1+1) 0 89 (blCells b (.slice dA b.disks.length dc)).toList _ (World.rangeAt_setCells_same W (xb+1+1+1) 0 (blCells b (.slice dA b.disks.length dc)).toList HTH.out) underlying89 rfl qQe
  have HEF:=Hh hEF;have HLD:=Hh hld;clear hC hQ hY hZ hE hEF hld
  go_wp2_with (first|(refine wpList_load_mid rfl 89 _ rfl (xb+1) 0 rfl _ _ HRG.out underlying89 rfl qQe ?_)|(refine wpList_store_mid rfl 89 _ _ rfl (xb+1+1+1) 0 (blCells b (.slice dA b.disks.length dc)).toList.toArray rfl rfl HTH.out qQe (qQO _ _ _ _) ?_))
  refine bodyPost_ret (v:=.tuple #[.agg (blCells b (.slice dA b.disks.length dc)),.bool true,.int .i64 16]) (qQl results82 _ rfl HLD.out) rfl ?_;rw[HEQ.out];exact⟨(.slice dA b.disks.length dc),rfl,own_kx (HBO.out) HEF.out,HEF.out⟩
 ·have HP:=Hh hp;have hpe:(b.pins == 0)=false:=by rw[beq_eq_false_iff_ne];exact hp
  have hw:IntKind.i64.wrap (b.pins - 1)=b.pins - 1:=IntWalk.i64_in _ (by omega);clear hp
  go_upto_region 41 with fail
  clear q11 f11 y0 hpe hw;have hQ2:At (W.setCell ⟨xb+1,11,none⟩ (.int .i64 (b.pins - 1))) (xb+1) 89 (blCells { b with pins:=b.pins - 1 } (.slice dA b.disks.length dc)):=hQ.set 11 (.int .i64 (b.pins - 1));have hZ2:=hZ.far (p:=⟨xb+1,11,none⟩) (show xb+1+1+1≠xb+1 by omega) (.int .i64 (b.pins - 1));have hE2:Ext w (W.setCell ⟨xb+1,11,none⟩ (.int .i64 (b.pins - 1))):=Chg.setCell (p:=⟨xb+1,11,none⟩) hE (.inr (by have:=HXB.out;show _≤xb+1;omega)) _;clear hC hQ hY hZ hE;generalize W.setCell ⟨xb+1,11,none⟩ (.int .i64 (b.pins - 1))=W2 at hQ2 hZ2 hE2⊢;have hC:=hQ2;have hQ:=hQ2;have hZ:=hZ2;have hE:=hE2;have hY:=hQ2;clear hQ2 hZ2 hE2;have HEQ:Hid (qQG y.closed b x=({ b with pins:=b.pins - 1 },true,0)):=Hh (by unfold qQG qZr;rw[if_neg (by rw[HK.out];decide),if_pos HK.out,if_neg HP.out]);have HRG:=Hh hQ.range;have HTH:Hid (W2.there (xb+1+1+1) 0 (blCells { b with pins:=b.pins - 1 } (.slice dA b.disks.length dc)).toList.toArray.size):=Hh hZ.there;have hEF:Ext w (W2.setCells (xb+1+1+1) 0 (blCells { b with pins:=b.pins - 1 } (.slice dA b.disks.length dc)).toList):=hE.setCells (by have:=HXB.out;omega) _ _
  have hld:(loadVar 89 ⟨xb+1+1+1,0,none⟩).run prog (W2.setCells (xb+1+1+1) 0 (blCells { b with pins:=b.pins - 1 } (.slice dA b.disks.length dc)).toList)=.ok (.agg (blCells { b with pins:=b.pins - 1 } (.slice dA b.disks.length dc))) (W2.setCells (xb+1+1+1) 0 (blCells { b with pins:=b.pins - 1 } (.slice dA b.disks.length dc)).toList) :=
   run_loadVar_mid (P:=prog) (W2.setCells (xb+1+1+1) 0 (blCells { b with pins:=b.pins - 1 } (.slice dA b.disks.length dc)).toList) (xb+1+1+1) 0 89 (blCells { b with pins:=b.pins - 1 } (.slice dA b.disks.length dc)).toList _ (World.rangeAt_setCells_same W2 (xb+1+1+1) 0 (blCells { b with pins:=b.pins - 1 } (.slice dA b.disks.length dc)).toList HTH.out) underlying89 rfl qQe
  have HEF:=Hh hEF;have HLD:=Hh hld;clear hC hQ hY hZ hE hEF hld
  go_wp2_with (first|(refine wpList_load_mid rfl 89 _ rfl (xb+1) 0 rfl _ _ HRG.out underlying89 rfl qQe ?_)|(refine wpList_store_mid rfl 89 _ _ rfl (xb+1+1+1) 0 (blCells { b with pins:=b.pins - 1 } (.slice dA b.disks.length dc)).toList.toArray rfl rfl HTH.out qQe (qQO _ _ _ _) ?_))
  refine bodyPost_ret (v:=.tuple #[.agg (blCells { b with pins:=b.pins - 1 } (.slice dA b.disks.length dc)),.bool true,.int .i64 0]) (qQl results82 _ rfl HLD.out) rfl ?_;rw[HEQ.out];exact⟨(.slice dA b.disks.length dc),rfl,own_kx (HBO.out) HEF.out,HEF.out⟩
theorem rblob_7(hk:x.kind=7):Calls prog 82 #[.agg X,.agg (blCells b dv),qQd x dx] w (RbOut w (qQG y.closed b x)):=by
 have _hh:=And.intro hbl hxl;obtain⟨dA,dc,rfl⟩:=qQa hb;obtain⟨xA,xc,rfl⟩:=qQa hx;unfold qQd;have HK:=Hh hk;clear hk
 go_enter func82,ntmps82
 have hC:=(((At.new w 35 X).alloc (.cells (blCells b (.slice dA b.disks.length dc)) 89)).alloc (.cells (zZX x xA xc) 117)).alloc (.cells #[.int .u64 0,.string ⟨#[]⟩,.int .i64 0,.int .u32 0,.slice none 0 0,.bool false,.int .i64 0,.int .i64 0,.bool false,.int .i64 0,.int .i64 0,.int .i64 0,.bool false] 89);have hQ:=((At.new (w.alloc (.cells X 35)) 89 (blCells b (.slice dA b.disks.length dc))).alloc (.cells (zZX x xA xc) 117)).alloc (.cells #[.int .u64 0,.string ⟨#[]⟩,.int .i64 0,.int .u32 0,.slice none 0 0,.bool false,.int .i64 0,.int .i64 0,.bool false,.int .i64 0,.int .i64 0,.int .i64 0,.bool false] 89);have hY:=(At.new ((w.alloc (.cells X 35)).alloc (.cells (blCells b (.slice dA b.disks.length dc)) 89)) 117 (zZX x xA xc)).alloc (.cells #[.int .u64 0,.string ⟨#[]⟩,.int .i64 0,.int .u32 0,.slice none 0 0,.bool false,.int .i64 0,.int .i64 0,.bool false,.int .i64 0,.int .i64 0,.int .i64 0,.bool false] 89);have hZ:=At.new (((w.alloc (.cells X 35)).alloc (.cells (blCells b (.slice dA b.disks.length dc)) 89)).alloc (.cells (zZX x xA xc) 117)) 89 #[.int .u64 0,.string ⟨#[]⟩,.int .i64 0,.int .u32 0,.slice none 0 0,.bool false,.int .i64 0,.int .i64 0,.bool false,.int .i64 0,.int .i64 0,.int .i64 0,.bool false];have hE:=((((Er w).alloc (.cells X 35)).alloc (.cells (blCells b (.slice dA b.disks.length dc)) 89)).alloc (.cells (zZX x xA xc) 117)).alloc (.cells #[.int .u64 0,.string ⟨#[]⟩,.int .i64 0,.int .u32 0,.slice none 0 0,.bool false,.int .i64 0,.int .i64 0,.bool false,.int .i64 0,.int .i64 0,.int .i64 0,.bool false] 89);rw[show(w.alloc (.cells X 35)).heap.size=w.heap.size+1 by simp]at hQ;rw[show((w.alloc (.cells X 35)).alloc (.cells (blCells b (.slice dA b.disks.length dc)) 89)).heap.size=w.heap.size+1+1 by simp]at hY;rw[show(((w.alloc (.cells X 35)).alloc (.cells (blCells b (.slice dA b.disks.length dc)) 89)).alloc (.cells (zZX x xA xc) 117)).heap.size=w.heap.size+1+1+1 by simp]at hZ
 go_upto_region 1 with fail
 obtain⟨xb,hxb⟩:∃xb,w.heap.size=xb:=⟨_,rfl⟩;rw[hxb]at hC hQ hY hZ⊢;generalize World.alloc _ _=W at hC hQ hY hZ hE⊢;have HXB:=Hh (show w.heap.size≤xb by omega);have hxb2:=hZ.lt;have lC:=hC.lt;have lQ:=hQ.lt;have lY:=hY.lt;clear hxb;have HBO:=Hh hb;have HXO:=Hh hx;clear hb hx;have y0:=hY.cell 0;simp at y0;rw[HK.out]at y0;have y7:=hY.cell 7;have q4:=hQ.cell 4;have f4:=hQ.frozen 4;simp at y7 q4
 by_cases h1:x.disks=[]
 ·have hl:(x.disks.length:Int)=0:=by rw[h1];rfl
  have H1:=Hh h1;clear h1
  go_upto_region 8 with fail
  clear q4 f4 y0 y7 hl;have HEQ:Hid (qQG y.closed b x=(b,true,1)):=Hh (by unfold qQG qZr;rw[if_neg (by rw[HK.out];decide),if_neg (by rw[HK.out];decide),if_pos HK.out,if_pos H1.out]);have HRG:=Hh hQ.range;have HTH:Hid (W.there (xb+1+1+1) 0 (blCells b (.slice dA b.disks.length dc)).toList.toArray.size):=Hh hZ.there;have hEF:Ext w (W.setCells (xb+1+1+1) 0 (blCells b (.slice dA b.disks.length dc)).toList):=hE.setCells (by have:=HXB.out;omega) _ _
  have hld:(loadVar 89 ⟨xb+1+1+1,0,none⟩).run prog (W.setCells (xb+1+1+1) 0 (blCells b (.slice dA b.disks.length dc)).toList)=.ok (.agg (blCells b (.slice dA b.disks.length dc))) (W.setCells (xb+1+1+1) 0 (blCells b (.slice dA b.disks.length dc)).toList) :=
   run_loadVar_mid (P:=prog) (W.setCells (xb+1+1+1) 0 (blCells b (.slice dA b.disks.length dc)).toList) (xb+1+1+1) 0 89 (blCells b (.slice dA b.disks.length dc)).toList _ (World.rangeAt_setCells_same W (xb+1+1+1) 0 (blCells b (.slice dA b.disks.length dc)).toList HTH.out) underlying89 rfl qQe
  have HEF:=Hh hEF;have HLD:=Hh hld;clear hC hQ hY hZ hE hEF hld
  go_wp2_with (first|(refine wpList_load_mid rfl 89 _ rfl (xb+1) 0 rfl _ _ HRG.out underlying89 rfl qQe ?_)|(refine wpList_store_mid rfl 89 _ _ rfl (xb+1+1+1) 0 (blCells b (.slice dA b.disks.length dc)).toList.toArray rfl rfl HTH.out qQe (qQO _ _ _ _) ?_))
  refine bodyPost_ret (v:=.tuple #[.agg (blCells b (.slice dA b.disks.length dc)),.bool true,.int .i64 1]) (qQl results82 _ rfl HLD.out) rfl ?_;rw[HEQ.out];exact⟨(.slice dA b.disks.length dc),rfl,own_kx (HBO.out) HEF.out,HEF.out⟩
 ·have hl:¬ x.disks.length=0:=fun e=>h1 (List.length_eq_zero_iff.1 e)
  have H1:=Hh h1;clear h1
  by_cases h2:b.disks=[]
  ·have hl2:(b.disks.length:Int)=0:=by rw[h2];rfl
   have H2:=Hh h2;clear h2
   go_upto_region 10 with fail
   clear q4 f4 y0 y7 hl hl2;have HEQ:Hid (qQG y.closed b x=(b,true,16)):=Hh (by unfold qQG qZr;rw[if_neg (by rw[HK.out];decide),if_neg (by rw[HK.out];decide),if_pos HK.out,if_neg H1.out,if_pos H2.out]);have HRG:=Hh hQ.range;have HTH:Hid (W.there (xb+1+1+1) 0 (blCells b (.slice dA b.disks.length dc)).toList.toArray.size):=Hh hZ.there;have hEF:Ext w (W.setCells (xb+1+1+1) 0 (blCells b (.slice dA b.disks.length dc)).toList):=hE.setCells (by have:=HXB.out;omega) _ _
   have hld:(loadVar 89 ⟨xb+1+1+1,0,none⟩).run prog (W.setCells (xb+1+1+1) 0 (blCells b (.slice dA b.disks.length dc)).toList)=.ok (.agg (blCells b (.slice dA b.disks.length dc))) (W.setCells (xb+1+1+1) 0 (blCells b (.slice dA b.disks.length dc)).toList) :=
    run_loadVar_mid (P:=prog) (W.setCells (xb+1+1+1) 0 (blCells b (.slice dA b.disks.length dc)).toList) (xb+1+1+1) 0 89 (blCells b (.slice dA b.disks.length dc)).toList _ (World.rangeAt_setCells_same W (xb+1+1+1) 0 (blCells b (.slice dA b.disks.length dc)).toList HTH.out) underlying89 rfl qQe
   have HEF:=Hh hEF;have HLD:=Hh hld;clear hC hQ hY hZ hE hEF hld
   go_wp2_with (first|(refine wpList_load_mid rfl 89 _ rfl (xb+1) 0 rfl _ _ HRG.out underlying89 rfl qQe ?_)|(refine wpList_store_mid rfl 89 _ _ rfl (xb+1+1+1) 0 (blCells b (.slice dA b.disks.length dc)).toList.toArray rfl rfl HTH.out qQe (qQO _ _ _ _) ?_))
   refine bodyPost_ret (v:=.tuple #[.agg (blCells b (.slice dA b.disks.length dc)),.bool true,.int .i64 16]) (qQl results82 _ rfl HLD.out) rfl ?_;rw[HEQ.out];exact⟨(.slice dA b.disks.length dc),rfl,own_kx (HBO.out) HEF.out,HEF.out⟩
  ·have hl2:¬ b.disks.length=0:=fun e=>h2 (List.length_eq_zero_iff.1 e)
   have H2:=Hh h2;clear h2
   go_upto_region 41 with fail
   clear q4 f4 y0 y7 hl hl2;have hQ2:At (W.setCell ⟨xb+1,4,none⟩ (.slice xA x.disks.length xc)) (xb+1) 89 (blCells { b with disks:=x.disks } (.slice xA x.disks.length xc)):=hQ.set 4 (.slice xA x.disks.length xc);have hZ2:=hZ.far (p:=⟨xb+1,4,none⟩) (show xb+1+1+1≠xb+1 by omega) (.slice xA x.disks.length xc);have hE2:Ext w (W.setCell ⟨xb+1,4,none⟩ (.slice xA x.disks.length xc)):=Chg.setCell (p:=⟨xb+1,4,none⟩) hE (.inr (by have:=HXB.out;show _≤xb+1;omega)) _;clear hC hQ hY hZ hE;generalize W.setCell ⟨xb+1,4,none⟩ (.slice xA x.disks.length xc)=W2 at hQ2 hZ2 hE2⊢;have hC:=hQ2;have hQ:=hQ2;have hZ:=hZ2;have hE:=hE2;have hY:=hQ2;clear hQ2 hZ2 hE2;have HEQ:Hid (qQG y.closed b x=({ b with disks:=x.disks },true,0)):=Hh (by unfold qQG qZr;rw[if_neg (by rw[HK.out];decide),if_neg (by rw[HK.out];decide),if_pos HK.out,if_neg H1.out,if_neg H2.out]);have HRG:=Hh hQ.range;have HTH:Hid (W2.there (xb+1+1+1) 0 (blCells { b with disks:=x.disks } (.slice xA x.disks.length xc)).toList.toArray.size):=Hh hZ.there;have hEF:Ext w (W2.setCells (xb+1+1+1) 0 (blCells { b with disks:=x.disks } (.slice xA x.disks.length xc)).toList):=hE.setCells (by have:=HXB.out;omega) _ _
   have hld:(loadVar 89 ⟨xb+1+1+1,0,none⟩).run prog (W2.setCells (xb+1+1+1) 0 (blCells { b with disks:=x.disks } (.slice xA x.disks.length xc)).toList)=.ok (.agg (blCells { b with disks:=x.disks } (.slice xA x.disks.length xc))) (W2.setCells (xb+1+1+1) 0 (blCells { b with disks:=x.disks } (.slice xA x.disks.length xc)).toList) :=
    run_loadVar_mid (P:=prog) (W2.setCells (xb+1+1+1) 0 (blCells { b with disks:=x.disks } (.slice xA x.disks.length xc)).toList) (xb+1+1+1) 0 89 (blCells { b with disks:=x.disks } (.slice xA x.disks.length xc)).toList _ (World.rangeAt_setCells_same W2 (xb+1+1+1) 0 (blCells { b with disks:=x.disks } (.slice xA x.disks.length xc)).toList HTH.out) underlying89 rfl qQe
   have HEF:=Hh hEF;have HLD:=Hh hld;clear hC hQ hY hZ hE hEF hld
   go_wp2_with (first|(refine wpList_load_mid rfl 89 _ rfl (xb+1) 0 rfl _ _ HRG.out underlying89 rfl qQe ?_)|(refine wpList_store_mid rfl 89 _ _ rfl (xb+1+1+1) 0 (blCells { b with disks:=x.disks } (.slice xA x.disks.length xc)).toList.toArray rfl rfl HTH.out qQe (qQO _ _ _ _) ?_))
   refine bodyPost_ret (v:=.tuple #[.agg (blCells { b with disks:=x.disks } (.slice xA x.disks.length xc)),.bool true,.int .i64 0]) (qQl results82 _ rfl HLD.out) rfl ?_;rw[HEQ.out];exact⟨(.slice xA x.disks.length xc),rfl,own_kx (HXO.out) HEF.out,HEF.out⟩
theorem rblob_10(hk:x.kind=10):Calls prog 82 #[.agg X,.agg (blCells b dv),qQd x dx] w (RbOut w (qQG y.closed b x)):=by
 have _hh:=And.intro hbl hxl;obtain⟨dA,dc,rfl⟩:=qQa hb;obtain⟨xA,xc,rfl⟩:=qQa hx;unfold qQd;have HK:=Hh hk;clear hk
 go_enter func82,ntmps82
 have hC:=(((At.new w 35 X).alloc (.cells (blCells b (.slice dA b.disks.length dc)) 89)).alloc (.cells (zZX x xA xc) 117)).alloc (.cells #[.int .u64 0,.string ⟨#[]⟩,.int .i64 0,.int .u32 0,.slice none 0 0,.bool false,.int .i64 0,.int .i64 0,.bool false,.int .i64 0,.int .i64 0,.int .i64 0,.bool false] 89);have hQ:=((At.new (w.alloc (.cells X 35)) 89 (blCells b (.slice dA b.disks.length dc))).alloc (.cells (zZX x xA xc) 117)).alloc (.cells #[.int .u64 0,.string ⟨#[]⟩,.int .i64 0,.int .u32 0,.slice none 0 0,.bool false,.int .i64 0,.int .i64 0,.bool false,.int .i64 0,.int .i64 0,.int .i64 0,.bool false] 89);have hY:=(At.new ((w.alloc (.cells X 35)).alloc (.cells (blCells b (.slice dA b.disks.length dc)) 89)) 117 (zZX x xA xc)).alloc (.cells #[.int .u64 0,.string ⟨#[]⟩,.int .i64 0,.int .u32 0,.slice none 0 0,.bool false,.int .i64 0,.int .i64 0,.bool false,.int .i64 0,.int .i64 0,.int .i64 0,.bool false] 89);have hZ:=At.new (((w.alloc (.cells X 35)).alloc (.cells (blCells b (.slice dA b.disks.length dc)) 89)).alloc (.cells (zZX x xA xc) 117)) 89 #[.int .u64 0,.string ⟨#[]⟩,.int .i64 0,.int .u32 0,.slice none 0 0,.bool false,.int .i64 0,.int .i64 0,.bool false,.int .i64 0,.int .i64 0,.int .i64 0,.bool false];have hE:=((((Er w).alloc (.cells X 35)).alloc (.cells (blCells b (.slice dA b.disks.length dc)) 89)).alloc (.cells (zZX x xA xc) 117)).alloc (.cells #[.int .u64 0,.string ⟨#[]⟩,.int .i64 0,.int .u32 0,.slice none 0 0,.bool false,.int .i64 0,.int .i64 0,.bool false,.int .i64 0,.int .i64 0,.int .i64 0,.bool false] 89);rw[show(w.alloc (.cells X 35)).heap.size=w.heap.size+1 by simp]at hQ;rw[show((w.alloc (.cells X 35)).alloc (.cells (blCells b (.slice dA b.disks.length dc)) 89)).heap.size=w.heap.size+1+1 by simp]at hY;rw[show(((w.alloc (.cells X 35)).alloc (.cells (blCells b (.slice dA b.disks.length dc)) 89)).alloc (.cells (zZX x xA xc) 117)).heap.size=w.heap.size+1+1+1 by simp]at hZ
 go_upto_region 1 with fail
 obtain⟨xb,hxb⟩:∃xb,w.heap.size=xb:=⟨_,rfl⟩;rw[hxb]at hC hQ hY hZ⊢;generalize World.alloc _ _=W at hC hQ hY hZ hE⊢;have HXB:=Hh (show w.heap.size≤xb by omega);have hxb2:=hZ.lt;have lC:=hC.lt;have lQ:=hQ.lt;have lY:=hY.lt;clear hxb;have HBO:=Hh hb;have HXO:=Hh hx;clear hb hx;have y0:=hY.cell 0;simp at y0;rw[HK.out]at y0;have q11:=hQ.cell 11;have q12:=hQ.cell 12;simp at q11 q12;rcases Bool.eq_false_or_eq_true b.dead with hd|hd
 ·rw[hd]at q12;have HD:=Hh hd;clear hd
  by_cases hp:0<b.pins
  ·have HP:=Hh hp
   go_upto_region 29 with fail
   clear q11 q12 y0 hp;have HEQ:Hid (qQG y.closed b x=(b,true,16)):=Hh (by unfold qQG;rw[if_pos HK.out,if_pos (by simp[HP.out])]);have HRG:=Hh hQ.range;have HTH:Hid (W.there (xb+1+1+1) 0 (blCells b (.slice dA b.disks.length dc)).toList.toArray.size):=Hh hZ.there;have hEF:Ext w (W.setCells (xb+1+1+1) 0 (blCells b (.slice dA b.disks.length dc)).toList):=hE.setCells (by have:=HXB.out;omega) _ _
   have hld:(loadVar 89 ⟨xb+1+1+1,0,none⟩).run prog (W.setCells (xb+1+1+1) 0 (blCells b (.slice dA b.disks.length dc)).toList)=.ok (.agg (blCells b (.slice dA b.disks.length dc))) (W.setCells (xb+1+1+1) 0 (blCells b (.slice dA b.disks.length dc)).toList) :=
    run_loadVar_mid (P:=prog) (W.setCells (xb+1+1+1) 0 (blCells b (.slice dA b.disks.length dc)).toList) (xb+1+1+1) 0 89 (blCells b (.slice dA b.disks.length dc)).toList _ (World.rangeAt_setCells_same W (xb+1+1+1) 0 (blCells b (.slice dA b.disks.length dc)).toList HTH.out) underlying89 rfl qQe
   have HEF:=Hh hEF;have HLD:=Hh hld;clear hC hQ hY hZ hE hEF hld
   go_wp2_with (first|(refine wpList_load_mid rfl 89 _ rfl (xb+1) 0 rfl _ _ HRG.out underlying89 rfl qQe ?_)|(refine wpList_store_mid rfl 89 _ _ rfl (xb+1+1+1) 0 (blCells b (.slice dA b.disks.length dc)).toList.toArray rfl rfl HTH.out qQe (qQO _ _ _ _) ?_))
   refine bodyPost_ret (v:=.tuple #[.agg (blCells b (.slice dA b.disks.length dc)),.bool true,.int .i64 16]) (qQl results82 _ rfl HLD.out) rfl ?_;rw[HEQ.out];exact⟨(.slice dA b.disks.length dc),rfl,own_kx (HBO.out) HEF.out,HEF.out⟩
  ·have HP:=Hh hp
   go_upto_region 30 with fail
   clear q11 q12 y0 hp;have HEQ:Hid (qQG y.closed b x=(b,false,0)):=Hh (by unfold qQG;rw[if_pos HK.out,if_neg (by simp[HP.out,HD.out])]);have HRG:=Hh hQ.range;have HTH:Hid (W.there (xb+1+1+1) 0 (blCells b (.slice dA b.disks.length dc)).toList.toArray.size):=Hh hZ.there;have hEF:Ext w (W.setCells (xb+1+1+1) 0 (blCells b (.slice dA b.disks.length dc)).toList):=hE.setCells (by have:=HXB.out;omega) _ _
   have hld:(loadVar 89 ⟨xb+1+1+1,0,none⟩).run prog (W.setCells (xb+1+1+1) 0 (blCells b (.slice dA b.disks.length dc)).toList)=.ok (.agg (blCells b (.slice dA b.disks.length dc))) (W.setCells (xb+1+1+1) 0 (blCells b (.slice dA b.disks.length dc)).toList) :=
    run_loadVar_mid (P:=prog) (W.setCells (xb+1+1+1) 0 (blCells b (.slice dA b.disks.length dc)).toList) (xb+1+1+1) 0 89 (blCells b (.slice dA b.disks.length dc)).toList _ (World.rangeAt_setCells_same W (xb+1+1+1) 0 (blCells b (.slice dA b.disks.length dc)).toList HTH.out) underlying89 rfl qQe
   have HEF:=Hh hEF;have HLD:=Hh hld;clear hC hQ hY hZ hE hEF hld
   go_wp2_with (first|(refine wpList_load_mid rfl 89 _ rfl (xb+1) 0 rfl _ _ HRG.out underlying89 rfl qQe ?_)|(refine wpList_store_mid rfl 89 _ _ rfl (xb+1+1+1) 0 (blCells b (.slice dA b.disks.length dc)).toList.toArray rfl rfl HTH.out qQe (qQO _ _ _ _) ?_))
   refine bodyPost_ret (v:=.tuple #[.agg (blCells b (.slice dA b.disks.length dc)),.bool false,.int .i64 0]) (qQl results82 _ rfl HLD.out) rfl ?_;rw[HEQ.out];exact⟨(.slice dA b.disks.length dc),rfl,own_kx (HBO.out) HEF.out,HEF.out⟩
 ·rw[hd]at q12;have HD:=Hh hd;clear hd
  go_upto_region 29 with fail
  clear q11 q12 y0;have HEQ:Hid (qQG y.closed b x=(b,true,16)):=Hh (by unfold qQG;rw[if_pos HK.out,if_pos (by simp[HD.out])]);have HRG:=Hh hQ.range;have HTH:Hid (W.there (xb+1+1+1) 0 (blCells b (.slice dA b.disks.length dc)).toList.toArray.size):=Hh hZ.there;have hEF:Ext w (W.setCells (xb+1+1+1) 0 (blCells b (.slice dA b.disks.length dc)).toList):=hE.setCells (by have:=HXB.out;omega) _ _
  have hld:(loadVar 89 ⟨xb+1+1+1,0,none⟩).run prog (W.setCells (xb+1+1+1) 0 (blCells b (.slice dA b.disks.length dc)).toList)=.ok (.agg (blCells b (.slice dA b.disks.length dc))) (W.setCells (xb+1+1+1) 0 (blCells b (.slice dA b.disks.length dc)).toList) :=
   run_loadVar_mid (P:=prog) (W.setCells (xb+1+1+1) 0 (blCells b (.slice dA b.disks.length dc)).toList) (xb+1+1+1) 0 89 (blCells b (.slice dA b.disks.length dc)).toList _ (World.rangeAt_setCells_same W (xb+1+1+1) 0 (blCells b (.slice dA b.disks.length dc)).toList HTH.out) underlying89 rfl qQe
  have HEF:=Hh hEF;have HLD:=Hh hld;clear hC hQ hY hZ hE hEF hld
  go_wp2_with (first|(refine wpList_load_mid rfl 89 _ rfl (xb+1) 0 rfl _ _ HRG.out underlying89 rfl qQe ?_)|(refine wpList_store_mid rfl 89 _ _ rfl (xb+1+1+1) 0 (blCells b (.slice dA b.disks.length dc)).toList.toArray rfl rfl HTH.out qQe (qQO _ _ _ _) ?_))
  refine bodyPost_ret (v:=.tuple #[.agg (blCells b (.slice dA b.disks.length dc)),.bool true,.int .i64 16]) (qQl results82 _ rfl HLD.out) rfl ?_;rw[HEQ.out];exact⟨(.slice dA b.disks.length dc),rfl,own_kx (HBO.out) HEF.out,HEF.out⟩
theorem rblob_9(hk:x.kind=9):Calls prog 82 #[.agg X,.agg (blCells b dv),qQd x dx] w (RbOut w (qQG y.closed b x)):=by
 have _hh:=And.intro hbl hxl;obtain⟨dA,dc,rfl⟩:=qQa hb;obtain⟨xA,xc,rfl⟩:=qQa hx;unfold qQd;have HK:=Hh hk;clear hk
 go_enter func82,ntmps82
 have hC:=(((At.new w 35 X).alloc (.cells (blCells b (.slice dA b.disks.length dc)) 89)).alloc (.cells (zZX x xA xc) 117)).alloc (.cells #[.int .u64 0,.string ⟨#[]⟩,.int .i64 0,.int .u32 0,.slice none 0 0,.bool false,.int .i64 0,.int .i64 0,.bool false,.int .i64 0,.int .i64 0,.int .i64 0,.bool false] 89);have hQ:=((At.new (w.alloc (.cells X 35)) 89 (blCells b (.slice dA b.disks.length dc))).alloc (.cells (zZX x xA xc) 117)).alloc (.cells #[.int .u64 0,.string ⟨#[]⟩,.int .i64 0,.int .u32 0,.slice none 0 0,.bool false,.int .i64 0,.int .i64 0,.bool false,.int .i64 0,.int .i64 0,.int .i64 0,.bool false] 89);have hY:=(At.new ((w.alloc (.cells X 35)).alloc (.cells (blCells b (.slice dA b.disks.length dc)) 89)) 117 (zZX x xA xc)).alloc (.cells #[.int .u64 0,.string ⟨#[]⟩,.int .i64 0,.int .u32 0,.slice none 0 0,.bool false,.int .i64 0,.int .i64 0,.bool false,.int .i64 0,.int .i64 0,.int .i64 0,.bool false] 89);have hZ:=At.new (((w.alloc (.cells X 35)).alloc (.cells (blCells b (.slice dA b.disks.length dc)) 89)).alloc (.cells (zZX x xA xc) 117)) 89 #[.int .u64 0,.string ⟨#[]⟩,.int .i64 0,.int .u32 0,.slice none 0 0,.bool false,.int .i64 0,.int .i64 0,.bool false,.int .i64 0,.int .i64 0,.int .i64 0,.bool false];have hE:=((((Er w).alloc (.cells X 35)).alloc (.cells (blCells b (.slice dA b.disks.length dc)) 89)).alloc (.cells (zZX x xA xc) 117)).alloc (.cells #[.int .u64 0,.string ⟨#[]⟩,.int .i64 0,.int .u32 0,.slice none 0 0,.bool false,.int .i64 0,.int .i64 0,.bool false,.int .i64 0,.int .i64 0,.int .i64 0,.bool false] 89);rw[show(w.alloc (.cells X 35)).heap.size=w.heap.size+1 by simp]at hQ;rw[show((w.alloc (.cells X 35)).alloc (.cells (blCells b (.slice dA b.disks.length dc)) 89)).heap.size=w.heap.size+1+1 by simp]at hY;rw[show(((w.alloc (.cells X 35)).alloc (.cells (blCells b (.slice dA b.disks.length dc)) 89)).alloc (.cells (zZX x xA xc) 117)).heap.size=w.heap.size+1+1+1 by simp]at hZ
 go_upto_region 1 with fail
 obtain⟨xb,hxb⟩:∃xb,w.heap.size=xb:=⟨_,rfl⟩;rw[hxb]at hC hQ hY hZ⊢;generalize World.alloc _ _=W at hC hQ hY hZ hE⊢;have HXB:=Hh (show w.heap.size≤xb by omega);have hxb2:=hZ.lt;have lC:=hC.lt;have lQ:=hQ.lt;have lY:=hY.lt;clear hxb;have HBO:=Hh hb;have HXO:=Hh hx;clear hb hx;have y0:=hY.cell 0;simp at y0;rw[HK.out]at y0;have q5:=hQ.cell 5;have q8:=hQ.cell 8;have q4:=hQ.cell 4;have f4:=hQ.frozen 4;simp at q5 q8 q4;rcases Bool.eq_false_or_eq_true b.a.there with ha|ha
 ·rw[ha]at q5;have HA:=Hh ha;clear ha;rcases Bool.eq_false_or_eq_true b.b.there with hb2|hb2
  ·rw[hb2]at q8;have HB:=Hh hb2;clear hb2
   by_cases hd:b.disks=[]
   ·have hl:(b.disks.length:Int)=0:=by rw[hd];rfl
    have HD:=Hh hd;clear hd
    go_upto_region 25 with fail
    clear q4 f4 q5 q8 y0 hl;have HEQ:Hid (qQG y.closed b x=(b,true,16)):=Hh (by unfold qQG qZr;rw[if_neg (by rw[HK.out];decide)];rw[if_neg (by rw[HK.out];decide)];rw[if_neg (by rw[HK.out];decide)];rw[if_neg (by rw[HK.out];decide)];rw[if_pos HK.out,if_pos (by simp[HA.out,HB.out,HD.out])]);have HRG:=Hh hQ.range;have HTH:Hid (W.there (xb+1+1+1) 0 (blCells b (.slice dA b.disks.length dc)).toList.toArray.size):=Hh hZ.there;have hEF:Ext w (W.setCells (xb+1+1+1) 0 (blCells b (.slice dA b.disks.length dc)).toList):=hE.setCells (by have:=HXB.out;omega) _ _
    have hld:(loadVar 89 ⟨xb+1+1+1,0,none⟩).run prog (W.setCells (xb+1+1+1) 0 (blCells b (.slice dA b.disks.length dc)).toList)=.ok (.agg (blCells b (.slice dA b.disks.length dc))) (W.setCells (xb+1+1+1) 0 (blCells b (.slice dA b.disks.length dc)).toList) :=
     run_loadVar_mid (P:=prog) (W.setCells (xb+1+1+1) 0 (blCells b (.slice dA b.disks.length dc)).toList) (xb+1+1+1) 0 89 (blCells b (.slice dA b.disks.length dc)).toList _ (World.rangeAt_setCells_same W (xb+1+1+1) 0 (blCells b (.slice dA b.disks.length dc)).toList HTH.out) underlying89 rfl qQe
    have HEF:=Hh hEF;have HLD:=Hh hld;clear hC hQ hY hZ hE hEF hld
    go_wp2_with (first|(refine wpList_load_mid rfl 89 _ rfl (xb+1) 0 rfl _ _ HRG.out underlying89 rfl qQe ?_)|(refine wpList_store_mid rfl 89 _ _ rfl (xb+1+1+1) 0 (blCells b (.slice dA b.disks.length dc)).toList.toArray rfl rfl HTH.out qQe (qQO _ _ _ _) ?_))
    refine bodyPost_ret (v:=.tuple #[.agg (blCells b (.slice dA b.disks.length dc)),.bool true,.int .i64 16]) (qQl results82 _ rfl HLD.out) rfl ?_;rw[HEQ.out];exact⟨(.slice dA b.disks.length dc),rfl,own_kx (HBO.out) HEF.out,HEF.out⟩
   ·have hl:¬ b.disks.length=0:=fun e=>hd (List.length_eq_zero_iff.1 e)
    have HD:=Hh hd;clear hd
    go_upto_region 41 with fail
    clear q4 f4 q5 q8 y0 hl;have hQ2:At (W.setCell ⟨xb+1,4,none⟩ (.slice none 0 0)) (xb+1) 89 (blCells { b with disks:=[] } (.slice none 0 0)):=hQ.set 4 (.slice none 0 0);have hZ2:=hZ.far (p:=⟨xb+1,4,none⟩) (show xb+1+1+1≠xb+1 by omega) (.slice none 0 0);have hE2:Ext w (W.setCell ⟨xb+1,4,none⟩ (.slice none 0 0)):=Chg.setCell (p:=⟨xb+1,4,none⟩) hE (.inr (by have:=HXB.out;show _≤xb+1;omega)) _;clear hC hQ hY hZ hE;generalize W.setCell ⟨xb+1,4,none⟩ (.slice none 0 0)=W2 at hQ2 hZ2 hE2⊢;have hC:=hQ2;have hQ:=hQ2;have hZ:=hZ2;have hE:=hE2;have hY:=hQ2;clear hQ2 hZ2 hE2;have HEQ:Hid (qQG y.closed b x=({ b with disks:=[] },true,0)):=Hh (by unfold qQG qZr;rw[if_neg (by rw[HK.out];decide)];rw[if_neg (by rw[HK.out];decide)];rw[if_neg (by rw[HK.out];decide)];rw[if_neg (by rw[HK.out];decide)];rw[if_pos HK.out,if_neg (by simp[HA.out,HB.out,HD.out])]);have HRG:=Hh hQ.range;have HTH:Hid (W2.there (xb+1+1+1) 0 (blCells { b with disks:=[] } (.slice none 0 0)).toList.toArray.size):=Hh hZ.there;have hEF:Ext w (W2.setCells (xb+1+1+1) 0 (blCells { b with disks:=[] } (.slice none 0 0)).toList):=hE.setCells (by have:=HXB.out;omega) _ _
    have hld:(loadVar 89 ⟨xb+1+1+1,0,none⟩).run prog (W2.setCells (xb+1+1+1) 0 (blCells { b with disks:=[] } (.slice none 0 0)).toList)=.ok (.agg (blCells { b with disks:=[] } (.slice none 0 0))) (W2.setCells (xb+1+1+1) 0 (blCells { b with disks:=[] } (.slice none 0 0)).toList) :=
     run_loadVar_mid (P:=prog) (W2.setCells (xb+1+1+1) 0 (blCells { b with disks:=[] } (.slice none 0 0)).toList) (xb+1+1+1) 0 89 (blCells { b with disks:=[] } (.slice none 0 0)).toList _ (World.rangeAt_setCells_same W2 (xb+1+1+1) 0 (blCells { b with disks:=[] } (.slice none 0 0)).toList HTH.out) underlying89 rfl qQe
    have HEF:=Hh hEF;have HLD:=Hh hld;clear hC hQ hY hZ hE hEF hld
    go_wp2_with (first|(refine wpList_load_mid rfl 89 _ rfl (xb+1) 0 rfl _ _ HRG.out underlying89 rfl qQe ?_)|(refine wpList_store_mid rfl 89 _ _ rfl (xb+1+1+1) 0 (blCells { b with disks:=[] } (.slice none 0 0)).toList.toArray rfl rfl HTH.out qQe (qQO _ _ _ _) ?_))
    refine bodyPost_ret (v:=.tuple #[.agg (blCells { b with disks:=[] } (.slice none 0 0)),.bool true,.int .i64 0]) (qQl results82 _ rfl HLD.out) rfl ?_;rw[HEQ.out];exact⟨(.slice none 0 0),rfl,own_kx (qQR w 0 _) HEF.out,HEF.out⟩
  ·rw[hb2]at q8;have HB:=Hh hb2;clear hb2
   go_upto_region 25 with fail
   clear q4 f4 q5 q8 y0;have HEQ:Hid (qQG y.closed b x=(b,true,16)):=Hh (by unfold qQG qZr;rw[if_neg (by rw[HK.out];decide)];rw[if_neg (by rw[HK.out];decide)];rw[if_neg (by rw[HK.out];decide)];rw[if_neg (by rw[HK.out];decide)];rw[if_pos HK.out,if_pos (by simp[HB.out])]);have HRG:=Hh hQ.range;have HTH:Hid (W.there (xb+1+1+1) 0 (blCells b (.slice dA b.disks.length dc)).toList.toArray.size):=Hh hZ.there;have hEF:Ext w (W.setCells (xb+1+1+1) 0 (blCells b (.slice dA b.disks.length dc)).toList):=hE.setCells (by have:=HXB.out;omega) _ _
   have hld:(loadVar 89 ⟨xb+1+1+1,0,none⟩).run prog (W.setCells (xb+1+1+1) 0 (blCells b (.slice dA b.disks.length dc)).toList)=.ok (.agg (blCells b (.slice dA b.disks.length dc))) (W.setCells (xb+1+1+1) 0 (blCells b (.slice dA b.disks.length dc)).toList) :=
    run_loadVar_mid (P:=prog) (W.setCells (xb+1+1+1) 0 (blCells b (.slice dA b.disks.length dc)).toList) (xb+1+1+1) 0 89 (blCells b (.slice dA b.disks.length dc)).toList _ (World.rangeAt_setCells_same W (xb+1+1+1) 0 (blCells b (.slice dA b.disks.length dc)).toList HTH.out) underlying89 rfl qQe
   have HEF:=Hh hEF;have HLD:=Hh hld;clear hC hQ hY hZ hE hEF hld
   go_wp2_with (first|(refine wpList_load_mid rfl 89 _ rfl (xb+1) 0 rfl _ _ HRG.out underlying89 rfl qQe ?_)|(refine wpList_store_mid rfl 89 _ _ rfl (xb+1+1+1) 0 (blCells b (.slice dA b.disks.length dc)).toList.toArray rfl rfl HTH.out qQe (qQO _ _ _ _) ?_))
   refine bodyPost_ret (v:=.tuple #[.agg (blCells b (.slice dA b.disks.length dc)),.bool true,.int .i64 16]) (qQl results82 _ rfl HLD.out) rfl ?_;rw[HEQ.out];exact⟨(.slice dA b.disks.length dc),rfl,own_kx (HBO.out) HEF.out,HEF.out⟩
 ·rw[ha]at q5;have HA:=Hh ha;clear ha
  go_upto_region 25 with fail
  clear q4 f4 q5 q8 y0;have HEQ:Hid (qQG y.closed b x=(b,true,16)):=Hh (by unfold qQG qZr;rw[if_neg (by rw[HK.out];decide)];rw[if_neg (by rw[HK.out];decide)];rw[if_neg (by rw[HK.out];decide)];rw[if_neg (by rw[HK.out];decide)];rw[if_pos HK.out,if_pos (by simp[HA.out])]);have HRG:=Hh hQ.range;have HTH:Hid (W.there (xb+1+1+1) 0 (blCells b (.slice dA b.disks.length dc)).toList.toArray.size):=Hh hZ.there;have hEF:Ext w (W.setCells (xb+1+1+1) 0 (blCells b (.slice dA b.disks.length dc)).toList):=hE.setCells (by have:=HXB.out;omega) _ _
  have hld:(loadVar 89 ⟨xb+1+1+1,0,none⟩).run prog (W.setCells (xb+1+1+1) 0 (blCells b (.slice dA b.disks.length dc)).toList)=.ok (.agg (blCells b (.slice dA b.disks.length dc))) (W.setCells (xb+1+1+1) 0 (blCells b (.slice dA b.disks.length dc)).toList) :=
   run_loadVar_mid (P:=prog) (W.setCells (xb+1+1+1) 0 (blCells b (.slice dA b.disks.length dc)).toList) (xb+1+1+1) 0 89 (blCells b (.slice dA b.disks.length dc)).toList _ (World.rangeAt_setCells_same W (xb+1+1+1) 0 (blCells b (.slice dA b.disks.length dc)).toList HTH.out) underlying89 rfl qQe
  have HEF:=Hh hEF;have HLD:=Hh hld;clear hC hQ hY hZ hE hEF hld
  go_wp2_with (first|(refine wpList_load_mid rfl 89 _ rfl (xb+1) 0 rfl _ _ HRG.out underlying89 rfl qQe ?_)|(refine wpList_store_mid rfl 89 _ _ rfl (xb+1+1+1) 0 (blCells b (.slice dA b.disks.length dc)).toList.toArray rfl rfl HTH.out qQe (qQO _ _ _ _) ?_))
  refine bodyPost_ret (v:=.tuple #[.agg (blCells b (.slice dA b.disks.length dc)),.bool true,.int .i64 16]) (qQl results82 _ rfl HLD.out) rfl ?_;rw[HEQ.out];exact⟨(.slice dA b.disks.length dc),rfl,own_kx (HBO.out) HEF.out,HEF.out⟩
end blob
end Go.Proofs.YtiojjokfeknhcaaGreat
