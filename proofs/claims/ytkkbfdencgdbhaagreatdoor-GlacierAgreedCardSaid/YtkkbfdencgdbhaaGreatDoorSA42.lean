/-
  Part 42 of what the law leans on.
-/
import Derived.Test.YtkkbfdencgdbhaaGreatDoorSA5
import Derived.Test.YtkkbfdencgdbhaaGreatDoorSA8
import Derived.Test.YtkkbfdencgdbhaaGreatDoorSA13
import Derived.Test.YtkkbfdencgdbhaaGreatDoorSA40
import Derived.Test.YtkkbfdencgdbhaaGreatDoorSA41
set_option linter.unusedVariables false
set_option linter.unusedSimpArgs false
set_option linter.unusedSectionVars false
namespace Go.Proofs.YtkkbfdencgdbhaaGreatDoor
open Go.RowKit
section
variable{P:Program}{ops:Array Oper}{Q:Exit→Act→World→Prop}{Γ : Type}{a0:Act}{φ : Γ → Nat→Value→World→Prop}{G : Γ → (Nat→Bool)→World→Prop}{N j:Nat}{Fin:Value→World→Prop}
def lastB(ops:Array Oper)(N:Nat):Bool:=(List.range N).all fun j=>(List.range (N+1)).any fun k=>decide (j<k)&&needs ops k j
theorem last_all{L:Nat→Bool}(hB:lastB ops N=true)(hd:∀i d,L i=true→needs ops i d=true→L d=true)(hN:L N=true):∀j,j≤N→L j=true:=by
 have key:∀k j,j≤N→N - j=k→L j=true:=by
  intro k
  induction k using Nat.strongRecOn with
  | _ k ih =>
   intro j hj hk
   by_cases e:j=N
   ·rw[e];exact hN
   ·have h1:=List.all_eq_true.1 hB j (List.mem_range.2 (by omega))
    obtain⟨i,hi,h2⟩:=List.any_eq_true.1 h1
    simp only[Bool.and_eq_true,decide_eq_true_eq]at h2
    have h3:=List.mem_range.1 hi
    exact hd i j (ih (N - i) (by omega) i (by omega) rfl) h2.2
 exact fun j hj=>key _ j hj rfl
def lφ(φ : Γ → Nat→Value→World→Prop)(Fin:Value→World→Prop)(N:Nat)(γ : Γ × Bool)(d:Nat)(v:Value)(w:World):Prop:=if γ.2=true then(d=N→Fin v w)else φ γ.1 d v w
def lG(G : Γ → (Nat→Bool)→World→Prop)(N:Nat)(γ : Γ × Bool)(L:Nat→Bool)(w:World):Prop := γ.2=L N∧(γ.2=false→G γ.1 L w)
theorem StepAt.before(h:StepAt P ops Q a0 φ G j)(hB:lastB ops N=true)(hj:j<N):StepAt P ops Q a0 (lφ φ Fin N) (lG G N) j:=by
 intro γ L v a w hdown hLj hneed hG hφ hval h0
 obtain⟨γ,b⟩ := γ
 obtain⟨h1,h2⟩:=hG
 simp only at h1 h2
 cases b with
 | true =>
  have:=last_all hB hdown h1.symm j (by omega)
  rw[this]at hLj;cases hLj
 | false =>
  refine wpOp_mono ?_ (h γ L v a w hdown hLj hneed (h2 rfl) (fun d hd=>by have:=hφ d hd;simpa[lφ]using this) hval h0)
  rintro a' w' ⟨x, γ',rfl,hx,hst,hG'⟩
  have e:(N == j)=false:=by simp;omega
  refine⟨x,(γ',false),rfl,by simpa[lφ]using hx,fun d hd hl hh=>?_,?_,fun _=>hG'⟩
  ·have:=hst d hd hl (by simpa[lφ]using hh)
   simpa[lφ]using this
  ·show false=(N == j||L N)
   rw[e,←h1];rfl
theorem StepsTo.before(h:StepsTo P ops Q a0 φ G N)(hB:lastB ops N=true):∀n,n≤N→StepsTo P ops Q a0 (lφ φ Fin N) (lG G N) n
 | 0,_=>trivial
 | n+1,hn=>⟨StepsTo.before h hB n (by omega),(h.at_ (by omega)).before hB (by omega)⟩
theorem step_last(hB:lastB ops N=true)
 (h:∀(γ : Γ) (L:Nat→Bool) (v:Nat→Value) (a:Act) (w:World),(∀d,d<N→L d=true)→G γ L w→(∀d,d<N → φ γ d (v d) w)→(∀d t,dstOf ops d=some t→d<N→a.tmps.getD t undef=v d)→(∀t,((List.range ops.size).all fun d=>dstOf ops d != some t)=true→a.tmps.getD t undef=a0.tmps.getD t undef) →
   wpOp P ops Q N (fun a' w'=>∃x,a'=a.put (dstOf ops N) x∧Fin x w') a w)
 (hneedB:((List.range N).all fun d=>needs ops N d||(List.range N).any fun k=>decide (d<k)&&needs ops k d)=true):StepAt P ops Q a0 (lφ φ Fin N) (lG G N) N:=by
 intro γ L v a w hdown hLj hneed hG hφ hval h0
 obtain⟨γ,b⟩ := γ
 obtain⟨h1,h2⟩:=hG
 simp only at h1 h2
 have hb:b=false:=by rw[h1,hLj]
 subst hb
 have hall:∀d,d<N→L d=true:=by
  have key:∀k d,d<N→N - d=k→L d=true:=by
   intro k
   induction k using Nat.strongRecOn with
   | _ k ih =>
    intro d hd hk
    have h3:=List.all_eq_true.1 hneedB d (List.mem_range.2 hd)
    rw[Bool.or_eq_true]at h3
    rcases h3 with h3|h3
    ·exact hneed d h3
    ·obtain⟨i,hi,h4⟩:=List.any_eq_true.1 h3
     simp only[Bool.and_eq_true,decide_eq_true_eq]at h4
     have h5:=List.mem_range.1 hi
     exact hdown i d (ih (N - i) (by omega) i h5 rfl) h4.2
  exact fun d hd=>key _ d hd rfl
 refine wpOp_mono ?_ (h γ L v a w hall (h2 rfl) (fun d hd=>by have:=hφ d (hall d hd);simpa[lφ]using this) (fun d t hd hn=>hval d t hd (hall d hn)) (fun t ht=>h0 t fun d _ hd=>?_))
 ·rintro a' w' ⟨x,rfl,hF⟩
  refine⟨x,(γ,true),rfl,by simpa[lφ]using hF,fun d hd hl hh=>by simp[lφ,hd],?_,fun hh=>by cases hh⟩
  show true=(N == N||L N)
  simp
 ·have hds:d<ops.size:=by
   rcases Nat.lt_or_ge d ops.size with h|h
   ·exact h
   ·unfold dstOf at hd;rw[Array.getElem?_eq_none h]at hd;cases hd
  have:=List.all_eq_true.1 ht d (List.mem_range.2 hds)
  rw[hd]at this
  simp at this
theorem wp_region_last{id:Nat}{w:World}(φ : Γ → Nat→Value→World→Prop)(G : Γ → (Nat→Bool)→World→Prop)(Fin:Value→World→Prop)(N:Nat)(hsz:ops.size=N+1)(hm:P.follows .mixedOrders=true)
 (hback:backB ops=true) (hd:dstB ops a0.tmps.size=true) (hB:lastB ops N=true) (hneedB:((List.range N).all fun d=>needs ops N d||(List.range N).any fun k=>decide (d<k)&&needs ops k d)=true) (γ : Γ) (hG:G γ (fun _=>false) w.drew) (steps:StepsTo P ops Q a0 φ G N)
 (last:∀(γ : Γ) (L:Nat→Bool) (v:Nat→Value) (a:Act) (w:World),(∀d,d<N→L d=true)→G γ L w→(∀d,d<N → φ γ d (v d) w)→(∀d t,dstOf ops d=some t→d<N→a.tmps.getD t undef=v d)→(∀t,((List.range ops.size).all fun d=>dstOf ops d != some t)=true→a.tmps.getD t undef=a0.tmps.getD t undef) →
   wpOp P ops Q N (fun a' w'=>∃x,a'=a.put (dstOf ops N) x∧Fin x w') a w)
 (fin:∀v w,Fin (v N) w→Q .normal (putAll ops v a0 ops.size) w):(Code.region id ops true).wp P Q a0 w:=by
 refine wp_region_phi (Γ := Γ × Bool) (lφ φ Fin N) (lG G N) hm hback hd (γ,false) ⟨rfl,fun _=>hG⟩ ?_ ?_
 ·rw[hsz]
  exact⟨StepsTo.before steps hB N (Nat.le_refl _),step_last hB last hneedB⟩
 ·intro γ L v w hall hG' hφ
  have hN:=hφ N (by omega)
  have hb : γ.2=true:=by rw[hG'.1];exact hall N (by omega)
  unfold lφ at hN
  rw[if_pos hb]at hN
  exact fin v w (hN rfl)
end
end Go.Proofs.YtkkbfdencgdbhaaGreatDoor
namespace Go.Proofs.YtkkbfdencgdbhaaGreatDoor
open Go.RowKit Go.Sort
theorem Fs.mid_ok(F:Fs)(k:Nat)(t:ByteArray)(h:F.tot≤4194304)(ht:t.size≤maxLen):(F.mid k t).Ok:=by
 unfold Fs.mid Dk.change
 split
 ·exact(F.ok h).tick
 ·split
  ·exact(F.ok h).tick
  ·exact(F.ok h).tick.put (by have:=Fs.nm_len k;unfold maxLen;omega) ht ((F.ok h).t _).2
theorem Fs.mid_files(F:Fs)(k:Nat)(t:ByteArray)(hr:F.tot+t.size≤4194304):(F.mid k t).files.length≤1048576:=by
 obtain⟨L,R,h1,h2,h3,h4,h5,h6⟩:=F.split k
 have hc:=q_change h1 h2 (Fs.nm_ne k) (F.at_ k) F.tot h5 (fun _=>t) t rfl hr
 have hd:F.dk=Dk.mk 4194304 (F.tot:Int) false 0 (L++(qold (Fs.nm k) (F.at_ k)++R)):=by unfold Fs.dk;rw[h3]
 unfold Fs.mid
 rw[hd,hc]
 have hl:=(F.put k t).files_len
 have e:(F.put k t).dk.files=L++(Fs.nm k,qfl t)::R:=h4 t
 rw[e]at hl
 simpa using hl
section
variable(w:World)(d m:Nat)(F:Fs)(hD:DkAt w d m F.dk)
include hD
set_option maxRecDepth 100000 in
theorem save_any(k:Nat)(s:ByteArray)(hr:F.tot+s.size≤4194304) :
 Calls Tryz.prog 176 #[.pointer (some ⟨d,0,none⟩),.string (Fs.nm k),.string s] w fun e w'=>e=.returned (.int .i64 0)∧Chg (fun j=>j=d∨j=m) w w'∧DkAt w' d m (F.put k s).dk:=by
 have hsz:s.size≤maxLen:=by unfold maxLen;omega
 have hn:(Fs.nm k).size≤maxLen:=by have:=Fs.nm_len k;unfold maxLen;omega
 have cw:=write_any w d m F.dk hD (F.ok (by omega)) (Fs.nm k) s hsz
 obtain⟨h1,h2⟩:=F.change k (fun _=>s) s rfl hr
 rw[h1]at cw
 have hO:=F.mid_ok k s (by omega) hsz
 have hfl:=F.mid_files k s hr
 have cs:=fun(w':World) (hD':DkAt w' d m (F.mid k s)) (v:Value) (hS:Sl w' v ([Fs.nm k].map Value.string))=>sync_any w' d m (F.mid k s) hD' hO v [Fs.nm k] hS (fun n h=>by rw[List.mem_singleton.1 h];exact hn) (by simp) hfl (fun h=>by cases h)
 rw[h2]at cs
 generalize Fs.nm k=n at *
 clear h1 h2 hO hfl hD
 go_enter Tryz.func176,Tryz.ntmps176
 go_wp2_with fail
 refine cw.mono ?_
 rintro e w1 ⟨rfl,hC1,hD1⟩
 clear cw
 go_wp2_with fail
 have hA:=At.new w1 9 #[.string n]
 refine(cs _ (hD1.alloc _) _ ⟨_,1,rfl,fun _=>⟨_,_,rfl,fun i x hi=>?_⟩⟩).mono ?_
 ·rw[Nat.zero_add]
  have:=hA.cell i
  rw[this]
  simpa using hi
 rintro e w2 ⟨rfl,hC2,hD2⟩
 go_wp2_with fail
 go_ret
 exact⟨rfl,(hC1.alloc _).trans hC2 (fun _ _ h=>h),hD2⟩
set_option maxRecDepth 100000 in
theorem saveterm_any(t v:Int)(ht : -9223372036854775808≤t∧t≤9223372036854775807)(hv : -9223372036854775808≤v∧v≤9223372036854775807)(hr:F.tot+100≤4194304)(hT:Tab w) :
 Calls Tryz.prog 153 #[.pointer (some ⟨d,0,none⟩),.int .i64 t,.int .i64 v] w fun e w'=>e=.returned (.int .i64 0)∧Chg (fun j=>j=d∨j=m) w w'∧DkAt w' d m (F.put 2 (tmB t v)).dk:=by
 have hbl:([t,v].flatMap ienc).length≤20:=by have:=iflat_length [t,v];simpa using this
 have hA:=At.new w 63 #[.slice none 0 0]
 have hE0:=(Ext.refl w).alloc (.cells #[.slice none 0 0] 63)
 go_enter Tryz.func153,Tryz.ntmps153
 go_wp2_with fail
 have hs1:(w.alloc (.cells #[.slice none 0 0] 63)).heap.size=w.heap.size+1:=by simp
 generalize w.alloc (.cells #[.slice none 0 0] 63)=w1 at hA hE0 hs1⊢
 obtain⟨x,hx⟩:∃x,w.heap.size=x:=⟨_,rfl⟩
 have hxw:w.heap.size≤x:=by omega
 rw[hx]at hA hs1⊢
 clear hx
 have hE1:=(Ext.refl w1).alloc (.cells #[.int .i64 t,.int .i64 v] 3)
 have cu:=ei_any (w:=w1.alloc (.cells #[.int .i64 t,.int .i64 v] 3)) (base:=x) (e:=x) (bs:=[]) ⟨Nat.le_refl _,.slice none 0 0,hA.ext hE1,World.ownsRow_nil _ _ _ _⟩ (.slice (some ⟨w1.heap.size,0,none⟩) 2 2) [t,v] (SlE.new w1 x (cs:=#[.int .i64 t,.int .i64 v]) (by decide)) (by simp;omega) (by simp) (by simp)
 rw[hs1]at cu
 refine cu.mono ?_
 rintro e w2 ⟨rfl,hC2,hA2⟩
 have hE2:Ext w w2:=((hE0.trans hE1).chg_trans hC2).mono (fun k hk hs=>by have:=hs.1;omega)
 obtain⟨bs,hbs⟩:∃bs:ByteArray,bs=⟨([t,v].flatMap ienc).toArray⟩:=⟨_,rfl⟩
 have hbb:([]:List UInt8)++[t,v].flatMap ienc=bs.data.toList:=by rw[hbs];rfl
 have hbs2:bs.size≤20:=by rw[hbs];exact hbl
 have hfr:(⟨(frameL bs.data.toList).toArray⟩:ByteArray)=tmB t v:=by rw[hbs];rfl
 rw[hbb]at hA2
 have hbe:(⟨bs.data.toList.toArray⟩:ByteArray)=bs:=by simp
 have HF:=Lib.hid hfr
 clear cu hE1 hA hE0 hC2 hbs hbb hbl hfr
 have cb:=bytes_any _ _ _ _ hA2
 rw[hbe]at cb
 clear hA2
 go_wp2_with fail
 refine cb.mono ?_
 rintro e w3 ⟨rfl,rfl⟩
 clear cb
 have cf:=frame_any (w3.alloc (.cells #[.string bs] 9)) (.slice (some ⟨w3.heap.size,0,none⟩) 1 1) bs (SlE.new w3 0 (cs:=#[.string bs]) (by decide)).1 (by omega) ((hT.ext hE2).alloc _)
 rw[HF.out]at cf
 have htl:(tmB t v).size≤28:=by
  rw[←HF.out]
  show(frameL bs.data.toList).toArray.size≤28
  rw[List.size_toArray,frameL_length]
  have:bs.data.toList.length=bs.size:=rfl
  omega
 have hE3:=hE2.alloc (.cells #[.string bs] 9)
 obtain⟨fb,hfb⟩:∃fb,tmB t v=fb:=⟨_,rfl⟩
 rw[hfb]at cf htl
 have HFB:=Lib.hid hfb
 clear HF hfb
 go_wp2_with fail
 refine cf.mono ?_
 rintro e w4 ⟨rfl,hE4⟩
 clear cf
 have cs:Calls Tryz.prog 176 #[.pointer (some ⟨d,0,none⟩),.string ⟨#[116,101,114,109]⟩,.string fb] w4 _:=save_any w4 d m F (hD.ext (hE3.trans hE4)) 2 fb (by omega)
 go_wp2_with fail
 refine cs.mono ?_
 rintro e w5 ⟨rfl,hC5,hD5⟩
 go_wp2_with fail
 go_ret
 rw[HFB.out]
 exact⟨rfl,(hE3.trans hE4).chg_trans hC5,hD5⟩
end
end Go.Proofs.YtkkbfdencgdbhaaGreatDoor
namespace Go.Proofs.YtkkbfdencgdbhaaGreatDoor
open Go.RowKit Go.Sort
section
variable{P:Program}{ops:Array Oper}{Q:Exit→Act→World→Prop}{a0:Act}{sp:List Sp}{E0:Option Nat}{items:List (Nat×List UInt8)}{pre:List UInt8}{live:(Nat→Bool)→Bool}{W0:World}{base:Nat}{j:Nat}{o:Oper}
theorem q_quiet{f:FuncId}{x:Value}(ho:ops[j]? = some o)(hg:o.guard=none)(hs:sp.getD j .any=.val x)(hi:(items.all fun x=>x.1 != j)=true)(hl:∀L:Nat→Bool,live (fun i=>i == j||L i)=live L)
 (h:∀(e:Nat) (v:Nat→Value) (a:Act) (w:World),EncChg W0 w base→(∀d,needs ops j d=true→(sp.getD d .any).holds base e (v d) w)→(∀d t,dstOf ops d=some t→needs ops j d=true→a.tmps.getD t undef=v d) →
   ∃args,(execOp a.eval o).run P w=.ok (.enter f args) w∧Calls P f args w fun r w'=>r=.returned x∧Ext w w') :
 StepAt P ops Q a0 (spφ sp base) (spG E0 items pre live W0 base) j:=by
 intro e L v a w hdown hLj hneed hG hφ hval h0
 obtain⟨args,hrun,hcall⟩:=h e v a w hG.2.1 (fun d hd=>hφ d (hneed d hd)) (fun d t hd hn=>hval d t hd (hneed d hn))
 refine wpOp_calls ho hg hrun (hcall.mono ?_)
 rintro r w' ⟨rfl,hE⟩
 refine⟨_,rfl,_,e,rfl,?_,fun d _ _ hh=>Sp.stays hh (EncChg.ext hE),hG.1,hG.2.1.trans (EncChg.ext hE),fun hlv=>?_⟩
 ·unfold spφ
  rw[hs];rfl
 ·rw[hl]at hlv
  rw[chainL_congr (L':=L) fun c b hm=>by have:=List.all_eq_true.1 hi _ hm;simp at this;simp[this]]
  exact(hG.2.2 hlv).ext hE
end
theorem q_bytes(s:ByteArray)(l:List UInt8):Lib.byteCells l++Lib.strCells s=Lib.byteCells (l++s.data.toList):=by
 simp[Lib.byteCells,Lib.strCells]
theorem q_isb{T e:TypeId}{B b:Nat}{bs:List Value}{w w':World}(h:Lib.IsBuilder T e B b bs w)(hE:Ext w w'):Lib.IsBuilder T e B b bs w':=by
 have key:∀p,Lib.BuilderAt T e B b p bs w→Lib.BuilderAt T e B b p bs w':=by
  rintro p ⟨h1,v,h2,h3,h4⟩
  exact⟨h1,v,(Ext.block hE (lt_of_block h2)).trans h2,own_chg h3 hE (fun _ h=>h.elim),h4⟩
 exact h.elim (fun h=>.inl (key _ h)) (fun h=>.inr (key _ h))
theorem q_isb_lt{T e:TypeId}{B b:Nat}{bs:List Value}{w:World}(h:Lib.IsBuilder T e B b bs w):b<w.heap.size:=h.elim (fun h=>h.lt) (fun h=>h.lt)
theorem En.enc_len(x:En):x.enc.length≤30+x.c.size:=by
 have h1:=ienc_length x.i
 have h2:=ienc_length x.t
 have h3:=ienc_length x.c.size
 have h4:x.c.data.toList.length=x.c.size:=rfl
 simp[En.enc,senc];omega
def enF(x:En):ByteArray:=⟨(frameL x.enc).toArray⟩
theorem enFs_len:∀(l:List En),(∀x∈l,x.c.size≤1000000)→(enFs l).length≤1000038 * l.length
 | [],_=>by simp[enFs]
 | x::r,h=>by
  have ih:=enFs_len r fun y hy=>h y (List.mem_cons_of_mem _ hy)
  have h1:=h x (List.mem_cons_self ..)
  have h2:=frameL_length x.enc
  have h3:=x.enc_len
  have e:enFs (x::r)=frameL x.enc++enFs r:=rfl
  rw[e,List.length_append,List.length_cons]
  omega
theorem enFs_take(l:List En)(k:Nat){x:En}(h:l[k]? = some x):enFs (l.take (k+1))=enFs (l.take k)++(enF x).data.toList:=by
 rw[List.take_add_one,h]
 simp[enFs,enF]
set_option maxRecDepth 100000 in
set_option maxHeartbeats 4000000 in
theorem frames_any(w:World)(v:Value)(l:List En)(hS:Sln w v 3 (l.map En.row))(hl:l.length≤1000)(hx:∀x∈l,(0≤x.i∧x.i≤1099511627776)∧(0≤x.t∧x.t≤1099511627776)∧x.c.size≤1000000)(hT:Tab w) :
 Calls Tryz.prog 171 #[v] w fun e w'=>e=.returned (.string ⟨(enFs l).toArray⟩)∧Ext w w':=by
 obtain⟨A,c,rfl⟩:=ens_shape hS
 have hB0:=Lib.fresh_isBuilder 184 5 w
 have hE0:=(Ext.refl w).alloc (.cells #[.pointer none,.slice none 0 0] 184)
 have hFL:=enFs_len l fun x h=>(hx x h).2.2
 go_enter Tryz.func171,Tryz.ntmps171
 go_wp2_with fail
 generalize w.alloc (.cells #[.pointer none,.slice none 0 0] 184)=w0 at hB0 hE0⊢
 obtain⟨B,hB⟩:∃B,B=w.heap.size:=⟨_,rfl⟩
 rw[←hB]at hB0⊢
 have hBw:w.heap.size≤B:=by omega
 clear hB
 go_loopw [8] (fun iv wr=>∃k:Nat,k≤l.length∧iv=.int .i64 (k:Int)∧Lib.IsBuilder 184 5 B B (Lib.byteCells (enFs (l.take k))) wr∧Ext w wr) (fun iv _=>l.length - (intOf iv).toNat)
 case atStart=>exact⟨0,Nat.zero_le _,rfl,by simpa[enFs,Lib.byteCells]using hB0,hE0⟩
 case round =>
  obtain⟨k,hk,rfl,hBd,hE⟩:=hrel
  rename World=>wr
  by_cases hlt:k<l.length
  ·obtain⟨x,hxk⟩:∃x,l[k]? = some x:=⟨_,List.getElem?_eq_getElem hlt⟩
   obtain⟨hi,ht,hcz⟩:=hx x (List.mem_of_getElem? hxk)
   obtain⟨g,p,c',hv,r0,r1,r2⟩:=ens_some (hS.ext hE) hxk
   simp only[Value.slice.injEq]at hv
   obtain⟨rfl, -,rfl⟩:=hv
   have hsn:=enFs_take l k hxk
   have HSN:=Lib.hid hsn
   have hpre:=enFs_len (l.take k) fun y h=>(hx y (List.mem_of_mem_take h)).2.2
   rw[List.length_take,Nat.min_eq_left hk]at hpre
   clear hsn hxk
   go_wp2_with fail
   have hBx:=At.new wr 49 #[.int .i64 x.i,.int .i64 x.t,.string x.c]
   have hEx:=(Ext.refl wr).alloc (.cells #[.int .i64 x.i,.int .i64 x.t,.string x.c] 49)
   have hBW:=q_isb hBd hEx
   have hEW:=hE.trans hEx
   generalize wr.alloc (.cells #[.int .i64 x.i,.int .i64 x.t,.string x.c] 49)=W at hBx hEx hBW hEW⊢
   generalize wr.heap.size=b at hBx⊢
   clear hEx r0 r1 r2 hBd
   obtain⟨base,hbase⟩:∃n,n=W.heap.size:=⟨_,rfl⟩
   have hblt:b<base:=by rw[hbase];exact hBx.lt
   have hcells:∀(w':World),EncChg W.drew w' base→∀i:Nat,w'.cell? ⟨b,i,none⟩=(#[Value.int .i64 x.i,.int .i64 x.t,.string x.c]:Array Value)[i]? := by
    intro w' hW i
    rw[←hBx.cell i]
    exact Chg.cell (w:=W.drew) (p:=⟨b,i,none⟩) hW hBx.lt (fun hs=>by have:=hs.1;simp at this;omega)
   have hTW:∀(w':World),EncChg W.drew w' base→Tab w':=fun w' hW=>(hT.ext hEW.drew).chg hW (fun hs=>by
    have h1:=hs.1
    have h2:=(hT.ext hEW).lt
    omega)
   have hrl:=x.enc_len
   have hfl:(enF x).size=8+x.enc.length:=by
    show(frameL x.enc).toArray.size=_
    rw[List.size_toArray,frameL_length]
   refine wp_region_last (Γ := Nat) (spφ [.ptr,.val (.pointer (some ⟨b,0,none⟩)),.val (.int .i64 x.i),.val (.pointer (some ⟨b,1,none⟩)),.val (.int .i64 x.t),.sl [.int .i64 x.i,.int .i64 x.t],.ptr,.val (.pointer (some ⟨b,2,none⟩)),.val (.string x.c),.sl [.string x.c],.ptr,.val (.string ⟨x.enc.toArray⟩),.sl [.string ⟨x.enc.toArray⟩],.val (.string (enF x))] base)
    (spG none [(6,[x.i,x.t].flatMap ienc),(10,[x.c].flatMap senc)] [] (fun L=>L 0) W.drew base) (fun _ w'=>Lib.IsBuilder 184 5 B B (Lib.byteCells (enFs (l.take k)++(enF x).data.toList)) w'∧Ext w w') 14 rfl (by kernel_rfl) (by kernel_rfl) (by kernel_rfl) (by kernel_rfl) (by kernel_rfl) 0 ⟨fun _ h=>(by cases h),EncChg.refl _ _,fun h=>(by cases h)⟩ ?steps ?last ?fin
   case steps =>
    show StepsTo _ _ _ _ _ _ 14
    refine⟨⟨⟨⟨⟨⟨⟨⟨⟨⟨⟨⟨⟨⟨trivial,?s0⟩,?s1⟩,?s2⟩,?s3⟩,?s4⟩,?s5⟩,?s6⟩,?s7⟩,?s8⟩,?s9⟩,?s10⟩,?s11⟩,?s12⟩,?s13⟩
    case s0 =>
     refine enc_alloc [6,10] rfl (fun w hW=>by rw[hbase];exact hW.size) rfl rfl rfl rfl rfl (by kernel_rfl) rfl rfl fun a w=>?_
     go_simp
    case s1 =>
     refine enc_val (x:=.pointer (some ⟨b,0,none⟩)) rfl rfl (.inl rfl) rfl (fun _=>rfl) fun e L v a w hW hφ hv h0=>?_
     have e5:=h0 5 (by kernel_rfl)
     simp at e5
     go_simp
    case s2 =>
     refine enc_val (x:=.int .i64 x.i) rfl rfl (.inl rfl) rfl (fun _=>rfl) fun e L v a w hW hφ hv h0=>?_
     have e13:=hv 1 13 rfl (by kernel_rfl)
     rw[show v 1=_ from hφ 1 (by kernel_rfl)]at e13
     simp at e13
     have hcell:=hcells w hW 0
     simp at hcell
     go_simp
    case s3 =>
     refine enc_val (x:=.pointer (some ⟨b,1,none⟩)) rfl rfl (.inl rfl) rfl (fun _=>rfl) fun e L v a w hW hφ hv h0=>?_
     have e5:=h0 5 (by kernel_rfl)
     simp at e5
     go_simp
    case s4 =>
     refine enc_val (x:=.int .i64 x.t) rfl rfl (.inl rfl) rfl (fun _=>rfl) fun e L v a w hW hφ hv h0=>?_
     have e15:=hv 3 15 rfl (by kernel_rfl)
     rw[show v 3=_ from hφ 3 (by kernel_rfl)]at e15
     simp at e15
     have hcell:=hcells w hW 1
     simp at hcell
     go_simp
    case s5 =>
     refine enc_slice (cs:=#[.int .i64 x.i,.int .i64 x.t]) (t:=3) (c:=2) (by decide) rfl rfl rfl rfl (fun _=>rfl) fun e L v a w hW hφ hv=>?_
     have e14:=hv 2 14 rfl (by kernel_rfl)
     rw[show v 2=_ from hφ 2 (by kernel_rfl)]at e14
     simp at e14
     have e16:=hv 4 16 rfl (by kernel_rfl)
     rw[show v 4=_ from hφ 4 (by kernel_rfl)]at e16
     simp at e16
     go_simp
    case s6 =>
     refine enc_call (f:=44) (bytes:=[x.i,x.t].flatMap ienc) (before:=[]) (after:=[(10,[x.c].flatMap senc)]) rfl rfl rfl rfl rfl (by kernel_rfl) rfl (fun _=>rfl) (fun L hd' hn'=>hn' 0 (by kernel_rfl)) fun e L v a w hgh hW hn' hd' hE hφ hv h0=>?_
     have e12:=hv 0 12 rfl (by kernel_rfl)
     rw[show v 0=_ from hφ 0 (by kernel_rfl)]at e12
     simp at e12
     have e17:=hv 5 17 rfl (by kernel_rfl)
     have hsl:SlE w base (v 5) _:=hφ 5 (by kernel_rfl)
     simp at e17
     generalize v 5=sv at e17 hsl
     exact⟨#[.pointer (some ⟨e,0,none⟩),sv],by go_simp,ei_any w base e _ hE sv [x.i,x.t] hsl (by simp;omega) (by simp) (by simp[chainL])⟩
    case s7 =>
     refine enc_val (x:=.pointer (some ⟨b,2,none⟩)) rfl rfl (.inl rfl) rfl (fun _=>rfl) fun e L v a w hW hφ hv h0=>?_
     have e5:=h0 5 (by kernel_rfl)
     simp at e5
     go_simp
    case s8 =>
     refine enc_val (x:=.string x.c) rfl rfl (.inl rfl) rfl (fun _=>rfl) fun e L v a w hW hφ hv h0=>?_
     have e19:=hv 7 19 rfl (by kernel_rfl)
     rw[show v 7=_ from hφ 7 (by kernel_rfl)]at e19
     simp at e19
     have hcell:=hcells w hW 2
     simp at hcell
     go_simp
    case s9 =>
     refine enc_slice (cs:=#[.string x.c]) (t:=9) (c:=1) (by decide) rfl rfl rfl rfl (fun _=>rfl) fun e L v a w hW hφ hv=>?_
     have e20:=hv 8 20 rfl (by kernel_rfl)
     rw[show v 8=_ from hφ 8 (by kernel_rfl)]at e20
     simp at e20
     go_simp
    case s10 =>
     refine enc_call (f:=45) (bytes:=[x.c].flatMap senc) (before:=[(6,[x.i,x.t].flatMap ienc)]) (after:=[]) rfl rfl rfl rfl rfl (by kernel_rfl) rfl (fun _=>rfl) (fun L hd' hn'=>hd' 6 0 (hn' 6 (by kernel_rfl)) (by kernel_rfl)) fun e L v a w hgh hW hn' hd' hE hφ hv h0=>?_
     have e18:=hv 6 18 rfl (by kernel_rfl)
     rw[show v 6=_ from hφ 6 (by kernel_rfl)]at e18
     simp at e18
     have e21:=hv 9 21 rfl (by kernel_rfl)
     have hsl:SlE w base (v 9) _:=hφ 9 (by kernel_rfl)
     simp at e21
     generalize v 9=sv at e21 hsl
     exact⟨#[.pointer (some ⟨e,0,none⟩),sv],by go_simp,es_any w base e _ hE sv [x.c] hsl (by simp;omega) (by simp) (by have:=chainL_le L [(6,[x.i,x.t].flatMap ienc)];have:=iflat_length [x.i,x.t];simp at *;omega)⟩
    case s11 =>
     refine enc_read (f:=22) (x:=.string ⟨x.enc.toArray⟩) rfl rfl rfl rfl (fun _=>rfl) (fun L hd' hn'=>hd' 6 0 (hd' 10 6 (hn' 10 (by kernel_rfl)) (by kernel_rfl)) (by kernel_rfl)) fun e L v a w hgh hn' hd' hE hφ hv=>?_
     have e22:=hv 10 22 rfl (by kernel_rfl)
     rw[show v 10=_ from hφ 10 (by kernel_rfl)]at e22
     simp at e22
     have h3:=hd' 10 6 (hn' 10 (by kernel_rfl)) (by kernel_rfl)
     rw[chainL_on (fun k b hm=>by simp at hm;rcases hm with h|h <;> rw[h.1];exact h3;exact hn' 10 (by kernel_rfl))]at hE
     have he:([]:List UInt8)++[(6,[x.i,x.t].flatMap ienc),(10,[x.c].flatMap senc)].flatMap (·.2)=x.enc:=by simp[En.enc]
     rw[he]at hE
     exact⟨#[.pointer (some ⟨e,0,none⟩)],by go_simp,(bytes_any w base e _ hE).mono fun _ _ ⟨h,h'⟩=>⟨h,h' ▸ Ext.refl _⟩⟩
    case s12 =>
     refine enc_slice (cs:=#[.string ⟨x.enc.toArray⟩]) (t:=9) (c:=1) (by decide) rfl rfl rfl rfl (fun _=>rfl) fun e L v a w hW hφ hv=>?_
     have e23:=hv 11 23 rfl (by kernel_rfl)
     rw[show v 11=_ from hφ 11 (by kernel_rfl)]at e23
     simp at e23
     go_simp
    case s13 =>
     refine q_quiet (f:=177) (x:=.string (enF x)) rfl rfl rfl rfl (fun _=>rfl) fun e v a w hW hφ hv=>?_
     have e24:=hv 12 24 rfl (by kernel_rfl)
     have hsl:SlE w base (v 12) _:=hφ 12 (by kernel_rfl)
     simp at e24
     generalize v 12=sv at e24 hsl
     exact⟨#[sv],by go_simp,frame_any w sv ⟨x.enc.toArray⟩ hsl.1 (by show x.enc.toArray.size≤_;rw[List.size_toArray];omega) (hTW w hW)⟩
   case last =>
    intro e L v a w1 hall hG hφ hval h0
    have e25:=hval 13 25 rfl (by decide)
    rw[show v 13=_ from hφ 13 (by decide)]at e25
    have e3:=h0 3 (by kernel_rfl)
    simp at e25 e3
    have hE1:Ext W w1:=(Ext.refl W).drew.trans (hG.2.1.below (by rw[hbase];exact Nat.le_refl _))
    have hB1:=q_isb hBW hE1
    have hlt1:=q_isb_lt hB1
    refine wpOp_calls (w':=w1) (f:=105) (args:=#[.pointer (some ⟨B,0,none⟩),.string (enF x)]) rfl rfl (by go_simp) ?_
    refine(bwrite_any B B _ (enF x) w1 hB1 (by simp[Lib.byteCells];omega) (by omega)).mono ?_
    rintro r w2 ⟨rfl,hB2,hC2⟩
    refine⟨_,rfl,_,rfl,by rw[←q_bytes];exact hB2,(hEW.trans hE1).chg_trans hC2 |>.mono fun j hj hs=>?_⟩
    rcases hs with h|h <;> omega
   case fin =>
    intro v w1 hF
    obtain⟨hB1,hE1⟩:=hF
    clear hcells hTW hBx hBW hEW
    change Exit.inBlock 1 (Exit.then _ _) Exit.normal (putAll _ v _ 15) w1
    simp only[putAll,dstOf,Act.put]
    simp only[List.getElem?_toArray,List.getElem?_cons_zero,List.getElem?_cons_succ,Option.bind_some,List.setIfInBounds_toArray,List.set_cons_zero,List.set_cons_succ]
    go_wp2_with fail
    go_roundw
    case rel =>
     refine⟨k+1,by omega,by go_num,?_,hE1⟩
     rw[HSN.out];exact hB1
    case measure=>simp[intOf];omega
  ·obtain rfl:k=l.length:=by omega
   rw[List.take_length]at hBd
   have cs:=Tryz.Builder_String_any B B (enFs l) wr hBd (by have:=q_isb_lt hBd;omega)
   go_wp2_with fail
   refine cs.mono ?_
   rintro e w4 ⟨rfl,hBl⟩
   clear cs
   have hE4:Ext w w4:=hE.chg_trans (S:=fun j=>B≤j) ⟨hBl.os,hBl.tape,hBl.output,hBl.size,fun j hj hn=>hBl.block j (by omega)⟩ |>.mono (fun j hj hs=>by omega)
   go_wp2_with fail
   go_ret
   exact⟨rfl,hE4⟩
end Go.Proofs.YtkkbfdencgdbhaaGreatDoor
namespace Go.Proofs.YtkkbfdencgdbhaaGreatDoor
open Go.RowKit Go.Sort
section
variable(w:World)(d m:Nat)(F:Fs)(hD:DkAt w d m F.dk)
include hD
set_option maxRecDepth 100000 in
theorem tappend_any(v:Value)(l:List En)(hS:Sln w v 3 (l.map En.row))(hl:l.length≤1000)(hx:∀x∈l,(0≤x.i∧x.i≤1099511627776)∧(0≤x.t∧x.t≤1099511627776)∧x.c.size≤1000000)(hT:Tab w)(hr:F.tot+osz F.lg+(enFs l).length≤4194304) :
 Calls Tryz.prog 131 #[.pointer (some ⟨d,0,none⟩),v] w fun e w'=>e=.returned (.int .i64 0)∧Chg (fun j=>j=d∨j=m) w w'∧DkAt w' d m (lgAdd F l).dk:=by
 have cf:=frames_any w v l hS hl hx hT
 have hsz:(⟨(enFs l).toArray⟩:ByteArray).size=(enFs l).length:=by show(enFs l).toArray.size=_;simp
 obtain⟨s,hs⟩:∃s:ByteArray,s=⟨(enFs l).toArray⟩:=⟨_,rfl⟩
 have hF:lgAdd F l=F.put 0 (F.lg.getD ByteArray.empty++s):=by unfold lgAdd;rw[hs]
 rw[←hs]at cf hsz
 rw[←hsz]at hr
 rw[hF]
 clear hs hF hsz hS hx
 have hto:((F.at_ 0).getD ByteArray.empty).size=osz F.lg:=rfl
 have hgo:(F.dk.get (Fs.nm 0)).nx.size=osz F.lg:=by rw[F.get_ 0];rfl
 have hts:(F.lg.getD ByteArray.empty++s).size=osz F.lg+s.size:=by rw[ByteArray.size_append];rfl
 obtain⟨h1,h2⟩:=F.change 0 (fun x=>x++s) (F.lg.getD ByteArray.empty++s) rfl (by omega)
 have ca:=fun(w':World) (hD':DkAt w' d m F.dk)=>append_any w' d m F.dk hD' (F.ok (by omega)) (Fs.nm 0) s (by rw[hgo];omega)
 rw[h1]at ca
 have hO:=F.mid_ok 0 (F.lg.getD ByteArray.empty++s) (by omega) (by unfold maxLen;omega)
 have hfl:=F.mid_files 0 (F.lg.getD ByteArray.empty++s) (by omega)
 have hn:(Fs.nm 0).size≤maxLen:=by have:=Fs.nm_len 0;unfold maxLen;omega
 have cs:=fun(w':World) (hD':DkAt w' d m (F.mid 0 (F.lg.getD ByteArray.empty++s))) (v:Value) (hS:Sl w' v ([Fs.nm 0].map Value.string))=>sync_any w' d m _ hD' hO v [Fs.nm 0] hS (fun n h=>by rw[List.mem_singleton.1 h];exact hn) (by simp) hfl (fun h=>by cases h)
 rw[h2]at cs
 obtain⟨t,ht⟩:∃t,F.lg.getD ByteArray.empty++s=t:=⟨_,rfl⟩
 rw[ht]at ca cs⊢
 have e0:Fs.nm 0=⟨#[108,111,103]⟩:=rfl
 rw[e0]at ca cs
 clear h1 h2 hO hfl hto hgo hts e0 hn ht hr
 go_enter Tryz.func131,Tryz.ntmps131
 go_wp2_with fail
 refine cf.mono ?_
 rintro e w0 ⟨rfl,hE0⟩
 clear cf
 have ca0:=ca w0 (hD.ext hE0)
 go_wp2_with fail
 refine ca0.mono ?_
 rintro e w1 ⟨rfl,hC1,hD1⟩
 clear ca ca0
 go_wp2_with fail
 have hA:=At.new w1 9 #[.string ⟨#[108,111,103]⟩]
 refine(cs _ (hD1.alloc _) _ ⟨_,1,rfl,fun _=>⟨_,_,rfl,fun i x hi=>?_⟩⟩).mono ?_
 ·rw[Nat.zero_add]
  have:=hA.cell i
  rw[this]
  simpa using hi
 rintro e w2 ⟨rfl,hC2,hD2⟩
 go_wp2_with fail
 go_ret
 exact⟨rfl,(hE0.chg_trans (hC1.alloc _)).trans hC2 (fun _ _ h=>h),hD2⟩
omit hD in
theorem snB_len(b t:Int)(s:ByteArray):(snB b t s).size≤38+s.size∧([b,t].flatMap ienc++[s].flatMap senc).length≤30+s.size:=by
 have h1:=ienc_length b
 have h2:=ienc_length t
 have h3:=ienc_length s.size
 have h4:s.data.toList.length=s.size:=rfl
 have h5:([b,t].flatMap ienc++[s].flatMap senc).length≤30+s.size:=by simp[senc];omega
 refine⟨?_,h5⟩
 show(frameL _).toArray.size≤_
 rw[List.size_toArray,frameL_length];omega
end
end Go.Proofs.YtkkbfdencgdbhaaGreatDoor
