/-
  Part 25 of what the law leans on.
-/
import Derived.Test.YtkkbfdencgdbhaaGreatDoorSA1
import Derived.Test.YtkkbfdencgdbhaaGreatDoorSA17
import Derived.Test.YtkkbfdencgdbhaaGreatDoorSA24
import Derived.Shelf.SlIter.Nil
import Derived.Sort.LoopGhostIn
set_option linter.unusedVariables false
set_option linter.unusedSimpArgs false
set_option linter.unusedSectionVars false
namespace Go.Proofs.YtkkbfdencgdbhaaGreatDoor
open Go.RowKit Go.Sort
structure Pt (a m b:Nat) (d:Array Int):Prop where
 am:a≤m
 mb:m<b
 lo:∀t,a≤t→t<m→ltInt d[t]! d[m]! = true
 hi:∀t,m<t→t<b→ltInt d[t]! d[m]! = false
section
variable{a m b:Nat}{d L R:Array Int}
theorem Pt.permL(h:Pt a m b d)(hb:b≤d.size)(hp:PermIn a m d L):Pt a m b L:=by
 have e:∀i,m≤i→L[i]! = d[i]! := fun i hi=>hp.2.1 i (.inr hi)
 have h1:=h.mb
 refine⟨h.am,h.mb,fun t g1 g2=>?_,fun t g1 g2=>?_⟩
 ·rw[e m (Nat.le_refl _)]
  exact permIn_all d L a m (fun x=>ltInt x d[m]! = true) (by omega) hp h.lo t g1 g2
 ·rw[e m (Nat.le_refl _),e t (by omega)];exact h.hi t g1 g2
theorem Pt.permR(h:Pt a m b d)(hb:b≤d.size)(hp:PermIn (m+1) b d R):Pt a m b R:=by
 have e:∀i,i≤m→R[i]! = d[i]! := fun i hi=>hp.2.1 i (.inl (by omega))
 refine⟨h.am,h.mb,fun t g1 g2=>?_,fun t g1 g2=>?_⟩
 ·rw[e m (Nat.le_refl _),e t (by omega)];exact h.lo t g1 g2
 ·rw[e m (Nat.le_refl _)]
  exact permIn_all d R (m+1) b (fun x=>ltInt x d[m]! = false) hb hp (fun i g1 g2=>h.hi i (by omega) g2) t (by omega) g2
theorem Pt.glue(h:Pt a m b R)(h1:SortedIn ltInt a m R)(h2:SortedIn ltInt (m+1) b R):SortedIn ltInt a b R :=
 sorted_glue swo_ltInt h1 h2 h.lo h.hi
theorem Pt.left(h:Pt a m b d)(hb:b≤d.size)(hL:PermIn a m d L)(hs:SortedIn ltInt a m L) :
 Sort.Below ltInt (m+1) b L∧∀R,PermIn (m+1) b L R→SortedIn ltInt (m+1) b R→SortedIn ltInt a b R:=by
 have hp:=h.permL hb hL
 refine⟨.inr fun i g1 g2=>by rw[Nat.add_sub_cancel];exact hp.hi i (by omega) g2,fun R hR hsR=>?_⟩
 exact(hp.permR (by rw[hL.1];exact hb) hR).glue (hs.congr fun i _ g2=>hR.2.1 i (.inl (by omega))) hsR
theorem Pt.right(h:Pt a m b d)(hb:b≤d.size)(hB:Sort.Below ltInt a m d)(hL:PermIn (m+1) b d L)(hs:SortedIn ltInt (m+1) b L) :
 Sort.Below ltInt a m L∧∀R,PermIn a m L R→SortedIn ltInt a m R→SortedIn ltInt a b R:=by
 have hp:=h.permR hb hL
 have h1:=h.am
 refine⟨?_,fun R hR hsR=>?_⟩
 ·rcases hB with h0|hB
  ·exact .inl h0
  ·exact .inr fun i g1 g2=>by rw[hL.2.1 i (.inl (by omega)),hL.2.1 (a - 1) (.inl (by omega))];exact hB i g1 g2
 ·exact(hp.permL (by rw[hL.1];exact hb) hR).glue hsR (hs.congr fun i g1 _=>hR.2.1 i (.inr (by omega)))
theorem eq_round{q:Nat}{d':Array Int}(ha:0<a)(hB:Sort.Below ltInt a b d)(hb:b≤d.size)(hn:ltInt d[a - 1]! d[q]! = false)(ham:a<m)(hmb:m≤b)(hp:PermIn a b d d')(hq:d'[a]! = d[q]!)
 (h1:∀t,a<t→t<m→pE d'[t]! d'[a]! = true) (h2:∀t,m≤t→t<b→pE d'[t]! d'[a]! = false) :
 Sort.Below ltInt m b d'∧∀R,PermIn m b d' R→SortedIn ltInt m b R→SortedIn ltInt a b R:=by
 have hge:∀i,a≤i→i<b→ltInt d[i]! d'[a]! = false:=fun i g1 g2=>by
  rw[hq]
  rcases hB with h0|hB
  ·omega
  ·exact swo_ltInt.ntrans _ _ _ (hB i g1 g2) hn
 have hge2:=permIn_all d d' a b (fun x=>ltInt x d'[a]! = false) hb hp hge
 have k1:∀t,a≤t→t<m→ltInt d'[a]! d'[t]! = false:=fun t g1 g2=>by
  by_cases e:t=a
  ·rw[e];exact swo_ltInt.irrefl _
  ·have:=h1 t (by omega) g2
   unfold pE at this
   simpa using this
 have k2:∀t,m≤t→t<b→ltInt d'[a]! d'[t]! = true:=fun t g1 g2=>by
  have:=h2 t g1 g2
  unfold pE at this
  simpa using this
 refine⟨.inr fun i g1 g2=>?_,fun R hR hs=>?_⟩
 ·cases hc:ltInt d'[i]! d'[m - 1]! with
  | false=>rfl
  | true=>have:=swo_ltInt.trans _ _ _ (k2 i g1 g2) hc;rw[k1 (m - 1) (by omega) (by omega)]at this;cases this
 ·refine sorted_glue_eq swo_ltInt d'[a]! hs (fun i g1 g2=>?_) (fun i g1 g2=>?_) (permIn_all d' R m b (fun x=>ltInt d'[a]! x=true) (by rw[hp.1];exact hb) hR k2)
  ·rw[hR.2.1 i (.inl g2)];exact k1 i g1 g2
  ·rw[hR.2.1 i (.inl g2)];exact hge2 i g1 (by omega)
end
structure PQ (a b a' b':Nat) (d dk:Array Int):Prop where
 lo:a≤a'
 mid:a'≤b'
 hi:b'≤b
 perm:PermIn a b d dk
 below:Sort.Below ltInt a' b' dk
 fin:∀R,PermIn a' b' dk R→SortedIn ltInt a' b' R→SortedIn ltInt a b R
section
variable{a b a' b':Nat}{d dk d2:Array Int}
theorem PQ.size(h:PQ a b a' b' d dk):dk.size=d.size:=h.perm.1
theorem PQ.turn(h:PQ a b a' b' d dk)(hb:b≤d.size)(hp:PermIn a' b' dk d2):PQ a b a' b' d d2 :=
 ⟨h.lo,h.mid,h.hi,permIn_trans _ _ _ _ _ h.perm (permIn_mono _ _ _ _ _ _ h.lo h.hi (by rw[h.size];exact hb) hp),h.below.perm (by rw[h.size];have:=h.hi;omega) hp,fun R hR hs=>h.fin R (permIn_trans _ _ _ _ _ hp hR) hs⟩
theorem PQ.left{m:Nat}{L:Array Int}(h:PQ a b a' b' d dk)(hb:b≤d.size)(hp:PermIn a' b' dk d2)(ht:Pt a' m b' d2)(hL:PermIn a' m d2 L)(hs:SortedIn ltInt a' m L):PQ a b (m+1) b' d L:=by
 have h2:=h.turn hb hp
 have hb2:b'≤d2.size:=by rw[h2.size];have:=h.hi;omega
 have hmb:=ht.mb
 have ham:=ht.am
 have hlo:=h.lo
 obtain⟨g1,g2⟩:=ht.left hb2 hL hs
 refine⟨by omega,by omega,h.hi,permIn_trans _ _ _ _ _ h2.perm (permIn_mono _ _ _ _ _ _ h.lo (by have:=h.hi;omega) (by rw[h2.size];exact hb) hL),g1,fun R hR hsR=>?_⟩
 have hRL:PermIn a' b' d2 R:=permIn_trans _ _ _ _ _ (permIn_mono _ _ _ _ _ _ (Nat.le_refl _) (by omega) hb2 hL) (permIn_mono _ _ _ _ _ _ (by omega) (Nat.le_refl _) (by rw[hL.1];exact hb2) hR)
 exact h2.fin R hRL (g2 R hR hsR)
theorem PQ.right{m:Nat}{L:Array Int}(h:PQ a b a' b' d dk)(hb:b≤d.size)(hp:PermIn a' b' dk d2)(ht:Pt a' m b' d2)(hL:PermIn (m+1) b' d2 L)(hs:SortedIn ltInt (m+1) b' L):PQ a b a' m d L:=by
 have h2:=h.turn hb hp
 have hb2:b'≤d2.size:=by rw[h2.size];have:=h.hi;omega
 have hmb:=ht.mb
 have ham:=ht.am
 obtain⟨g1,g2⟩:=ht.right hb2 (h2.below.mono (by omega)) hL hs
 refine⟨h.lo,ham,by have:=h.hi;omega,permIn_trans _ _ _ _ _ h2.perm (permIn_mono _ _ _ _ _ _ (by have:=h.lo;omega) h.hi (by rw[h2.size];exact hb) hL),g1,fun R hR hsR=>?_⟩
 have hRL:PermIn a' b' d2 R:=permIn_trans _ _ _ _ _ (permIn_mono _ _ _ _ _ _ (by omega) (Nat.le_refl _) hb2 hL) (permIn_mono _ _ _ _ _ _ (Nat.le_refl _) (by omega) (by rw[hL.1];exact hb2) hR)
 exact h2.fin R hRL (g2 R hR hsR)
theorem PQ.eq{m q:Nat}(h:PQ a b a' b' d dk)(hb:b≤d.size)(ha:0<a')(hn:ltInt dk[a' - 1]! dk[q]! = false)(ham:a'<m)(hmb:m≤b')(hp:PermIn a' b' dk d2)(hq:d2[a']! = dk[q]!)
 (h1:∀t,a'<t→t<m→pE d2[t]! d2[a']! = true) (h2:∀t,m≤t→t<b'→pE d2[t]! d2[a']! = false):PQ a b m b' d d2:=by
 have h3:=h.turn hb hp
 have hb1:b'≤dk.size:=by rw[h.size];have:=h.hi;omega
 obtain⟨g1,g2⟩:=eq_round ha h.below hb1 hn ham hmb hp hq h1 h2
 refine⟨by have:=h.lo;omega,hmb,h.hi,h3.perm,g1,fun R hR hsR=>?_⟩
 exact h3.fin R (permIn_mono _ _ _ _ _ _ (by omega) (Nat.le_refl _) (by rw[hp.1];exact hb1) hR) (g2 R hR hsR)
theorem PQ.done(h:PQ a b a' b' d dk)(hb:b≤d.size)(hp:PermIn a' b' dk d2)(hs:SortedIn ltInt a' b' d2):PermIn a b d d2∧SortedIn ltInt a b d2 :=
 ⟨(h.turn hb hp).perm,h.fin d2 hp hs⟩
end
def PdqOk(n:Nat):Prop:=∀(blk off cap a b lim:Nat) (d:Array Int) (w:World),RU w blk off cap d→d.size<4611686018427387904→b - a≤n→a≤b→b≤d.size→b<a+50→lim<100→Sort.Below ltInt a b d →
 Calls Tryz.prog 209 #[.slice (some ⟨blk,off,none⟩) d.size cap,.int .i64 a,.int .i64 b,.int .i64 lim] w fun e w' =>
  e=.returned (.tuple #[])∧∃d',PermIn a b d d'∧SortedIn ltInt a b d'∧RU w' blk off cap d'∧Chg (· = blk) w w'
section
variable(blk off cap:Nat)(d:Array Int)(w:World)(h:RU w blk off cap d)(hsz:d.size<4611686018427387904)
include h hsz
set_option maxRecDepth 100000 in
set_option maxHeartbeats 16000000 in
theorem pdq_step(n:Nat)(ih:Hid (∀k,k<n→PdqOk k))(a b lim:Nat)(hn:b - a≤n)(hab:a≤b)(hb:b≤d.size)(h50:b<a+50)(hlim:lim<100)(hB:Sort.Below ltInt a b d) :
 Calls Tryz.prog 209 #[.slice (some ⟨blk,off,none⟩) d.size cap,.int .i64 a,.int .i64 b,.int .i64 lim] w fun e w' =>
  e=.returned (.tuple #[])∧∃d',PermIn a b d d'∧SortedIn ltInt a b d'∧RU w' blk off cap d'∧Chg (· = blk) w w':=by
 have HB:=Lib.hid hB
 clear hB
 go_enter Tryz.func209,Tryz.ntmps209
 go_wp2_with fail
 go_loopw [1,2,3,8,9] (fun av bv lv wb wp wr=>∃(a' b' lim:Nat) (v1 v2:Bool) (dk:Array Int),av=.int .i64 a'∧bv=.int .i64 b'∧lv=.int .i64 lim∧wb=.bool v1∧wp=.bool v2∧lim<100∧PQ a b a' b' d dk∧RU wr blk off cap dk∧Chg (· = blk) w wr) (fun av bv _ _ _ _=>(intOf bv - intOf av).toNat)
 case atStart=>exact⟨a,b,lim,true,true,d,rfl,rfl,rfl,rfl,rfl,hlim,⟨Nat.le_refl _,hab,Nat.le_refl _,permIn_refl _ _ _,HB.out,fun R _ hs=>hs⟩,h,Chg.refl _ _⟩
 case round =>
  clear h HB hlim
  obtain⟨a',b',lim,v1,v2,dk,rfl,rfl,rfl,rfl,rfl,hlim,hPQ,hR,hC⟩:=hrel
  have HPQ:=Lib.hid hPQ
  have q1:=hPQ.lo
  have q2:=hPQ.mid
  have q3:=hPQ.hi
  have hs:=hPQ.size
  obtain⟨l,hl⟩:∃l,l=b' - a':=⟨_,rfl⟩
  have en:(b':Int) - (a':Int)=(l:Int):=by omega
  have hl2:a'+l=b':=by omega
  have HL:=Lib.hid hl2
  clear hPQ hl hl2
  by_cases h12:l≤12
  ·have HC:=Lib.hid (insu_any blk off cap a' b' dk wr hR (by omega) (by omega) q2)
   rw[hs]at HC
   clear hs
   go_wp2_with fail
   refine HC.out.mono ?_
   rintro e w2 ⟨rfl,d2,hp2,hs2,hR2,hC2⟩
   go_wp2_with fail
   have hdn:=HPQ.out.done hb hp2 hs2
   refine bodyPost_ret (v:=.tuple #[]) (by simp[results,Tryz.results209,go_sem]) rfl ⟨rfl,d2,hdn.1,hdn.2,hR2,hC.trans hC2 (fun _ _ e=>e)⟩
  rcases Nat.eq_zero_or_pos lim with h0|h0
  ·subst h0
   have hl3:=HL.out
   have HC:=Lib.hid (heapu_any blk off cap dk wr hR (by omega) a' b' (by omega) (by omega))
   rw[hs]at HC
   clear hs hl3
   go_wp2_with fail
   refine HC.out.mono ?_
   rintro e w2 ⟨rfl,d2,hp2,hs2,hR2,hC2⟩
   go_wp2_with fail
   have hdn:=HPQ.out.done hb hp2 hs2
   refine bodyPost_ret (v:=.tuple #[]) (by simp[results,Tryz.results209,go_sem]) rfl ⟨rfl,d2,hdn.1,hdn.2,hR2,hC.trans hC2 (fun _ _ e=>e)⟩
  have hl3:=HL.out
  have hlz:((lim:Int) == 0)=false:=by rw[beq_eq_false_iff_ne];omega
  have HS:=Lib.hid hs
  go_upto_if 35 with fail
  go_cut [3]from 35 to 42 (fun lv wx=>∃(lim2:Nat) (d2:Array Int),lv=.int .i64 lim2∧lim2<100∧PQ a b a' b' d d2∧RU wx blk off cap d2∧Chg (· = blk) w wx)
  case first =>
   cases v1
   ·have HC:=Lib.hid (brk_any blk off cap dk wr hR (by omega) a' b' (by omega) (by omega) (by omega))
    rw[hs]at HC
    clear hs hl3
    go_wp2_with fail
    refine HC.out.mono ?_
    rintro e w2 ⟨rfl,d2,hp2,hR2,hC2⟩
    have e1:(lim:Int) - 1=((lim - 1:Nat):Int):=by omega
    go_wp2_with fail
    go_meet
    case rel=>exact⟨lim - 1,d2,rfl,by omega,HPQ.out.turn hb hp2,hR2,hC.trans hC2 (fun _ _ e=>e)⟩
   ·clear hs hl3
    go_wp2_with fail
    go_meet
    case rel=>exact⟨lim,dk,rfl,hlim,HPQ.out,hR,hC⟩
  case rest =>
   clear hR hC hs HPQ HS hlz h0 hlim
   obtain⟨lim,dk,rfl,hlim,hPQ,hR,hC⟩:=hcut
   have HPQ:=Lib.hid hPQ
   have hs:=hPQ.size
   clear hPQ
   have HC:=Lib.hid (piv_any blk off cap dk wc hR (by omega) a' b' (by omega) (by omega) (by omega))
   rw[hs]at HC
   have HS:=Lib.hid hs
   clear hs hl3
   go_wp2_with fail
   refine HC.out.mono ?_
   rintro e w2 ⟨p,q,rfl,hp1,hp2,hq,hR2,hE2⟩
   have hC2:=hC.ext_trans hE2
   clear hR hC hE2 HC
   go_upto_if 50 with fail
   go_cut [11,12]from 50 to 61 (fun pv hv wx=>∃(p q:Nat) (d2:Array Int),pv=.int .i64 p∧hv=.int .i64 q∧a'≤p∧p<b'∧q≤1∧PQ a b a' b' d d2∧RU wx blk off cap d2∧Chg (· = blk) w wx)
   case first =>
    cases hqb:((q:Int) == 2)
    ·have hq1:q≤1:=by
      have:(q:Int)≠2:=by rw[beq_eq_false_iff_ne]at hqb;exact hqb
      omega
     go_wp2_with fail
     go_meet
     case rel=>exact⟨p,q,dk,rfl,rfl,hp1,hp2,hq1,HPQ.out,hR2,hC2⟩
    ·have HC:=Lib.hid (rev_any blk off cap a' b' dk w2 hR2 (by have:=HS.out;omega) (by have:=HS.out;omega) (by omega))
     rw[HS.out]at HC
     go_wp2_with fail
     refine HC.out.mono ?_
     rintro e w3 ⟨rfl,d2,hpm,hR3,hC3⟩
     go_wp2_with fail
     go_meet
     case rel=>exact⟨b' - 1 - (p - a'),1,d2,by congr 1;omega,rfl,by omega,by omega,Nat.le_refl _,HPQ.out.turn hb hpm,hR3,hC2.trans hC3 (fun _ _ e=>e)⟩
   case rest =>
    clear HPQ HS hR2 hC2 hp1 hp2 hq
    obtain⟨p,q,dk,rfl,rfl,hp1,hp2,hq,hPQ,hR,hC⟩:=hcut
    have HPQ:=Lib.hid hPQ
    have HS:=Lib.hid hPQ.size
    clear hPQ
    obtain⟨wo,rfl⟩:∃wo:World,wo=wc:=⟨_,rfl⟩
    go_upto_region 15 with fail
    go_cut [68]from 61 to 69 (fun tv wx=>∃t:Bool,tv=.bool t∧wx=wo)
    case first =>
     cases v1
     ·go_wp2_with fail
      go_meet
      case rel=>exact⟨false,rfl,rfl⟩
     ·cases v2
      ·go_wp2_with fail
       go_meet
       case rel=>exact⟨false,rfl,rfl⟩
      ·go_wp2_with fail
       go_meet
       case rel=>exact⟨_,rfl,rfl⟩
    case rest =>
     obtain⟨t,rfl,rfl⟩:=hcut
     have HC:=Lib.hid (parti_any blk off cap dk wc hR (by have:=HS.out;omega) a' b' (by omega) (by have:=HS.out;omega) (by omega))
     rw[HS.out]at HC
     cases t
     go_upto_region 17 with fail
     clear HC
     have hR3:=hR
     have hC3:=hC
     clear hR hC
     obtain⟨W3,rfl⟩:∃W3:World,W3=wc:=⟨_,rfl⟩
     rotate_left 1
     go_wp2_with fail
     refine HC.out.mono ?_
     rintro e W3 ⟨v,rfl,hv,hE3⟩
     have hR3:=hR.ext hE3
     have hC3:=hC.ext_trans hE3
     have HV:=Lib.hid hv
     clear hv hE3 hR hC HC
     cases v
     rotate_left 1
     ·have hdn:=HPQ.out.done hb (permIn_refl _ _ _) (HV.out rfl)
      go_wp2_with fail
      refine bodyPost_ret (v:=.tuple #[]) (by simp[results,Tryz.results209,go_sem]) rfl ⟨rfl,dk,hdn.1,hdn.2,hR3,hC3⟩
     rotate_left 1
     go_upto_region 17 with fail
     clear HV
     all_goals
      obtain⟨G,hG⟩:=as_fun dk
      have hcw:∀t,t<d.size→W3.cell? ⟨blk,off+t,none⟩=some (.int .u64 (G t)):=fun t ht=>by rw[hG];exact hR3.cell (by have:=HS.out;omega)
      have HG:=Lib.hid hG
      clear hG
      have hpd:p<d.size:=by omega
      have had:a' - 1<d.size:=by omega
      have ways:a'=0∨0<a'∧ltInt (G (a' - 1)) (G p)=true∨0<a'∧ltInt (G (a' - 1)) (G p)=false:=by
       by_cases h0:a'=0
       ·exact .inl h0
       ·cases hl:ltInt (G (a' - 1)) (G p)
        ·exact .inr (.inr ⟨by omega,rfl⟩)
        ·exact .inr (.inl ⟨by omega,rfl⟩)
      rcases ways with h0|⟨h0,hl⟩|⟨h0,hl⟩
      have hz:¬ 0<a':=by omega
      clear h0
      go_quiet (fail)
      clear hz
      go_upto_region 20 with fail
      rotate_left 1
      have zi:0≤(a':Int) - 1:=by omega
      have zn:((a':Int) - 1).toNat=a' - 1:=by omega
      have zw:IntKind.i64.wrap ((a':Int) - 1)=(a':Int) - 1:=IntWalk.i64_in _ (by omega)
      go_quiet ((first|(go_at_call 232;exact Calls.quiet_of_same (less_any _ _ _))))
      clear zi zn zw
      go_upto_region 20 with fail
      rotate_left 1
      have zi:0≤(a':Int) - 1:=by omega
      have zn:((a':Int) - 1).toNat=a' - 1:=by omega
      have zw:IntKind.i64.wrap ((a':Int) - 1)=(a':Int) - 1:=IntWalk.i64_in _ (by omega)
      go_quiet ((first|(go_at_call 232;exact Calls.quiet_of_same (less_any _ _ _))))
      clear zi zn zw
      rw[HG.out,HG.out]at hl
      have HLT:=Lib.hid hl
      clear hl hcw
      have hCE:=Lib.hid (eqpart_any blk off cap dk (W3.drewN nq) (hR3.ext ((Ext.refl W3).drewN _)) (by have:=HS.out;omega) a' b' p hp1 hp2 (by omega) (by have:=HS.out;omega))
      rw[HS.out]at hCE
      go_wp2_with fail
      refine hCE.out.mono ?_
      rintro e W5 ⟨m,d2,rfl,ham,hmb,hpm,hq2,g1,g2,hR5,hC5⟩
      have HPQ2:=Lib.hid (HPQ.out.eq hb h0 HLT.out ham hmb hpm hq2 g1 g2)
      have hC6:=(hC3.drewN nq).trans hC5 (fun _ _ e=>e)
      clear hCE HLT hpm hq2 g1 g2 hC5 hR3 hC3 HPQ
      go_wp2_with fail
      go_roundw
      case rel=>exact⟨m,b',lim,v1,v2,d2,rfl,rfl,rfl,rfl,rfl,hlim,HPQ2.out,hR5,hC6⟩
      case measure=>simp[intOf];omega
      all_goals
       have hE4:Ext W3 (W3.drewN nq):=(Ext.refl W3).drewN _
       generalize W3.drewN nq=W4 at *
       have hR4:=hR3.ext hE4
       have hC4:=hC3.ext_trans hE4
       clear hR3 hC3 hE4 HG
       have hCP:=Lib.hid (part_any blk off cap dk W4 hR4 (by have:=HS.out;omega) a' b' p hp1 hp2 (by omega) (by have:=HS.out;omega))
       rw[HS.out]at hCP
       go_wp2_with fail
       refine hCP.out.mono ?_
       rintro e W5 ⟨m,v,d2,rfl,ham,hmb,hpm,g1,g2,hR5,hC5⟩
       have HPT:Hid (Pt a' m b' d2):=Lib.hid ⟨ham,hmb,g1,g2⟩
       have HPM:=Lib.hid hpm
       have hC6:=hC4.trans hC5 (fun _ _ e=>e)
       have hsd:d2.size=d.size:=by rw[hpm.1];exact HS.out
       have HSD:=Lib.hid hsd
       clear hCP g1 g2 hC4 hC5 hR4 hpm hsd
       obtain⟨x,hx⟩:∃x,x=m - a':=⟨_,rfl⟩
       obtain⟨y,hy⟩:∃y,y=b' - m:=⟨_,rfl⟩
       have ex:(m:Int) - (a':Int)=(x:Int):=by omega
       have ey:(b':Int) - (m:Int)=(y:Int):=by omega
       have hxn:m - a'<n:=by omega
       have hyn:b' - (m+1)<n:=by omega
       have HXY:=Lib.hid (show _∧_ from⟨hx,hy⟩)
       have HXN:=Lib.hid (show _∧_ from⟨hxn,hyn⟩)
       clear hx hy hxn hyn
       by_cases hxy:x<y
       ·have HI:=Lib.hid (ih.out _ HXN.out.1 blk off cap a' m lim d2 W5 hR5 (by have:=HSD.out;omega) (Nat.le_refl _) ham (by have:=HSD.out;omega) (by omega) hlim ((HPQ.out.turn hb HPM.out).below.mono (by omega)))
        rw[HSD.out]at HI
        clear hR5
        go_wp2_with fail
        refine HI.out.mono ?_
        rintro e W6 ⟨rfl,d3,hp3,hs3,hR6,hC7⟩
        have HPQ2:=Lib.hid (HPQ.out.left hb HPM.out HPT.out hp3 hs3)
        have hC8:=hC6.trans hC7 (fun _ _ e=>e)
        clear HI hp3 hs3 hC7 hC6 HPQ HPM HPT
        go_wp2_with fail
        go_roundw
        case rel=>exact⟨m+1,b',lim,_,v,d3,by go_num,rfl,rfl,rfl,rfl,hlim,HPQ2.out,hR6,hC8⟩
        case measure=>simp[intOf];omega
       ·have HI:=Lib.hid (ih.out _ HXN.out.2 blk off cap (m+1) b' lim d2 W5 hR5 (by have:=HSD.out;omega) (Nat.le_refl _) (by omega) (by have:=HSD.out;omega) (by omega) hlim (.inr fun i k1 k2=>by rw[Nat.add_sub_cancel];exact HPT.out.hi i (by omega) k2))
        rw[HSD.out,show((m+1:Nat):Int)=(m:Int)+1 by omega]at HI
        clear hR5
        go_wp2_with fail
        refine HI.out.mono ?_
        rintro e W6 ⟨rfl,d3,hp3,hs3,hR6,hC7⟩
        have HPQ2:=Lib.hid (HPQ.out.right hb HPM.out HPT.out hp3 hs3)
        have hC8:=hC6.trans hC7 (fun _ _ e=>e)
        clear HI hp3 hs3 hC7 hC6 HPQ HPM HPT
        go_wp2_with fail
        go_roundw
        case rel=>exact⟨a',m,lim,_,v,d3,rfl,rfl,rfl,rfl,rfl,hlim,HPQ2.out,hR6,hC8⟩
        case measure=>simp[intOf];omega
end
theorem pdq_all:∀n,PdqOk n:=by
 intro n
 induction n using Nat.strongRecOn with
 | ind n ih =>
  intro blk off cap a b lim d w h hsz hn hab hb h50 hlim hB
  exact pdq_step blk off cap d w h hsz n (Lib.hid fun k hk=>ih k hk) a b lim hn hab hb h50 hlim hB
end Go.Proofs.YtkkbfdencgdbhaaGreatDoor
namespace Go.Proofs.YtkkbfdencgdbhaaGreatDoor
open Go.RowKit Go.Sort
theorem Chg.grown{w w':World}{r:Nat}(h:Chg (· = r) w w'):w.grownBy w' (some r):=⟨h.os,h.tape,h.output,h.size,fun k hk hn=>h.block k hk (fun e=>hn (by have e':k=r:=e;rw[e']))⟩
theorem Ext.grown{w w':World}(h:Ext w w'):w.grownBy w' none:=⟨h.os,h.tape,h.output,h.size,fun _ hk _=>Ext.block h hk⟩
section
variable{ν : Type}{vv : ν → Value}
theorem RangeAt.walks{K:KeyWay Int}{w w':World}{b r:Nat}{L left:List (Int × ν)}(h:RangeAt K vv w b r L left)(hk:KeepsWalks w w'):RangeAt K vv w' b r L left:=by
 obtain⟨es,clk,seen,h1,h2,h3,h4,h5⟩:=h
 exact⟨es,clk,seen,hk.same b _ h1 rfl,h2,h3,hk.same r _ h4 rfl,h5⟩
theorem RangeAt.iter_walk{K:KeyWay Int}{w:World}{b r:Nat}{L left:List (Int × ν)}(h:RangeAt K vv w b r L left):∃o:Obj,w.heap[r]? = some o∧o.isWalk=true:=by
 obtain⟨es,clk,seen,h1,h2,h3,h4,h5⟩:=h
 exact⟨_,h4,rfl⟩
end
set_option maxRecDepth 100000 in
set_option maxHeartbeats 2000000 in
theorem keys1_in(F:Fence)(n:Nat)(hfn:F.fn 175)(hro:F.round=none)(hn:1≤n)(l Bm b:Nat)(L:List (Int×Nat))(J:List Int→World→Prop)
 (hY:∀pre x W,J pre W→pre.length<L.length→YieldAt F (n - 1) Tryz.prog l #[eU x] W fun e W'=>e=.returned (.bool true)∧J (pre++[x]) W'∧KeepsWalks W W')
 (W:World) (hJ:AbidesFrom W.heap.size J) (hm:W.cell? ⟨Bm,0,none⟩=some (.map (some b))) (hM:MapAt u64Way ptrV W b L) (h0:J [] W) :
 CallsIn F n Tryz.prog 175 #[.func (.yield l) #[] #[],.pointer (some ⟨Bm,0,none⟩)] W fun e W'=>(∃v,e=.returned v)∧∃ss:List Int,ss.Perm (L.map (·.1))∧J ss W':=by
 obtain⟨w0,hrun,hR,hE⟩:=hM.range map_blobs
 have HY:=Lib.hid hY
 have HJ:=Lib.hid hJ
 clear hY hJ
 refine callsIn_of_wp Tryz.func175 rfl hfn ?_ hro
 simp only[Tryz.ntmps175,List.size_toArray,List.length_cons,List.length_nil,Nat.reduceAdd,Nat.reduceSub,Array.replicate_succ,Array.replicate_zero,List.push_toArray,List.append_toArray,List.nil_append,List.cons_append]
 gi_wp2
 have hJ0:J [] w0:=HJ.out [] W w0 none h0 hE.grown (fun r e=>by cases e)
 clear hrun h0 hm hM
 obtain⟨r,hr⟩:∃r,r=W.heap.size:=⟨_,rfl⟩
 rw[←hr]at hR⊢
 have hrg:W.heap.size≤r:=by omega
 clear hr hE
 gi_loopg [3] L.length (fun k _ wr=>∃left ss,left.length=k∧(L.map (·.1)).Perm (ss++left.map (·.1))∧RangeAt u64Way ptrV wr b r L left∧J ss wr)
 case atStart=>exact⟨L,[],rfl,List.Perm.refl _,hR,hJ0⟩
 case round =>
  obtain⟨left,ss,rfl,hp,hRk,hJs⟩:=hrel
  clear hR hJ0
  have HP:=Lib.hid hp
  clear hp
  rcases hRk.next (P:=Tryz.prog) 0 with⟨rfl,hrun⟩|⟨p,left',w1,hperm,hrun,hR1,hC1,hent⟩
  ·have hrun':∀ty,(Instr.next (.pointer (some ⟨r,0,none⟩)) false ty).run Tryz.prog wr=.ok (.tuple #[.bool false]) wr:=fun _=>hrun
   clear hrun
   gi_wp2
   go_end0
   exact⟨⟨_,rfl⟩,ss,by have:=HP.out;simpa using this.symm,hJs⟩
  ·have hrun':∀ty,(Instr.next (.pointer (some ⟨r,0,none⟩)) false ty).run Tryz.prog wr=.ok (.tuple #[.bool true,.int .u64 p.1,.pointer (some ⟨p.2,0,none⟩)]) w1:=fun _=>hrun
   have hent':(Instr.entry (.pointer (some ⟨r,0,none⟩))).run Tryz.prog w1=.ok (.tuple #[.int .u64 p.1,.pointer (some ⟨p.2,0,none⟩)]) w1:=hent
   clear hrun hent
   have hlen:left'.length<left.length:=by have:=hperm.length_eq;simp at this;omega
   have hp2:(L.map (·.1)).Perm ((ss++[p.1])++left'.map (·.1)):=by
    refine HP.out.trans ?_
    rw[List.append_assoc]
    exact(hperm.map _).append_left ss
   have hsl:ss.length<L.length:=by have:=hp2.length_eq;simp at this;omega
   have HP2:=Lib.hid hp2
   clear hp2 hperm HP
   have hJ2:J ss w1:=HJ.out ss wr w1 (some r) hJs hC1.grown (fun r' e=>by cases e;exact⟨hrg,hRk.iter_walk⟩)
   obtain⟨fn,tmps,assign,body,hy,hRd⟩:=HY.out ss p.1 w1 hJ2 hsl
   clear hJs hRk hC1
   unfold eU at hy
   gi_wp2
   refine hRd.mono ?_
   rintro e W3 ⟨rfl,hJ3,hk3⟩
   gi_wp2
   gi_roundg left'.length
   case measure=>exact hlen
   case rel=>exact⟨left',ss++[p.1],rfl,HP2.out,hR1.walks hk3,hJ3⟩
theorem keys_gives(F:Fence)(n:Nat)(hfn:F.fn 175)(hro:F.round=none)(hn:1≤n)(Bm b:Nat)(L:List (Int×Nat))(w:World)(hBm:Bm<w.heap.size)
 (hm:w.cell? ⟨Bm,0,none⟩=some (.map (some b))) (hM:MapAt u64Way ptrV w b L) :
 SeqGives F n Tryz.prog 175 #[.pointer (some ⟨Bm,0,none⟩)] eU (fun ss=>ss.Perm (L.map (·.1))) L.length w:=fun l J W hW hJ hY h0=>by
 have hE:Ext w W:=Ext.of_below hW
 exact keys1_in F n hfn hro hn l Bm b L J hY W hJ ((Ext.cell hE hBm).trans hm) (hM.ext hE) h0
set_option maxHeartbeats 1000000 in
theorem keysU_in(F:Fence)(n:Nat)(h7:F.fn 134)(hro:F.round=none)(mb:Option Nat)(w:World) :
 CallsIn F n Tryz.prog 134 #[.map mb] w fun e w'=>e=.returned (.func (.func 175) #[] #[.pointer (some ⟨w.heap.size,0,none⟩)])∧w'=w.alloc (.cells #[.map mb] 131):=by
 refine callsIn_of_wp Tryz.func134 rfl h7 ?_ hro
 simp only[Tryz.ntmps134,List.size_toArray,List.length_cons,List.length_nil,Nat.reduceAdd,Nat.reduceSub,Array.replicate_succ,Array.replicate_zero,List.push_toArray,List.append_toArray,List.nil_append,List.cons_append]
 gi_wp2
 go_ret
 exact⟨rfl,rfl⟩
end Go.Proofs.YtkkbfdencgdbhaaGreatDoor
namespace Go.Proofs.YtkkbfdencgdbhaaGreatDoor
open Go.RowKit Go.Maps Go.Sort Go.Shelf
theorem u64_info:(Tryz.prog.info? 30).map (fun i=>(i.zero,i.size,i.bytes))=some (some (.int .u64 0),1,8):=by kernel_rfl
def uapAssign:Code:=(Code.region 2 #[{ dst:=some 5,op:=Op.assign (Operand.tmp 7),type:=30,pos := "iter.go:51",after:=#[],guard:=none }] false)
def uapBody:Code:=(Code.block 1 (Code.region 3 #[{ dst:=some 8,op:=Op.load 123 (Operand.tmp 2),type:=123,pos := "iter.go:52",after:=#[],guard:=none }, { dst:=some 9,op:=Op.move (Operand.tmp 5),type:=30,pos := "iter.go:52",after:=#[],guard:=none }, { dst:=some 10,op:=Op.buildSlice 123 1 #[(0,Operand.tmp 9)],type:=123,pos := "iter.go:52",after:=#[{ on:=1,ground:=Ground.data }],guard:=none }, { dst:=some 11,op:=Op.call { callee:=Callee.builtin Builtin.append,args:=#[Operand.tmp 8,Operand.tmp 10],argTypes:=#[123,123] },type:=123,pos := "iter.go:52",after:=#[{ on:=0,ground:=Ground.data }, { on:=2,ground:=Ground.data }],guard:=none }, { dst:=none,op:=Op.store 123 (Operand.tmp 2) (Operand.tmp 11),type:=0,pos := "iter.go:52",after:=#[{ on:=3,ground:=Ground.data }, { on:=3,ground:=Ground.chain }, { on:=0,ground:=Ground.phase }, { on:=1,ground:=Ground.phase }, { on:=2,ground:=Ground.phase }, { on:=3,ground:=Ground.phase }],guard:=none }] false))
def uapRec(fn:FuncId)(sv:Value)(Bs D:Nat)(st:LoopState)(pend:Option Code):Loop :=
 { state:=st,pending:=pend,fn,tmps:=#[.slice none 0 0,sv,.pointer (some ⟨Bs,0,none⟩),undef,.slice none 0 0,undef,sv,undef,undef,undef,undef,undef,undef],params:=#[7],assign:=uapAssign,body:=uapBody,defers:=D }
structure uApAt (w0:World) (fn:FuncId) (sv:Value) (Bs l D:Nat) (ss:List Int) (W:World):Prop where
 box:∃v,W.heap[Bs]? = some (.cells #[v] 123 (0,0))∧W.ownsRow w0.heap.size 30 1 v ss.length (ss.map (Value.int .u64))∧(v=.slice none 0 0↔ss=[])
 L:W.heap[l]? = some (.loop (uapRec fn sv Bs D .ready none))
 K:W.heap[D]? = some (.deferred (some []))
 below:Below w0.heap.size w0 W
theorem uap_abides(w0:World)(fn:FuncId)(sv:Value)(Bs l D B:Nat)(hB:w0.heap.size≤B):AbidesFrom B (uApAt w0 fn sv Bs l D):=fun s W W' row h hg hrow=>by
 have hrow':∀r,row=some r→∃o:Obj,W.heap[r]? = some o∧o.isWalk=true:=fun r e=>(hrow r e).2
 obtain⟨v,hv,hr,hn⟩:=h.box
 exact⟨⟨v,(grownBy_keeps hg hrow' hv rfl).trans hv,ownsRow_abides_a hr hg hrow',hn⟩,(grownBy_keeps hg hrow' h.L rfl).trans h.L,(grownBy_keeps hg hrow' h.K rfl).trans h.K,
  h.below.grown hg h.below.size (fun k e=>Nat.le_trans hB (hrow k e).1)⟩
set_option maxRecDepth 100000 in
set_option maxHeartbeats 2000000 in
theorem uapYield(F:Fence)(m:Nat)(w0:World)(fn:FuncId)(hfn:F.fn fn)(sv:Value)(Bs l D:Nat)(hBl:Bs≠l)(hDl:D≠l)(hDB:D≠Bs)(h0B:w0.heap.size≤Bs)(h0l:w0.heap.size≤l)
 (N:Nat) (hN:N≤maxLen) (hNb:N * 8≤140737488355328) (ss:List Int) (x:Int) (W:World) (h:uApAt w0 fn sv Bs l D ss W) (hlen:ss.length<N) :
 YieldAt F m Tryz.prog l #[Value.int .u64 x] W fun e W'=>e=.returned (.bool true)∧uApAt w0 fn sv Bs l D (ss++[x]) W'∧KeepsWalks W W':=by
 obtain⟨i0,hi,hz0,hz1,hz2⟩:=info_parts u64_info
 obtain⟨v,hv,hrow,_⟩:=h.box
 refine⟨fn,#[.slice none 0 0,sv,.pointer (some ⟨Bs,0,none⟩),undef,.slice none 0 0,undef,sv,Value.int .u64 x,undef,undef,undef,undef,undef],uapAssign,uapBody,by simpa[uapRec]using run_yield (P:=Tryz.prog) (args:=#[Value.int .u64 x]) h.L rfl,roundIn_of_wpIn hfn ?_⟩
 have hl:l<W.heap.size:=(Array.getElem?_eq_some_iff.1 h.L).1
 have hbr:=run_beginRound (P:=Tryz.prog) h.L rfl
 obtain⟨W2,hW2⟩:∃W2,W.putObj l (.loop { uapRec fn sv Bs D .ready none with state:=.busy })=W2:=⟨_,rfl⟩
 rw[hW2]at hbr
 have hg2:W.grownBy W2 (some l):=by rw[←hW2];exact grownBy_putObj_a _ _ _
 have hk2:KeepsWalks W W2:=by rw[←hW2];exact KeepsWalks.putObj _ h.L rfl
 have hv2:W2.heap[Bs]? = some (.cells #[v] 123 (0,0)):=by rw[←hW2];exact(World.putObj_heap_other hBl).trans hv
 have hK2:W2.heap[D]? = some (.deferred (some [])):=by rw[←hW2];exact(World.putObj_heap_other hDl).trans h.K
 have hL2:W2.heap[l]? = some (.loop { uapRec fn sv Bs D .ready none with state:=.busy }):=by rw[←hW2];exact World.putObj_heap_same hl
 have hrow2:W2.ownsRow w0.heap.size 30 1 v ss.length (ss.map (Value.int .u64)):=hrow.kept hg2 (ownsRow_ne_a hrow h.L (fun cur e=>by first|cases e|exact absurd (Obj.cells.inj e).2.1 (by decide)))
 have hb2:Below w0.heap.size w0 W2:=h.below.grown hg2 h.below.size (fun k e=>by cases e;exact h0l)
 obtain⟨hc2,hf2⟩:=cell_of_box_a hv2
 have hBlt:Bs<W2.heap.size:=(Array.getElem?_eq_some_iff.1 hv2).1
 have hl2:l<W2.heap.size:=(Array.getElem?_eq_some_iff.1 hL2).1
 have hDlt:D<W2.heap.size:=(Array.getElem?_eq_some_iff.1 hK2).1
 have ne_of:∀ {j:Nat} {o:Obj},W2.heap[j]? = some o→(∀cur,o≠.cells cur 30 (0,0))→some j≠v.ownBlock:=fun hj hno=>by
  rcases ownsRow_ne_a hrow2 hj hno with e|e
  ·rw[e];simp
  ·exact fun e'=>e e'.symm
 clear hW2
 unfold uapAssign
 gi_wp2_with gi_round_op_a
 unfold uapBody
 gi_wp2_with (first
  | (gi_at_builtin;refine wpListIn_append_own _ rfl _ _ 123 rfl w0.heap.size 30 i0 (.int .u64 0) 1 8 Tryz.underlying123 hi hz0 hz1 hz2 rfl (by decide) _ _ _ rfl (hrow2.alloc _) ⟨W2.heap.size,0,none⟩ 1 1 [Value.int .u64 x] rfl rfl (cell_one_new _ _ _) (by simp[Value.oneCell']) (by omega) (by omega) (by have:=hb2.size;simp;omega) ?_;intro v' w3 hown' hg3 hnil3
     have hv3:w3.heap[Bs]? = some (.cells #[v] 123 (0,0)):=(hg3.block Bs (by simp;omega) (ne_of hv2 (fun cur e=>by first|cases e|exact absurd (Obj.cells.inj e).2.1 (by decide)))).trans ((Below.heap_alloc _ _ Bs hBlt).trans hv2)
     obtain⟨hc3,hf3⟩:=cell_of_box_a hv3
     obtain⟨g',cap',cur',rfl,hbase',hgb',hr1,hr2,hr3,hr4⟩:∃g' cap' cur',v'=.slice (some ⟨g',0,none⟩) (ss.length+1) cap'∧w0.heap.size≤g'∧w3.heap[g']? = some (.cells cur' 30 (0,0))∧ss.length+1≤cap'∧cap'≤maxLen∧cur'.size=cap' * 1∧cur'.toList.take ((ss.length+1) * 1)=ss.map (Value.int .u64)++[Value.int .u64 x]:=by
      rcases hown'.2 with⟨_,h0⟩|h'
      ·exact absurd h0 (by omega)
      ·exact h'
     go_frame)
  | gi_round_op_a)
 have hg3':(W2.alloc (.cells #[Value.int .u64 x] 30)).grownBy w3 v.ownBlock:=hg3
 have hL3:w3.heap[l]? = some (.loop { uapRec fn sv Bs D .ready none with state:=.busy }):=(hg3'.block l (by simp;omega) (ne_of hL2 (fun cur e=>by first|cases e|exact absurd (Obj.cells.inj e).2.1 (by decide)))).trans ((Below.heap_alloc _ _ l hl2).trans hL2)
 have hK3:w3.heap[D]? = some (.deferred (some [])):=(hg3'.block D (by simp;omega) (ne_of hK2 (fun cur e=>by first|cases e|exact absurd (Obj.cells.inj e).2.1 (by decide)))).trans ((Below.heap_alloc _ _ D hDlt).trans hK2)
 obtain⟨w4,hw4⟩:∃w4,w3.setCell ⟨Bs,0,none⟩ (.slice (some ⟨g',0,none⟩) (ss.length+1) cap')=w4:=⟨_,rfl⟩
 rw[hw4]
 have hg4:w3.grownBy w4 (some Bs):=by rw[←hw4];exact grownBy_setCell0_a _ _ _
 have hv4:w4.heap[Bs]? = some (.cells #[.slice (some ⟨g',0,none⟩) (ss.length+1) cap'] 123 (0,0)):=by rw[←hw4];exact heap_setCell_box_a _ hv3
 have hL4:w4.heap[l]? = some (.loop { uapRec fn sv Bs D .ready none with state:=.busy }):=(hg4.block l (Array.getElem?_eq_some_iff.1 hL3).1 (fun e=>hBl (by cases e;rfl))).trans hL3
 have hK4:w4.heap[D]? = some (.deferred (some [])):=(hg4.block D (Array.getElem?_eq_some_iff.1 hK3).1 (fun e=>hDB (by cases e;rfl))).trans hK3
 have hrow4:=hown'.kept hg4 (ownsRow_ne_a hown' hv3 (fun cur e=>by first|cases e|exact absurd (Obj.cells.inj e).2.1 (by decide)))
 have hl4:l<w4.heap.size:=(Array.getElem?_eq_some_iff.1 hL4).1
 have hb3:Below w0.heap.size w0 w3:=(hb2.alloc hb2.size _).grown hg3' (by have:=hb2.size;simp;omega) (fun k e=>(hrow2.lt k e).1)
 have hb4:Below w0.heap.size w0 w4:=hb3.grown hg4 hb3.size (fun k e=>by cases e;exact h0B)
 have hk4:KeepsWalks W w4:=((hk2.trans (KeepsWalks.alloc _ _)).trans (KeepsWalks.of_grownBy hg3' (ownsRow_not_walk_a (hrow2.alloc _)))).trans (by rw[←hw4];exact KeepsWalks.setCell _ _ _)
 clear hw4
 refine⟨_,_,run_endRound none hL4,rfl,⟨⟨_,(World.putObj_heap_other hBl).trans hv4,?_,by simp⟩,World.putObj_heap_same hl4,(World.putObj_heap_other hDl).trans hK4,hb4.grown (grownBy_putObj_a _ _ _) hb4.size (fun k e=>by cases e;exact h0l)⟩,hk4.trans (KeepsWalks.putObj _ hL4 rfl)⟩
 have:=hrow4.kept (grownBy_putObj_a w4 l (.loop { { uapRec fn sv Bs D .ready none with state:=.busy } with state:=if(none:Option Code).isNone then .ready else .done,pending:=none })) (ownsRow_ne_a hrow4 hL4 (fun cur e=>by first|cases e|exact absurd (Obj.cells.inj e).2.1 (by decide)))
 simpa using this
set_option maxRecDepth 100000 in
set_option maxHeartbeats 2000000 in
theorem uappendSeq_in(F:Fence)(n:Nat)(h11:F.fn 208)(hro:F.round=none)(hn:2≤n)(g:Nat)(lb:Array Value)(hFg:F.fn g)(eg:∀args w,(callFunc g args).run Tryz.prog w=.ok (.enter g args) w)
 (S:List Int→Prop) (N:Nat) (hN:N≤maxLen) (hNb:N * 8≤140737488355328) (w:World) (hseq:SeqGives F (n - 1) Tryz.prog g lb (Value.int .u64) S N w) :
 CallsIn F n Tryz.prog 208 #[.slice none 0 0,.func (.func g) #[] lb] w fun e w'=>∃(v:Value) (ss:List Int),e=.returned v∧S ss∧w'.ownsRow w.heap.size 30 1 v ss.length (ss.map (Value.int .u64))∧(v=.slice none 0 0↔ss=[])∧Below w.heap.size w w':=by
 have h1:1≤n:=by omega
 refine callsIn_of_wp_marks Tryz.func208 rfl h11 ?_ hro
 simp only[Tryz.ntmps208,List.size_toArray,List.length_cons,List.length_nil,Nat.reduceAdd,Nat.reduceSub,Array.replicate_succ,Array.replicate_zero,List.push_toArray,List.append_toArray,List.nil_append,List.cons_append]
 gi_wp2
 refine wpIn_rangeFunc ?_
 intro fn hfn
 rw[hro]
 obtain⟨W0,hW0⟩:∃W0,w.alloc (.cells #[.slice none 0 0] 123)=W0:=⟨_,rfl⟩
 have hs0:W0.heap.size=w.heap.size+1:=by rw[←hW0];simp
 have hv0:W0.heap[w.heap.size]? = some (.cells #[.slice none 0 0] 123 (0,0)):=by rw[←hW0];exact World.alloc_heap_new w _
 have hb0:Below w.heap.size w W0:=by rw[←hW0];exact(Below.refl _ w).alloc (Nat.le_refl _) _
 rw[hW0]
 obtain⟨W1,hW1⟩:∃W1,(W0.alloc (.deferred (some []))).alloc (.loop (uapRec fn (.func (.func g) #[] lb) w.heap.size W0.heap.size .ready none))=W1:=⟨_,rfl⟩
 have hold:∀k,k<W0.heap.size→W1.heap[k]? = W0.heap[k]? := fun k hk=>by
  rw[←hW1];exact(Below.heap_alloc _ _ k (by simp;omega)).trans (Below.heap_alloc _ _ k hk)
 have hb1:Below w.heap.size w W1:=by rw[←hW1];exact(hb0.alloc hb0.size _).alloc (by have:=hb0.size;simp;omega) _
 have hs1:W1.heap.size=W0.heap.size+2:=by rw[←hW1];simp
 have hM:uApAt w fn (.func (.func g) #[] lb) w.heap.size (W0.heap.size+1) W0.heap.size [] W1 :=
  ⟨⟨_,(hold w.heap.size (by omega)).trans hv0,⟨rfl,.inl ⟨rfl,rfl⟩⟩,by simp⟩,
   by rw[←hW1];have:=World.alloc_heap_new (W0.alloc (.deferred (some []))) (.loop (uapRec fn (.func (.func g) #[] lb) w.heap.size W0.heap.size .ready none));rwa[World.size_alloc]at this,
   by rw[←hW1];exact(Below.heap_alloc _ _ _ (by simp)).trans (World.alloc_heap_new W0 _),hb1⟩
 refine⟨W0.heap.size+1,[{ target:=.collected W0.heap.size,args:=#[] }],W1, { target:=.fn (.func g) lb,args:=#[.func (.yield (W0.heap.size+1)) #[] #[]] },W1,g,
  #[.func (.yield (W0.heap.size+1)) #[] #[]]++lb,W1,?_,?_,?_,?_,fun _=>h1,?_⟩
 ·rw[←hW1];exact run_enterLoop_outer _ _ _ _ _
 ·simp[resolve,go_sem]
 ·intro f' hf';simp[Target.leads]at hf';subst hf';exact hFg
 ·simp[invoke,go_sem,eg]
 ·refine(hseq (W0.heap.size+1) (uApAt w fn (.func (.func g) #[] lb) w.heap.size (W0.heap.size+1) W0.heap.size) W1 hb1 (uap_abides _ _ _ _ _ _ _ hb1.size)
   (fun pre x W hJ hl=>uapYield F (n - 1 - 1) w fn hfn _ w.heap.size (W0.heap.size+1) W0.heap.size (by omega) (by omega) (by omega) (Nat.le_refl _) (by omega) N hN hNb pre x W hJ hl) hM).mono ?_
  rintro e W2 ⟨⟨v0,rfl⟩,ss,hS,h2⟩
  obtain⟨v,hv,hrow,hnil⟩:=h2.box
  have hend:=run_endLoop (P:=Tryz.prog) h2.L (by simp[uapRec])
  obtain⟨W3,hW3⟩:∃W3,W2.putObj (W0.heap.size+1) (.loop { uapRec fn (.func (.func g) #[] lb) w.heap.size W0.heap.size .ready none with state:=.exhausted })=W3:=⟨_,rfl⟩
  rw[hW3]at hend
  have hg3:W2.grownBy W3 (some (W0.heap.size+1)):=by rw[←hW3];exact grownBy_putObj_a _ _ _
  have hv3:W3.heap[w.heap.size]? = some (.cells #[v] 123 (0,0)):=by rw[←hW3];exact(World.putObj_heap_other (by omega)).trans hv
  have hK3:W3.heap[W0.heap.size]? = some (.deferred (some [])):=by rw[←hW3];exact(World.putObj_heap_other (by omega)).trans h2.K
  have hrow3:=hrow.kept hg3 (ownsRow_ne_a hrow h2.L (fun cur e=>by first|cases e|exact absurd (Obj.cells.inj e).2.1 (by decide)))
  have hb3:Below w.heap.size w W3:=h2.below.grown hg3 h2.below.size (fun k e=>by cases e;omega)
  obtain⟨hc3,hf3⟩:=cell_of_box_a hv3
  clear hW3
  refine⟨none,W3,hend,?_⟩
  gi_wp2
  rw[←hs0]
  refine⟨by simp,.inl ⟨_,_,rfl,run_takeDeferred hK3,?_⟩⟩
  exact⟨_,results_tmp rfl _ _ _,v,ss,rfl,hS,hrow3.kept (grownBy_putObj_a _ _ _) (ownsRow_ne_a hrow3 hK3 (fun cur e=>by first|cases e|exact absurd (Obj.cells.inj e).2.1 (by decide))),hnil,hb3.grown (grownBy_putObj_a _ _ _) hb3.size (fun k e=>by cases e;omega)⟩
set_option maxHeartbeats 1000000 in
theorem ucollect_in(F:Fence)(n:Nat)(h8:F.fn 173)(h11:F.fn 208)(hro:F.round=none)(hn:3≤n)(g:Nat)(lb:Array Value)(hFg:F.fn g)(eg:∀args w,(callFunc g args).run Tryz.prog w=.ok (.enter g args) w)
 (S:List Int→Prop) (N:Nat) (hN:N≤maxLen) (hNb:N * 8≤140737488355328) (w:World) (hseq:SeqGives F (n - 1 - 1) Tryz.prog g lb (Value.int .u64) S N w) :
 CallsIn F n Tryz.prog 173 #[.func (.func g) #[] lb] w fun e w'=>∃(v:Value) (ss:List Int),e=.returned v∧S ss∧w'.ownsRow w.heap.size 30 1 v ss.length (ss.map (Value.int .u64))∧(v=.slice none 0 0↔ss=[])∧Below w.heap.size w w':=by
 have h1:1≤n:=by omega
 refine callsIn_of_wp Tryz.func173 rfl h8 ?_ hro
 simp only[Tryz.ntmps173,List.size_toArray,List.length_cons,List.length_nil,Nat.reduceAdd,Nat.reduceSub,Array.replicate_succ,Array.replicate_zero,List.push_toArray,List.append_toArray,List.nil_append,List.cons_append]
 gi_wp2_with (gi_at_call 208;refine(uappendSeq_in F (n - 1) h11 hro (by omega) g lb hFg eg S N hN hNb _ hseq).mono ?_;rintro e w' ⟨v,ss,rfl,hS,hrow,hnil,hb⟩)
 go_ret
 exact⟨v,ss,rfl,hS,hrow,hnil,hb⟩
end Go.Proofs.YtkkbfdencgdbhaaGreatDoor
namespace Go.Proofs.YtkkbfdencgdbhaaGreatDoor
open Go.RowKit Go.Sort
theorem sorted_list{d d':Array Int}{ids:List Int}(hp:PermIn 0 d.size d d')(hs:SortedIn ltInt 0 d.size d')(hi:ids.Pairwise (· < ·))(hq:ids.Perm d.toList):d'.toList=ids:=by
 have hsz:=hp.1
 have h1:d'.toList.Perm d.toList:=by
  have:=hp.2.2
  rw[Array.extract_size]at this
  rw[show d'.extract 0 d.size=d' by rw[←hsz,Array.extract_size]]at this
  exact this
 have h2:d'.toList.Pairwise (fun x y=>x≤y):=by
  rw[List.pairwise_iff_getElem]
  intro i j hi' hj hij
  have:=hs i j (Nat.zero_le _) hij (by rw[←hsz];simpa using hj)
  rw[getElem!_pos d' i (by simpa using hi'),getElem!_pos d' j (by simpa using hj)]at this
  unfold ltInt at this
  simp only[decide_eq_false_iff_not]at this
  simp only[Array.getElem_toList]
  omega
 exact List.Perm.eq_of_pairwise (le:=fun x y=>x≤y) (fun a b _ _ h h'=>by omega) h2 (hi.imp fun h=>by omega) (h1.trans hq.symm)
set_option maxHeartbeats 1000000 in
theorem insu_nil(p:Option Addr)(cap:Nat)(w:World):Calls Tryz.prog 226 #[.slice p 0 cap,.int .i64 0,.int .i64 0] w fun e w'=>e=.returned (.tuple #[])∧w'=w:=by
 go_enter Tryz.func226,Tryz.ntmps226
 go_wp2_with fail
 refine wp_loop_rounds 1 ?_
 rw[rounds_succ]
 go_wp2_with fail
 go_end0
 exact⟨rfl,rfl⟩
set_option maxHeartbeats 1000000 in
theorem pdq_nil(p:Option Addr)(cap:Nat)(w:World):Calls Tryz.prog 209 #[.slice p 0 cap,.int .i64 0,.int .i64 0,.int .i64 0] w fun e w'=>e=.returned (.tuple #[])∧w'=w:=by
 go_enter Tryz.func209,Tryz.ntmps209
 go_wp2_with fail
 refine wp_loop_rounds 1 ?_
 rw[rounds_succ]
 go_wp2_with fail
 refine(insu_nil p cap w).mono ?_
 rintro e w' ⟨rfl,rfl⟩
 go_wp2_with fail
 exact bodyPost_ret (v:=.tuple #[]) (by simp[results,Tryz.results209,go_sem]) rfl ⟨rfl,rfl⟩
set_option maxHeartbeats 1000000 in
theorem sortu_nil(p:Option Addr)(cap:Nat)(w:World):Calls Tryz.prog 174 #[.slice p 0 cap] w fun e w'=>e=.returned (.tuple #[])∧w'=w:=by
 have HL:=Lib.hid (Tryz.bits_Len 0 w (by omega) (by omega))
 rw[show Lib.bitLen (0:Int).toNat=0 by decide +kernel]at HL
 go_enter Tryz.func174,Tryz.ntmps174
 go_wp2_with fail
 refine HL.out.mono ?_
 rintro e w' ⟨rfl,rfl⟩
 go_wp2_with fail
 refine(pdq_nil p cap _).mono ?_
 rintro e w' ⟨rfl,rfl⟩
 go_wp2_with fail
 go_end0
 exact⟨rfl,rfl⟩
theorem own_baseU{w:World}{b1 b2:Nat}{e:TypeId}{s:Nat}{v:Value}{n:Nat}{xs:List Value}(h:w.ownsRow b1 e s v n xs)(hb:b2≤b1):w.ownsRow b2 e s v n xs:=by
 refine⟨h.1,?_⟩
 rcases h.2 with hn|⟨g,cap,cur,hv,hbg,rest⟩
 ·exact .inl hn
 ·exact .inr ⟨g,cap,cur,hv,Nat.le_trans hb hbg,rest⟩
theorem bitLen_lt{n:Nat}(h:n<50):Lib.bitLen n<100:=by
 have:=Lib.bitLen_le n 6 (by omega) (by omega)
 omega
set_option maxHeartbeats 1000000 in
theorem sortu_any(blk cap:Nat)(d:Array Int)(w:World)(h:RU w blk 0 cap d)(h50:d.size<50):Calls Tryz.prog 174 #[.slice (some ⟨blk,0,none⟩) d.size cap] w fun e w' =>
 e=.returned (.tuple #[])∧∃d',PermIn 0 d.size d d'∧SortedIn ltInt 0 d.size d'∧RU w' blk 0 cap d'∧Chg (· = blk) w w':=by
 have HL:=Lib.hid (Tryz.bits_Len (d.size:Int) w (by omega) (by omega))
 rw[Int.toNat_natCast]at HL
 have HP:=Lib.hid (pdq_all d.size blk 0 cap 0 d.size (Lib.bitLen d.size) d w h (by omega) (by omega) (Nat.zero_le _) (Nat.le_refl _) (by omega) (bitLen_lt h50) (.inl rfl))
 generalize Lib.bitLen d.size=bl at *
 go_enter Tryz.func174,Tryz.ntmps174
 clear h
 go_wp2_with fail
 refine HL.out.mono ?_
 rintro e w' ⟨rfl,rfl⟩
 go_wp2_with fail
 refine HP.out.mono ?_
 rintro e w2 ⟨rfl,d',h1,h2,h3,h4⟩
 have H:=Lib.hid (show _∧_∧_∧_ from⟨h1,h2,h3,h4⟩)
 clear h1 h2 h3 h4
 go_wp2_with fail
 go_end0
 exact⟨rfl,d',H.out⟩
set_option maxHeartbeats 1000000 in
theorem sortedu_any(Bm b:Nat)(L:List (Int×Nat))(ids:List Int)(w:World)(hm:w.cell? ⟨Bm,0,none⟩=some (.map (some b)))(hM:MapAt u64Way ptrV w b L)(hi:ids.Pairwise (· < ·))(hp:ids.Perm (L.map (·.1)))(h50:ids.length<50) :
 Calls Tryz.prog 133 #[.func (.func 175) #[] #[.pointer (some ⟨Bm,0,none⟩)]] w fun e w'=>∃v,e=.returned v ∧
  w'.ownsRow w.heap.size 30 1 v ids.length (ids.map (Value.int .u64))∧Ext w w':=by
 have hlL:L.length<50:=by have:=hp.length_eq;simp at this;omega
 have hseq:SeqGives Fence.wide (3 - 1 - 1) Tryz.prog 175 #[.pointer (some ⟨Bm,0,none⟩)] (Value.int .u64) (fun ss:List Int=>ss.Perm (L.map (fun p:Int×Nat=>p.1))) L.length w:=keys_gives Fence.wide 1 trivial rfl (Nat.le_refl _) Bm b L w (cell_lt hm) hm hM
 have HC:=Lib.hid (callsIn_wide.1 (ucollect_in Fence.wide 3 trivial trivial rfl (Nat.le_refl _) _ #[.pointer (some ⟨Bm,0,none⟩)] trivial (enters_of Tryz.func175 (by kernel_rfl) rfl) (fun ss:List Int=>ss.Perm (L.map (fun p:Int×Nat=>p.1))) L.length (by unfold maxLen;omega) (by omega) w hseq))
 clear hm hM hseq
 go_enter Tryz.func133,Tryz.ntmps133
 go_wp2_with fail
 refine HC.out.mono ?_
 rintro e w1 ⟨v,ss,rfl,hS,hO,hnil,hb⟩
 have hE:=Ext.of_below hb
 have HS:=Lib.hid hS
 have hsl:ss.length=ids.length:=by rw[hS.length_eq,hp.length_eq]
 have HSL:=Lib.hid hsl
 have HNIL:=Lib.hid hnil
 clear hS hb hsl HC hnil
 rcases hO.2 with⟨rfl,hz⟩|⟨gb,cap,cur,rfl,hbase,hgb,r1,r2,r3,r4⟩
 ·have hss:ss=[]:=List.eq_nil_of_length_eq_zero hz
  subst hss
  have hid:ids=[]:=List.eq_nil_of_length_eq_zero HSL.out.symm
  subst hid
  go_wp2_with fail
  refine(sortu_nil none 0 w1).mono ?_
  rintro e w' ⟨rfl,rfl⟩
  go_wp2_with fail
  go_ret
  exact⟨_,rfl,hO,hE⟩
 ·have hR:RU w1 gb 0 cap ss.toArray:=by
   refine⟨rfl,?_⟩
   have e1:ss.toArray.size=ss.length:=by simp
   have e2:ss.toArray.toList.map eU=ss.map (Value.int .u64):=rfl
   rw[e1,e2]
   have hO':=hO
   refine⟨hO'.1,?_⟩
   exact .inr ⟨gb,cap,cur,rfl,Nat.zero_le _,hgb,r1,r2,r3,r4⟩
  have HP:=Lib.hid (sortu_any gb cap ss.toArray w1 hR (by have:=HSL.out;simp;omega))
  rw[show ss.toArray.size=ss.length by simp]at HP
  clear r1 r2 r3 r4 hgb hR hO
  go_wp2_with fail
  refine HP.out.mono ?_
  rintro e w2 ⟨rfl,d',h1,h2,h3,h4⟩
  have hfin:d'.toList=ids:=sorted_list (d:=ss.toArray) (by simpa using h1) (by simpa using h2) hi (hp.trans HS.out.symm)
  have hsz:d'.size=ids.length:=by rw[←hfin];simp
  have hown:=h3.own
  rw[hfin,hsz]at hown
  have hE2:Ext w w2:=Chg.mono (hE.chg_trans h4) (fun k hk e=>by have e':k=gb:=e;omega)
  have hsl:=HSL.out
  have HO:Hid (w2.ownsRow w.heap.size 30 1 (.slice (some ⟨gb,0,none⟩) ss.length cap) ids.length (ids.map (Value.int .u64))):=Lib.hid (by
   rw[hsl]
   refine⟨hown.1,?_⟩
   rcases hown.2 with⟨h0,_⟩|⟨g',c',cur',e',_,q⟩
   ·cases h0
   ·injection e' with e1 e2 e3
    injection e1 with e1
    injection e1 with e1 _ _
    subst e1
    subst e3
    exact .inr ⟨gb,cap,cur',rfl,hbase,q⟩)
  clear hfin hsz hown h1 h2 h3 h4 hsl HP
  go_wp2_with fail
  go_ret
  exact⟨_,rfl,HO.out,hE2⟩
theorem ids_any(w:World)(B:Nat→Prop)(c mb mn:Nat)(C:Ct)(h:CtAt w B c mb mn C)(ids:List Int)(hi:ids.Pairwise (· < ·))(hp:ids.Perm (C.idx.map (·.1)))(h50:ids.length<50) :
 Calls Tryz.prog 88 #[.pointer (some ⟨c,0,none⟩)] w fun e w'=>∃v,e=.returned v∧w'.ownsRow w.heap.size 30 1 v ids.length (ids.map (Value.int .u64))∧Ext w w':=by
 obtain⟨c0,c1⟩:=h.c0
 have HK:=Lib.hid (callsIn_wide.1 (keysU_in Fence.wide 1 trivial rfl (some mb) w))
 have hX:=At.new w 131 #[.map (some mb)]
 have hE:=(Ext.refl w).alloc (.cells #[.map (some mb)] 131)
 have HS:=Lib.hid (sortedu_any w.heap.size mb C.idx ids (w.alloc (.cells #[.map (some mb)] 131)) (hX.cell 0) (h.bm.ext hE) hi hp h50)
 go_enter Tryz.func88,Tryz.ntmps88
 clear hi hp h50 h
 go_wp2_with fail
 refine HK.out.mono ?_
 rintro e w1 ⟨rfl,rfl⟩
 go_wp2_with fail
 refine HS.out.mono ?_
 rintro e w2 ⟨v,rfl,hO,hE2⟩
 have HO:=Lib.hid (own_baseU hO (show w.heap.size≤_ by simp))
 have hE3:=hE.trans hE2
 clear hO hE2 hE hX
 go_wp2_with fail
 go_ret
 exact⟨v,rfl,HO.out,hE3⟩
end Go.Proofs.YtkkbfdencgdbhaaGreatDoor
