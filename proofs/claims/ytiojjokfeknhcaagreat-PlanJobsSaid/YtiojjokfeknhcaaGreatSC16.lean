/-
  Part 16 of what the law leans on.
-/
import Derived.Test.YtiojjokfeknhcaaGreatSC3
import Derived.Test.YtiojjokfeknhcaaGreatSC6
import Derived.Test.YtiojjokfeknhcaaGreatSC7
import Derived.Test.YtiojjokfeknhcaaGreatSC8
import Derived.Test.YtiojjokfeknhcaaGreatSC13
import Derived.Test.YtiojjokfeknhcaaGreatSC15
namespace Go.Proofs.YtiojjokfeknhcaaGreat
set_option maxRecDepth 100000
set_option maxHeartbeats 8000000
set_option linter.unusedVariables false
set_option linter.unusedSimpArgs false
set_option linter.unusedSectionVars false
open _root_.Go.Proofs.Tryz
def mayV(P:Pm)(l:List Spot)(pool size not_:Int)(i:Nat):Bool:=decide (((i:Int) % 2)=pool) && !decide ((i:Int)=not_)&&(qQk l i).fits size && !(P.vol i).closed
def qQ1(P:Pm)(l:List Spot)(pool size not_:Int):Nat→Int
 | 0 => -1
 | n+1=>if(mayV P l pool size not_ n&&(decide (qQ1 P l pool size not_ n<0)||decide ((qQk l n).free<(qQk l (qQ1 P l pool size not_ n).toNat).free)))=true then(n:Int)else qQ1 P l pool size not_ n
theorem qXO(P:Pm)(l:List Spot)(pool size not_:Int):∀n, -1≤qQ1 P l pool size not_ n∧qQ1 P l pool size not_ n<n
 | 0=>by simp[qQ1]
 | n+1=>by
  have:=qXO P l pool size not_ n
  unfold qQ1
  split <;> constructor <;> omega
def qZa(P:Pm)(l:List Spot)(items:List Int)(i:Nat):Int :=
 if(decide (i<items.length)&&decide (0<items.getD i 0)&&(qQk l i).up&&(P.vol i).closed && !(P.vol i).erase&&decide ((P.onVol i).length≠0))=true then(items.getD i 0 - ((P.onVol i).length:Int)) * 100 / items.getD i 0 else 0
def qQu(P:Pm)(l:List Spot)(items:List Int)(percent:Int):Nat→Int×Int
 | 0=>(-1,0)
 | n+1=>if(decide ((qQu P l items percent n).2<qZa P l items n)&&decide (percent≤qZa P l items n))=true then((n:Int),qZa P l items n)else qQu P l items percent n
theorem qXP(P:Pm)(l:List Spot)(items:List Int)(percent:Int):∀n,0≤(qQu P l items percent n).2
 | 0=>Int.le_refl _
 | n+1=>by
  have:=qXP P l items percent n
  unfold qQu;split
  ·rename_i h
   rw[Bool.and_eq_true,decide_eq_true_eq]at h
   have:=h.1
   show 0≤qZa P l items n
   omega
  ·exact this
structure Wd where
 disks:List Spot
 vols:List Spot
 items:List Int
 lostD:List Bool
 lostV:List Bool
 copies:Int
 keep:Int
 percent:Int
 reserve:Int
structure Wd.Ok (W:Wd):Prop where
 d:W.disks.length≤6
 v:W.vols.length≤12
 i:W.items.length≤12
 ir:∀x∈W.items,0≤x∧x≤1000000
 ld:W.lostD.length≤6
 lv:W.lostV.length≤12
 c:0≤W.copies∧W.copies≤6
 k:0≤W.keep∧W.keep≤100
structure Jb where
 kind:Int
 blob:Nat
 pool:Int
 vol:Int
deriving DecidableEq
def qZc(l:List Bool)(n:Int):Bool:=l.getD n.toNat false
def qQ5(W:Wd)(b:Bl):List Int:=b.disks.filter fun d => !qZc W.lostD d
def Bl.copy(b:Bl)(pool:Nat):Cp:=if pool=1 then b.b else b.a
def qZk(W:Wd)(x:Cp):Bool:=x.there && !qZc W.lostV x.vol
def furB(W:Wd)(b:Bl):Bool:=decide (((qQ5 W b).length:Int)<W.copies)&&(List.range W.disks.length).any (fun i=>mayB W.disks b.size (qQ5 W b) i)
def qQy(n:Int):Int:=max n 0+76 * ((max n 1 - 1) / 200+1)+4
def qZj(W:Wd)(L:List Bl):List Jb:=(L.filter fun b => !(b.dead||decide (b.disks.length=0))&&furB W b).map fun b=>⟨1,b.id,0, -1⟩
def qZB(k:Int)(n:Nat)(f:Nat→Bool):List Jb:=((List.range n).filter f).map fun(v:Nat)=>⟨k,0,0,(v:Int)⟩
def qXQ(W:Wd)(P:Pm)(v:Nat):Bool:=(qQk W.vols v).up&&(P.vol v).erase
def qZL(W:Wd)(P:Pm)(v:Nat):Bool:=(qQk W.vols v).up && !(P.vol v).closed && !(P.vol v).erase&&decide ((qQk W.vols v).free<W.reserve)
def qZF(W:Wd)(P:Pm)(v:Nat):Bool:=(qQk W.vols v).up&&(P.vol v).closed && !(P.vol v).erase&&decide (0<W.items.getD v 0)&&decide ((P.onVol v).length=0)
def qQD(k:Int)(f:Bl→Nat→Bool)(b:Bl):List Jb:=(([0,1]:List Nat).filter (f b)).map fun(p:Nat)=>⟨k,b.id,(p:Int), -1⟩
def qZM(W:Wd)(P:Pm)(b:Bl)(p:Nat):Bool := !b.dead && !(b.copy p).there&&decide (0≤qQ1 P W.vols p (qQy b.size) (-1) W.vols.length)
def qQS(W:Wd)(b:Bl)(p:Nat):Bool := !b.dead&&((b.copy p).there && !qZk W (b.copy p))&&(decide (0<(qQ5 W b).length)||qZk W (b.copy (1 - p)))
def qX8(W:Wd)(b:Bl):Bool:=decide (0<b.disks.length)&&qZk W b.a&&qZk W b.b
def qX9(W:Wd)(L:List Bl):Int:=((L.filter fun b=>decide (0<b.disks.length)).length:Int) - W.keep
def qZD(W:Wd)(L:List Bl):List Jb:=((L.filter (qX8 W)).take (qX9 W L).toNat).map fun b=>⟨4,b.id,0, -1⟩
def qZo(L:List Bl):List Jb:=(L.filter fun b=>b.dead&&decide (b.pins=0)).map fun b=>⟨5,b.id,0, -1⟩
def qXR(W:Wd)(P:Pm):Int:=(qQu P W.vols W.items W.percent W.vols.length).1
def retapeB(W:Wd)(P:Pm)(vol:Int)(b:Bl):Bool := !(b.dead || !(b.copy (vol % 2).toNat).there||decide ((b.copy (vol % 2).toNat).vol≠vol))&&decide (0≤qQ1 P W.vols (vol % 2) (qQy b.size) vol W.vols.length)
def qQN(W:Wd)(P:Pm):List Jb:=if qXR W P<0 then []else(P.L.filter (retapeB W P (qXR W P))).map fun b=>⟨7,b.id,qXR W P % 2,qXR W P⟩
def qZg(W:Wd)(P:Pm):List Jb :=
 qZj W P.L++qZB 2 W.vols.length (qXQ W P)++P.L.flatMap (qQD 3 (qZM W P))++qZD W P.L++qZo P.L++qZB 6 W.vols.length (qZL W P)++qQN W P++qZB 8 W.vols.length (qZF W P)++P.L.flatMap (qQD 9 (qQS W))
open Go.RowKit Go.Sort
theorem qXX(l:List Spot)(size copies:Int)(hv:List Int):∀t,(qQF l size copies hv t).length≤hv.length+t
 | 0=>Nat.le_refl _
 | t+1=>by
  have:=qXX l size copies hv t
  unfold qQF;split
  ·simp;omega
  ·omega
theorem outI_len(ch:List Int):∀n,(qX6 ch n).length≤n
 | 0=>Nat.le_refl _
 | n+1=>by
  have:=outI_len ch n
  unfold qX6;split
  ·simp;omega
  ·omega
theorem qJu(l:List Spot)(size:Int)(ch:List Int)(n:Nat) : -1≤qQ9 l size ch n∧qQ9 l size ch n<n:=by
 rcases qXN l size ch n with⟨h,_⟩|⟨b,h,h2,_⟩ <;> rw[h] <;> omega
theorem qQ4{w w':World}{base:Nat}{e:TypeId}{size:Nat}{v:Value}{n:Nat}{xs:List Value}(h:w.ownsRow base e size v n xs)(hE:Ext w w'):w'.ownsRow base e size v n xs:=qQb h (Ext.chg (S:=fun _=>False) hE) (fun _ _ h=>h)
theorem qZN{w:World}{base base':Nat}{e:TypeId}{size:Nat}{v:Value}{n:Nat}{xs:List Value}(h:w.ownsRow base e size v n xs)(hb:base'≤base):w.ownsRow base' e size v n xs:=by
 obtain⟨h1,h2⟩:=h;rcases h2 with h2|⟨g,cap,cur,hv,hb',r⟩
 ·exact⟨h1,.inl h2⟩
 ·exact⟨h1,.inr ⟨g,cap,cur,hv,by omega,r⟩⟩
theorem rdisks_any(w:World)(lv hvv:Value)(l:List Spot)(hv:List Int)(hS:Sln w lv 2 (l.map Spot.cells))(hH:Sl w hvv (hv.map (Value.int .i64)))(hl:l.length≤12)(hhl:hv.length≤12)(size copies:Int) :
 Calls prog 63 #[lv,.int .i64 size,.int .i64 copies,hvv] w fun e w'=>∃v:Value,e=.returned (.tuple #[v,.bool (decide (copies≤((qX6 (qQF l size copies hv l.length) 12).length:Int)))])∧w'.ownsRow w.heap.size 3 1 v (qX6 (qQF l size copies hv l.length) 12).length ((qX6 (qQF l size copies hv l.length) 12).map (Value.int .i64))∧Ext w w':=by
 obtain⟨i0,hi,hz0,hz1,hz2⟩:=info_parts qZx;obtain⟨LA,lc,rfl,hlx⟩:=hS;have hS:Sln w (.slice LA (l.map Spot.cells).length lc) 2 (l.map Spot.cells):=⟨LA,lc,rfl,hlx⟩;clear hlx;rw[List.length_map]at hS⊢
 go_enter func63,ntmps63
 have hO0:=own_empty' w 3 1 rfl;have hE0:=(Er w).alloc (.cells #[] 3)
 go_wp2_with (at_builtin;refine qZG hO0 ((hH.ext hE0).sln) (one_len _) (ints_one _) 24 underlying24 qZx rfl (by decide) (by decide) (by simp;omega) (by simp) rfl _ _ rfl rfl rfl ?_)
 intro cv w1 hown hgrow;have hE1:Ext w w1:=Chg.own_ext hE0 hgrow hO0 (Nat.le_refl _);clear hgrow hO0 hE0;have HB:=Hh (show w.heap.size≤w1.heap.size from hE1.size)
 replace hown:w1.ownsRow w.heap.size 3 1 cv hv.length (hv.map (Value.int .i64)):=by
  have e:∀q:List Int,(q.map ((fun x=>[x]) ∘ Value.int .i64)).flatten=q.map (Value.int .i64):=fun q=>by
   induction q with
   | nil=>rfl
   | cons a q ih=>simp[ih]
  rw[e]at hown;exact hown
 clear hH;go_wp2_with fail
 go_loopw [10,11] (fun cv tv wr=>∃t:Nat,t≤l.length∧tv=.int .i64 (t:Int)∧wr.ownsRow w.heap.size 3 1 cv (qQF l size copies hv t).length ((qQF l size copies hv t).map (Value.int .i64))∧Ext w wr) (fun _ tv _=>l.length - (intOf tv).toNat)
 case atStart=>exact⟨0,Nat.zero_le _,rfl,hown,hE1⟩
 case round =>
  clear hown;obtain⟨w2,hw2⟩:∃w2,w2=wr:=⟨_,rfl⟩;subst hw2;obtain⟨t,ht,rfl,hown,hE⟩:=hrel
  by_cases hlt:t<l.length
  ·have hS2:=hS.ext hE;have hcl:=qXX l size copies hv t;have htu:qQF l size copies hv (t+1)=if 0≤qQ9 l size (qQF l size copies hv t) l.length∧((qQF l size copies hv t).length:Int)<copies then qQF l size copies hv t++[qQ9 l size (qQF l size copies hv t) l.length]else qQF l size copies hv t:=rfl
   generalize qQF l size copies hv t=ch at hown hcl htu;have HTU:=Hh htu;clear htu;obtain⟨b,o,rfl⟩:=qXJ hS2 hlt;go_wp2_with fail
   go_loopw [12,28] (fun bv iv wx=>∃k:Nat,k≤l.length∧iv=.int .i64 (k:Int)∧bv=.int .i64 (qQ9 l size ch k)∧Ext w2 wx) (fun _ iv _=>l.length - (intOf iv).toNat)
   case atStart=>exact⟨0,Nat.zero_le _,rfl,rfl,Er _⟩
   case round =>
    obtain⟨k,hk,rfl,rfl,hEk⟩:=hrel
    by_cases hlk:k<l.length
    ·have hSk:=hS2.ext hEk;obtain⟨r0,r1⟩:=qQP hSk hlk;have hbr:=qJu l size ch k;have hbs:qQ9 l size ch (k+1)=if((qQk l k).fits size && !(ch.contains (k:Int))&&(decide (qQ9 l size ch k<0)||decide ((qQk l (qQ9 l size ch k).toNat).free<(qQk l k).free)))=true then(k:Int)else qQ9 l size ch k:=rfl
     obtain⟨⟨u,f⟩,hsp⟩:∃s,s=qQk l k:=⟨_,rfl⟩;rw[←hsp]at r0 r1 hbs;generalize hbst:qQ9 l size ch k=bst at hbs hbr⊢;clear hbst;simp only[]at r0 r1 hbs
     go_upto_region 9 with fail
     obtain⟨wy,hwy⟩:∃wy,wy=wr.alloc (.cells #[.bool u,.int .i64 f] 120):=⟨_,rfl⟩;have hXb:=At.new wr 120 #[.bool u,.int .i64 f];rw[←hwy]at hXb⊢;have hEy:Ext w2 wy:=by rw[hwy];exact hEk.alloc _
     clear hwy;have hSy:=hS2.ext hEy;generalize wr.heap.size=yb at hXb⊢;have HIN:Hid (∀dd os,Calls prog 89 #[.int .i64 (k:Int),u10] (grow (redrawn wy dd) os) fun e w''=>e=.returned (.bool (ch.contains (k:Int)))∧∃p:Regrown,w''=grow (redrawn wy p.d) p.os):=Hh fun dd os=>Calls.ext_of (rin_any _ (k:Int) u10 ch (Sl.of_own (qQ4 hown (hEy.trans (qQn wy dd os)))) (by omega))
     have rg:∀ {p:Addr} {u:Value},wy.cell? p=some u→∀d os,(grow (redrawn wy d) os).cell? p=some u:=fun h d os=>(Ext.cell (qQn wy d os) (qQv h)).trans h
     have x0:=hXb.cell 0;have x1:=hXb.cell 1;simp at x0 x1;have rx0:=rg x0;have rx1:=rg x1;clear hXb r0 r1 hsp;cases u
     ·have HBK:=Hh (show qQ9 l size ch (k+1)=bst from by rw[hbs];simp[Spot.fits]);clear hbs;go_wp2_with fail
      refine qQc (by kernel_rfl) (by kernel_rfl) ?_
      repeat (go_big_quiet_step (with_reducible exact HIN.out _ _))
      refine wpQuiet_nil ?_;intro W8 hE8;go_wp2_with fail
      go_roundw
      case rel=>exact⟨k+1,by omega,by go_num,by rw[HBK.out],hEy.trans hE8⟩
      case measure=>simp[intOf];omega
     ·by_cases hf:size≤f
      ·have t1:decide (size≤f)=true:=by simpa using hf
       cases hin:ch.contains (k:Int)
       ·rw[hin]at HIN hbs
        by_cases hb0:bst<0
        ·have t2:decide (bst<0)=true:=by simpa using hb0
         have HBK:=Hh (show qQ9 l size ch (k+1)=(k:Int)from by rw[hbs];simp[Spot.fits,hf,hb0]);clear hbs;go_wp2_with fail
         refine qQc (by kernel_rfl) (by kernel_rfl) ?_
         repeat (go_big_quiet_step (with_reducible exact HIN.out _ _))
         refine wpQuiet_nil ?_;intro W8 hE8;go_wp2_with fail
         go_roundw
         case rel=>exact⟨k+1,by omega,by go_num,by rw[HBK.out],hEy.trans hE8⟩
         case measure=>simp[intOf];omega
        ·have t2:decide (bst<0)=false:=by simpa using hb0
         obtain⟨j,rfl⟩:∃j:Nat,bst=(j:Int):=⟨bst.toNat,by omega⟩;have hjl:j<l.length:=by omega
         obtain⟨_,q1⟩:=qQP hSy hjl;have q1r:=rg q1;rw[show((j:Int)).toNat=j from rfl]at hbs;generalize (qQk l j).free=g at q1 q1r hbs
         by_cases hg:g<f
         ·have t3:decide (g<f)=true:=by simpa using hg
          have HBK:=Hh (show qQ9 l size ch (k+1)=(k:Int)from by rw[hbs];simp[Spot.fits,hf,hg]);clear hbs;go_wp2_with fail
          refine qQc (by kernel_rfl) (by kernel_rfl) ?_
          repeat (go_big_quiet_step (with_reducible exact HIN.out _ _))
          refine wpQuiet_nil ?_;intro W8 hE8;go_wp2_with fail
          go_roundw
          case rel=>exact⟨k+1,by omega,by go_num,by rw[HBK.out],hEy.trans hE8⟩
          case measure=>simp[intOf];omega
         ·have t3:decide (g<f)=false:=by simpa using hg
          have HBK:=Hh (show qQ9 l size ch (k+1)=(j:Int)from by rw[hbs];simp[Spot.fits,hf,hg];omega);clear hbs;go_wp2_with fail
          refine qQc (by kernel_rfl) (by kernel_rfl) ?_
          repeat (go_big_quiet_step (with_reducible exact HIN.out _ _))
          refine wpQuiet_nil ?_;intro W8 hE8;go_wp2_with fail
          go_roundw
          case rel=>exact⟨k+1,by omega,by go_num,by rw[HBK.out],hEy.trans hE8⟩
          case measure=>simp[intOf];omega
       ·rw[hin]at HIN hbs;have HBK:=Hh (show qQ9 l size ch (k+1)=bst from by rw[hbs];simp[Spot.fits]);clear hbs;go_wp2_with fail
        refine qQc (by kernel_rfl) (by kernel_rfl) ?_
        repeat (go_big_quiet_step (with_reducible exact HIN.out _ _))
        refine wpQuiet_nil ?_;intro W8 hE8;go_wp2_with fail
        go_roundw
        case rel=>exact⟨k+1,by omega,by go_num,by rw[HBK.out],hEy.trans hE8⟩
        case measure=>simp[intOf];omega
      ·have t1:decide (size≤f)=false:=by simpa using hf
       have HBK:=Hh (show qQ9 l size ch (k+1)=bst from by rw[hbs];simp[Spot.fits,hf]);clear hbs;go_wp2_with fail
       refine qQc (by kernel_rfl) (by kernel_rfl) ?_
       repeat (go_big_quiet_step (with_reducible exact HIN.out _ _))
       refine wpQuiet_nil ?_;intro W8 hE8;go_wp2_with fail
       go_roundw
       case rel=>exact⟨k+1,by omega,by go_num,by rw[HBK.out],hEy.trans hE8⟩
       case measure=>simp[intOf];omega
    ·obtain rfl:k=l.length:=by omega
     have hbr:=qJu l size ch l.length;generalize qQ9 l size ch l.length=bst at HTU hbr⊢;have hown3:=qQ4 hown hEk;have hE3:=hE.trans hEk;clear hown hE hEk hS2;have hcl2:ch.length≤24:=by omega
     by_cases h0:0≤bst
     ·by_cases h1:(ch.length:Int)<copies
      ·have t1:decide (0≤bst)=true:=by simpa using h0
       have t2:decide ((ch.length:Int)<copies)=true:=by simpa using h1
       have hnx:qQF l size copies hv (t+1)=ch++[bst]:=by rw[HTU.out,if_pos ⟨h0,h1⟩]
       have HNX:=Hh hnx;clear hnx;obtain⟨CA,cc,rfl⟩:=qQa hown3
       go_wp2_with (at_builtin;refine wpList_append_own _ rfl _ _ 24 rfl w.heap.size 3 i0 (.int .i64 0) 1 8 underlying24 hi hz0 hz1 hz2 rfl (by decide) _ _ _ rfl (hown3.alloc _) ⟨wr.heap.size,0,none⟩ 1 1 [.int .i64 bst] rfl rfl ?c1 ?c2 ?c3 ?c4 ?c5 ?_)
       case c1=>exact qXh
       case c2=>simp[Value.oneCell']
       case c3=>unfold maxLen;omega
       case c4=>omega
       case c5=>have:=hE3.size;simp;omega
       intro v1 w4 hown4 hgrow4 _;have hge:=qZV (hown3.alloc (.cells #[.int .i64 bst] 3));have hE4:Ext w w4:=Chg.mono ((hE3.alloc _).chg_trans (Chg.of_grown hgrow4)) fun j hj h=>by have:=hge j h;omega
       clear hgrow4 hge
       go_wp2
       go_roundw
       case rel=>exact⟨t+1,by omega,by go_num,by rw[HNX.out];simpa using hown4,hE4⟩
       case measure=>simp[intOf];omega
      ·have t1:decide (0≤bst)=true:=by simpa using h0
       have t2:decide ((ch.length:Int)<copies)=false:=by simpa using h1
       have hnx:qQF l size copies hv (t+1)=ch:=by rw[HTU.out,if_neg (fun h=>h1 h.2)]
       have HNX:=Hh hnx;clear hnx;obtain⟨CA,cc,rfl⟩:=qQa hown3;go_wp2_with fail
       go_roundw
       case rel=>exact⟨t+1,by omega,by go_num,by rw[HNX.out];exact hown3,hE3⟩
       case measure=>simp[intOf];omega
     ·have t1:decide (0≤bst)=false:=by simpa using h0
      have hnx:qQF l size copies hv (t+1)=ch:=by rw[HTU.out,if_neg (fun h=>h0 h.1)]
      have HNX:=Hh hnx;clear hnx;go_wp2_with fail
      go_roundw
      case rel=>exact⟨t+1,by omega,by go_num,by rw[HNX.out];exact hown3,hE3⟩
      case measure=>simp[intOf];omega
  ·obtain rfl:t=l.length:=by omega
   have hcl:=qXX l size copies hv l.length;generalize hch:qQF l size copies hv l.length=ch at hown hcl⊢;have HCH:=Hh hch;clear hch;go_wp2_with fail
   have hO:=qZt (w:=w2) (base:=w2.heap.size) (e:=3) (size:=1) (Nat.le_refl _);have hEo:=(Er w2).alloc (.cells #[] 3);generalize w2.alloc (.cells #[] 3)=w3 at hO hEo⊢;have hcs:=Sl.of_own hown
   go_loopw [15,16] (fun ov iv wr=>∃k:Nat,k≤12∧iv=.int .i64 (k:Int)∧wr.ownsRow w2.heap.size 3 1 ov (qX6 ch k).length ((qX6 ch k).map (Value.int .i64))∧Ext w2 wr) (fun _ iv _=>12 - (intOf iv).toNat)
   case atStart=>exact⟨0,Nat.zero_le _,rfl,hO,hEo⟩
   case round =>
    clear hO;obtain⟨k,hk,rfl,hownk,hEk⟩:=hrel
    by_cases hlk:k<12
    ·have hck:=hcs.ext hEk;have hEw:=hE.trans hEk;have hol:=outI_len ch k;have hon:qX6 ch (k+1)=if ch.contains (k:Int)=true then qX6 ch k++[(k:Int)]else qX6 ch k:=rfl
     generalize qX6 ch k=os at hownk hol hon;have HIC:=rin_any wr (k:Int) u10 ch hck (by omega);have t0:decide (k<12)=true:=by simpa using hlk
     go_wp2_with fail
     refine HIC.mono ?_;rintro e w5 ⟨rfl,hE5⟩;have hown5:=qQ4 hownk hE5;have hEw5:=hEw.trans hE5;have hE35:=hEk.trans hE5;clear HIC hownk hEk hck hEw;cases hc:ch.contains (k:Int)
     ·rw[hc]at hon;have HON:=Hh (show qX6 ch (k+1)=os by rw[hon];simp);clear hon;go_wp2_with fail
      go_roundw
      case rel=>exact⟨k+1,by omega,by go_num,by rw[HON.out];exact hown5,hE35⟩
      case measure=>simp[intOf];omega
     ·rw[hc]at hon;have HON:=Hh (show qX6 ch (k+1)=os++[(k:Int)]by rw[hon];simp);clear hon;obtain⟨CA,cc,rfl⟩:=qQa hown5
      go_wp2_with (at_builtin;refine wpList_append_own _ rfl _ _ 24 rfl w2.heap.size 3 i0 (.int .i64 0) 1 8 underlying24 hi hz0 hz1 hz2 rfl (by decide) _ _ _ rfl (hown5.alloc _) ⟨w5.heap.size,0,none⟩ 1 1 [.int .i64 (k:Int)] rfl rfl ?c1 ?c2 ?c3 ?c4 ?c5 ?_)
      case c1=>exact qXh
      case c2=>simp[Value.oneCell']
      case c3=>unfold maxLen;omega
      case c4=>omega
      case c5=>have:=hE35.size;simp;omega
      intro v1 w6 hown6 hgrow6 _;have hge:=qZV (hown5.alloc (.cells #[.int .i64 (k:Int)] 3));have hE6:Ext w2 w6:=Chg.mono ((hE35.alloc _).chg_trans (Chg.of_grown hgrow6)) fun j hj h=>by have:=hge j h;omega
      clear hgrow6 hge
      go_wp2
      go_roundw
      case rel=>exact⟨k+1,by omega,by go_num,by rw[HON.out];simpa using hown6,hE6⟩
      case measure=>simp[intOf];omega
    ·obtain rfl:k=12:=by omega
     have hEw:=hE.trans hEk;have hres:=qZN hownk hE.size;generalize hos:qX6 ch 12=os at hres⊢;have HOS:=Hh hos;clear hownk hos;obtain⟨OA,oc,rfl⟩:=qQa hres;go_wp2_with fail
     go_ret2
     rw[HCH.out,HOS.out];exact⟨_,rfl,hres,hEw⟩
open Go.RowKit Go.Sort
theorem pc_vol(lv:Value){V:List Vl}(h:V.length=12)(k:Nat)(hk:k<12):(qQj lv V)[1+k * 3]? = some (.bool (V.getD k Vl.zero).closed)∧(qQj lv V)[1+k * 3+1]? = some (.bool (V.getD k Vl.zero).erase):=by
 obtain⟨a0,a1,a2,a3,a4,a5,a6,a7,a8,a9,a10,a11,rfl⟩:=twelve h;have h2:k=0∨k=1∨k=2∨k=3∨k=4∨k=5∨k=6∨k=7∨k=8∨k=9∨k=10∨k=11:=by omega
 rcases h2 with rfl|rfl|rfl|rfl|rfl|rfl|rfl|rfl|rfl|rfl|rfl|rfl <;> exact⟨rfl,rfl⟩
theorem rvolume_any(w:World)(v lv:Value)(P:Pm)(n:Nat)(l:List Spot)(hR:qQZ w v P)(hi:PInv n P)(hS:Sln w lv 2 (l.map Spot.cells))(hl:l.length≤12)(pool size not_:Int) :
 Calls prog 64 #[v,lv,.int .i64 pool,.int .i64 size,.int .i64 not_] w fun e w'=>e=.returned (.int .i64 (qQ1 P l pool size not_ l.length))∧Ext w w':=by
 obtain⟨rv,DV,rfl,hDV,hRR⟩:=hR;obtain⟨A,c,rfl⟩:=qQa hRR.own;have HV:Hid (∀k,k<12→(qQj (.slice A DV.length c) P.vols)[1+k * 3]? = some (.bool (P.vol k).closed)):=Hh fun k hk=>(pc_vol _ hi.vlen k hk).1
 clear hDV hRR hi;generalize qQj (.slice A DV.length c) P.vols=X at HV⊢;obtain⟨LA,lc,rfl,hlx⟩:=hS;have hS:Sln w (.slice LA (l.map Spot.cells).length lc) 2 (l.map Spot.cells):=⟨LA,lc,rfl,hlx⟩;clear hlx;rw[List.length_map]at hS⊢
 go_enter func64,ntmps64
 have hB:=At.new w 35 X;have hE:=(Er w).alloc (.cells X 35)
 go_upto_region 1 with fail
 generalize w.heap.size=xb at hB⊢;generalize w.alloc (.cells X 35)=W at hB hE⊢;go_wp2_with fail
 go_loopw [11,17] (fun bv iv wr=>∃k:Nat,k≤l.length∧iv=.int .i64 (k:Int)∧bv=.int .i64 (qQ1 P l pool size not_ k)∧Ext W wr) (fun _ iv _=>l.length - (intOf iv).toNat)
 case atStart=>exact⟨0,Nat.zero_le _,rfl,rfl,Er _⟩
 case round =>
  obtain⟨k,hk,rfl,rfl,hEk⟩:=hrel
  by_cases hlt:k<l.length
  ·have hS2:=hS.ext (hE.trans hEk);have hBk:=hB.ext hEk;obtain⟨b,o,rfl⟩:=qXJ hS2 hlt;obtain⟨r0,r1⟩:=qQP hS2 hlt;have hbr:=qXO P l pool size not_ k;have hbs:qQ1 P l pool size not_ (k+1)=if(mayV P l pool size not_ k&&(decide (qQ1 P l pool size not_ k<0)||decide ((qQk l k).free<(qQk l (qQ1 P l pool size not_ k).toNat).free)))=true then(k:Int)else qQ1 P l pool size not_ k:=rfl
   have vc:=(hBk.cell (1+k * 3)).trans (HV.out k (by omega));have hmay:mayV P l pool size not_ k=(decide (((k:Int) % 2)=pool) && !decide ((k:Int)=not_)&&(qQk l k).fits size && !(P.vol k).closed):=rfl;generalize hcl:(P.vol k).closed=cl at hmay;obtain⟨⟨u,f⟩,hsp⟩:∃s,s=qQk l k:=⟨_,rfl⟩;rw[←hsp]at r0 r1 hbs hmay;generalize hbst:qQ1 P l pool size not_ k=bst at hbs hbr⊢;clear hbst;simp only[]at r0 r1 hbs
   go_upto_region 5 with fail
   obtain⟨wy,hwy⟩:∃wy,wy=wr.alloc (.cells #[.bool u,.int .i64 f] 120):=⟨_,rfl⟩;have hXb:=At.new wr 120 #[.bool u,.int .i64 f];have hvb:=hBk.alloc (.cells #[.bool u,.int .i64 f] 120);rw[←hwy]at hXb hvb⊢;have hEy:Ext W wy:=by rw[hwy];exact hEk.alloc _
   clear hwy vc hBk r0 r1;have vc:=(hvb.cell (1+k * 3)).trans (HV.out k (by omega));rw[hcl]at vc;clear hcl;generalize wr.heap.size=yb at hXb⊢;have x0:=hXb.cell 0;have x1:=hXb.cell 1;simp at x0 x1;obtain⟨m,hm⟩:∃m,m=mayV P l pool size not_ k:=⟨_,rfl⟩;rw[←hm]at hbs hmay;clear hm
   go_cut [14]from 22 to 48 (fun mv wx=>mv=.bool m∧wx=wy)
   case first =>
    clear hbs;have HMAY:=Hh hmay;clear hmay
    by_cases h1:((k:Int) % 2)=pool
    ·have t1:decide ((k:Int) % 2=pool)=true:=by simpa using h1
     by_cases h2:(k:Int)=not_
     ·have t2:((k:Int) != not_)=false:=by simpa using h2
      have H2:=Hh h2;clear h2;go_wp2_with fail
      go_meet
      case rel =>
       refine⟨?_,rfl⟩
       have h2:=H2.out;rw[HMAY.out];simp[Spot.fits,h2]
     ·have t2:((k:Int) != not_)=true:=by simpa using h2
      cases u
      ·go_wp2_with fail
       go_meet
       case rel =>
        refine⟨?_,rfl⟩
        rw[HMAY.out];simp[Spot.fits]
      ·by_cases h3:size≤f
       ·have t3:decide (size≤f)=true:=by simpa using h3
        cases cl
        ·go_wp2_with fail
         go_meet
         case rel =>
          refine⟨?_,rfl⟩
          rw[HMAY.out];simp[Spot.fits,h1,h2,h3]
        ·go_wp2_with fail
         go_meet
         case rel =>
          refine⟨?_,rfl⟩
          rw[HMAY.out];simp[Spot.fits,h1,h2,h3]
       ·have t3:decide (size≤f)=false:=by simpa using h3
        go_wp2_with fail
        go_meet
        case rel =>
         refine⟨?_,rfl⟩
         rw[HMAY.out];simp[Spot.fits]
         intros;omega
    ·have t1:decide ((k:Int) % 2=pool)=false:=by simpa using h1
     go_wp2_with fail
     go_meet
     case rel =>
      refine⟨?_,rfl⟩
      rw[HMAY.out];simp[Spot.fits,h1]
   case rest =>
    obtain⟨rfl,hwc⟩:=hcut;subst hwc;have rg:∀ {p:Addr} {v:Value},wc.cell? p=some v→∀d os,(grow (redrawn wc d) os).cell? p=some v:=fun h d os=>(Ext.cell (qQn wc d os) (qQv h)).trans h
    have rx1:=rg x1;clear hmay vc x0 hXb hvb;have hSy:=hS.ext (hE.trans hEy);cases m
    ·have HBK:=Hh (show qQ1 P l pool size not_ (k+1)=bst from by rw[hbs];simp);clear hbs;go_wp2_with fail
     refine qQc (by kernel_rfl) (by kernel_rfl) ?_
     repeat (go_big_quiet_step (fail))
     refine wpQuiet_nil ?_;intro W8 hE8;go_wp2_with fail
     go_roundw
     case rel=>exact⟨k+1,by omega,by go_num,by rw[HBK.out],hEy.trans hE8⟩
     case measure=>simp[intOf];omega
    ·by_cases hb0:bst<0
     ·have t2:decide (bst<0)=true:=by simpa using hb0
      have HBK:=Hh (show qQ1 P l pool size not_ (k+1)=(k:Int)from by rw[hbs];simp[hb0]);clear hbs;go_wp2_with fail
      refine qQc (by kernel_rfl) (by kernel_rfl) ?_
      repeat (go_big_quiet_step (fail))
      refine wpQuiet_nil ?_;intro W8 hE8;go_wp2_with fail
      go_roundw
      case rel=>exact⟨k+1,by omega,by go_num,by rw[HBK.out],hEy.trans hE8⟩
      case measure=>simp[intOf];omega
     ·have t2:decide (bst<0)=false:=by simpa using hb0
      obtain⟨j,rfl⟩:∃j:Nat,bst=(j:Int):=⟨bst.toNat,by omega⟩;have hjl:j<l.length:=by omega
      obtain⟨_,q1⟩:=qQP hSy hjl;have q1r:=rg q1;rw[show((j:Int)).toNat=j from rfl]at hbs;generalize (qQk l j).free=g at q1 q1r hbs
      by_cases hg:f<g
      ·have t3:decide (f<g)=true:=by simpa using hg
       have HBK:=Hh (show qQ1 P l pool size not_ (k+1)=(k:Int)from by rw[hbs];simp[hg]);clear hbs;go_wp2_with fail
       refine qQc (by kernel_rfl) (by kernel_rfl) ?_
       repeat (go_big_quiet_step (fail))
       refine wpQuiet_nil ?_;intro W8 hE8;go_wp2_with fail
       go_roundw
       case rel=>exact⟨k+1,by omega,by go_num,by rw[HBK.out],hEy.trans hE8⟩
       case measure=>simp[intOf];omega
      ·have t3:decide (f<g)=false:=by simpa using hg
       have HBK:=Hh (show qQ1 P l pool size not_ (k+1)=(j:Int)from by rw[hbs];simp[hg];omega);clear hbs;go_wp2_with fail
       refine qQc (by kernel_rfl) (by kernel_rfl) ?_
       repeat (go_big_quiet_step (fail))
       refine wpQuiet_nil ?_;intro W8 hE8;go_wp2_with fail
       go_roundw
       case rel=>exact⟨k+1,by omega,by go_num,by rw[HBK.out],hEy.trans hE8⟩
       case measure=>simp[intOf];omega
  ·obtain rfl:k=l.length:=by omega
   go_wp2_with fail
   go_ret
   exact⟨rfl,hE.trans hEk⟩
open Go.RowKit Go.Sort
def qJw(P:Pm)(l:List Spot)(items:List Int)(i:Nat):Bool:=decide (items.length≤i)||decide (items.getD i 0=0) || !(qQk l i).up || !(P.vol i).closed||(P.vol i).erase
theorem goneOf_skip{P:Pm}{l:List Spot}{items:List Int}{i:Nat}(h:qJw P l items i=true):qZa P l items i=0:=by
 unfold qJw at h;unfold qZa;rw[if_neg];generalize items.getD i 0=x at h⊢;intro h2;simp only[Bool.and_eq_true,Bool.or_eq_true,decide_eq_true_eq,Bool.not_eq_true']at h h2;obtain⟨⟨⟨⟨⟨a,b⟩,c⟩,d⟩,e⟩,f⟩:=h2;rw[c,d,e]at h;simp at h;omega
theorem goneOf_none{P:Pm}{l:List Spot}{items:List Int}{i:Nat}(h:(P.onVol i).length=0):qZa P l items i=0:=by
 unfold qZa;rw[if_neg];intro h2;simp only[Bool.and_eq_true,decide_eq_true_eq]at h2;exact h2.2 h
theorem goneOf_some{P:Pm}{l:List Spot}{items:List Int}{i:Nat}(h:qJw P l items i=false)(hn:∀x∈items,0≤x)(hl:(P.onVol i).length≠0):0<items.getD i 0∧qZa P l items i=(items.getD i 0 - ((P.onVol i).length:Int)) * 100 / items.getD i 0:=by
 unfold qJw at h;simp only[Bool.or_eq_false_iff,decide_eq_false_iff_not,Bool.not_eq_false']at h;obtain⟨⟨⟨⟨a,b⟩,c⟩,d⟩,e⟩:=h
 have hx:0≤items.getD i 0:=by
  rw[List.getD_eq_getElem?_getD,List.getElem?_eq_getElem (by omega)];exact hn _ (List.getElem_mem _)
 refine⟨by omega,?_⟩
 unfold qZa;rw[if_pos];rw[c,d,e];generalize items.getD i 0=x at b hx⊢;simp[hl];omega
def qJx(x n:Int):Int:=if n=0 then 0 else 100 * max (x - n) 0 / x
theorem best_same{P:Pm}{l:List Spot}{items:List Int}{percent:Int}{i:Nat}(hn:∀x∈items,0≤x)(h:qJw P l items i=false)(m:Int)(hm:0≤m) :
 (decide (m<qJx (items.getD i 0) ((P.onVol i).length:Int))&&decide (percent≤qJx (items.getD i 0) ((P.onVol i).length:Int)))=(decide (m<qZa P l items i)&&decide (percent≤qZa P l items i)) ∧
 (m<qJx (items.getD i 0) ((P.onVol i).length:Int)→qJx (items.getD i 0) ((P.onVol i).length:Int)=qZa P l items i):=by
 by_cases hl:(P.onVol i).length=0
 ·rw[goneOf_none hl];unfold qJx;rw[hl];simp
 ·obtain⟨h1,h2⟩:=goneOf_some h hn hl;rw[h2];unfold qJx;rw[if_neg (by omega)];generalize items.getD i 0=x at h1⊢;generalize ((P.onVol i).length:Int)=n at⊢
  by_cases hc:n≤x
  ·rw[show max (x - n) 0=x - n by omega,show 100 * (x - n)=(x - n) * 100 by omega];exact⟨rfl,fun _=>rfl⟩
  ·rw[show max (x - n) 0=0 by omega];have hneg:(x - n) * 100 / x<0:=Int.ediv_neg_of_neg_of_pos (by omega) h1;generalize (x - n) * 100 / x=q at hneg;simp
   constructor
   ·have a1:decide (m<0)=false:=by simp;omega
    have a2:decide (m<q)=false:=by simp;omega
    rw[a1,a2];rfl
   ·intro hh;omega
open Go.RowKit Go.Sort
theorem qJc{w:World}{A:Option Addr}{n c:Nat}{l:List Int}(h:Sl w (.slice A n c) (l.map (Value.int .i64)))(k:Nat)(hk:k<l.length):∃b o,A=some ⟨b,o,none⟩∧w.cell? ⟨b,o+k,none⟩=some (.int .i64 (l.getD k 0)):=by
 obtain⟨A',c',ha,hc⟩:=h;have hne:l.map (Value.int .i64)≠[]:=fun e=>by rw[List.map_eq_nil_iff.1 e]at hk;simp at hk
 obtain⟨b,o,rfl,hcc⟩:=hc hne;injection ha with ha q1 q2;refine⟨b,o,ha,hcc k _ ?_⟩
 rw[List.getElem?_map,List.getElem?_eq_getElem hk,List.getD_eq_getElem?_getD,List.getElem?_eq_getElem hk];rfl
theorem rsparse_any(w:World)(v lv iv:Value)(P:Pm)(n:Nat)(l:List Spot)(items:List Int)(hR:qQZ w v P)(hi:PInv n P)(hn:n≤1000)(hS:Sln w lv 2 (l.map Spot.cells))(hl:l.length≤12)(hI:Sl w iv (items.map (Value.int .i64)))(hil:items.length≤12)(hir:∀x∈items,0≤x∧x≤1000000)(percent:Int) :
 Calls prog 69 #[v,lv,iv,.int .i64 percent] w fun e w'=>e=.returned (.int .i64 (qQu P l items percent l.length).1)∧Ext w w':=by
 have HRF:=Hh hR;obtain⟨rv,DV,rfl,hDV,hRR⟩:=hR;obtain⟨A,c,rfl⟩:=qQa hRR.own;have HV:Hid (∀k,k<12→(qQj (.slice A DV.length c) P.vols)[1+k * 3]? = some (.bool (P.vol k).closed)∧(qQj (.slice A DV.length c) P.vols)[1+k * 3+1]? = some (.bool (P.vol k).erase)):=Hh fun k hk=>pc_vol _ hi.vlen k hk
 have H37:=Hh (qQt (.slice A DV.length c) hi.vlen);have HON:Hid (∀k:Nat,(P.onVol k).length≤1000):=Hh fun k=>Nat.le_trans (List.length_filter_le _ _) (Nat.le_trans hi.len hn)
 clear hDV hRR;generalize qQj (.slice A DV.length c) P.vols=X at HV HRF H37⊢;have HII:=Hh hi;clear hi;have HI1:Hid ((prog.info? 35).map (·.size)=some X.toList.length):=Hh (by rw[Array.length_toList,H37.out];exact qQg);obtain⟨LA,lc,rfl,hlx⟩:=hS;have hS:Sln w (.slice LA (l.map Spot.cells).length lc) 2 (l.map Spot.cells):=⟨LA,lc,rfl,hlx⟩;clear hlx;obtain⟨IA,ic,rfl,hix⟩:=hI;have hI:Sl w (.slice IA (items.map (Value.int .i64)).length ic) (items.map (Value.int .i64)):=⟨IA,ic,rfl,hix⟩;clear hix;rw[List.length_map]at hS hI;rw[List.length_map,List.length_map]
 have HIR:Hid (∀k,0≤items.getD k 0∧items.getD k 0≤1000000):=Hh fun k=>by
  rw[List.getD_eq_getElem?_getD];cases h:items[k]? with
  | none=>simp
  | some x=>exact hir x (List.mem_of_getElem? h)
 have HIN:=Hh (fun x (hx:x∈items)=>(hir x hx).1);clear hir
 go_enter func69,ntmps69
 have hB:=At.new w 35 X;have hE:=(Er w).alloc (.cells X 35)
 go_upto_region 1 with fail
 generalize w.heap.size=xb at hB⊢;generalize w.alloc (.cells X 35)=W at hB hE⊢;go_wp2_with fail
 go_loopw [9,10,18] (fun bv mv iv wr=>∃k:Nat,k≤l.length∧iv=.int .i64 (k:Int)∧bv=.int .i64 (qQu P l items percent k).1∧mv=.int .i64 (qQu P l items percent k).2∧Ext W wr) (fun _ _ iv _=>l.length - (intOf iv).toNat)
 case atStart=>exact⟨0,Nat.zero_le _,rfl,rfl,rfl,Er _⟩
 case round =>
  obtain⟨k,hk,rfl,rfl,rfl,hEk⟩:=hrel
  by_cases hlt:k<l.length
  ·have hS2:=hS.ext (hE.trans hEk);have hBk:=hB.ext hEk;obtain⟨b,o,rfl⟩:=qXJ hS2 hlt;obtain⟨r0,r1⟩:=qQP hS2 hlt;have hmost:=qXP P l items percent k;have hbs:qQu P l items percent (k+1)=if(decide ((qQu P l items percent k).2<qZa P l items k)&&decide (percent≤qZa P l items k))=true then((k:Int),qZa P l items k)else qQu P l items percent k:=rfl
   have hsk0:qJw P l items k=(decide (items.length≤k)||decide (items.getD k 0=0) || !(qQk l k).up || !(P.vol k).closed||(P.vol k).erase):=rfl;generalize hbst:qQu P l items percent k=bst at hbs hmost⊢;clear hbst;obtain⟨best,most⟩:=bst;simp only[]at hbs hmost⊢;obtain⟨u,hu⟩:∃u,u=(qQk l k).up:=⟨_,rfl⟩;obtain⟨f,hf⟩:∃u,u=(qQk l k).free:=⟨_,rfl⟩;rw[←hu]at r0 hsk0;rw[←hf]at r1;obtain⟨cl,hcl⟩:∃u,u=(P.vol k).closed:=⟨_,rfl⟩;obtain⟨er,her⟩:∃u,u=(P.vol k).erase:=⟨_,rfl⟩;rw[←hcl,←her]at hsk0;clear hu hf
   go_upto_region 6 with fail
   obtain⟨wy,hwy⟩:∃wy,wy=wr.alloc (.cells #[.bool u,.int .i64 f] 120):=⟨_,rfl⟩;have hXb:=At.new wr 120 #[.bool u,.int .i64 f];have hvb:=hBk.alloc (.cells #[.bool u,.int .i64 f] 120);rw[←hwy]at hXb hvb⊢;have hEy:Ext W wy:=by rw[hwy];exact hEk.alloc _
   clear hwy hBk r0 r1 hEk;have vc:=(hvb.cell (1+k * 3)).trans (HV.out k (by omega)).1;have ve:=(hvb.cell (1+k * 3+1)).trans (HV.out k (by omega)).2;rw[←hcl]at vc;rw[←her]at ve;clear hcl her;generalize wr.heap.size=yb at hXb⊢;have x0:=hXb.cell 0;simp at x0;clear hXb;obtain⟨sk,hsk1⟩:∃m,m=qJw P l items k:=⟨_,rfl⟩;have hsk:sk=(decide (items.length≤k)||decide (items.getD k 0=0) || !u || !cl||er):=by rw[hsk1,hsk0]
   clear hsk0;have hEy0:=hE.trans hEy;obtain⟨it,hitk⟩:∃it,it=items.getD k 0:=⟨_,rfl⟩;rw[←hitk]at hsk;replace hitk:=hitk.symm;have hir:=HIR.out k;rw[hitk]at hir
   go_cut [53]from 23 to 53 (fun mv wx=>mv=.bool sk∧wx=wy)
   case first =>
    clear hbs hmost;have HSK:=Hh hsk;clear hsk
    by_cases h1:items.length≤k
    ·have t1:decide (items.length≤k)=true:=by simpa using h1
     go_wp2_with fail
     go_meet
     case rel =>
      refine⟨?_,rfl⟩
      rw[HSK.out];simp[h1]
    ·have t1:decide (items.length≤k)=false:=by simpa using h1
     obtain⟨ib,io,rfl,ic⟩:=qJc (hI.ext hEy0) k (by omega);rw[hitk]at ic
     by_cases h2:it=0
     ·subst h2;have HK2:=Hh hitk;clear hitk;go_wp2_with fail
      go_meet
      case rel =>
       refine⟨?_,rfl⟩
       rw[HSK.out]
       have:=HK2.out;simp
     ·have t2:decide (it=0)=false:=by simpa using h2
      have HK2:=Hh hitk;clear hitk;cases u
      ·go_wp2_with fail
       go_meet
       case rel =>
        refine⟨?_,rfl⟩
        rw[HSK.out];simp
      ·cases cl
       ·go_wp2_with fail
        go_meet
        case rel =>
         refine⟨?_,rfl⟩
         rw[HSK.out];simp
       ·cases er
        ·go_wp2_with fail
         go_meet
         case rel =>
          refine⟨?_,rfl⟩
          rw[HSK.out];simp[h1,h2]
        ·go_wp2_with fail
         go_meet
         case rel =>
          refine⟨?_,rfl⟩
          rw[HSK.out];simp
   case rest =>
    obtain⟨rfl,hwc⟩:=hcut;subst hwc;clear hsk vc ve x0;cases sk
    ·obtain⟨hb1,hb2⟩:=best_same (percent:=percent) HIN.out hsk1.symm most hmost
     have hki:k<items.length∧items.getD k 0≠0:=by
      have h:=hsk1;unfold qJw at h;generalize items.getD k 0=q at h⊢;simp at h;exact⟨by omega,by omega⟩
     rw[hitk]at hki hb1 hb2;obtain⟨hkl,hit0⟩:=hki;have hpn:=HON.out k;obtain⟨pn,hpe⟩:∃pn:Nat,pn=(P.onVol k).length:=⟨_,rfl⟩;rw[←hpe]at hb1 hb2 hpn
     have HBS:=Hh (show qQu P l items percent (k+1)=if(decide (most<qJx it pn)&&decide (percent≤qJx it pn))=true then((k:Int),qJx it pn)else(best,most)from by
      rw[hbs,hb1]
      by_cases hc:(decide (most<qZa P l items k)&&decide (percent≤qZa P l items k))=true
      ·rw[if_pos hc,if_pos hc];rw[←hb1]at hc;rw[hb2 (by simp at hc;exact hc.1)]
      ·rw[if_neg hc,if_neg hc])
     clear hbs hb1 hb2 hsk1;have HRL:=Hh (rlive_any wc (.agg X) P n (HRF.out.ext hEy0) HII.out (by omega) k (by omega));rw[←hpe]at HRL;have HRG:=Hh hvb.range
     go_upto_region 8 with(refine wpList_load_mid rfl 35 _ rfl xb 0 rfl _ _ HRG.out underlying35 rfl HI1.out ?_)
     refine HRL.out.mono ?_;rintro e w2 ⟨rfl,hE2⟩;have hEy2:=hEy.trans hE2;obtain⟨ib,io,rfl,ic2⟩:=qJc (hI.ext (hEy0.trans hE2)) k hkl;rw[hitk]at ic2;have HK2:=Hh hitk;have rg:∀ {p:Addr} {v:Value},w2.cell? p=some v→∀d os,(grow (redrawn w2 d) os).cell? p=some v:=fun h d os=>(Ext.cell (qQn w2 d os) (qQv h)).trans h
     have rx:=rg ic2;clear HRL HRG hvb hE2 hitk hpe;generalize qQE (P.onVol k)=pp
     go_upto_region 8 with fail
     refine qQc (by kernel_rfl) (by kernel_rfl) ?_
     repeat (go_big_quiet_step (fail))
     refine wpQuiet_nil ?_;intro W8 hE8
     by_cases hp:pn=0
     ·subst hp;have t1:decide ((0:Int)=0)=true:=by simp
      have t2:decide (most<0)=false:=by simp;omega
      generalize 100 * max (it - ((0:Nat):Int)) 0 / it=q;have HBK:=Hh (show qQu P l items percent (k+1)=(best,most)from by rw[HBS.out];simp[qJx];omega);go_wp2_with fail
      go_roundw
      case rel=>exact⟨k+1,by omega,by go_num,by rw[HBK.out],by rw[HBK.out],hEy2.trans hE8⟩
      case measure=>simp[intOf];omega
     ·have t1:decide ((pn:Int)=0)=false:=by simp;omega
      have hg:qJx it pn=100 * max (it - (pn:Int)) 0 / it:=by unfold qJx;rw[if_neg (by omega)]
      rw[hg]at HBS;clear hg;generalize 100 * max (it - (pn:Int)) 0 / it=q at HBS⊢
      by_cases h1:most<q
      ·have t2:decide (most<q)=true:=by simpa using h1
       by_cases h2:percent≤q
       ·have t3:decide (percent≤q)=true:=by simpa using h2
        have HBK:=Hh (show qQu P l items percent (k+1)=((k:Int),q)from by rw[HBS.out];simp[h1,h2]);go_wp2_with fail
        go_roundw
        case rel=>exact⟨k+1,by omega,by go_num,by rw[HBK.out],by rw[HBK.out],hEy2.trans hE8⟩
        case measure=>simp[intOf];omega
       ·have t3:decide (percent≤q)=false:=by simpa using h2
        have HBK:=Hh (show qQu P l items percent (k+1)=(best,most)from by rw[HBS.out];simp[h1] <;> omega);go_wp2_with fail
        go_roundw
        case rel=>exact⟨k+1,by omega,by go_num,by rw[HBK.out],by rw[HBK.out],hEy2.trans hE8⟩
        case measure=>simp[intOf];omega
      ·have t2:decide (most<q)=false:=by simpa using h1
       have HBK:=Hh (show qQu P l items percent (k+1)=(best,most)from by rw[HBS.out];simp[h1] <;> omega);go_wp2_with fail
       go_roundw
       case rel=>exact⟨k+1,by omega,by go_num,by rw[HBK.out],by rw[HBK.out],hEy2.trans hE8⟩
       case measure=>simp[intOf];omega
    ·have HG:=Hh (goneOf_skip hsk1.symm);have HBK:=Hh (show qQu P l items percent (k+1)=(best,most)by rw[hbs,HG.out];rw[if_neg];simp;omega);clear hbs hsk1;go_wp2_with fail
     go_roundw
     case rel=>exact⟨k+1,by omega,by go_num,by rw[HBK.out],by rw[HBK.out],hEy⟩
     case measure=>simp[intOf];omega
  ·obtain rfl:k=l.length:=by omega
   go_wp2_with fail
   go_ret
   exact⟨rfl,hE.trans hEk⟩
open Go.RowKit Go.Sort
theorem field_closed(a b:Bool)(g:Int)(w:World):(Instr.field 85 (.agg #[.bool a,.bool b,.int .i64 g]) 0).run prog w=.ok (.bool a) w:=by kernel_rfl
theorem volume_any(w:World)(B:Nat→Prop)(c mb mn:Nat)(lv:Value)(P:Pm)(l:List Spot)(hC:qZC w B c mb mn P)(hS:Sln w lv 2 (l.map Spot.cells))(hl:l.length≤12)(pool size not_:Int) :
 Calls prog 55 #[.pointer (some ⟨c,0,none⟩),lv,.int .i64 pool,.int .i64 size,.int .i64 not_] w fun e w'=>e=.returned (.int .i64 (qQ1 P l pool size not_ l.length))∧Ext w w':=by
 obtain⟨LA,lc,rfl,hlx⟩:=hS;have hS:Sln w (.slice LA (l.map Spot.cells).length lc) 2 (l.map Spot.cells):=⟨LA,lc,rfl,hlx⟩;clear hlx;rw[List.length_map]at hS⊢
 go_enter func55,ntmps55
 go_wp2_with fail
 go_loopw [11,16] (fun bv iv wr=>∃k:Nat,k≤l.length∧iv=.int .i64 (k:Int)∧bv=.int .i64 (qQ1 P l pool size not_ k)∧Ext w wr) (fun _ iv _=>l.length - (intOf iv).toNat)
 case atStart=>exact⟨0,Nat.zero_le _,rfl,rfl,Er _⟩
 case round =>
  obtain⟨k,hk,rfl,rfl,hEk⟩:=hrel
  by_cases hlt:k<l.length
  ·have hS2:=hS.ext hEk;obtain⟨b,o,rfl⟩:=qXJ hS2 hlt;obtain⟨r0,r1⟩:=qQP hS2 hlt;have hbr:=qXO P l pool size not_ k;have hbs:qQ1 P l pool size not_ (k+1)=if(mayV P l pool size not_ k&&(decide (qQ1 P l pool size not_ k<0)||decide ((qQk l k).free<(qQk l (qQ1 P l pool size not_ k).toNat).free)))=true then(k:Int)else qQ1 P l pool size not_ k:=rfl
   have hmay:mayV P l pool size not_ k=(decide (((k:Int) % 2)=pool) && !decide ((k:Int)=not_)&&(qQk l k).fits size && !(P.vol k).closed):=rfl;obtain⟨⟨u,f⟩,hsp⟩:∃s,s=qQk l k:=⟨_,rfl⟩;rw[←hsp]at r0 r1 hbs hmay;generalize hbst:qQ1 P l pool size not_ k=bst at hbs hbr⊢;clear hbst;simp only[]at r0 r1 hbs
   go_upto_region 5 with fail
   obtain⟨wy,hwy⟩:∃wy,wy=wr.alloc (.cells #[.bool u,.int .i64 f] 55):=⟨_,rfl⟩;have hXb:=At.new wr 55 #[.bool u,.int .i64 f];rw[←hwy]at hXb⊢;have hEy:Ext w wy:=by rw[hwy];exact hEk.alloc _
   clear hwy r0 r1 hEk hS2 hsp;generalize wr.heap.size=yb at hXb⊢;have x0:=hXb.cell 0;have x1:=hXb.cell 1;simp at x0 x1;clear hXb
   by_cases h1:(k:Int)=not_
   ·have t1:decide ((k:Int)=not_)=true:=by simpa using h1
    have HBK:=Hh (show qQ1 P l pool size not_ (k+1)=bst from by rw[hbs,hmay];simp[h1]);clear hbs hmay;have H1:=Hh h1;clear h1;go_wp2_with fail
    go_roundw
    case rel=>exact⟨k+1,by omega,by go_num,by rw[HBK.out],hEy⟩
    case measure=>simp[intOf];omega
   ·have t1:decide ((k:Int)=not_)=false:=by simpa using h1
    have HPL:=qX4 wy k (by omega);go_wp2_with fail
    refine HPL.mono ?_;rintro e w2 ⟨rfl,hw2⟩;clear HPL
    by_cases h2:(k:Int) % 2=pool
    ·have t2:(((k % 2:Nat):Int) != pool)=false:=by simpa using h2
     have HFT:=fits_any w2 ⟨u,f⟩ size;rw[hw2]at x0 x1 hEy;clear hw2;go_wp2_with fail
     refine HFT.mono ?_;rintro e w3 ⟨rfl,hE3⟩;clear HFT;cases hf:Spot.fits ⟨u,f⟩ size
     ·rw[hf]at hmay;have HBK:=Hh (show qQ1 P l pool size not_ (k+1)=bst from by rw[hbs,hmay];simp);clear hbs hmay;go_wp2_with fail
      go_roundw
      case rel=>exact⟨k+1,by omega,by go_num,by rw[HBK.out],hEy.trans hE3⟩
      case measure=>simp[intOf];omega
     ·rw[hf]at hmay;have HVO:=cvol_any (hC.ext (hEy.trans hE3)) k (by omega);unfold vlAgg at HVO;go_wp2_with fail
      refine HVO.mono ?_;rintro e w4 ⟨rfl,hE4'⟩;clear HVO;have hE4:=(hEy.trans hE3).trans hE4';have y1:=(hE3.trans hE4').cell (qQv x1) |>.trans x1
      clear x0 x1 hE3 hE4';have hfc:∀wx:World,(Instr.field 85 (.agg #[.bool (P.vol k).closed,.bool (P.vol k).erase,.int .i64 (P.vol k).gen]) 0).run prog wx=.ok (.bool (P.vol k).closed) wx:=fun wx=>field_closed ..
      generalize (P.vol k).closed=cl at hmay hfc⊢;generalize (P.vol k).erase=er at hfc⊢;generalize (P.vol k).gen=gn at hfc⊢;cases cl
      ·have hm1:mayV P l pool size not_ k=true:=by rw[hmay];simp[h1,h2]
       rw[hm1]at hbs;clear hmay hm1;have hSy:=hS.ext hE4;have rg:∀ {p:Addr} {v:Value},w4.cell? p=some v→∀d os,(grow (redrawn w4 d) os).cell? p=some v:=fun h d os=>(Ext.cell (qQn w4 d os) (qQv h)).trans h
       have ry1:=rg y1
       by_cases hb0:bst<0
       ·have t2:decide (bst<0)=true:=by simpa using hb0
        have HBK:=Hh (show qQ1 P l pool size not_ (k+1)=(k:Int)from by rw[hbs];simp[hb0]);clear hbs;go_wp2_with fail
        refine qQc (by kernel_rfl) (by kernel_rfl) ?_
        repeat (go_big_quiet_step (fail))
        refine wpQuiet_nil ?_;intro W8 hE8;go_wp2_with fail
        go_roundw
        case rel=>exact⟨k+1,by omega,by go_num,by rw[HBK.out],hE4.trans hE8⟩
        case measure=>simp[intOf];omega
       ·have t2:decide (bst<0)=false:=by simpa using hb0
        obtain⟨j,rfl⟩:∃j:Nat,bst=(j:Int):=⟨bst.toNat,by omega⟩;have hjl:j<l.length:=by omega
        obtain⟨_,q1⟩:=qQP hSy hjl;have q1r:=rg q1;rw[show((j:Int)).toNat=j from rfl]at hbs;generalize (qQk l j).free=g at q1 q1r hbs
        by_cases hg:f<g
        ·have t3:decide (f<g)=true:=by simpa using hg
         have HBK:=Hh (show qQ1 P l pool size not_ (k+1)=(k:Int)from by rw[hbs];simp[hg]);clear hbs;go_wp2_with fail
         refine qQc (by kernel_rfl) (by kernel_rfl) ?_
         repeat (go_big_quiet_step (fail))
         refine wpQuiet_nil ?_;intro W8 hE8;go_wp2_with fail
         go_roundw
         case rel=>exact⟨k+1,by omega,by go_num,by rw[HBK.out],hE4.trans hE8⟩
         case measure=>simp[intOf];omega
        ·have t3:decide (f<g)=false:=by simpa using hg
         have HBK:=Hh (show qQ1 P l pool size not_ (k+1)=(j:Int)from by rw[hbs];simp[hg];omega);clear hbs;go_wp2_with fail
         refine qQc (by kernel_rfl) (by kernel_rfl) ?_
         repeat (go_big_quiet_step (fail))
         refine wpQuiet_nil ?_;intro W8 hE8;go_wp2_with fail
         go_roundw
         case rel=>exact⟨k+1,by omega,by go_num,by rw[HBK.out],hE4.trans hE8⟩
         case measure=>simp[intOf];omega
      ·have HBK:=Hh (show qQ1 P l pool size not_ (k+1)=bst from by rw[hbs,hmay];simp);clear hbs hmay;go_wp2_with fail
       go_roundw
       case rel=>exact⟨k+1,by omega,by go_num,by rw[HBK.out],hE4⟩
       case measure=>simp[intOf];omega
    ·have t2:(((k % 2:Nat):Int) != pool)=true:=by simpa using h2
     have HW:=Hh hw2;clear hw2;have HBK:=Hh (show qQ1 P l pool size not_ (k+1)=bst from by rw[hbs,hmay];simp[h2]);clear hbs hmay;go_wp2_with fail
     go_roundw
     case rel=>exact⟨k+1,by omega,by go_num,by rw[HBK.out],by rw[←HW.out];exact hEy⟩
     case measure=>simp[intOf];omega
  ·obtain rfl:k=l.length:=by omega
   go_wp2_with fail
   go_ret
   exact⟨rfl,hEk⟩
open Go.RowKit Go.Sort
def goneC(x n:Int):Int:=((x - n) * 100).tdiv x
theorem best_same2{P:Pm}{l:List Spot}{items:List Int}{percent:Int}{i:Nat}(hn:∀x∈items,0≤x)(h:qJw P l items i=false)(hl:(P.onVol i).length≠0)(m:Int)(hm:0≤m) :
 (decide (m<goneC (items.getD i 0) ((P.onVol i).length:Int))&&decide (percent≤goneC (items.getD i 0) ((P.onVol i).length:Int)))=(decide (m<qZa P l items i)&&decide (percent≤qZa P l items i)) ∧
 (m<goneC (items.getD i 0) ((P.onVol i).length:Int)→goneC (items.getD i 0) ((P.onVol i).length:Int)=qZa P l items i):=by
 obtain⟨h1,h2⟩:=goneOf_some h hn hl;rw[h2];unfold goneC;generalize items.getD i 0=x at h1⊢;generalize ((P.onVol i).length:Int)=n at⊢
 by_cases hc:n≤x
 ·rw[Int.tdiv_eq_ediv_of_nonneg (by omega)];exact⟨rfl,fun _=>rfl⟩
 ·have hneg:(x - n) * 100 / x<0:=Int.ediv_neg_of_neg_of_pos (by omega) h1
  have hneg2:((x - n) * 100).tdiv x≤0:=by
   have e:((x - n) * 100).tdiv x = -(((n - x) * 100).tdiv x):=by
    rw[←Int.neg_tdiv]
    congr 1
    omega
   rw[e,Int.tdiv_eq_ediv_of_nonneg (by omega)]
   have:=Int.ediv_nonneg (a:=(n - x) * 100) (b:=x) (by omega) (by omega)
   omega
  generalize (x - n) * 100 / x=q at hneg;generalize ((x - n) * 100).tdiv x=q2 at hneg2;have a1:decide (m<q2)=false:=by simp;omega
  have a2:decide (m<q)=false:=by simp;omega
  rw[a1,a2];exact⟨rfl,fun hh=>by omega⟩
theorem sparse_any(w:World)(B:Nat→Prop)(c mb mn:Nat)(lv iv:Value)(P:Pm)(n:Nat)(l:List Spot)(items:List Int)(hC:qZC w B c mb mn P)(hi:PInv n P)(hn:n≤1000)(hS:Sln w lv 2 (l.map Spot.cells))(hl:l.length≤12)(hI:Sl w iv (items.map (Value.int .i64)))(hil:items.length≤12)(hir:∀x∈items,0≤x∧x≤1000000)(percent:Int) :
 Calls prog 58 #[.pointer (some ⟨c,0,none⟩),lv,iv,.int .i64 percent] w fun e w'=>e=.returned (.int .i64 (qQu P l items percent l.length).1)∧Ext w w':=by
 have HON:Hid (∀k:Nat,(P.onVol k).length≤1000):=Hh fun k=>Nat.le_trans (List.length_filter_le _ _) (Nat.le_trans hi.len hn)
 have HII:=Hh hi;clear hi;obtain⟨LA,lc,rfl,hlx⟩:=hS;have hS:Sln w (.slice LA (l.map Spot.cells).length lc) 2 (l.map Spot.cells):=⟨LA,lc,rfl,hlx⟩;clear hlx;obtain⟨IA,ic,rfl,hix⟩:=hI;have hI:Sl w (.slice IA (items.map (Value.int .i64)).length ic) (items.map (Value.int .i64)):=⟨IA,ic,rfl,hix⟩;clear hix;rw[List.length_map]at hS hI;rw[List.length_map,List.length_map]
 have HIR:Hid (∀k,0≤items.getD k 0∧items.getD k 0≤1000000):=Hh fun k=>by
  rw[List.getD_eq_getElem?_getD];cases h:items[k]? with
  | none=>simp
  | some x=>exact hir x (List.mem_of_getElem? h)
 have HIN:=Hh (fun x (hx:x∈items)=>(hir x hx).1);clear hir
 go_enter func58,ntmps58
 go_wp2_with fail
 go_loopw [9,10,19] (fun bv mv iv wr=>∃k:Nat,k≤l.length∧iv=.int .i64 (k:Int)∧bv=.int .i64 (qQu P l items percent k).1∧mv=.int .i64 (qQu P l items percent k).2∧Ext w wr) (fun _ _ iv _=>l.length - (intOf iv).toNat)
 case atStart=>exact⟨0,Nat.zero_le _,rfl,rfl,rfl,Er _⟩
 case round =>
  obtain⟨k,hk,rfl,rfl,rfl,hEk⟩:=hrel
  by_cases hlt:k<l.length
  ·have hS2:=hS.ext hEk;obtain⟨b,o,rfl⟩:=qXJ hS2 hlt;obtain⟨r0,r1⟩:=qQP hS2 hlt;have hmost:=qXP P l items percent k;have hbs:qQu P l items percent (k+1)=if(decide ((qQu P l items percent k).2<qZa P l items k)&&decide (percent≤qZa P l items k))=true then((k:Int),qZa P l items k)else qQu P l items percent k:=rfl
   have hsk0:qJw P l items k=(decide (items.length≤k)||decide (items.getD k 0=0) || !(qQk l k).up || !(P.vol k).closed||(P.vol k).erase):=rfl;generalize hbst:qQu P l items percent k=bst at hbs hmost⊢;clear hbst;obtain⟨best,most⟩:=bst;simp only[]at hbs hmost⊢;obtain⟨u,hu⟩:∃u,u=(qQk l k).up:=⟨_,rfl⟩;obtain⟨f,hf⟩:∃u,u=(qQk l k).free:=⟨_,rfl⟩;rw[←hu]at r0 hsk0;rw[←hf]at r1;have HVC:=fun wx (hx:Ext w wx)=>cvol_any (hC.ext hx) k (by omega)
   unfold vlAgg at HVC;obtain⟨cl,hcl⟩:∃u,u=(P.vol k).closed:=⟨_,rfl⟩;obtain⟨er,her⟩:∃u,u=(P.vol k).erase:=⟨_,rfl⟩;rw[←hcl,←her]at hsk0 HVC;generalize (P.vol k).gen=gn at HVC;clear hu hf hcl her
   go_upto_region 5 with fail
   obtain⟨wy,hwy⟩:∃wy,wy=wr.alloc (.cells #[.bool u,.int .i64 f] 55):=⟨_,rfl⟩;have hXb:=At.new wr 55 #[.bool u,.int .i64 f];rw[←hwy]at hXb⊢;have hEy:Ext w wy:=by rw[hwy];exact hEk.alloc _
   clear hwy r0 r1 hEk hS2;generalize wr.heap.size=yb at hXb⊢;have HVY:=HVC wy hEy;clear HVC;go_wp2_with fail
   refine HVY.mono ?_;rintro e w1 ⟨rfl,hE1⟩;clear HVY
   go_upto_region 6 with fail
   obtain⟨w2,hw2⟩:∃wy,wy=w1.alloc (.cells #[.bool cl,.bool er,.int .i64 gn] 85):=⟨_,rfl⟩;have hVb:=At.new w1 85 #[.bool cl,.bool er,.int .i64 gn];rw[←hw2]at hVb⊢;have hE12:Ext wy w2:=by rw[hw2];exact hE1.alloc _
   have hE2:=hEy.trans hE12;replace hXb:=hXb.ext hE12;clear hw2 hE1 hE12 hEy;generalize w1.heap.size=vb at hVb⊢;have x0:=hXb.cell 0;have v0:=hVb.cell 0;have v1:=hVb.cell 1;simp at x0 v0 v1;clear hXb hVb;obtain⟨sk,hsk1⟩:∃m,m=qJw P l items k:=⟨_,rfl⟩;have hsk:sk=(decide (items.length≤k)||decide (items.getD k 0=0) || !u || !cl||er):=by rw[hsk1,hsk0]
   clear hsk0;obtain⟨it,hitk⟩:∃it,it=items.getD k 0:=⟨_,rfl⟩;rw[←hitk]at hsk;replace hitk:=hitk.symm;have hir:=HIR.out k;rw[hitk]at hir
   go_cut [51]from 27 to 51 (fun mv wx=>mv=.bool sk∧wx=w2)
   case first =>
    clear hbs hmost;have HSK:=Hh hsk;clear hsk;cases u
    ·go_wp2_with fail
     go_meet
     case rel =>
      refine⟨?_,rfl⟩
      rw[HSK.out];simp
    ·cases cl
     ·go_wp2_with fail
      go_meet
      case rel =>
       refine⟨?_,rfl⟩
       rw[HSK.out];simp
     ·cases er
      ·by_cases h1:items.length≤k
       ·have t1:decide (items.length≤k)=true:=by simpa using h1
        go_wp2_with fail
        go_meet
        case rel =>
         refine⟨?_,rfl⟩
         rw[HSK.out];simp[h1]
       ·have t1:decide (items.length≤k)=false:=by simpa using h1
        obtain⟨ib,io,rfl,ic⟩:=qJc (hI.ext hE2) k (by omega);rw[hitk]at ic
        by_cases h2:it≤0
        ·have t2:decide (it≤0)=true:=by simpa using h2
         have HK2:=Hh hitk;clear hitk;have hz:it=0:=by omega
         go_wp2_with fail
         go_meet
         case rel =>
          refine⟨?_,rfl⟩
          rw[HSK.out];rw[hz];simp
        ·have t2:decide (it≤0)=false:=by simpa using h2
         have hz:it≠0:=by omega
         have HK2:=Hh hitk;clear hitk;go_wp2_with fail
         go_meet
         case rel =>
          refine⟨?_,rfl⟩
          rw[HSK.out];simp[h1,hz]
      ·go_wp2_with fail
       go_meet
       case rel =>
        refine⟨?_,rfl⟩
        rw[HSK.out];simp
   case rest =>
    obtain⟨rfl,hwc⟩:=hcut;subst hwc;clear hsk v0 v1 x0;cases sk
    ·have hki:k<items.length∧items.getD k 0≠0:=by
      have h:=hsk1;unfold qJw at h;generalize items.getD k 0=q at h⊢;simp at h;exact⟨by omega,by omega⟩
     rw[hitk]at hki;obtain⟨hkl,hit0⟩:=hki;have hpn:=HON.out k;have HRL:=Hh (clive_any (hC.ext hE2) HII.out (by omega) k (by omega));have hon:P.L.filter (onV (k:Int))=P.onVol k:=rfl;rw[hon]at HRL;clear hon;have hbt:=fun hl=>best_same2 (percent:=percent) HIN.out hsk1.symm hl most hmost
     have hgn:=fun hl=>goneOf_none (P:=P) (l:=l) (items:=items) (i:=k) hl
     obtain⟨pn,hpe⟩:∃pn:Nat,pn=(P.onVol k).length:=⟨_,rfl⟩;rw[←hpe]at hbt hgn hpn HRL;rw[hitk]at hbt;generalize qQE (P.onVol k)=pp at HRL;clear hpe hsk1;go_wp2_with fail
     refine HRL.out.mono ?_;rintro e w3 ⟨rfl,hE3'⟩;have hE3:=hE2.trans hE3';clear HRL hE3'
     by_cases hp:pn=0
     ·have HBS:=Hh (show qQu P l items percent (k+1)=(best,most)by rw[hbs,hgn hp];simp;omega);subst hp;have t1:decide ((0:Int)=0)=true:=by simp
      clear hbs hgn hbt;have HBK:=Hh (show qQu P l items percent (k+1)=(best,most)from by rw[HBS.out]);go_wp2_with fail
      go_roundw
      case rel=>exact⟨k+1,by omega,by go_num,by rw[HBK.out],by rw[HBK.out],hE3⟩
      case measure=>simp[intOf];omega
     ·obtain⟨hb1,hb2⟩:=hbt hp
      have HBS:=Hh (show qQu P l items percent (k+1)=if(decide (most<goneC it pn)&&decide (percent≤goneC it pn))=true then((k:Int),goneC it pn)else(best,most)from by
       rw[hbs,hb1]
       by_cases hc:(decide (most<qZa P l items k)&&decide (percent≤qZa P l items k))=true
       ·rw[if_pos hc,if_pos hc];rw[←hb1]at hc;rw[hb2 (by simp at hc;exact hc.1)]
       ·rw[if_neg hc,if_neg hc])
      clear hbs hb1 hb2 hbt hgn;have t1:decide ((pn:Int)=0)=false:=by simp;omega
      obtain⟨ib,io,rfl,ic2⟩:=qJc (hI.ext hE3) k hkl;rw[hitk]at ic2;have HK2:=Hh hitk;have rg:∀ {p:Addr} {v:Value},w3.cell? p=some v→∀d os,(grow (redrawn w3 d) os).cell? p=some v:=fun h d os=>(Ext.cell (qQn w3 d os) (qQv h)).trans h
      have rx:=rg ic2;clear hitk
      go_upto_region 9 with fail
      refine qQc (by kernel_rfl) (by kernel_rfl) ?_
      repeat (go_big_quiet_step (fail))
      refine wpQuiet_nil ?_;intro W8 hE8;unfold goneC at HBS;generalize ((it - (pn:Int)) * 100).tdiv it=q at HBS⊢
      by_cases h1:most<q
      ·have t2:decide (most<q)=true:=by simpa using h1
       by_cases h2:percent≤q
       ·have t3:decide (percent≤q)=true:=by simpa using h2
        have HBK:=Hh (show qQu P l items percent (k+1)=((k:Int),q)from by rw[HBS.out];simp[h1,h2]);go_wp2_with fail
        go_roundw
        case rel=>exact⟨k+1,by omega,by go_num,by rw[HBK.out],by rw[HBK.out],hE3.trans hE8⟩
        case measure=>simp[intOf];omega
       ·have t3:decide (percent≤q)=false:=by simpa using h2
        have HBK:=Hh (show qQu P l items percent (k+1)=(best,most)from by rw[HBS.out];simp[h1] <;> omega);go_wp2_with fail
        go_roundw
        case rel=>exact⟨k+1,by omega,by go_num,by rw[HBK.out],by rw[HBK.out],hE3.trans hE8⟩
        case measure=>simp[intOf];omega
      ·have t2:decide (most<q)=false:=by simpa using h1
       have HBK:=Hh (show qQu P l items percent (k+1)=(best,most)from by rw[HBS.out];simp[h1] <;> omega);go_wp2_with fail
       go_roundw
       case rel=>exact⟨k+1,by omega,by go_num,by rw[HBK.out],by rw[HBK.out],hE3.trans hE8⟩
       case measure=>simp[intOf];omega
    ·have HG:=Hh (goneOf_skip hsk1.symm);have HBS:=Hh (show qQu P l items percent (k+1)=(best,most)by rw[hbs,HG.out];rw[if_neg];simp;omega);clear hbs hsk1;have HBK:=Hh (show qQu P l items percent (k+1)=(best,most)from by rw[HBS.out]);go_wp2_with fail
     go_roundw
     case rel=>exact⟨k+1,by omega,by go_num,by rw[HBK.out],by rw[HBK.out],hE2⟩
     case measure=>simp[intOf];omega
  ·obtain rfl:k=l.length:=by omega
   go_wp2_with fail
   go_ret
   exact⟨rfl,hEk⟩
end Go.Proofs.YtiojjokfeknhcaaGreat
