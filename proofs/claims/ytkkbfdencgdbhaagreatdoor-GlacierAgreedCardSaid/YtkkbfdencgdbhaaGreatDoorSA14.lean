/-
  Part 14 of what the law leans on.
-/
import Derived.Test.YtkkbfdencgdbhaaGreatDoorSA1
import Derived.Test.YtkkbfdencgdbhaaGreatDoorSA2
import Derived.Test.YtkkbfdencgdbhaaGreatDoorSA6
import Derived.Test.YtkkbfdencgdbhaaGreatDoorChecked
import Derived.BigQuiet
import Derived.WalkSpells
import Derived.WalkLawsBesides
import Derived.Deep.LoopGhost
import Derived.Laws.BitsAllLaws
import Derived.Laws.AppendOwn
set_option linter.unusedVariables false
set_option linter.unusedSimpArgs false
set_option linter.unusedSectionVars false
namespace Go.Proofs.YtkkbfdencgdbhaaGreatDoor
open Go.RowKit
def DecAt(w:World)(b:Nat)(s:ByteArray)(d:Dc):Prop :=
 s.size≤140737488355328∧0≤d.err∧d.err≤17∧∃at_:Nat,at_+d.rest.length=s.size∧s.data.toList.drop at_=d.rest∧At w b 175 #[.string s,.int .i64 at_,.int .i64 d.err]
section
variable{w w':World}{b:Nat}{s:ByteArray}{d:Dc}
theorem DecAt.drewN(h:DecAt w b s d)(n:Nat):DecAt (w.drewN n) b s d:=h
theorem DecAt.alloc(h:DecAt w b s d)(o:Obj):DecAt (w.alloc o) b s d:=by
 obtain⟨h1,h2,h3,k,h4,h5,h6⟩:=h
 exact⟨h1,h2,h3,k,h4,h5,h6.alloc o⟩
theorem DecAt.chg{S:Nat→Prop}(h:DecAt w b s d)(hc:Chg S w w')(hn:¬ S b):DecAt w' b s d:=by
 obtain⟨h1,h2,h3,k,h4,h5,h6⟩:=h
 exact⟨h1,h2,h3,k,h4,h5,h6.chg hc hn⟩
theorem DecAt.lt(h:DecAt w b s d):b<w.heap.size:=by
 obtain⟨h1,h2,h3,k,h4,h5,h6⟩:=h
 exact h6.lt
end
def DecTo(w w':World)(b:Nat)(s:ByteArray)(d:Dc):Prop:=Chg (· = b) w w'∧DecAt w' b s d
set_option maxHeartbeats 400000 in
theorem dleft_any(w:World)(b:Nat)(s:ByteArray)(d:Dc)(h:DecAt w b s d) :
 Calls Tryz.prog 98 #[.pointer (some ⟨b,0,none⟩)] w fun e w'=>e=.returned (.int .i64 d.rest.length)∧∃n,w'=w.drewN n:=by
 obtain⟨h1,h2,h3,k,h4,h5,h6⟩:=h
 have c0:=h6.cell 0
 have c1:=h6.cell 1
 simp at c0 c1
 go_enter Tryz.func98,Tryz.ntmps98
 go_wp2
 go_quiet (fail)
 go_wp2
 go_ret
 exact⟨ret_i64 (by omega),_,rfl⟩
set_option maxHeartbeats 400000 in
theorem dfail_any(w:World)(b:Nat)(s:ByteArray)(d:Dc)(h:DecAt w b s d)(x:Int)(hx:0≤x∧x≤17) :
 Calls Tryz.prog 59 #[.pointer (some ⟨b,0,none⟩),.int .i64 x] w fun e w'=>e=.returned (.tuple #[])∧DecTo w w' b s (d.fail x):=by
 obtain⟨h1,h2,h3,k,h4,h5,h6⟩:=h
 have c2:=h6.cell 2
 have f2:=h6.frozen 2
 simp at c2
 by_cases he:d.err=0
 ·have hd:(d.err == 0)=true:=by simpa using he
  have hset:=h6.set 2 (.int .i64 x)
  have H:=Lib.hid he
  clear he
  go_enter Tryz.func59,Tryz.ntmps59
  go_wp2
  go_end0
  refine⟨rfl,(Chg.refl (· = b) _).setCell (.inl rfl) _,?_⟩
  unfold Dc.fail
  rw[if_pos H.out]
  exact⟨h1,hx.1,hx.2,k,h4,h5,by simpa using hset⟩
 ·have hd:(d.err == 0)=false:=by simpa using he
  go_enter Tryz.func59,Tryz.ntmps59
  go_wp2
  go_end0
  refine⟨rfl,Chg.refl _ _,?_⟩
  unfold Dc.fail
  rw[if_neg he]
  exact⟨h1,h2,h3,k,h4,h5,h6⟩
set_option maxHeartbeats 1000000 in
theorem dnext_any(w:World)(b:Nat)(s:ByteArray)(d:Dc)(h:DecAt w b s d) :
 Calls Tryz.prog 119 #[.pointer (some ⟨b,0,none⟩)] w fun e w'=>e=.returned (.tuple #[.int .u8 ((d.next.1.getD 0).toNat:Int),.bool d.next.1.isSome])∧DecTo w w' b s d.next.2:=by
 obtain⟨rest,err⟩:=d
 obtain⟨h1,h2,h3,k,h4,h5,h6⟩:=h
 simp only at h2 h3 h4 h5 h6
 have c0:=h6.cell 0
 have c1:=h6.cell 1
 have c2:=h6.cell 2
 have f1:=h6.frozen 1
 have f2:=h6.frozen 2
 simp at c0 c1 c2
 by_cases he:err=0
 ·subst he
  cases rest with
  | nil =>
   have hk:k=s.size:=by simpa using h4
   have g1:decide (s.size≤k)=true:=by simp;omega
   have H5:=Lib.hid h5
   have H4:=Lib.hid h4
   have hk1:s.size≤k:=by omega
   clear hk h5 h4
   go_enter Tryz.func119,Tryz.ntmps119
   go_wp2
   go_quiet (fail)
   go_wp2
   go_ret2
   exact⟨rfl,((Chg.refl (· = b) _).drewN _).setCell (.inl rfl) _,h1,by decide,by decide,k,H4.out,H5.out,(h6.drewN _).set 2 _⟩
  | cons c r =>
   have hk:k<s.size:=by simp at h4;omega
   have hc:s[k]=c:=by
    have e:s.data.toList[k]? = some c:=by
     have:=congrArg (·[0]?) h5
     simpa[List.getElem?_drop]using this
    have e2:s.data.toList[k]? = some s[k]:=by
     rw[List.getElem?_eq_getElem (by simpa using hk)];rfl
    rw[e2]at e;injection e
   have hr:s.data.toList.drop (k+1)=r:=by
    have:=congrArg (List.drop 1) h5
    simpa[List.drop_drop,Nat.add_comm]using this
   have h4':(k+1)+r.length=s.size:=by simp at h4;omega
   have hfin:Dc.next ⟨c::r,0⟩=(some c,⟨r,0⟩):=rfl
   have g1:decide (s.size≤k)=false:=by simp;omega
   have HC:=Lib.hid hc
   have HR:=Lib.hid hr
   have H4:=Lib.hid h4'
   have HF:=Lib.hid hfin
   clear h5 h4 hc hr h4' hfin
   go_enter Tryz.func119,Tryz.ntmps119
   go_wp2
   go_quiet (fail)
   go_wp2
   have hB:At ((w.drewN nq).setCell ⟨b,1,none⟩ (.int .i64 ((k:Int)+1))) b 175 #[.string s,.int .i64 ((k:Int)+1),.int .i64 0]:=(h6.drewN _).set 1 _
   have hC:Chg (· = b) w ((w.drewN nq).setCell ⟨b,1,none⟩ (.int .i64 ((k:Int)+1))):=((Chg.refl (· = b) _).drewN _).setCell (.inl rfl) _
   generalize (w.drewN nq).setCell ⟨b,1,none⟩ (.int .i64 ((k:Int)+1))=W at hB hC⊢
   clear c0 c1 c2 f1 f2 h6
   have c0:=hB.cell 0
   have c1:=hB.cell 1
   simp at c0 c1
   go_quiet (fail)
   go_wp2
   go_ret2
   rw[HF.out]
   refine⟨by rw[←HC.out];rfl,hC.drewN _,h1,h2,h3,k+1,H4.out,HR.out,?_⟩
   rw[show((k+1:Nat):Int)=(k:Int)+1 from by omega]
   exact hB.drewN _
 ·have hd:(err == 0)=false:=by simpa using he
  have hd2:(err != 0)=true:=by simpa using he
  have hfin:Dc.next ⟨rest,err⟩=(none,⟨rest,err⟩):=by unfold Dc.next;rw[if_neg he]
  have HF:=Lib.hid hfin
  clear hfin
  go_enter Tryz.func119,Tryz.ntmps119
  go_wp2
  go_quiet (fail)
  go_wp2
  go_ret2
  rw[HF.out]
  exact⟨rfl,(Chg.refl (· = b) _).drewN _,h1,h2,h3,k,h4,h5,h6.drewN _⟩
theorem beq128(c:UInt8):(c == 128)=decide (c.toNat=128):=by
 rw[Bool.eq_iff_iff];simp[←UInt8.toNat_inj]
theorem u64_in{x:Nat}(h:x<18446744073709551616):IntKind.u64.wrap (x:Int)=x:=by simp[IntKind.wrap,IntKind.bits,IntKind.signed];omega
theorem u_step(v c:Nat)(hv:v≤144115188075855871)(hc:c<256):bits .or .u64 ((v:Int) * 128) (IntKind.u64.wrap (bits .andNot .u8 (c:Int) 128))=((v * 128+c % 128:Nat):Int):=by
 have e1:bits .andNot .u8 (c:Int) 128=((c % 128:Nat):Int):=by
  rw[show(128:Int)=((128:Nat):Int)from rfl,u8_andNot_nat c 128 hc (by omega)]
  rw[show 255 - 128=2 ^ 7 - 1 from rfl,Nat.and_two_pow_sub_one_eq_mod]
 rw[e1,u64_in (by omega),show(v:Int) * 128=((v * 128:Nat):Int)from by omega,u64_or_nat _ _ (by omega) (by omega)]
 rw[show v * 128=v <<< 7 from by rw[Nat.shiftLeft_eq],←Nat.shiftLeft_add_eq_or_of_lt (by omega)]
theorem DecTo.refl{w:World}{b:Nat}{s:ByteArray}{d:Dc}(h:DecAt w b s d):DecTo w w b s d:=⟨Chg.refl _ _,h⟩
theorem DecTo.trans{w w1 w2:World}{b:Nat}{s:ByteArray}{d d':Dc}(h:DecTo w w1 b s d)(h':DecTo w1 w2 b s d'):DecTo w w2 b s d':=⟨h.1.trans h'.1 (fun _ _ h=>h),h'.2⟩
theorem next_nil{d:Dc}(h:d.err=0)(hr:d.rest=[]):d.next=(none,⟨[],2⟩):=by unfold Dc.next;rw[if_pos h,hr]
theorem next_cons{d:Dc}{c:UInt8}{r:List UInt8}(h:d.err=0)(hr:d.rest=c::r):d.next=(some c,⟨r,0⟩):=by unfold Dc.next;rw[if_pos h,hr,←h]
set_option maxHeartbeats 1000000 in
theorem du_any(w:World)(b:Nat)(s:ByteArray)(d:Dc)(h:DecAt w b s d) :
 Calls Tryz.prog 69 #[.pointer (some ⟨b,0,none⟩)] w fun e w'=>e=.returned (.int .u64 (d.u.1:Int))∧DecTo w w' b s d.u.2:=by
 by_cases he:d.err=0
 ·generalize hR:uloop true 0 d.rest=R
  have hu:d.u=R:=by unfold Dc.u;rw[if_pos he];exact hR
  rw[hu]
  go_enter Tryz.func69,Tryz.ntmps69
  go_wp2_with fail
  go_loopg [3,4] d.rest.length (fun k v f wr=>∃(fb:Bool) (vn:Nat) (r:List UInt8),r.length=k∧v=.int .u64 (vn:Int)∧vn<18446744073709551616∧f=.bool fb∧DecTo w wr b s ⟨r,0⟩∧uloop fb vn r=R)
  case atStart=>exact⟨true,0,d.rest,rfl,rfl,by omega,rfl,by rw[←he];exact DecTo.refl h,hR⟩
  case round =>
   clear hR h hu
   obtain⟨fb,vn,r,rfl,rfl,hvn,rfl,hD,hR⟩:=hrel
   have cn:=dnext_any _ b s ⟨r,0⟩ hD.2
   cases r with
   | nil =>
    rw[next_nil rfl rfl]at cn
    have HR:=Lib.hid hR
    clear hR
    go_wp2_with fail
    refine cn.mono ?_
    rintro e w1 ⟨rfl,hD1⟩
    go_wp2_with fail
    go_ret
    rw[←HR.out]
    exact⟨rfl,hD.trans hD1⟩
   | cons c r =>
    rw[next_cons rfl rfl]at cn
    have cf:=fun w1 h=>dfail_any w1 b s ⟨r,0⟩ h 3 (by decide)
    have hc256:=c.toNat_lt
    rw[show Dc.fail ⟨r,0⟩ 3=⟨r,3⟩from rfl]at cf
    by_cases hbad:((fb&&c == 128)||decide (144115188075855871<vn))=true
    ·have hfin:R=(0,⟨r,3⟩):=by rw[←hR,uloop,if_pos hbad]
     have HF:=Lib.hid hfin
     clear hfin hR
     have hcases:(fb=true∧c.toNat=128)∨(fb=true∧c.toNat≠128∧144115188075855871<vn)∨(fb=false∧144115188075855871<vn):=by
      rw[beq128]at hbad
      cases fb <;> simp at hbad⊢ <;> omega
     clear hbad
     rcases hcases with⟨rfl,g⟩|⟨rfl,g,g2⟩|⟨rfl,g2⟩
     ·have t1:((c.toNat:Int) == 128)=true:=by simp;omega
      clear g
      go_wp2_with fail
      refine cn.mono ?_
      rintro e w1 ⟨rfl,hD1⟩
      go_wp2_with fail
      refine(cf _ hD1.2).mono ?_
      rintro e w2 ⟨rfl,hD2⟩
      go_wp2_with fail
      go_ret
      rw[HF.out]
      exact⟨rfl,(hD.trans hD1).trans hD2⟩
     ·have t1:((c.toNat:Int) == 128)=false:=by simp;omega
      have t2:decide ((144115188075855871:Int)<(vn:Int))=true:=by simp;omega
      clear g g2
      go_wp2_with fail
      refine cn.mono ?_
      rintro e w1 ⟨rfl,hD1⟩
      go_wp2_with fail
      refine(cf _ hD1.2).mono ?_
      rintro e w2 ⟨rfl,hD2⟩
      go_wp2_with fail
      go_ret
      rw[HF.out]
      exact⟨rfl,(hD.trans hD1).trans hD2⟩
     ·have t2:decide ((144115188075855871:Int)<(vn:Int))=true:=by simp;omega
      clear g2
      go_wp2_with fail
      refine cn.mono ?_
      rintro e w1 ⟨rfl,hD1⟩
      go_wp2_with fail
      refine(cf _ hD1.2).mono ?_
      rintro e w2 ⟨rfl,hD2⟩
      go_wp2_with fail
      go_ret
      rw[HF.out]
      exact⟨rfl,(hD.trans hD1).trans hD2⟩
    ·rw[uloop,if_neg hbad]at hR
     have hcases:((fb=true∧c.toNat≠128)∨fb=false)∧vn≤144115188075855871:=by
      rw[beq128]at hbad
      cases fb <;> simp at hbad⊢ <;> omega
     clear hbad
     obtain⟨hc,hv⟩:=hcases
     have t2:decide ((144115188075855871:Int)<(vn:Int))=false:=by simp;omega
     rcases hc with⟨rfl,g⟩|rfl
     ·have t1:((c.toNat:Int) == 128)=false:=by simp;omega
      clear g
      by_cases hlt:c.toNat<128
      ·have t3:decide ((c.toNat:Int)<128)=true:=by simp;omega
       go_wp2_with fail
       refine cn.mono ?_
       rintro e w1 ⟨rfl,hD1⟩
       go_wp2_with fail
       go_ret
       rw[←hR,if_pos hlt,u_step vn c.toNat hv hc256]
       exact⟨rfl,hD.trans hD1⟩
      ·have t3:decide ((c.toNat:Int)<128)=false:=by simp;omega
       rw[if_neg hlt]at hR
       have HR:=Lib.hid hR
       clear hR
       go_wp2_with fail
       refine cn.mono ?_
       rintro e w1 ⟨rfl,hD1⟩
       go_wp2_with fail
       go_roundg r.length
       case measure=>simp
       case rel=>exact⟨false,_,r,rfl,by rw[u_step vn c.toNat hv hc256],by omega,rfl,hD.trans hD1,HR.out⟩
     ·by_cases hlt:c.toNat<128
      ·have t3:decide ((c.toNat:Int)<128)=true:=by simp;omega
       go_wp2_with fail
       refine cn.mono ?_
       rintro e w1 ⟨rfl,hD1⟩
       go_wp2_with fail
       go_ret
       rw[←hR,if_pos hlt,u_step vn c.toNat hv hc256]
       exact⟨rfl,hD.trans hD1⟩
      ·have t3:decide ((c.toNat:Int)<128)=false:=by simp;omega
       rw[if_neg hlt]at hR
       have HR:=Lib.hid hR
       clear hR
       go_wp2_with fail
       refine cn.mono ?_
       rintro e w1 ⟨rfl,hD1⟩
       go_wp2_with fail
       go_roundg r.length
       case measure=>simp
       case rel=>exact⟨false,_,r,rfl,by rw[u_step vn c.toNat hv hc256],by omega,rfl,hD.trans hD1,HR.out⟩
 ·have hu:d.u=(0,d):=by unfold Dc.u;rw[if_neg he]
  have cn:=dnext_any _ b s d h
  have hn:d.next=(none,d):=by unfold Dc.next;rw[if_neg he]
  rw[hn]at cn
  rw[hu]
  clear hu hn
  go_enter Tryz.func69,Tryz.ntmps69
  go_wp2_with fail
  refine wp_loop_rounds 1 ?_
  rw[rounds_succ]
  go_wp2_with fail
  refine cn.mono ?_
  rintro e w1 ⟨rfl,hD1⟩
  go_wp2_with fail
  go_ret
  exact⟨rfl,hD1⟩
theorem Dc.u_lt(d:Dc):d.u.1<18446744073709551616:=by
 have key:∀(l:List UInt8) (f:Bool) (v:Nat),(uloop f v l).1<18446744073709551616:=by
  intro l
  induction l with
  | nil=>intro f v;simp[uloop]
  | cons c r ih =>
   intro f v
   rw[uloop]
   split
   ·simp
   ·rename_i h
    have hv:v≤144115188075855871:=by simp at h;omega
    split
    ·simp only;omega
    ·exact ih _ _
 unfold Dc.u
 split
 ·exact key _ _ _
 ·simp
set_option maxHeartbeats 1000000 in
theorem di_any(w:World)(b:Nat)(s:ByteArray)(d:Dc)(h:DecAt w b s d)(most:Int)(hm0:0≤most)(hm:most≤9223372036854775807) :
 Calls Tryz.prog 54 #[.pointer (some ⟨b,0,none⟩),.int .i64 most] w fun e w'=>e=.returned (.int .i64 ((d.i most).1:Int))∧DecTo w w' b s (d.i most).2:=by
 have cu:=du_any w b s d h
 have hlt:=d.u_lt
 by_cases hg:max most 0<(d.u.1:Int)
 ·have hfin:d.i most=(0,d.u.2.fail 11):=by unfold Dc.i;rw[if_pos hg]
  have HF:=Lib.hid hfin
  clear hfin
  generalize d.u=U at cu hg HF hlt
  obtain⟨v,D⟩:=U
  simp only at cu hg HF hlt
  have cf:=fun w1 h=>dfail_any w1 b s D h 11 (by decide)
  have t1:decide (most<(v:Int))=true:=by simp;omega
  have t2:decide (max most 0<(v:Int))=true:=by simp;omega
  clear hg
  go_enter Tryz.func54,Tryz.ntmps54
  go_wp2_with fail
  refine cu.mono ?_
  rintro e w1 ⟨rfl,hD1⟩
  go_wp2_with fail
  all_goals
   refine(cf _ hD1.2).mono ?_
   rintro e w2 ⟨rfl,hD2⟩
   go_wp2_with fail
   go_ret
   rw[HF.out]
   exact⟨rfl,hD1.trans hD2⟩
 ·have hfin:d.i most=d.u:=by unfold Dc.i;rw[if_neg hg]
  have HF:=Lib.hid hfin
  clear hfin
  generalize d.u=U at cu hg HF hlt
  obtain⟨v,D⟩:=U
  simp only at cu hg HF hlt
  have hg1:(v:Int)≤most:=by omega
  have t1:decide (most<(v:Int))=false:=by simp;omega
  have t2:decide (max most 0<(v:Int))=false:=by simp;omega
  clear hg
  go_enter Tryz.func54,Tryz.ntmps54
  go_wp2_with fail
  refine cu.mono ?_
  rintro e w1 ⟨rfl,hD1⟩
  go_wp2_with fail
  all_goals
   go_ret
   rw[HF.out]
   exact⟨rfl,hD1⟩
end Go.Proofs.YtkkbfdencgdbhaaGreatDoor
namespace Go.Proofs.YtkkbfdencgdbhaaGreatDoor
open Go.RowKit
theorem ddone_any(w:World)(b:Nat)(s:ByteArray)(d:Dc)(h:DecAt w b s d) :
 Calls Tryz.prog 60 #[.pointer (some ⟨b,0,none⟩)] w fun e w'=>e=.returned (.int .i64 d.done.err)∧DecTo w w' b s d.done:=by
 have cl:=dleft_any w b s d h
 have cf:=fun w1 h=>dfail_any w1 b s d h 3 (by decide)
 by_cases g:d.rest=[]
 ·have hfin:d.done=d:=by unfold Dc.done;rw[if_pos g]
  rw[g]at cl
  rw[hfin]
  clear hfin g
  go_enter Tryz.func60,Tryz.ntmps60
  go_wp2_with fail
  refine cl.mono ?_
  rintro e w1 ⟨rfl,n,rfl⟩
  obtain⟨h1,h2,h3,k,h4,h5,h6⟩:=h
  have c2:=h6.cell 2
  simp at c2
  go_wp2_with fail
  go_ret
  exact⟨rfl,(Chg.refl _ _).drewN _,h1,h2,h3,k,h4,h5,h6.drewN _⟩
 ·have hfin:d.done=d.fail 3:=by unfold Dc.done;rw[if_neg g]
  have hpos:0<d.rest.length:=List.length_pos_iff.2 g
  rw[hfin]
  clear hfin g
  go_enter Tryz.func60,Tryz.ntmps60
  go_wp2_with fail
  refine cl.mono ?_
  rintro e w1 ⟨rfl,n,rfl⟩
  go_wp2_with fail
  refine(cf _ (h.drewN n)).mono ?_
  rintro e w2 ⟨rfl,hD2⟩
  have hD:=hD2.2
  obtain⟨h1,h2,h3,k,h4,h5,h6⟩:=hD
  have c2:=h6.cell 2
  simp at c2
  go_wp2_with fail
  go_ret
  exact⟨rfl,((Chg.refl (· = b) _).drewN n).trans hD2.1 (fun _ _ h=>h),hD2.2⟩
theorem from_any(w:World)(s:ByteArray)(hs:s.size≤140737488355328) :
 Calls Tryz.prog 53 #[.string s] w fun e w'=>∃b,e=.returned (.pointer (some ⟨b,0,none⟩))∧w.heap.size≤b∧DecAt w' b s ⟨s.data.toList,0⟩∧Ext w w':=by
 go_enter Tryz.func53,Tryz.ntmps53
 go_wp2
 go_ret
 exact⟨_,rfl,Nat.le_refl _,⟨hs,Int.le_refl 0,by show(0:Int)≤17;decide,0,by simp,by simp,At.new w _ _⟩,(Ext.refl w).alloc _⟩
theorem extract_take(s:ByteArray)(k n:Nat):s.extract k (k+n)=⟨((s.data.toList.drop k).take n).toArray⟩:=by
 have e:(s.extract k (k+n)).data=s.data.extract k (k+n):=by simp
 have e2:s.extract k (k+n)=⟨(s.extract k (k+n)).data⟩:=rfl
 rw[e2,e]
 congr 1
 apply Array.toList_inj.1
 simp
set_option maxHeartbeats 1000000 in
theorem ds_any(w:World)(b:Nat)(s:ByteArray)(d:Dc)(h:DecAt w b s d)(most:Int)(hm0:0≤most)(hm:most≤9223372036854775807) :
 Calls Tryz.prog 55 #[.pointer (some ⟨b,0,none⟩),.int .i64 most] w fun e w'=>e=.returned (.string ⟨(d.s most).1.toArray⟩)∧DecTo w w' b s (d.s most).2:=by
 have ci:=di_any w b s d h most hm0 hm
 have hn:((d.i most).1:Int)≤most:=by
  unfold Dc.i
  split
  ·simpa using hm0
  ·omega
 unfold Dc.s
 generalize d.i most=R at ci hn
 obtain⟨n,D⟩:=R
 simp only at ci hn⊢
 by_cases he:D.err=0
 ·rw[if_pos he]
  have t1:(D.err == 0)=true:=by simpa using he
  have t1':(D.err != 0)=false:=by simpa using he
  have cl:=fun w1 h=>dleft_any w1 b s D h
  by_cases g:D.rest.length<n
  ·rw[if_pos g]
   have cf:=fun w1 h=>dfail_any w1 b s D h 2 (by decide)
   have hf:D.fail 2 = { D with err:=2 } := by unfold Dc.fail;rw[if_pos he]
   rw[hf]at cf
   clear hf he
   have t2:decide ((D.rest.length:Int)<(n:Int))=true:=by simp;omega
   go_enter Tryz.func55,Tryz.ntmps55
   go_wp2_with fail
   refine ci.mono ?_
   rintro e w1 ⟨rfl,hD1⟩
   have hD:=hD1.2
   obtain⟨h1,h2,h3,k,h4,h5,h6⟩:=hD
   have c2:=h6.cell 2
   simp at c2
   go_wp2_with fail
   refine(cl w1 hD1.2).mono ?_
   rintro e w2 ⟨rfl,m,rfl⟩
   go_wp2_with fail
   refine(cf _ (hD1.2.drewN m)).mono ?_
   rintro e w2 ⟨rfl,hD2⟩
   clear h6 c2
   have hD:=hD2.2
   obtain⟨_,_,_,k',_,_,h6⟩:=hD
   have c2:=h6.cell 2
   simp at c2
   go_wp2_with fail
   go_ret
   exact⟨rfl,(hD1.1.drewN m).trans hD2.1 (fun _ _ h=>h),hD2.2⟩
  ·rw[if_neg g]
   have hle:n≤D.rest.length:=by omega
   have t2:decide ((D.rest.length:Int)<(n:Int))=false:=by simp;omega
   clear g
   go_enter Tryz.func55,Tryz.ntmps55
   go_wp2_with fail
   refine ci.mono ?_
   rintro e w1 ⟨rfl,hD1⟩
   have hD:=hD1.2
   obtain⟨h1,h2,h3,k,h4,h5,h6⟩:=hD
   have c2:=h6.cell 2
   have c1:=h6.cell 1
   have f1:=h6.frozen 1
   simp at c2 c1
   have hk0:(k:Int)≤s.size:=by omega
   have hkn:(k:Int)+n≤s.size:=by omega
   have H4:=Lib.hid h4
   have H5:=Lib.hid h5
   have HE:=Lib.hid he
   clear h4 h5 he
   go_wp2_with fail
   refine(cl w1 hD1.2).mono ?_
   rintro e w2 ⟨rfl,m,rfl⟩
   go_wp2_with fail
   have hB:At ((w1.drewN m).setCell ⟨b,1,none⟩ (.int .i64 ((k:Int)+n))) b 175 #[.string s,.int .i64 ((k:Int)+n),.int .i64 D.err]:=(h6.drewN _).set 1 _
   have hC:Chg (· = b) w1 ((w1.drewN m).setCell ⟨b,1,none⟩ (.int .i64 ((k:Int)+n))):=((Chg.refl (· = b) _).drewN _).setCell (.inl rfl) _
   generalize (w1.drewN m).setCell ⟨b,1,none⟩ (.int .i64 ((k:Int)+n))=W at hB hC⊢
   clear c1 c2 f1 h6
   have c0:=hB.cell 0
   have c1:=hB.cell 1
   simp at c0 c1
   go_quiet (fail)
   go_wp2
   go_ret
   rw[extract_take,H5.out]
   refine⟨rfl,(hD1.1.trans hC (fun _ _ h=>h)).drewN _,h1,h2,h3,k+n,?_,?_,?_⟩
   ·have:=H4.out
    simp only[List.length_drop];omega
   ·rw[←List.drop_drop,H5.out]
   ·rw[show((k+n:Nat):Int)=(k:Int)+n from by omega]
    exact hB.drewN _
 ·rw[if_neg he]
  have t1:(D.err == 0)=false:=by simpa using he
  have t1':(D.err != 0)=true:=by simpa using he
  go_enter Tryz.func55,Tryz.ntmps55
  go_wp2_with fail
  refine ci.mono ?_
  rintro e w1 ⟨rfl,hD1⟩
  have hD:=hD1.2
  obtain⟨h1,h2,h3,k,h4,h5,h6⟩:=hD
  have c2:=h6.cell 2
  simp at c2
  go_wp2_with fail
  go_ret
  exact⟨rfl,hD1⟩
set_option maxHeartbeats 2000000 in
theorem dlist_any(w:World)(b:Nat)(s:ByteArray)(d:Dc)(h:DecAt w b s d)(most each:Int)(hm0:0≤most)(hm:most≤1048576)(he0:0≤each)(he1:each≤9223372036854775807) :
 Calls Tryz.prog 70 #[.pointer (some ⟨b,0,none⟩),.int .i64 most,.int .i64 each] w fun e w'=>∃v,e=.returned v ∧
  w'.ownsRow w.heap.size 3 1 v (d.list most each).1.length ((d.list most each).1.map (Value.int .i64))∧((d.list most each).1=[]→v=.slice none 0 0)∧DecTo w w' b s (d.list most each).2:=by
 have hb:=h.lt
 have ci:=di_any w b s d h most hm0 (by omega)
 have hn:((d.i most).1:Int)≤most:=by
  unfold Dc.i
  split
  ·simpa using hm0
  ·omega
 unfold Dc.list
 generalize d.i most=R at ci hn
 obtain⟨n,D⟩:=R
 simp only at ci hn⊢
 generalize hL:listLoop each n D=L
 obtain⟨i0,hi,hz0,hz1,hz2⟩:=info_parts int_info
 go_enter Tryz.func70,Tryz.ntmps70
 go_wp2_with fail
 refine ci.mono ?_
 rintro e w1 ⟨rfl,hD1⟩
 go_wp2_with fail
 go_loopw [7,8] (fun lv nv wr=>∃(k:Nat) (l:List Int) (D':Dc),(k:Int)≤most∧(l.length:Int)+k≤most∧nv=.int .i64 (k:Int)∧wr.ownsRow w.heap.size 3 1 lv l.length (l.map (Value.int .i64))∧(l=[]→lv=.slice none 0 0)∧DecTo w wr b s D' ∧
  L=(((listLoop each k D').1).map (l ++ ·),(listLoop each k D').2)) (fun _ nv _=>(intOf nv).toNat)
 case atStart =>
  refine⟨n,[],D,hn,by simpa using hn,rfl,⟨rfl,.inl ⟨rfl,rfl⟩⟩,fun _=>rfl,hD1,?_⟩
  rw[hL]
  obtain⟨o,E⟩:=L
  cases o <;> simp
 case round =>
  clear hL ci hD1
  obtain⟨k,l,D',hk,hlk,rfl,hown,hnil,hD,hLk⟩:=hrel
  cases k with
  | zero =>
   have hfin:L=(some l,D'):=by rw[hLk];simp[listLoop]
   clear hLk
   have HF:=Lib.hid hfin
   clear hfin
   go_wp2_with fail
   go_ret
   rw[HF.out]
   exact⟨_,rfl,hown,hnil,hD⟩
  | succ k =>
   have cx:=di_any _ b s D' hD.2 each he0 he1
   rw[listLoop]at hLk
   generalize D'.i each=X at cx hLk
   obtain⟨x,D2⟩:=X
   simp only at cx hLk
   by_cases he:D2.err=0
   ·rw[if_pos he]at hLk
    have t1:(D2.err == 0)=true:=by simpa using he
    have t1':(D2.err != 0)=false:=by simpa using he
    have hstep:L=(((listLoop each k D2).1).map ((l++[(x:Int)]) ++ ·),(listLoop each k D2).2):=by
     rw[hLk]
     generalize listLoop each k D2=Z
     obtain⟨o,E⟩:=Z
     cases o <;> simp
    have HS:=Lib.hid hstep
    clear hstep hLk he
    have hkk:(k:Int)+1≤most:=by omega
    have hll:(l.length:Int)+1≤1048576:=by omega
    go_wp2_with fail
    refine cx.mono ?_
    rintro e w2 ⟨rfl,hD2⟩
    have hD':=hD2.2
    obtain⟨h1,h2,h3,k',h4,h5,h6⟩:=hD'
    have c2:=h6.cell 2
    simp at c2
    clear h4 h5
    have hown2:=own_chg hown hD2.1 (fun k h=>by have:k=b:=h;omega)
    have hT:=hD.trans hD2
    have hsz:=hT.1.size
    go_wp2_with (at_builtin;refine wpList_append_own _ rfl _ _ 37 rfl w.heap.size 3 i0 (.int .i64 0) 1 8 Tryz.underlying37 hi hz0 hz1 hz2 rfl (by decide) _ _ _ rfl (hown2.alloc _) ⟨w2.heap.size,0,none⟩ 1 1 [.int .i64 (x:Int)] rfl rfl ?c1 ?c2 ?c3 ?c4 ?c5 ?_)
    case c1 =>
     intro j u hu
     cases j with
     | zero =>
      simp only[List.getElem?_cons_zero,Option.some.injEq]at hu
      subst hu
      exact(At.new w2 3 #[.int .i64 (x:Int)]).cell 0
     | succ j=>simp at hu
    case c2=>simp[Value.oneCell']
    case c3=>unfold maxLen;omega
    case c4=>omega
    case c5=>simp;omega
    intro v' w3 hown3 hgrow _
    have hge:=own_ge (hown2.alloc (.cells #[.int .i64 (x:Int)] 3))
    have hG:=Chg.of_grown hgrow
    have hT3:DecTo w w3 b s D2:=by
     refine⟨(hT.1.alloc _).trans hG (fun k hk h=>absurd (hge k h) (by omega)),?_⟩
     exact(hT.2.alloc _).chg hG (fun h=>absurd (hge b h) (by omega))
    clear hG hgrow hge hT hD2 h6 c2 hown2
    go_wp2
    go_roundw
    case rel =>
     exact⟨k,l++[(x:Int)],D2,by omega,by simp;omega,by go_num,by simpa using hown3,fun h=>by simp at h,hT3,HS.out⟩
    case measure=>simp[intOf]
   ·rw[if_neg he]at hLk
    have t1:(D2.err == 0)=false:=by simpa using he
    have t1':(D2.err != 0)=true:=by simpa using he
    have hfin:L=(none,D2):=by rw[hLk];rfl
    have HF:=Lib.hid hfin
    clear hfin hLk he
    go_wp2_with fail
    refine cx.mono ?_
    rintro e w2 ⟨rfl,hD2⟩
    have hD':=hD2.2
    obtain⟨h1,h2,h3,k',h4,h5,h6⟩:=hD'
    have c2:=h6.cell 2
    simp at c2
    clear h4 h5
    go_wp2_with fail
    go_ret
    rw[HF.out]
    exact⟨_,rfl,⟨rfl,.inl ⟨rfl,rfl⟩⟩,fun _=>rfl,hD.trans hD2⟩
end Go.Proofs.YtkkbfdencgdbhaaGreatDoor
namespace Go.Proofs.YtkkbfdencgdbhaaGreatDoor
open Go.RowKit
end Go.Proofs.YtkkbfdencgdbhaaGreatDoor
