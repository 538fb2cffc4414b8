/-
  Part 2 of what the law leans on.
-/
import Derived.Test.YtiojjokfeknhcaaGreatSC1
import Derived.Lib.OwnBridge
import Derived.Sort.OwnSortedInts
import Derived.Test.YtiojjokfeknhcaaGreatChecked
import Derived.BigQuiet
import Derived.WalkSpells
import Derived.WalkLawsBesides
import Derived.Deep.Cut
import Derived.Deep.CutRange
import Derived.Deep.CutBlock
import Derived.Deep.QuietTactic
import Derived.Orders
import Derived.WalkKit
namespace Go.Proofs.YtiojjokfeknhcaaGreat
set_option maxRecDepth 100000
set_option maxHeartbeats 8000000
set_option linter.unusedVariables false
set_option linter.unusedSimpArgs false
set_option linter.unusedSectionVars false
open _root_.Go.Proofs.Tryz
open Go.RowKit Go.Sort
section
variable{w:World}{base:Nat}{v:Value}{n:Nat}{zs:List Int}
def qXt(zs:List Int):List Int:=zs.mergeSort fun x y=>decide (x≤y)
theorem qJy(h:w.ownsRow base 3 1 v n (zs.map (Value.int .i64)))(hn:n≤17592186043904) :
 Calls prog 46 #[v] w fun e w'=>e=.returned (.tuple #[])∧w'.ownsRow base 3 1 v n ((qXt zs).map (Value.int .i64))∧Chg (fun k=>some k=v.ownBlock) w w':=by
 have hl:zs.length=n:=by simpa using h.1
 have hsl:(qXt zs).length=zs.length:=by unfold qXt;simp
 rcases h.2 with⟨rfl,h0⟩|⟨g,cap,cur,rfl,hbase,hb,h1,h2,h3,h4⟩
 ·subst h0;have hz:zs=[]:=List.eq_nil_of_length_eq_zero hl;subst hz;refine(Tryz.slices_Sort_int_none none 0 w).mono ?_
  rintro e w' ⟨rfl,rfl⟩;exact⟨rfl,by simpa[qXt]using h,Chg.refl _ _⟩
 ·subst hl;refine(Tryz.slices_Sort_int g 0 cap zs w (holds_of_blockI hb (by simpa using h4)) (qQY hb) (by omega)).mono ?_
  rintro e w' ⟨rfl,q,os,rfl⟩;refine⟨rfl,?_,Chg.of_grown (grownBy_sortedI _)⟩
  have:=ownsRow_sortedI (n:=q) (os:=os) (ts:=qXt zs) (cap:=cap) hsl hbase hb h1 h2 h3
  exact this
end
open Go.RowKit Go.Sort
section
variable{w:World}{base:Nat}{v:Value}{n:Nat}{zs:List Int}
theorem compact_own(h:w.ownsRow base 3 1 v n (zs.map (Value.int .i64)))(hn:n≤17592186043904) :
 Calls prog 47 #[v] w fun e w'=>∃v',e=.returned v'∧w'.ownsRow base 3 1 v' (Lib.compact zs).length ((Lib.compact zs).map (Value.int .i64))∧(v=.slice none 0 0→v'=v)∧v'.ownBlock=v.ownBlock∧Chg (fun k=>some k=v.ownBlock) w w':=by
 have hl:zs.length=n:=by simpa using h.1
 rcases h.2 with⟨rfl,h0⟩|⟨g,cap,cur,rfl,hbase,hb,h1,h2,h3,h4⟩
 ·subst h0;have hz:zs=[]:=List.eq_nil_of_length_eq_zero hl;subst hz;refine(Tryz.slices_Compact_int_empty none 0 w).mono ?_
  rintro e w' ⟨rfl,rfl⟩;exact⟨_,rfl,by simpa[Lib.compact,Lib.compactUpTo]using h,fun _=>rfl,rfl,Chg.refl _ _⟩
 ·subst hl
  have hcl:(Lib.compact zs).length≤zs.length:=by
   unfold Lib.compact Lib.compactUpTo
   have:=List.length_filter_le (Lib.keeps zs.toArray) (List.range zs.length)
   simpa using this
  refine(Tryz.slices_Compact_int g 0 cap zs w (holds_of_blockI hb (by simpa using h4)) (by omega) h1).mono ?_
  rintro e w' ⟨rfl,q,rfl⟩;refine⟨_,rfl,?_,fun h=>(by cases h),rfl,?_⟩
  ·have:=Lib.ownsRow_putRow (q:=q) (ys:=Lib.compact zs++List.replicate (zs.length - (Lib.compact zs).length) 0) h (by simp;omega) hcl
   rw[List.take_append_of_le_length (Nat.le_refl _),List.take_length]at this;exact this
  ·refine⟨rfl,rfl,rfl,by simp[putRow,mapBlock,Sort.ahead],fun k hk hn=>?_⟩
   have hne:g≠k:=fun e=>hn (by simp[Value.ownBlock,e])
   simp[putRow,mapBlock,Sort.ahead,Array.getElem?_modify,hne]
end
open Go.RowKit
theorem upTo_any(n l:Int)(w:World):Calls prog 45 #[.int .i64 n,.int .i64 l] w fun e w'=>e=.returned (.bool (upB n l))∧w=w':=by
 unfold upB
 by_cases h:0≤n
 ·have t1:decide (0≤n)=true:=by simpa using h
  by_cases h2:n≤l
  ·have t2:decide (n≤l)=true:=by simpa using h2
   go_enter func45,ntmps45
   go_wp2
   go_ret
   exact⟨by simp[h,h2],rfl⟩
  ·have t2:decide (n≤l)=false:=by simpa using h2
   go_enter func45,ntmps45
   go_wp2
   go_ret
   exact⟨by simp,rfl⟩
 ·have t1:decide (0≤n)=false:=by simpa using h
  go_enter func45,ntmps45
  go_wp2
  go_ret
  exact⟨by simp,rfl⟩
theorem qQC{n l:Int}{b:Bool}(h:upB n l=b)(w:World):Calls prog 45 #[.int .i64 n,.int .i64 l] w fun e w'=>e=.returned (.bool b)∧w=w':=by
 rw[←h];exact upTo_any n l w
section
variable(w:World)(c:Cmd)(dv:Value)
theorem qZ2(hS:Sl w dv (c.disks.map (Value.int .i64)))(hl:c.disks.length≤9223372036854775807)(hn:c.name.size≤9223372036854775807) :
 Calls prog 37 #[qQd c dv] w fun r w'=>r=.returned (.bool c.good)∧Ext w w':=by
 obtain⟨dA,dc,rfl,hx⟩:=hS;rw[List.length_map];unfold qQd;have u0:=fun b (h:upB c.kind 14=b)=>qQC h
 go_enter func37,ntmps37
 go_wp2_with fail
 have hB:=At.new w 76 #[.int .i64 c.kind,.int .i64 c.client,.int .i64 c.seq,.string c.name,.int .u64 (c.blob:Int),.int .i64 c.size,.int .u32 (c.sum:Int),.slice dA c.disks.length dc,.int .i64 c.pool,.int .i64 c.vol,.int .i64 c.at_];have hE:=(Er w).alloc (.cells #[.int .i64 c.kind,.int .i64 c.client,.int .i64 c.seq,.string c.name,.int .u64 (c.blob:Int),.int .i64 c.size,.int .u32 (c.sum:Int),.slice dA c.disks.length dc,.int .i64 c.pool,.int .i64 c.vol,.int .i64 c.at_] 76);generalize w.alloc (.cells #[.int .i64 c.kind,.int .i64 c.client,.int .i64 c.seq,.string c.name,.int .u64 (c.blob:Int),.int .i64 c.size,.int .u32 (c.sum:Int),.slice dA c.disks.length dc,.int .i64 c.pool,.int .i64 c.vol,.int .i64 c.at_] 76)=W at hB hE⊢;generalize w.heap.size=b at hB⊢;have c0:=hB.cell 0;have c1:=hB.cell 1;have c2:=hB.cell 2;have c3:=hB.cell 3;have c5:=hB.cell 5;have c7:=hB.cell 7;have c8:=hB.cell 8;have c9:=hB.cell 9;have c10:=hB.cell 10;simp at c0 c1 c2 c3 c5 c7 c8 c9 c10;cases hk:upB c.kind 14
 ·have hfin:c.good=false:=by simp only[Cmd.good,hk,Bool.false_and]
  have HF:=Hh hfin;clear hfin;refine(qQC hk _).mono ?_
  rintro e w' ⟨rfl,rfl⟩;go_wp2_with fail
  go_ret
  rw[HF.out];exact⟨rfl,hE⟩
 ·cases hk0:(c.kind == 0)
  ·have hkn:(c.kind != 0)=true:=by rw[bne,hk0];rfl
   refine(qQC hk _).mono ?_
   rintro e w' ⟨rfl,rfl⟩;go_wp2_with fail
   go_loop [17] (fun iv=>∃k:Nat,k≤c.disks.length∧iv=.int .i64 (k:Int)∧∀j,j<k→qZn c.disks j=true) (fun iv=>c.disks.length - (intOf iv).toNat)
   case atStart=>exact⟨0,Nat.zero_le _,rfl,fun j hj=>by omega⟩
   case round =>
    obtain⟨k,hkl,rfl,hok⟩:=hrel
    by_cases hlt:k<c.disks.length
    ·obtain⟨bd,od,rfl,hcell⟩:=hx (by intro e;rw[List.map_eq_nil_iff]at e;rw[e]at hlt;simp at hlt);have r0:W.cell? ⟨bd,od+k,none⟩=some (.int .i64 c.disks[k]):=(Ext.cell (p:=⟨bd,od+k,none⟩) hE (qQv (hcell k _ (by rw[List.getElem?_map,List.getElem?_eq_getElem hlt];rfl)))).trans (hcell k _ (by rw[List.getElem?_map,List.getElem?_eq_getElem hlt];rfl));have hgk:c.disks.getD k 0=c.disks[k]:=by rw[List.getD_eq_getElem?_getD,List.getElem?_eq_getElem hlt];rfl
     have hso:qZn c.disks k=(upB c.disks[k] 5&&(k == 0||decide (c.disks.getD (k - 1) 0<c.disks[k]))):=by unfold qZn;rw[hgk]
     have hbad:qZn c.disks k=false→c.good=false:=fun h=>by
      have:qZE c.disks=false:=by
       unfold qZE;rw[List.all_eq_false];exact⟨k,List.mem_range.2 hlt,by rw[h];simp⟩
      simp only[Cmd.good,this,Bool.and_false,Bool.false_and]
     have hr1:0<k→W.cell? ⟨bd,od+(k - 1),none⟩=some (.int .i64 (c.disks.getD (k - 1) 0)):=fun h=>by
      have hl':k - 1<c.disks.length:=by omega
      have hg:c.disks.getD (k - 1) 0=c.disks[k - 1]:=by rw[List.getD_eq_getElem?_getD,List.getElem?_eq_getElem hl'];rfl
      rw[hg];exact(Ext.cell (p:=⟨bd,od+(k - 1),none⟩) hE (qQv (hcell (k - 1) _ (by rw[List.getElem?_map,List.getElem?_eq_getElem hl'];rfl)))).trans (hcell (k - 1) _ (by rw[List.getElem?_map,List.getElem?_eq_getElem hl'];rfl))
     clear hcell hx hgk;generalize c.disks[k]=dk at r0 hso;generalize c.disks.getD (k - 1) 0=dp at hso hr1;cases hu:upB dk 5
     ·have hfin:=hbad (by rw[hso,hu];rfl);have HF:=Hh hfin;clear hfin hso hbad hr1 hok;go_wp2_with fail
      refine(qQC hu _).mono ?_
      rintro e w' ⟨rfl,rfl⟩;go_wp2_with fail
      go_ret
      rw[HF.out];exact⟨rfl,hE⟩
     ·by_cases hk00:k=0
      ·have hstep:qZn c.disks k=true:=by rw[hso,hu,hk00];rfl
       have hok':∀j,j<k+1→qZn c.disks j=true:=fun j hj=>by
        by_cases e:j=k
        ·rw[e];exact hstep
        ·exact hok j (by omega)
       have HK:=Hh hok';have hkz:(k:Int)≤0:=by omega
       have t0:decide ((0:Int)<(k:Int))=false:=by simp;omega
       clear hso hbad hr1 hok hok' hstep hk00;go_wp2_with fail
       refine(qQC hu _).mono ?_
       rintro e w' ⟨rfl,rfl⟩;go_wp2_with fail
       go_round
       case rel=>exact⟨k+1,by omega,by go_num,HK.out⟩
       case measure=>simp[intOf];omega
      ·have hkp:(1:Int)≤(k:Int):=by omega
       have t0:decide ((0:Int)<(k:Int))=true:=by simp;omega
       have r1:=hr1 (by omega);have ek:((k - 1:Nat):Int)=(k:Int) - 1:=by omega
       have ekn:((k:Int) - 1).toNat=k - 1:=by omega
       by_cases hlt2:dp<dk
       ·have hstep:qZn c.disks k=true:=by rw[hso,hu];simp[hlt2]
        have hok':∀j,j<k+1→qZn c.disks j=true:=fun j hj=>by
         by_cases e:j=k
         ·rw[e];exact hstep
         ·exact hok j (by omega)
        have HK:=Hh hok';have t1:decide (dk≤dp)=false:=by simp;omega
        clear hso hbad hr1 hok hok' hstep hk00;go_wp2_with fail
        refine(qQC hu _).mono ?_
        rintro e w' ⟨rfl,rfl⟩;go_wp2_with fail
        go_round
        case rel=>exact⟨k+1,by omega,by go_num,HK.out⟩
        case measure=>simp[intOf];omega
       ·have hfin:=hbad (by rw[hso,hu];simp[hlt2,hk00]);have HF:=Hh hfin;have t1:decide (dk≤dp)=true:=by simp;omega
        clear hfin hso hbad hr1 hok hk00;go_wp2_with fail
        refine(qQC hu _).mono ?_
        rintro e w' ⟨rfl,rfl⟩;go_wp2_with fail
        go_ret
        rw[HF.out];exact⟨rfl,hE⟩
    ·have hge:c.disks.length≤k:=by omega
     have hr:qZE c.disks=true:=by
      unfold qZE;rw[List.all_eq_true];exact fun j hj=>hok j (by have:=List.mem_range.1 hj;omega)
     clear hok hlt hx;cases hclient:upB c.client 1073741824
     ·have hfin:c.good=false:=by
       simp only[Cmd.good,hclient,Bool.false_and,Bool.and_false]
      have HF:=Hh hfin;clear hfin;go_wp2_with fail
      refine(qQC hclient _).mono ?_
      rintro e w' ⟨rfl,rfl⟩;go_wp2_with fail
      go_ret
      rw[HF.out];exact⟨rfl,hE⟩
     ·cases hseq:upB c.seq 1073741824
      ·have hfin:c.good=false:=by
        simp only[Cmd.good,hseq,Bool.false_and,Bool.and_false]
       have HF:=Hh hfin;clear hfin;go_wp2_with fail
       refine(qQC hclient _).mono ?_
       rintro e w' ⟨rfl,rfl⟩;go_wp2_with fail
       refine(qQC hseq _).mono ?_
       rintro e w' ⟨rfl,rfl⟩;go_wp2_with fail
       go_ret
       rw[HF.out];exact⟨rfl,hE⟩
      ·cases hname:decide (c.name.size≤32)
       ·have t32:decide ((c.name.size:Int)≤32)=false:=by simp at hname⊢;omega
        have hfin:c.good=false:=by
         simp only[Cmd.good,hname,Bool.false_and,Bool.and_false]
        have HF:=Hh hfin;clear hfin;go_wp2_with fail
        refine(qQC hclient _).mono ?_
        rintro e w' ⟨rfl,rfl⟩;go_wp2_with fail
        refine(qQC hseq _).mono ?_
        rintro e w' ⟨rfl,rfl⟩;go_wp2_with fail
        go_ret
        rw[HF.out];exact⟨rfl,hE⟩
       ·have t32:decide ((c.name.size:Int)≤32)=true:=by simp at hname⊢;omega
        cases hsize:upB c.size 4000
        ·have hfin:c.good=false:=by
          simp only[Cmd.good,hsize,Bool.false_and,Bool.and_false]
         have HF:=Hh hfin;clear hfin;go_wp2_with fail
         refine(qQC hclient _).mono ?_
         rintro e w' ⟨rfl,rfl⟩;go_wp2_with fail
         refine(qQC hseq _).mono ?_
         rintro e w' ⟨rfl,rfl⟩;go_wp2_with fail
         refine(qQC hsize _).mono ?_
         rintro e w' ⟨rfl,rfl⟩;go_wp2_with fail
         go_ret
         rw[HF.out];exact⟨rfl,hE⟩
        ·cases hpool:upB c.pool 1
         ·have hfin:c.good=false:=by
           simp only[Cmd.good,hpool,Bool.false_and,Bool.and_false]
          have HF:=Hh hfin;clear hfin;go_wp2_with fail
          refine(qQC hclient _).mono ?_
          rintro e w' ⟨rfl,rfl⟩;go_wp2_with fail
          refine(qQC hseq _).mono ?_
          rintro e w' ⟨rfl,rfl⟩;go_wp2_with fail
          refine(qQC hsize _).mono ?_
          rintro e w' ⟨rfl,rfl⟩;go_wp2_with fail
          refine(qQC hpool _).mono ?_
          rintro e w' ⟨rfl,rfl⟩;go_wp2_with fail
          go_ret
          rw[HF.out];exact⟨rfl,hE⟩
         ·cases hvol:upB c.vol 11
          ·have hfin:c.good=false:=by
            simp only[Cmd.good,hvol,Bool.false_and,Bool.and_false]
           have HF:=Hh hfin;clear hfin;go_wp2_with fail
           refine(qQC hclient _).mono ?_
           rintro e w' ⟨rfl,rfl⟩;go_wp2_with fail
           refine(qQC hseq _).mono ?_
           rintro e w' ⟨rfl,rfl⟩;go_wp2_with fail
           refine(qQC hsize _).mono ?_
           rintro e w' ⟨rfl,rfl⟩;go_wp2_with fail
           refine(qQC hpool _).mono ?_
           rintro e w' ⟨rfl,rfl⟩;go_wp2_with fail
           refine(qQC hvol _).mono ?_
           rintro e w' ⟨rfl,rfl⟩;go_wp2_with fail
           go_ret
           rw[HF.out];exact⟨rfl,hE⟩
          ·cases hat:upB c.at_ 1073741824
           ·have hfin:c.good=false:=by
             simp only[Cmd.good,hat,Bool.and_false]
            have HF:=Hh hfin;clear hfin;go_wp2_with fail
            refine(qQC hclient _).mono ?_
            rintro e w' ⟨rfl,rfl⟩;go_wp2_with fail
            refine(qQC hseq _).mono ?_
            rintro e w' ⟨rfl,rfl⟩;go_wp2_with fail
            refine(qQC hsize _).mono ?_
            rintro e w' ⟨rfl,rfl⟩;go_wp2_with fail
            refine(qQC hpool _).mono ?_
            rintro e w' ⟨rfl,rfl⟩;go_wp2_with fail
            refine(qQC hvol _).mono ?_
            rintro e w' ⟨rfl,rfl⟩;go_wp2_with fail
            refine(qQC hat _).mono ?_
            rintro e w' ⟨rfl,rfl⟩;go_wp2_with fail
            go_ret
            rw[HF.out];exact⟨rfl,hE⟩
           ·have hfin:c.good=true:=by
             simp only[Cmd.good,hk,hkn,hr,hclient,hseq,hname,hsize,hpool,hvol,hat,Bool.and_true]
            have HF:=Hh hfin;clear hfin;go_wp2_with fail
            refine(qQC hclient _).mono ?_
            rintro e w' ⟨rfl,rfl⟩;go_wp2_with fail
            refine(qQC hseq _).mono ?_
            rintro e w' ⟨rfl,rfl⟩;go_wp2_with fail
            refine(qQC hsize _).mono ?_
            rintro e w' ⟨rfl,rfl⟩;go_wp2_with fail
            refine(qQC hpool _).mono ?_
            rintro e w' ⟨rfl,rfl⟩;go_wp2_with fail
            refine(qQC hvol _).mono ?_
            rintro e w' ⟨rfl,rfl⟩;go_wp2_with fail
            refine(qQC hat _).mono ?_
            rintro e w' ⟨rfl,rfl⟩;go_wp2_with fail
            go_ret
            rw[HF.out];exact⟨rfl,hE⟩
  ·have hkn:(c.kind != 0)=false:=by rw[bne,hk0];rfl
   have hfin:c.good=false:=by simp only[Cmd.good,hkn,Bool.false_and,Bool.and_false]
   have HF:=Hh hfin;clear hfin;refine(qQC hk _).mono ?_
   rintro e w' ⟨rfl,rfl⟩;go_wp2_with fail
   go_ret
   rw[HF.out];exact⟨rfl,hE⟩
end
open Go.RowKit
def diskOf(l:List Int):List Int:=Lib.compact (qXt (l.filter fun d=>upB d 5))
theorem disk_any(w:World)(lv:Value)(l:List Int)(hS:Sl w lv (l.map (Value.int .i64)))(hl:l.length≤17592186043904) :
 Calls prog 17 #[lv] w fun e w'=>∃v,e=.returned v∧w'.ownsRow w.heap.size 3 1 v (diskOf l).length ((diskOf l).map (Value.int .i64))∧Ext w w':=by
 obtain⟨A,c,rfl,hx⟩:=hS;rw[List.length_map];have hl0:(l.length:Int)≤17592186043904:=by omega
 obtain⟨i0,hi,hz0,hz1,hz2⟩:=info_parts qZx
 go_enter func17,ntmps17
 go_wp2_with fail
 go_loopw [3,8] (fun rv iv wr=>∃(k:Nat) (r:List Int),k≤l.length∧iv=.int .i64 (k:Int)∧r=(l.take k).filter (fun d=>upB d 5)∧r.length≤k∧wr.ownsRow w.heap.size 3 1 rv r.length (r.map (Value.int .i64))∧Ext w wr) (fun _ iv _=>l.length - (intOf iv).toNat)
 case atStart=>exact⟨0,[],Nat.zero_le _,rfl,rfl,Nat.le_refl _,⟨rfl,.inl ⟨rfl,rfl⟩⟩,Er _⟩
 case round =>
  obtain⟨k,r,hk,rfl,hr,hrk,hown,hE⟩:=hrel
  by_cases hlt:k<l.length
  ·obtain⟨b,o,rfl,hcell⟩:=hx (by intro e;rw[List.map_eq_nil_iff]at e;rw[e]at hlt;simp at hlt);have hc0:=hcell k _ (by rw[List.getElem?_map,List.getElem?_eq_getElem hlt];rfl);have r0:wr.cell? ⟨b,o+k,none⟩=some (.int .i64 l[k]):=(Ext.cell (p:=⟨b,o+k,none⟩) hE (qQv hc0)).trans hc0
   have htk:(l.take (k+1)).filter (fun d=>upB d 5)=r++(if upB l[k] 5 then [l[k]]else []):=by
    rw[List.take_succ_eq_append_getElem hlt,List.filter_append,←hr]
    congr 1
    simp only[List.filter_cons,List.filter_nil]
   clear hcell hx hc0;generalize l[k]=x at r0 htk;clear hr;cases hu:upB x 5
   ·rw[hu]at htk;have HT:=Hh htk;clear htk;go_wp2_with fail
    refine(qQC hu _).mono ?_
    rintro e w' ⟨rfl,rfl⟩;go_wp2_with fail
    go_roundw
    case rel=>exact⟨k+1,r,by omega,by go_num,by rw[HT.out];simp,by omega,hown,hE⟩
    case measure=>simp[intOf];omega
   ·rw[hu]at htk;have HT:=Hh htk;clear htk;have hsz:=hE.size;go_wp2_with fail
    refine(qQC hu _).mono ?_
    rintro e w' ⟨rfl,rfl⟩
    go_wp2_with (at_builtin;refine wpList_append_own _ rfl _ _ 24 rfl w.heap.size 3 i0 (.int .i64 0) 1 8 underlying24 hi hz0 hz1 hz2 rfl (by decide) _ _ _ rfl (hown.alloc _) ⟨wr.heap.size,0,none⟩ 1 1 [.int .i64 x] rfl rfl ?c1 ?c2 ?c3 ?c4 ?c5 ?_)
    case c1=>exact qXh
    case c2=>simp[Value.oneCell']
    case c3=>unfold maxLen;omega
    case c4=>omega
    case c5=>simp;omega
    intro v1 w1 hown1 hgrow1 _;have hge:=qZV (hown.alloc (.cells #[.int .i64 x] 3));have hE1:Ext w w1:=Chg.mono ((hE.alloc _).chg_trans (Chg.of_grown hgrow1)) fun j hj h=>by have:=hge j h;omega
    clear hgrow1 hge
    go_wp2
    go_roundw
    case rel=>exact⟨k+1,r++[x],by omega,by go_num,by rw[HT.out];simp,by simp;omega,by simpa using hown1,hE1⟩
    case measure=>simp[intOf];omega
  ·have hge:l.length≤k:=by omega
   rw[List.take_of_length_le (by omega)]at hr;have HR:=Hh hr;clear hr hx;go_wp2_with fail
   refine(qJy hown (by omega)).mono ?_
   rintro e w1 ⟨rfl,hown1,hC1⟩;have hgb:=qZV hown;have hE1:Ext w w1:=Chg.mono (hE.chg_trans hC1) fun j hj h=>by have:=hgb j h;omega
   go_wp2_with fail
   refine(compact_own hown1 (by omega)).mono ?_
   rintro e w2 ⟨v',rfl,hown2,_,_,hC2⟩;have hE2:Ext w w2:=Chg.mono (hE1.chg_trans hC2) fun j hj h=>by have:=hgb j h;omega
   go_wp2_with fail
   go_ret
   rw[HR.out]at hown2;exact⟨_,rfl,hown2,hE2⟩
theorem qXv{zs:List Int}{i:Nat}(h:i<zs.length):zs.toArray[i]! = zs[i]:=by
 simp[getElem!_pos,h]
theorem compact_mem(zs:List Int)(x:Int):x∈Lib.compact zs↔x∈zs:=by
 unfold Lib.compact Lib.compactUpTo;rw[List.mem_map]
 constructor
 ·rintro⟨i,hi,rfl⟩
  have hl:i<zs.length:=List.mem_range.1 (List.mem_filter.1 hi).1;rw[qXv hl];exact List.getElem_mem hl
 ·intro hx;obtain⟨i,hi,rfl⟩:=List.mem_iff_getElem.1 hx
  have key:∀n i (hi:i<zs.length),i≤n→∃j,∃hj:j<zs.length,zs[j]=zs[i]∧(j=0∨∃h:j - 1<zs.length,zs[j - 1]≠zs[j]):=by
   intro n
   induction n with
   | zero=>exact fun i hi h=>⟨i,hi,rfl,.inl (by omega)⟩
   | succ n ih =>
    intro i hi h
    by_cases h0:i=0
    ·exact⟨i,hi,rfl,.inl h0⟩
    ·by_cases he:zs[i - 1]=zs[i]
     ·obtain⟨j,hj,e,hh⟩:=ih (i - 1) (by omega) (by omega);exact⟨j,hj,e.trans he,hh⟩
     ·exact⟨i,hi,rfl,.inr ⟨by omega,he⟩⟩
  obtain⟨j,hj,e,hh⟩:=key i i hi (Nat.le_refl _);refine⟨j,List.mem_filter.2 ⟨List.mem_range.2 hj,?_⟩,by rw[qXv hj,e]⟩
  unfold Lib.keeps;rw[decide_eq_true_eq];rcases hh with h|⟨h,hne⟩
  ·exact .inl h
  ·right
   rw[qXv hj,qXv h];exact fun e=>hne e.symm
theorem compact_rises{zs:List Int}(h:zs.Pairwise (· ≤ ·)):(Lib.compact zs).Pairwise (· < ·):=by
 unfold Lib.compact Lib.compactUpTo;rw[List.pairwise_map];have hr:((List.range zs.length).filter (Lib.keeps zs.toArray)).Pairwise (· < ·):=List.Pairwise.filter _ List.pairwise_lt_range;refine hr.imp_of_mem ?_;intro i j hi hj hij;have hil:i<zs.length:=List.mem_range.1 (List.mem_filter.1 hi).1;have hjl:j<zs.length:=List.mem_range.1 (List.mem_filter.1 hj).1;have hk:=(List.mem_filter.1 hj).2;unfold Lib.keeps at hk;rw[decide_eq_true_eq]at hk
 have hne:zs[j]≠zs[j - 1]:=by
  rcases hk with h|h
  ·omega
  ·rw[qXv hjl,qXv (by omega)]at h;exact h
 rw[qXv hil,qXv hjl];have h1:zs[j - 1]≤zs[j]:=List.pairwise_iff_getElem.1 h (j - 1) j (by omega) hjl (by omega)
 have h2:zs[i]≤zs[j - 1]:=by
  by_cases e:i=j - 1
  ·subst e;exact Int.le_refl _
  ·exact List.pairwise_iff_getElem.1 h i (j - 1) hil (by omega) (by omega)
 omega
theorem sortI_le(zs:List Int):(qXt zs).Pairwise (· ≤ ·):=by
 have:=List.pairwise_mergeSort (le:=fun(x y:Int)=>decide (x≤y)) (fun a b c h h'=>by simp only[decide_eq_true_eq]at *;omega) (fun a b=>by simp only[Bool.or_eq_true,decide_eq_true_eq];omega) zs
 exact this.imp fun h=>by simpa using h
theorem sortI_mem(zs:List Int)(x:Int):x∈qXt zs↔x∈zs:=(List.mergeSort_perm zs _).mem_iff
theorem diskOf_rises(l:List Int):(diskOf l).Pairwise (· < ·):=compact_rises (sortI_le _)
theorem diskOf_mem(l:List Int)(x:Int):x∈diskOf l↔x∈l∧upB x 5=true:=by
 unfold diskOf;rw[compact_mem,sortI_mem,List.mem_filter]
theorem rises_unique{a b:List Int}(ha:a.Pairwise (· < ·))(hb:b.Pairwise (· < ·))(h:∀x,x∈a↔x∈b):a=b:=by
 refine List.Perm.eq_of_pairwise (le:=fun x y=>x<y) (fun x y _ _ h1 h2=>by omega) ha hb ?_;exact(List.perm_ext_iff_of_nodup (ha.imp fun h=>by omega) (hb.imp fun h=>by omega)).2 h
def six:List Int:=[0,1,2,3,4,5]
theorem upB_six(x:Int):upB x 5=true↔x∈six:=by
 unfold upB six;simp only[Bool.and_eq_true,decide_eq_true_eq,List.mem_cons,List.not_mem_nil,or_false];omega
theorem diskOf_eq(l:List Int):diskOf l=six.filter fun x=>decide (x∈l):=by
 refine rises_unique (diskOf_rises l) (List.Pairwise.filter _ (by unfold six;decide)) fun x=>?_
 rw[diskOf_mem,List.mem_filter,upB_six,decide_eq_true_eq];exact and_comm
theorem risesB_iff(ds:List Int):qZE ds=true↔ds.Pairwise (· < ·)∧∀d∈ds,upB d 5=true:=by
 unfold qZE;rw[List.all_eq_true]
 constructor
 ·intro h;have hs:∀k,k<ds.length→qZn ds k=true:=fun k hk=>h k (List.mem_range.2 hk)
  have hlt:∀k (hk:k<ds.length),0<k→ds.getD (k - 1) 0<ds.getD k 0:=fun k hk h0=>by
   have:=hs k hk
   unfold qZn at this;simp only[Bool.and_eq_true,Bool.or_eq_true,beq_iff_eq,decide_eq_true_eq]at this;rcases this.2 with h|h
   ·omega
   ·exact h
  have hg:∀k (hk:k<ds.length),ds.getD k 0=ds[k]:=fun k hk=>by rw[List.getD_eq_getElem?_getD,List.getElem?_eq_getElem hk];rfl
  refine⟨List.pairwise_iff_getElem.2 fun i j hi hj hij=>?_,fun d hd=>?_⟩
  ·have key:∀n i j (hi:i<ds.length) (hj:j<ds.length),i<j→j≤i+1+n→ds[i]<ds[j]:=by
    intro n
    induction n with
    | zero =>
     intro i j hi hj h1 h2;have e:i=j - 1:=by omega
     have:=hlt j hj (by omega)
     rw[hg j hj,hg (j - 1) (by omega)]at this;simpa[e]using this
    | succ n ih =>
     intro i j hi hj h1 h2
     by_cases e:i=j - 1
     ·have:=hlt j hj (by omega)
      rw[hg j hj,hg (j - 1) (by omega)]at this;simpa[e]using this
     ·have h3:=ih i (j - 1) hi (by omega) (by omega) (by omega)
      have:=hlt j hj (by omega)
      rw[hg j hj,hg (j - 1) (by omega)]at this;omega
   exact key (j - i) i j hi hj hij (by omega)
  ·obtain⟨k,hk,rfl⟩:=List.mem_iff_getElem.1 hd
   have:=hs k hk
   unfold qZn at this;rw[hg k hk]at this;simp only[Bool.and_eq_true]at this;exact this.1
 ·rintro⟨h1,h2⟩ k hk
  have hk:=List.mem_range.1 hk;have hg:∀k (hk:k<ds.length),ds.getD k 0=ds[k]:=fun k hk=>by rw[List.getD_eq_getElem?_getD,List.getElem?_eq_getElem hk];rfl
  unfold qZn;rw[hg k hk];simp only[Bool.and_eq_true,Bool.or_eq_true,beq_iff_eq,decide_eq_true_eq];refine⟨h2 _ (List.getElem_mem hk),?_⟩
  by_cases e:k=0
  ·exact .inl e
  ·right
   rw[hg (k - 1) (by omega)];exact List.pairwise_iff_getElem.1 h1 (k - 1) k (by omega) hk (by omega)
open Go.RowKit
structure Cp where
 there:Bool
 vol:Int
 at_:Int
structure Bl where
 id:Nat
 name:ByteArray
 size:Int
 sum:Nat
 disks:List Int
 a:Cp
 b:Cp
 pins:Int
 dead:Bool
structure Vl where
 closed:Bool
 erase:Bool
 gen:Int
def Cp.none:Cp:=⟨false,0,0⟩
def Vl.zero:Vl:=⟨false,false,0⟩
structure BR where
 b:Bl
 g:Nat
 dv:Value
abbrev blCells(b:Bl)(dv:Value):Array Value:=#[.int .u64 (b.id:Int),.string b.name,.int .i64 b.size,.int .u32 (b.sum:Int),dv,.bool b.a.there,.int .i64 b.a.vol,.int .i64 b.a.at_,.bool b.b.there,.int .i64 b.b.vol,.int .i64 b.b.at_,.int .i64 b.pins,.bool b.dead]
def qQK(v:Vl):List Value:=[.bool v.closed,.bool v.erase,.int .i64 v.gen]
def ptrV(g:Nat):Value:=.pointer (some ⟨g,0,Option.none⟩)
def u64V(n:Nat):Value:=.int .u64 (n:Int)
structure Ct where
 rows:List BR
 names:List (ByteArray×Nat)
 vols:List Vl
def Ct.idx(C:Ct):List (Int×Nat):=C.rows.map fun r=>((r.b.id:Int),r.g)
theorem up_chg{w w':World}{B S:Nat→Prop}(h:∀k,w.heap.size≤k→B k)(hc:Chg S w w'):∀k,w'.heap.size≤k→B k:=fun k hk=>h k (Nat.le_trans hc.size hk)
abbrev Hi(n:Nat):Nat→Prop:=fun k=>n≤k
structure CtAt (w:World) (B:Nat→Prop) (c mb mn:Nat) (C:Ct):Prop where
 blk:At w c 96 (.map (some mb) :: .map (some mn)::(C.vols.map qQK).flatten).toArray
 bm:qQW qXp ptrV w mb C.idx
 nm:qQW qXZ u64V w mn C.names
 bl:∀r∈C.rows,At w r.g 63 (blCells r.b r.dv)∧w.ownsRow 0 3 1 r.dv r.b.disks.length (r.b.disks.map (Value.int .i64))
 inj:(C.rows.map BR.g).Nodup
 vlen:C.vols.length=12
 mne:mb≠mn
 up:∀k,w.heap.size≤k→B k
 lo:B c∧B mb∧B mn∧∀r∈C.rows,B r.g
def Ct.S(C:Ct)(c mb mn:Nat):Nat→Prop:=fun k=>k=c∨k=mb∨k=mn∨∃r∈C.rows,k=r.g
theorem qQb{w w':World}{S:Nat→Prop}{base:Nat}{e:TypeId}{size:Nat}{v:Value}{n:Nat}{xs:List Value}(h:w.ownsRow base e size v n xs)(hc:Chg S w w')(hS:∀k,some k=v.ownBlock→¬ S k):w'.ownsRow base e size v n xs:=by
 obtain⟨h1,h2⟩:=h;refine⟨h1,?_⟩
 rcases h2 with h2|⟨g,cap,cur,rfl,hb,hg,h3⟩
 ·exact .inl h2
 ·refine .inr ⟨g,cap,cur,rfl,hb,?_,h3⟩;rw[hc.block g (qQY hg) (hS g rfl)];exact hg
theorem own_kx {w w':World} {base:Nat} {e:TypeId} {size:Nat} {v:Value} {n:Nat} {xs:List Value} (ho:w.ownsRow base e size v n xs) (h:Ext w w'):w'.ownsRow base e size v n xs:=qQb ho h (fun _ _ hh=>hh)
theorem CtAt.ext{w w':World}{B:Nat→Prop}{c mb mn:Nat}{C:Ct}(h:CtAt w B c mb mn C)(he:Ext w w'):CtAt w' B c mb mn C where
 blk:=h.blk.ext he
 bm:=h.bm.ext he
 nm:=h.nm.ext he
 bl:=fun r hr=>⟨(h.bl r hr).1.ext he,qQb (h.bl r hr).2 he (fun _ _ hh=>hh)⟩
 inj:=h.inj
 vlen:=h.vlen
 mne:=h.mne
 up:=up_chg h.up he
 lo:=h.lo
theorem qXa:prog.underlying 92=some (.map 47 99):=underlying92
theorem map_names:prog.underlying 93=some (.map 9 47):=underlying93
theorem zero_ptr(w:World):(zeroValue 99).run prog w=.ok (.pointer none) w:=by kernel_rfl
theorem zero_u64(w:World):(zeroValue 47).run prog w=.ok (.int .u64 0) w:=by kernel_rfl
def Ct.find(C:Ct)(id:Nat):Option BR:=C.rows.find? fun r=>decide (r.b.id=id)
theorem idx_find(C:Ct)(id:Nat):lget (id:Int) C.idx=(C.find id).map BR.g:=by
 unfold Ct.idx Ct.find lget;rw[List.find?_map,Option.map_map]
 have e:((fun p:Int×Nat=>decide (p.1=(id:Int))) ∘ fun r:BR=>((r.b.id:Int),r.g))=fun r=>decide (r.b.id=id):=by
  funext r
  simp only[Function.comp];rw[Bool.eq_iff_iff];simp;omega
 rw[e];cases C.rows.find? fun r=>decide (r.b.id=id) <;> rfl
theorem qZJ{C:Ct}{id:Nat}{r:BR}(h:C.find id=some r):r∈C.rows∧r.b.id=id:=by
 unfold Ct.find at h;exact⟨List.mem_of_find?_eq_some h,by simpa using List.find?_some h⟩
def ptrO(r:Option BR):Value:=match r with
 | some r=>.pointer (some ⟨r.g,0,none⟩)
 | none=>.pointer none
theorem CtAt.look{w:World}{B:Nat→Prop}{c mb mn:Nat}{C:Ct}(h:CtAt w B c mb mn C)(id:Nat) :
 (Instr.lookup 92 (.map (some mb)) (.int .u64 (id:Int)) false).run prog w=.ok (ptrO (C.find id)) w:=by
 have:=h.bm.lookup (K:=qXp) qXa underlying47 zero_ptr (id:Int)
 rw[idx_find]at this;rw[show(Instr.lookup 92 (.map (some mb)) (.int .u64 (id:Int)) false)=(Instr.lookup 92 (.map (some mb)) (qXp.val (id:Int)) false)from rfl,this];cases C.find id <;> rfl
theorem CtAt.lookName{w:World}{B:Nat→Prop}{c mb mn:Nat}{C:Ct}(h:CtAt w B c mb mn C)(n:ByteArray) :
 (Instr.lookup 93 (.map (some mn)) (.string n) true).run prog w=.ok (.tuple #[.int .u64 (((lget n C.names).getD 0:Nat):Int),.bool (lget n C.names).isSome]) w:=by
 have:=h.nm.lookup_ok (K:=qXZ) map_names underlying9 zero_u64 n
 rw[show(Instr.lookup 93 (.map (some mn)) (.string n) true)=(Instr.lookup 93 (.map (some mn)) (qXZ.val n) true)from rfl,this];cases lget n C.names <;> rfl
theorem S_lo{w:World}{B:Nat→Prop}{c mb mn:Nat}{C:Ct}(h:CtAt w B c mb mn C):∀k,C.S c mb mn k→B k:=by
 rintro k (rfl|rfl|rfl|⟨r,hr,rfl⟩)
 ·exact h.lo.1
 ·exact h.lo.2.1
 ·exact h.lo.2.2.1
 ·exact h.lo.2.2.2 r hr
theorem S_not{w:World}{B:Nat→Prop}{c mb mn:Nat}{C:Ct}{g:Nat}{t:TypeId}{cs:Array Value}(h:CtAt w B c mb mn C)(hA:At w g t cs)(h1:96≠t)(h2:63≠t):¬ C.S c mb mn g:=by
 rintro(e|e|e|⟨r,hr,e⟩)
 ·exact At.ne h.blk hA h1 e.symm
 ·exact h.bm.ne_at hA e.symm
 ·exact h.nm.ne_at hA e.symm
 ·exact At.ne (h.bl r hr).1 hA h2 e.symm
def Ct.upd(C:Ct)(g:Nat)(b:Bl)(dv:Value):Ct := { C with rows:=C.rows.map fun r=>if r.g=g then⟨b,g,dv⟩else r }
theorem qQf{w:World}{base:Nat}{e t:TypeId}{size:Nat}{v:Value}{n:Nat}{xs:List Value}{g:Nat}{cs:Array Value}(h:w.ownsRow base e size v n xs)(ha:At w g t cs)(hne:e≠t):∀k,some k=v.ownBlock→k≠g:=by
 intro k hk;rcases h.2 with⟨rfl,_⟩|⟨g',cap,cur,rfl,hb,hg,_⟩
 ·cases hk
 ·cases hk
  exact At.ne (t:=e) (cs:=cur) hg ha hne
theorem qZ3{α β : Type}{f : α → β} : ∀ {l:List α},(l.map f).Nodup→∀ {x y : α},x∈l→y∈l→f x=f y→x=y
 | [],_,_,_,h,_,_=>by cases h
 | a::l,hn,x,y,hx,hy,he=>by
  rw[List.map_cons,List.nodup_cons]at hn;rcases List.mem_cons.1 hx with h1|h1 <;> rcases List.mem_cons.1 hy with h2|h2
  ·rw[h1,h2]
  ·exact absurd (List.mem_map.2 ⟨y,h2,by rw[←he,h1]⟩) hn.1
  ·exact absurd (List.mem_map.2 ⟨x,h1,by rw[he,h2]⟩) hn.1
  ·exact qZ3 hn.2 h1 h2 he
theorem upd_idx{C:Ct}{r:BR}{b:Bl}{dv:Value}(hr:r∈C.rows)(hi:(C.rows.map BR.g).Nodup)(hid:b.id=r.b.id):(C.upd r.g b dv).idx=C.idx:=by
 unfold Ct.idx Ct.upd;simp only;rw[List.map_map];refine List.map_congr_left fun q hq=>?_
 simp only[Function.comp];split
 ·rename_i h
  have:=qZ3 hi hq hr h
  rw[this,hid]
 ·rfl
theorem upd_g(C:Ct)(g:Nat)(b:Bl)(dv:Value):(C.upd g b dv).rows.map BR.g=C.rows.map BR.g:=by
 unfold Ct.upd;simp only;rw[List.map_map];refine List.map_congr_left fun q _=>?_
 simp only[Function.comp];split
 ·rename_i h;exact h.symm
 ·rfl
theorem CtAt.chgBlob{w w':World}{B:Nat→Prop}{c mb mn:Nat}{C:Ct}{r:BR}{b:Bl}{dv:Value}(h:CtAt w B c mb mn C)(hr:r∈C.rows)(hid:b.id=r.b.id)(hC:Chg (· = r.g) w w')
 (hB:At w' r.g 63 (blCells b dv)) (hO:w'.ownsRow 0 3 1 dv b.disks.length (b.disks.map (Value.int .i64))):CtAt w' B c mb mn (C.upd r.g b dv):=by
 have hg:=(h.bl r hr).1;refine⟨?_,?_,?_,?_,?_,h.vlen,h.mne,up_chg h.up hC,h.lo.1,h.lo.2.1,h.lo.2.2.1,fun q hq=>?_⟩
 rotate_left 5
 ·obtain⟨q0,hq0,rfl⟩:=List.mem_map.1 hq;split
  ·exact h.lo.2.2.2 r hr
  ·exact h.lo.2.2.2 q0 hq0
 ·exact h.blk.chg hC (fun e=>by
   have h':c=r.g:=e;exact At.ne h.blk hg (by decide) h')
 ·rw[upd_idx hr h.inj hid];exact h.bm.chg hC (fun e=>h.bm.ne_at hg e)
 ·exact h.nm.chg hC (fun e=>h.nm.ne_at hg e)
 ·intro q hq;obtain⟨q0,hq0,rfl⟩:=List.mem_map.1 hq
  by_cases e:q0.g=r.g
  ·rw[if_pos e];exact⟨hB,hO⟩
  ·rw[if_neg e];have hb:=h.bl q0 hq0;exact⟨hb.1.chg hC (fun e'=>e e'),qQb hb.2 hC (fun k hk e'=>qQf hb.2 hg (by decide) k hk e')⟩
 ·rw[upd_g];exact h.inj
theorem CtAt.far{w w':World}{B:Nat→Prop}{c mb mn:Nat}{C:Ct}{g:Nat}{t:TypeId}{cs:Array Value}(h:CtAt w B c mb mn C)(hC:Chg (· = g) w w')(hA:At w g t cs)(h1:96≠t)(h2:63≠t)(h3:3≠t):CtAt w' B c mb mn C where
 blk:=h.blk.chg hC (fun e=>At.ne h.blk hA h1 e)
 bm:=h.bm.chg hC (fun e=>h.bm.ne_at hA e)
 nm:=h.nm.chg hC (fun e=>h.nm.ne_at hA e)
 bl:=fun r hr=>⟨(h.bl r hr).1.chg hC (fun e=>At.ne (h.bl r hr).1 hA h2 e),qQb (h.bl r hr).2 hC (fun k hk e=>qQf (h.bl r hr).2 hA h3 k hk e)⟩
 inj:=h.inj
 vlen:=h.vlen
 mne:=h.mne
 up:=up_chg h.up hC
 lo:=h.lo
theorem own_map{w:World}{base:Nat}{e:TypeId}{size:Nat}{v:Value}{n:Nat}{xs:List Value}{κ ν : Type}{K:KeyWay κ}{vv : ν → Value}{m:Nat}{L:List (κ × ν)}(h:w.ownsRow base e size v n xs)(hm:qQW K vv w m L):∀k,some k=v.ownBlock→k≠m:=by
 intro k hk e';rcases h.2 with⟨rfl,_⟩|⟨g',cap,cur,rfl,hb,hg,_⟩
 ·cases hk
 ·cases hk
  have hA:At w g' e cur:=hg;exact hm.ne_at hA e'.symm
def Ct.setNames(C:Ct)(L:List (ByteArray×Nat)):Ct := { C with names:=L }
theorem CtAt.chgNames{w w':World}{B:Nat→Prop}{c mb mn:Nat}{C:Ct}{L:List (ByteArray×Nat)}(h:CtAt w B c mb mn C)(hC:Chg (· = mn) w w')(hM:qQW qXZ u64V w' mn L):CtAt w' B c mb mn (C.setNames L):=by
 refine⟨?_,?_,hM,?_,h.inj,h.vlen,h.mne,up_chg h.up hC,h.lo⟩
 ·exact h.blk.chg hC (fun e=>h.nm.ne_at h.blk e.symm)
 ·exact h.bm.chg hC (fun e=>h.mne e)
 ·intro q hq;have hb:=h.bl q hq;exact⟨hb.1.chg hC (fun e=>h.nm.ne_at hb.1 e.symm),qQb hb.2 hC (fun k hk e=>own_map hb.2 h.nm k hk e)⟩
def Ct.setRows(C:Ct)(R:List BR):Ct := { C with rows:=R }
theorem CtAt.chgRows{w w':World}{B:Nat→Prop}{c mb mn:Nat}{C:Ct}{R:List BR}(h:CtAt w B c mb mn C)(hC:Chg (· = mb) w w')(hM:qQW qXp ptrV w' mb (C.setRows R).idx)
 (hR:∀q∈R,At w q.g 63 (blCells q.b q.dv)∧w.ownsRow 0 3 1 q.dv q.b.disks.length (q.b.disks.map (Value.int .i64))) (hi:(R.map BR.g).Nodup) (hlo:∀r∈R,B r.g):CtAt w' B c mb mn (C.setRows R):=by
 refine⟨?_,hM,?_,?_,hi,h.vlen,h.mne,up_chg h.up hC,h.lo.1,h.lo.2.1,h.lo.2.2.1,hlo⟩
 ·exact h.blk.chg hC (fun e=>h.bm.ne_at h.blk e.symm)
 ·exact h.nm.chg hC (fun e=>h.mne e.symm)
 ·intro q hq;have hb:=hR q hq;exact⟨hb.1.chg hC (fun e=>h.bm.ne_at hb.1 e.symm),qQb hb.2 hC (fun k hk e=>own_map hb.2 h.bm k hk e)⟩
def Ct.add(C:Ct)(b:Bl)(g:Nat)(dv:Value):Ct:=C.setRows (⟨b,g,dv⟩::C.rows.filter fun r=>decide (r.b.id≠b.id))
def Ct.del(C:Ct)(id:Nat):Ct:=C.setRows (C.rows.filter fun r=>decide (r.b.id≠id))
theorem idx_del(C:Ct)(id:Nat):(C.del id).idx=qX0 (id:Int) C.idx:=by
 unfold Ct.idx Ct.del Ct.setRows qX0;simp only;rw[List.filter_map]
 congr 1
 refine List.filter_congr fun q _=>?_
 simp only[Function.comp];rw[Bool.eq_iff_iff];simp;omega
theorem idx_add(C:Ct)(b:Bl)(g:Nat)(dv:Value):(C.add b g dv).idx=((b.id:Int),g)::qX0 (b.id:Int) C.idx:=by
 rw[←idx_del];rfl
theorem CtAt.addRow{w:World}{B:Nat→Prop}{c mb mn:Nat}{C:Ct}(h:CtAt w B c mb mn C){b:Bl}{g:Nat}{dv:Value}(hB:At w g 63 (blCells b dv))(hO:w.ownsRow 0 3 1 dv b.disks.length (b.disks.map (Value.int .i64)))(hg:∀r∈C.rows,r.g≠g)(hgb:B g) :
 ∃w',(Instr.mapUpdate 92 (.map (some mb)) (.int .u64 (b.id:Int)) (.pointer (some ⟨g,0,none⟩))).run prog w=.ok () w'∧CtAt w' B c mb mn (C.add b g dv)∧Chg (· = mb) w w':=by
 obtain⟨w',h1,h2,h3⟩:=h.bm.update (K:=qXp) qXa underlying47 (b.id:Int) g;refine⟨w',h1,?_,h3⟩
 refine h.chgRows h3 (by rw[←idx_add (dv:=dv)]at h2;exact h2) (fun q hq=>?_) ?_ (fun q hq=>?_)
 rotate_left 2
 ·rcases List.mem_cons.1 hq with rfl|hq
  ·exact hgb
  ·exact h.lo.2.2.2 q (List.mem_filter.1 hq).1
 ·rcases List.mem_cons.1 hq with rfl|hq
  ·exact⟨hB,hO⟩
  ·exact h.bl q (List.mem_filter.1 hq).1
 ·rw[List.map_cons,List.nodup_cons];refine⟨fun hm=>?_,?_⟩
  ·obtain⟨r,hr,e⟩:=List.mem_map.1 hm;exact hg r (List.mem_filter.1 hr).1 e
  ·exact h.inj.sublist ((List.filter_sublist).map _)
theorem CtAt.delRow{w:World}{B:Nat→Prop}{c mb mn:Nat}{C:Ct}(h:CtAt w B c mb mn C)(id:Nat) :
 ∃w',(∀ty,(Builtin.delete_ #[92,47] ty #[.map (some mb),.int .u64 (id:Int)]).run prog w=.ok (.tuple #[]) w')∧CtAt w' B c mb mn (C.del id)∧Chg (· = mb) w w':=by
 obtain⟨w',h1,h2,h3⟩:=h.bm.delete (K:=qXp) qXa underlying47 (id:Int);refine⟨w',h1,?_,h3⟩
 exact h.chgRows h3 (by rw[←idx_del]at h2;exact h2) (fun q hq=>h.bl q (List.mem_filter.1 hq).1) (h.inj.sublist ((List.filter_sublist).map _)) (fun q hq=>h.lo.2.2.2 q (List.mem_filter.1 hq).1)
theorem CtAt.addName{w:World}{B:Nat→Prop}{c mb mn:Nat}{C:Ct}(h:CtAt w B c mb mn C)(n:ByteArray)(id:Nat) :
 ∃w',(Instr.mapUpdate 93 (.map (some mn)) (.string n) (.int .u64 (id:Int))).run prog w=.ok () w'∧CtAt w' B c mb mn (C.setNames ((n,id)::qX0 n C.names))∧Chg (· = mn) w w':=by
 obtain⟨w',h1,h2,h3⟩:=h.nm.update (K:=qXZ) map_names underlying9 n id;exact⟨w',h1,h.chgNames h3 h2,h3⟩
theorem CtAt.delName{w:World}{B:Nat→Prop}{c mb mn:Nat}{C:Ct}(h:CtAt w B c mb mn C)(n:ByteArray) :
 ∃w',(∀ty,(Builtin.delete_ #[93,9] ty #[.map (some mn),.string n]).run prog w=.ok (.tuple #[]) w')∧CtAt w' B c mb mn (C.setNames (qX0 n C.names))∧Chg (· = mn) w w':=by
 obtain⟨w',h1,h2,h3⟩:=h.nm.delete (K:=qXZ) map_names underlying9 n;exact⟨w',h1,h.chgNames h3 h2,h3⟩
open Go.RowKit
def Ct.empty:Ct:=⟨[],[],List.replicate 12 Vl.zero⟩
theorem new_any(w:World):Calls prog 15 #[] w fun e w'=>∃c mb mn,e=.returned (.pointer (some ⟨c,0,none⟩))∧CtAt w' (Hi w.heap.size) c mb mn Ct.empty∧Ext w w':=by
 have hmm := @run_makeMap prog
 go_enter func15,ntmps15
 go_wp2_with fail
 go_ret
 refine⟨_,w.heap.size,w.heap.size+1,rfl,⟨At.new_eq (by simp) _ _,((qQW.new qXp ptrV w).alloc _).alloc _,?_,(fun r hr=>by cases hr),List.nodup_nil,rfl,by omega,(fun k hk=>by show w.heap.size≤k;simp at hk;omega),(by show w.heap.size≤_;omega),(Nat.le_refl w.heap.size),(Nat.le_succ w.heap.size),(fun r hr=>by cases hr)⟩,(((Er w).alloc _).alloc _).alloc _⟩
 have:=qQW.new qXZ u64V (w.alloc (.map #[] 0))
 rw[show(w.alloc (.map #[] 0)).heap.size=w.heap.size+1 by simp]at this;exact this.alloc _
def qXq(err:Int)(blob:Nat)(size:Int)(sum:Nat)(nv:Value):Value:=.agg #[.int .i64 err,.int .u64 (blob:Int),.int .i64 size,.int .u32 (sum:Int),nv]
abbrev cmdCells(c:Cmd)(dv:Value):Array Value:=#[.int .i64 c.kind,.int .i64 c.client,.int .i64 c.seq,.string c.name,.int .u64 (c.blob:Int),.int .i64 c.size,.int .u32 (c.sum:Int),dv,.int .i64 c.pool,.int .i64 c.vol,.int .i64 c.at_]
abbrev resCells:Array Value:=zZR
theorem CtAt.c0{w:World}{B:Nat→Prop}{c mb mn:Nat}{C:Ct}(h:CtAt w B c mb mn C):w.cell? ⟨c,0,none⟩=some (.map (some mb))∧w.cell? ⟨c,1,none⟩=some (.map (some mn)):=⟨h.blk.cell 0,h.blk.cell 1⟩
theorem res_out{W:World}{g:Nat}(h:At W g 72 resCells)(a0 a1 a2 a3 a4:Value) :
 At (((((W.setCell ⟨g,0,none⟩ a0).setCell ⟨g,1,none⟩ a1).setCell ⟨g,2,none⟩ a2).setCell ⟨g,3,none⟩ a3).setCell ⟨g,4,none⟩ a4).drew g 72 #[a0,a1,a2,a3,a4] ∧
  Chg (· = g) W (((((W.setCell ⟨g,0,none⟩ a0).setCell ⟨g,1,none⟩ a1).setCell ⟨g,2,none⟩ a2).setCell ⟨g,3,none⟩ a3).setCell ⟨g,4,none⟩ a4).drew:=by
 have hc0:=(Chg.refl (· = g) W).setCell (p:=⟨g,0,none⟩) (.inl rfl) a0;have hc1:=hc0.setCell (p:=⟨g,1,none⟩) (.inl rfl) a1;have hc2:=hc1.setCell (p:=⟨g,2,none⟩) (.inl rfl) a2;have hc3:=hc2.setCell (p:=⟨g,3,none⟩) (.inl rfl) a3;have hc4:=hc3.setCell (p:=⟨g,4,none⟩) (.inl rfl) a4;have h1:At (W.setCell ⟨g,0,none⟩ a0) g 72 #[a0,.int .u64 0,.int .i64 0,.int .u32 0,.slice none 0 0]:=h.set 0 a0;have h2:At ((W.setCell ⟨g,0,none⟩ a0).setCell ⟨g,1,none⟩ a1) g 72 #[a0,a1,.int .i64 0,.int .u32 0,.slice none 0 0]:=h1.set 1 a1;have h3:At (((W.setCell ⟨g,0,none⟩ a0).setCell ⟨g,1,none⟩ a1).setCell ⟨g,2,none⟩ a2) g 72 #[a0,a1,a2,.int .u32 0,.slice none 0 0]:=h2.set 2 a2;have h4:At ((((W.setCell ⟨g,0,none⟩ a0).setCell ⟨g,1,none⟩ a1).setCell ⟨g,2,none⟩ a2).setCell ⟨g,3,none⟩ a3) g 72 #[a0,a1,a2,a3,.slice none 0 0]:=h3.set 3 a3;have h5:At (((((W.setCell ⟨g,0,none⟩ a0).setCell ⟨g,1,none⟩ a1).setCell ⟨g,2,none⟩ a2).setCell ⟨g,3,none⟩ a3).setCell ⟨g,4,none⟩ a4) g 72 #[a0,a1,a2,a3,a4]:=h4.set 4 a4;exact⟨h5.drew,hc4.drew⟩
theorem qZ4{W:World}{g:Nat}(h:At W g 72 resCells)(a0 a1 a2 a3 a4:Value) :
 At (((((W.setCell ⟨g,0,none⟩ a0).setCell ⟨g,1,none⟩ a1).setCell ⟨g,2,none⟩ a2).setCell ⟨g,3,none⟩ a3).setCell ⟨g,4,none⟩ a4) g 72 #[a0,a1,a2,a3,a4] ∧
  Chg (· = g) W (((((W.setCell ⟨g,0,none⟩ a0).setCell ⟨g,1,none⟩ a1).setCell ⟨g,2,none⟩ a2).setCell ⟨g,3,none⟩ a3).setCell ⟨g,4,none⟩ a4):=by
 have hc0:=(Chg.refl (· = g) W).setCell (p:=⟨g,0,none⟩) (.inl rfl) a0;have hc1:=hc0.setCell (p:=⟨g,1,none⟩) (.inl rfl) a1;have hc2:=hc1.setCell (p:=⟨g,2,none⟩) (.inl rfl) a2;have hc3:=hc2.setCell (p:=⟨g,3,none⟩) (.inl rfl) a3;have hc4:=hc3.setCell (p:=⟨g,4,none⟩) (.inl rfl) a4;have h1:At (W.setCell ⟨g,0,none⟩ a0) g 72 #[a0,.int .u64 0,.int .i64 0,.int .u32 0,.slice none 0 0]:=h.set 0 a0;have h2:At ((W.setCell ⟨g,0,none⟩ a0).setCell ⟨g,1,none⟩ a1) g 72 #[a0,a1,.int .i64 0,.int .u32 0,.slice none 0 0]:=h1.set 1 a1;have h3:At (((W.setCell ⟨g,0,none⟩ a0).setCell ⟨g,1,none⟩ a1).setCell ⟨g,2,none⟩ a2) g 72 #[a0,a1,a2,.int .u32 0,.slice none 0 0]:=h2.set 2 a2;have h4:At ((((W.setCell ⟨g,0,none⟩ a0).setCell ⟨g,1,none⟩ a1).setCell ⟨g,2,none⟩ a2).setCell ⟨g,3,none⟩ a3) g 72 #[a0,a1,a2,a3,.slice none 0 0]:=h3.set 3 a3;have h5:At (((((W.setCell ⟨g,0,none⟩ a0).setCell ⟨g,1,none⟩ a1).setCell ⟨g,2,none⟩ a2).setCell ⟨g,3,none⟩ a3).setCell ⟨g,4,none⟩ a4) g 72 #[a0,a1,a2,a3,a4]:=h4.set 4 a4;exact⟨h5,hc4⟩
section named
variable(w:World)(B:Nat→Prop)(c mb mn:Nat)(C:Ct)(h:CtAt w B c mb mn C)(x:Cmd)(dv:Value)
include h
theorem named_none(hn:lget x.name C.names=none) :
 Calls prog 39 #[.pointer (some ⟨c,0,none⟩),qQd x dv] w fun e w'=>e=.returned (qXq 5 0 0 0 (.slice none 0 0))∧Ext w w':=by
 unfold qQd
 go_enter func39,ntmps39
 have hX:=(At.new w 76 (cmdCells x dv)).alloc (.cells resCells 72);have hE:=((Er w).alloc (.cells (cmdCells x dv) 76)).alloc (.cells resCells 72);have hR:=At.new (w.alloc (.cells (cmdCells x dv) 76)) 72 resCells;rw[show(w.alloc (.cells (cmdCells x dv) 76)).heap.size=w.heap.size+1 by simp]at hR
 go_upto_region 1 with fail
 generalize hxb:w.heap.size=xb at *;generalize World.alloc _ _=W at *;have hC:=h.ext hE;obtain⟨c0,c1⟩:=hC.c0;have hlk:=(hC.ext ((Er W).drew)).lookName x.name;rw[hn]at hlk;have x3:=hX.cell 3;have r0:=hR.cell 0;have r1:=hR.cell 1;have r2:=hR.cell 2;have r3:=hR.cell 3;have r4:=hR.cell 4;have f0:=hR.frozen 0;have f1:=hR.frozen 1;have f2:=hR.frozen 2;have f3:=hR.frozen 3;have f4:=hR.frozen 4;simp at x3 r0 r1 r2 r3 r4 hlk;clear hX h hn hC
 go_region
 go_wp2_with fail
 obtain⟨hZ,hCz⟩:=res_out hR (.int .i64 5) (.int .u64 0) (.int .i64 0) (.int .u32 0) (.slice none 0 0);generalize World.drew _=WZ at hZ hCz⊢;have g0:=hZ.cell 0;have g1:=hZ.cell 1;have g2:=hZ.cell 2;have g3:=hZ.cell 3;have g4:=hZ.cell 4;simp at g0 g1 g2 g3 g4;refine bodyPost_ret (v:=qXq 5 0 0 0 (.slice none 0 0)) (by simp[results,results39,go_sem,g0,g1,g2,g3,g4,qXq]) rfl ⟨rfl,Chg.mono (hE.chg_trans hCz) fun j hj h'=>by have e:j=xb+1:=h';omega⟩
def qZ7(C:Ct)(x:Cmd)(r:BR):Ct :=
 if x.kind=2 then C.upd r.g { r.b with pins:=r.b.pins+1 } r.dv else if x.kind=3 then(C.upd r.g { r.b with dead:=true } r.dv).setNames (qX0 x.name C.names)else C
theorem named_some{r:BR}(hn:lget x.name C.names=some r.b.id)(hf:C.find r.b.id=some r)(hp:0≤r.b.pins∧r.b.pins<4611686018427387904)(hk:x.kind=2∨x.kind=3∨x.kind=5) :
 Calls prog 39 #[.pointer (some ⟨c,0,none⟩),qQd x dv] w fun e w'=>e=.returned (qXq 0 r.b.id r.b.size r.b.sum (.slice none 0 0))∧CtAt w' B c mb mn (qZ7 C x r)∧Chg (C.S c mb mn) w w':=by
 unfold qQd
 go_enter func39,ntmps39
 have hX:=(At.new w 76 (cmdCells x dv)).alloc (.cells resCells 72);have hE:=((Er w).alloc (.cells (cmdCells x dv) 76)).alloc (.cells resCells 72);have hR:=At.new (w.alloc (.cells (cmdCells x dv) 76)) 72 resCells;rw[show(w.alloc (.cells (cmdCells x dv) 76)).heap.size=w.heap.size+1 by simp]at hR
 go_upto_region 1 with fail
 generalize hxb:w.heap.size=xb at *;generalize World.alloc _ _=W at *;have hC:=h.ext hE;obtain⟨c0,c1⟩:=hC.c0;have hlk:=(hC.ext ((Er W).drew)).lookName x.name;rw[hn]at hlk;have x3:=hX.cell 3;simp at x3 hlk
 go_region
 clear hlk c0 c1 x3;have hX1:=hX.drew;have hR1:=hR.drew;have hC1:=hC.ext ((Er W).drew);have hE1:=hE.drew;clear hX hR hC hE h hn;generalize World.drew _=W1 at *;obtain⟨c0,c1⟩:=hC1.c0;have hlk:=hC1.look r.b.id;rw[hf]at hlk;simp only[ptrO]at hlk;have hr:=(qZJ hf).1;have hB:=(hC1.bl r hr).1;have hO:=(hC1.bl r hr).2;have hgB:=hC1.lo.2.2.2 r hr;have hmB:=hC1.lo.2.2.1;have hne:r.g≠xb+1:=At.ne hB hR1 (by decide);have x0:=hX1.cell 0;simp at x0
 go_upto_block 0 with fail
 clear hlk c0 c1
 go_cut []from 29 to 48 (fun wx=>CtAt wx B c mb mn (qZ7 C x r)∧(∃b',At wx r.g 63 (blCells b' r.dv)∧b'.id=r.b.id∧b'.size=r.b.size∧b'.sum=r.b.sum)∧At wx (xb+1) 72 resCells∧Chg (C.S c mb mn) w wx)
 case first =>
  have hEB:Chg (C.S c mb mn) w W1:=Chg.mono hE1 (fun _ _ hh=>hh.elim);have b11:=hB.cell 11;have b12:=hB.cell 12;have f11:=hB.frozen 11;have f12:=hB.frozen 12;have hbl:=hB.lt;simp at b11 b12;rcases hk with hk|hk|hk
  ·have k2:(x.kind == 2)=true:=by rw[hk];rfl
   have hnc:qZ7 C x r=C.upd r.g { r.b with pins:=r.b.pins+1 } r.dv:=by unfold qZ7;rw[if_pos hk]
   have HNC:=Hh hnc;clear hnc hk;have hCs:=(Chg.refl (· = r.g) W1).setCell (p:=⟨r.g,11,none⟩) (.inl rfl) (.int .i64 (r.b.pins+1));have hB2:At (W1.setCell ⟨r.g,11,none⟩ (.int .i64 (r.b.pins+1))) r.g 63 (blCells { r.b with pins:=r.b.pins+1 } r.dv):=hB.set 11 _;have hC2:=hC1.chgBlob hr (b := { r.b with pins:=r.b.pins+1 }) (dv:=r.dv) rfl hCs hB2 (qQb hO hCs (fun k hk e=>qQf hO hB (by decide) k hk e));have hR2:=hR1.far (p:=⟨r.g,11,none⟩) hne.symm (.int .i64 (r.b.pins+1));go_wp2_with fail
   go_meet
   case rel=>exact⟨by rw[HNC.out];exact hC2,⟨_,hB2,rfl,rfl,rfl⟩,hR2,Chg.trans hEB hCs (fun k _ e=>by have e':k=r.g:=e;exact .inr (.inr (.inr ⟨r,hr,e'⟩)))⟩
  ·have k2:(x.kind == 2)=false:=by rw[hk];rfl
   have k3:(x.kind == 3)=true:=by rw[hk];rfl
   have hnc:qZ7 C x r=(C.upd r.g { r.b with dead:=true } r.dv).setNames (qX0 x.name C.names):=by unfold qZ7;rw[if_neg (by omega),if_pos hk]
   have HNC:=Hh hnc;clear hnc hk;have hCs:=(Chg.refl (· = r.g) W1).setCell (p:=⟨r.g,12,none⟩) (.inl rfl) (.bool true);have hB2:At (W1.setCell ⟨r.g,12,none⟩ (.bool true)) r.g 63 (blCells { r.b with dead:=true } r.dv):=hB.set 12 _;have hC2:=hC1.chgBlob hr (b := { r.b with dead:=true }) (dv:=r.dv) rfl hCs hB2 (qQb hO hCs (fun k hk e=>qQf hO hB (by decide) k hk e));have hR2:=hR1.far (p:=⟨r.g,12,none⟩) hne.symm (.bool true);have hX2:=hX1.far (p:=⟨r.g,12,none⟩) (At.ne hX1 hB (by decide)) (.bool true)
   go_upto_region 10 with fail
   clear b11 b12 f11 f12 x0;generalize World.setCell _ _ _=W2 at *;obtain⟨c0,c1⟩:=hC2.c0;have x3:=hX2.cell 3;simp at x3;obtain⟨W3,hdel,hC3,hCd⟩:=(hC2.ext ((Er W2).drew)).delName x.name;have hdel':=hdel 0
   go_region
   have hB3:=hB2.drew.chg hCd (fun e=>hC2.nm.ne_at hB2 (Eq.symm e));have hR3:=hR2.drew.chg hCd (fun e=>hC2.nm.ne_at hR2 (Eq.symm e));have hCh:Chg (C.S c mb mn) w W3:=Chg.trans (Chg.trans hEB hCs (S:=C.S c mb mn) (fun k _ e=>by have e':k=r.g:=e;exact .inr (.inr (.inr ⟨r,hr,e'⟩)))).drew hCd (fun k _ e=>by have e':k=mn:=e;exact .inr (.inr (.inl e')));go_wp2_with fail
   go_meet
   case rel=>exact⟨by rw[HNC.out];exact hC3,⟨_,hB3,rfl,rfl,rfl⟩,hR3,hCh⟩
  ·have k2:(x.kind == 2)=false:=by rw[hk];rfl
   have k3:(x.kind == 3)=false:=by rw[hk];rfl
   have hnc:qZ7 C x r=C:=by unfold qZ7;rw[if_neg (by omega),if_neg (by omega)]
   have HNC:=Hh hnc;clear hnc hk;go_wp2_with fail
   go_meet
   case rel=>exact⟨by rw[HNC.out];exact hC1,⟨r.b,hB,rfl,rfl,rfl⟩,hR1,hEB⟩
 case rest =>
  clear x0 hB hO hR1 hX1 hC1 hE1 hne;obtain⟨hC2,⟨b',hB2,e1,e2,e3⟩,hR2,hCh⟩:=hcut;have b0:=hB2.cell 0;have b2:=hB2.cell 2;have b3:=hB2.cell 3;simp at b0 b2 b3;rw[e1]at b0;rw[e2]at b2;rw[e3]at b3;have r0:=hR2.cell 0;have r1:=hR2.cell 1;have r2:=hR2.cell 2;have r3:=hR2.cell 3;have r4:=hR2.cell 4;have f0:=hR2.frozen 0;have f1:=hR2.frozen 1;have f2:=hR2.frozen 2;have f3:=hR2.frozen 3;have f4:=hR2.frozen 4;simp at r0 r1 r2 r3 r4;go_wp2_with fail
  go_region
  go_wp2_with fail
  obtain⟨hZ,hCz⟩:=res_out hR2 (.int .i64 0) (.int .u64 (r.b.id:Int)) (.int .i64 r.b.size) (.int .u32 (r.b.sum:Int)) (.slice none 0 0);generalize World.drew _=WZ at hZ hCz⊢;have g0:=hZ.cell 0;have g1:=hZ.cell 1;have g2:=hZ.cell 2;have g3:=hZ.cell 3;have g4:=hZ.cell 4;simp at g0 g1 g2 g3 g4;have hCf:=hC2.far hCz hR2 (by decide) (by decide) (by decide);have hwl:w.heap.size≤xb+1:=by omega
  refine bodyPost_ret (v:=qXq 0 r.b.id r.b.size r.b.sum (.slice none 0 0)) (by simp[results,results39,go_sem,g0,g1,g2,g3,g4,qXq]) rfl ⟨rfl,hCf,Chg.trans hCh hCz fun j hj h'=>by have e:j=xb+1:=h';omega⟩
end named
section
variable{P:Program}{ops:Array Oper}{Q:Exit→Act→World→Prop}{Γ : Type}
def qQH(ops:Array Oper)(d:Nat):Option Tmp:=(ops[d]?).bind (·.dst)
def qQM(ops:Array Oper)(v:Nat→Value)(a:Act):Nat→Act
 | 0=>a
 | n+1=>(qQM ops v a n).put (qQH ops n) (v n)
def putL(ops:Array Oper)(L:Nat→Bool)(v:Nat→Value)(a:Act):Nat→Act
 | 0=>a
 | n+1=>if L n then(putL ops L v a n).put (qQH ops n) (v n)else putL ops L v a n
def backB(ops:Array Oper):Bool:=(List.range ops.size).all fun j=>((ops[j]?).map fun o=>o.after.all fun e=>decide (e.on<j) || !Region.binds .any e).getD true
def dstB(ops:Array Oper)(N:Nat):Bool:=(List.range ops.size).all fun j=>match qQH ops j with
 | none=>true
 | some t=>decide (t<N)&&(List.range j).all fun i=>qQH ops i != some t
def qZ1(ops:Array Oper)(j d:Nat):Bool:=((ops[j]?).map fun o=>o.after.any fun e=>Region.binds .any e&&e.on == d).getD false
theorem putL_size(L:Nat→Bool)(v:Nat→Value)(a:Act):∀n,(putL ops L v a n).tmps.size=a.tmps.size∧(putL ops L v a n).defers=a.defers
 | 0=>⟨rfl,rfl⟩
 | n+1=>by
  unfold putL;split
  ·have:=putL_size L v a n
   unfold Act.put;split <;> simp[this]
  ·exact putL_size L v a n
theorem putL_congr{L L':Nat→Bool}{v v':Nat→Value}{a:Act} : ∀n,(∀i,i<n→L i=L' i)→(∀i,i<n→L i=true→v i=v' i)→putL ops L v a n=putL ops L' v' a n
 | 0,_,_=>rfl
 | n+1,h,h'=>by
  unfold putL;rw[putL_congr n (fun i hi=>h i (by omega)) (fun i hi=>h' i (by omega)),h n (by omega)];split
  ·rename_i hn;rw[h' n (by omega) (by rw[h n (by omega)];exact hn)]
  ·rfl
theorem putL_all{L:Nat→Bool}{v:Nat→Value}{a:Act} : ∀n,(∀i,i<n→L i=true)→putL ops L v a n=qQM ops v a n
 | 0,_=>rfl
 | n+1,h=>by unfold putL qQM;rw[putL_all n (fun i hi=>h i (by omega)),if_pos (h n (by omega))]
theorem putL_far{L:Nat→Bool}{v:Nat→Value}{a:Act}{t:Tmp} : ∀n,(∀i,i<n→L i=true→qQH ops i≠some t)→(putL ops L v a n).tmps.getD t undef=a.tmps.getD t undef
 | 0,_=>rfl
 | n+1,h=>by
  have ih:=putL_far (v:=v) (a:=a) n (fun i hi hl=>h i (by omega) hl);unfold putL;split
  ·rename_i hl
   have h1:=h n (by omega) hl;unfold Act.put;split
   ·rename_i d hd
    rw[hd]at h1
    have:d≠t:=fun e=>h1 (by rw[e])
    rw[←ih];simp[Array.getElem?_setIfInBounds_ne this]
   ·exact ih
  ·exact ih
theorem dstB_spec{N:Nat}(h:dstB ops N=true){j:Nat}{t:Tmp}(hj:qQH ops j=some t):t<N∧∀i,i≠j→qQH ops i≠some t:=by
 have key:∀j t,qQH ops j=some t→j<ops.size∧t<N∧∀i,i<j→qQH ops i≠some t:=by
  intro j t hj
  have hjl:j<ops.size:=by
   rcases Nat.lt_or_ge j ops.size with h|h
   ·exact h
   ·unfold qQH at hj;rw[Array.getElem?_eq_none h]at hj;cases hj
  have:=List.all_eq_true.1 h j (List.mem_range.2 hjl)
  rw[hj]at this;simp only[Bool.and_eq_true,decide_eq_true_eq,List.all_eq_true,List.mem_range,bne_iff_ne]at this;exact⟨hjl,this.1,this.2⟩
 refine⟨(key j t hj).2.1,fun i hi he=>?_⟩
 rcases Nat.lt_or_gt_of_ne hi with h'|h'
 ·exact(key j t hj).2.2 i h' he
 ·exact(key i t he).2.2 j h' hj
theorem putL_val{N:Nat}(h:dstB ops N=true){L:Nat→Bool}{v:Nat→Value}{a:Act}(hN:a.tmps.size=N){d:Nat}{t:Tmp}(hd:qQH ops d=some t)(hL:L d=true) :
 ∀n,d<n→(putL ops L v a n).tmps.getD t undef=v d
 | 0,hn=>by omega
 | n+1,hn=>by
  obtain⟨h1,h2⟩:=dstB_spec h hd;unfold putL
  by_cases e:n=d
  ·subst e;rw[if_pos hL,hd];unfold Act.put
   have:=(putL_size (ops:=ops) L v a n).1
   simp[this,hN,h1]
  ·have ih:=putL_val (v:=v) h hN hd hL n (by omega);split
   ·unfold Act.put;split
    ·rename_i d' hd'
     have:d'≠t:=fun e'=>h2 n e (by rw[hd',e'])
     rw[←ih];simp[Array.getElem?_setIfInBounds_ne this]
    ·exact ih
   ·exact ih
theorem Act.put_comm'{a:Act}{s t:Option Tmp}{x y:Value}(h:s=none∨t=none∨s≠t):(a.put s x).put t y=(a.put t y).put s x:=by
 cases s with
 | none=>rfl
 | some s =>
  cases t with
  | none=>rfl
  | some t =>
   have hne:s≠t:=by rcases h with h|h|h <;> simp at h;exact h
   unfold Act.put;simp only;rw[Array.setIfInBounds_comm _ _ hne]
theorem putL_put{N:Nat}(h:dstB ops N=true){L:Nat→Bool}{v:Nat→Value}{a:Act}{j:Nat}(hj:L j=false)(x:Value) :
 ∀n,j<n→(putL ops L v a n).put (qQH ops j) x=putL ops (fun i=>i == j||L i) (fun i=>if i=j then x else v i) a n
 | 0,hn=>by omega
 | n+1,hn=>by
  by_cases e:n=j
  ·subst e;unfold putL;simp only[hj,Bool.false_eq_true,if_false,beq_self_eq_true,Bool.true_or,if_true];rw[putL_congr (L:=L) (L':=fun i=>i == n||L i) (v:=v) (v':=fun i=>if i=n then x else v i) n (fun i hi=>by simp[Nat.ne_of_lt hi]) (fun i hi _=>by simp[Nat.ne_of_lt hi])]
  ·have ih:=putL_put h hj x n (by omega) (v:=v) (a:=a);unfold putL;have e1:(n == j)=false:=by simpa using e
   simp only[e1,Bool.false_or,e,if_false];split
   ·rw[←ih];refine Act.put_comm' ?_;cases hs:qQH ops n with
    | none=>exact .inl rfl
    | some t=>exact .inr (.inr fun e'=>(dstB_spec h hs).2 j (Ne.symm e) e'.symm)
   ·exact ih
def qXb(P:Program)(ops:Array Oper)(Q:Exit→Act→World→Prop)(a0:Act)(φ : Γ → Nat→Value→World→Prop)(G : Γ → (Nat→Bool)→World→Prop)(j:Nat):Prop :=
 ∀(γ : Γ) (L:Nat→Bool) (v:Nat→Value) (a:Act) (w:World),(∀i d,L i=true→qZ1 ops i d=true→L d=true)→L j=false→(∀d,qZ1 ops j d=true→L d=true)→G γ L w→(∀d,L d=true → φ γ d (v d) w) →
  (∀d t,qQH ops d=some t→L d=true→a.tmps.getD t undef=v d)→(∀t,(∀d,L d=true→qQH ops d≠some t)→a.tmps.getD t undef=a0.tmps.getD t undef) →
  wpOp P ops Q j (fun a' w'=>∃x γ',a'=a.put (qQH ops j) x ∧ φ γ' j x w'∧(∀d,d≠j→L d=true → φ γ d (v d) w → φ γ' d (v d) w')∧G γ' (fun i=>i == j||L i) w') a w
def qQ2(P:Program)(ops:Array Oper)(Q:Exit→Act→World→Prop)(a0:Act)(φ : Γ → Nat→Value→World→Prop)(G : Γ → (Nat→Bool)→World→Prop):Nat→Prop
 | 0=>True
 | n+1=>qQ2 P ops Q a0 φ G n∧qXb P ops Q a0 φ G n
theorem qQ2.at_{a0:Act}{φ : Γ → Nat→Value→World→Prop}{G : Γ → (Nat→Bool)→World→Prop} : ∀ {n j:Nat},qQ2 P ops Q a0 φ G n→j<n→qXb P ops Q a0 φ G j
 | 0,j,_,h=>by omega
 | n+1,j,h,hj=>by
  by_cases e:j=n
  ·subst e;exact h.2
  ·exact h.1.at_ (by omega)
theorem countFalse_lt{l:Array Bool}{i:Nat}(h:l[i]? = some false):(l.setIfInBounds i true).toList.count false<l.toList.count false:=by
 have hi:=(Array.getElem?_eq_some_iff.1 h);obtain⟨hlt,hv⟩:=hi;rw[Array.toList_setIfInBounds,List.count_set (by simpa using hlt)]
 have:l.toList[i]'(by simpa using hlt)=false:=by simpa using hv
 rw[this];have hm:false∈l.toList:=by rw[←this];exact List.getElem_mem _
 have h1:=List.count_pos_iff.2 hm;have e1:(false == false)=true:=rfl;have e2:(true == false)=false:=rfl;rw[e1,e2,if_pos rfl,if_neg (by simp)];omega
theorem wpAny_phi(a0:Act)(φ : Γ → Nat→Value→World→Prop)(G : Γ → (Nat→Bool)→World→Prop)
 (hback:backB ops=true) (hd:dstB ops a0.tmps.size=true) (steps:qQ2 P ops Q a0 φ G ops.size)
 (fin:∀γ L v w,(∀j,j<ops.size→L j=true)→G γ L w→(∀d,d<ops.size → φ γ d (v d) w)→Q .normal (qQM ops v a0 ops.size) w) :
 ∀(fuel:Nat) (listed:Array Bool) (γ : Γ) (v:Nat→Value) (a:Act) (w:World),listed.size=ops.size→listed.toList.count false≤fuel →
  (∀i d,listed.getD i false=true→qZ1 ops i d=true→listed.getD d false=true)→a=putL ops (fun i=>listed.getD i false) v a0 ops.size→G γ (fun i=>listed.getD i false) w→(∀d,listed.getD d false=true → φ γ d (v d) w) →
  wpAny P .any ops Q fuel listed a w:=by
 have hall:∀listed:Array Bool,listed.size=ops.size→Region.ready .any ops listed=[]→∀j,j<ops.size→listed.getD j false=true:=by
  intro listed hsz hr j
  induction j using Nat.strongRecOn with
  | _ j ih =>
   intro hj;cases hl:listed.getD j false with
   | true=>rfl
   | false =>
    exfalso
    have hm:j∈Region.ready .any ops listed:=by
     rw[mem_ready];refine⟨?_,ops[j],Array.getElem?_eq_getElem hj,fun e he hbd=>?_⟩
     ·have hjl:j<listed.size:=by omega
      simp[hjl]at hl⊢;exact hl
     ·have h1:=List.all_eq_true.1 hback j (List.mem_range.2 hj);rw[Array.getElem?_eq_getElem hj]at h1;simp only[Option.map_some,Option.getD_some]at h1;have h2:=Array.all_eq_true_iff_forall_mem.1 h1 e he
      have h3:e.on<j:=by
       rw[Bool.or_eq_true]at h2;rcases h2 with h2|h2
       ·simpa using h2
       ·rw[hbd]at h2;cases h2
      exact ih e.on h3 (by omega)
    rw[hr]at hm;cases hm
 intro fuel
 induction fuel with
 | zero =>
  intro listed γ v a w hsz hc hdown ha hG hφ
  have hfull:∀j,j<ops.size→listed.getD j false=true:=by
   intro j hj;have hjl:j<listed.size:=by omega
   cases hl:listed[j]with
   | true=>simp[hjl,hl]
   | false =>
    have:false∈listed.toList:=by rw[←hl];exact Array.mem_toList_iff.2 (Array.getElem_mem hjl)
    have:=List.count_pos_iff.2 this
    omega
  refine⟨?_,?_⟩
  ·refine List.eq_nil_iff_forall_not_mem.2 fun j hj=>?_
   rw[mem_ready]at hj;obtain⟨h0,o,ho,_⟩:=hj;have hjs:=(Array.getElem?_eq_some_iff.1 ho).1;have hjl:j<listed.size:=by omega
   have:=hfull j hjs
   simp[hjl]at this h0;rw[this]at h0;cases h0
  ·rw[ha,putL_all _ hfull];exact fin γ _ v w hfull hG (fun d hd=>hφ d (hfull d hd))
 | succ fuel ih =>
  intro listed γ v a w hsz hc hdown ha hG hφ;refine⟨fun hr=>?_,fun i hi=>?_⟩
  ·have hfull:=hall listed hsz hr;rw[ha,putL_all _ hfull];exact fin γ _ v w hfull hG (fun d hd=>hφ d (hfull d hd))
  ·rw[mem_ready]at hi;obtain⟨h0,o,ho,hdeps⟩:=hi;have his:=(Array.getElem?_eq_some_iff.1 ho).1;have hil:i<listed.size:=by omega
   have hv0:listed[i]? = some false:=by simp[hil]at h0⊢;exact h0
   have hLi:listed.getD i false=false:=by simp[hil]at h0⊢;exact h0
   have hneed:∀d,qZ1 ops i d=true→listed.getD d false=true:=by
    intro d hn;unfold qZ1 at hn;rw[ho]at hn;simp only[Option.map_some,Option.getD_some]at hn;obtain⟨e,he,hb⟩:=Array.any_eq_true'.1 hn;simp only[Bool.and_eq_true,beq_iff_eq]at hb
    have:=hdeps e he hb.1
    rw[hb.2]at this;exact this
   have hfun:(fun k=>(listed.setIfInBounds i true).getD k false)=fun k=>k == i||listed.getD k false:=by
    funext k
    by_cases e:k=i
    ·subst e;simp[hil]
    ·have e1:(k == i)=false:=by simpa using e
     rw[e1,Bool.false_or,getD_set_ne false (Ne.symm e)]
   refine wpOp_mono ?_ (steps.at_ his γ (fun k=>listed.getD k false) v a w hdown hLi hneed hG hφ ?_ ?_)
   ·rintro a' w' ⟨x, γ',rfl,hx,hst,hG'⟩;refine ih (listed.setIfInBounds i true) γ' (fun k=>if k=i then x else v k) _ w' (by simpa using hsz) ?_ ?_ ?_ ?_ ?_
    ·have:=countFalse_lt hv0;omega
    ·intro j d hj hn;rw[show(listed.setIfInBounds i true).getD j false=(j == i||listed.getD j false)from congrFun hfun j]at hj;rw[show(listed.setIfInBounds i true).getD d false=(d == i||listed.getD d false)from congrFun hfun d]
     by_cases e:j=i
     ·subst e;rw[hneed d hn];simp
     ·have e1:(j == i)=false:=by simpa using e
      rw[e1,Bool.false_or]at hj;rw[hdown j d hj hn];simp
    ·rw[ha,putL_put hd hLi x _ his,hfun]
    ·rw[hfun];exact hG'
    ·intro d hdl;rw[show(listed.setIfInBounds i true).getD d false=(d == i||listed.getD d false)from congrFun hfun d]at hdl
     by_cases e:d=i
     ·subst e;simp only[if_true];exact hx
     ·have e1:(d == i)=false:=by simpa using e
      rw[e1,Bool.false_or]at hdl;simp only[if_neg e];exact hst d e hdl (hφ d hdl)
   ·intro d t hdt hL;rw[ha]
    have hds:d<ops.size:=by
     rcases Nat.lt_or_ge d ops.size with h|h
     ·exact h
     ·unfold qQH at hdt;rw[Array.getElem?_eq_none h]at hdt;cases hdt
    exact putL_val hd rfl hdt hL _ hds
   ·intro t ht;rw[ha];exact putL_far _ fun i _ hL=>ht i hL
theorem qQx{id:Nat}{a:Act}{w:World}(φ : Γ → Nat→Value→World→Prop)(G : Γ → (Nat→Bool)→World→Prop)(hm:P.follows .mixedOrders=true)
 (hback:backB ops=true) (hd:dstB ops a.tmps.size=true) (γ : Γ) (hG:G γ (fun _=>false) w.drew) (steps:qQ2 P ops Q a φ G ops.size)
 (fin:∀γ L v w,(∀j,j<ops.size→L j=true)→G γ L w→(∀d,d<ops.size → φ γ d (v d) w)→Q .normal (qQM ops v a ops.size) w):(Code.region id ops true).wp P Q a w:=by
 have hz:(fun i=>(Array.replicate ops.size false).getD i false)=fun _=>false:=by
  funext i
  by_cases h:i<ops.size <;> simp[h]
 refine wp_region_any hm (wpAny_phi a φ G hback hd steps fin _ _ γ (fun _=>undef) a _ (by simp) (by simp) ?_ ?_ ?_ ?_)
 ·intro i d h;rw[show(Array.replicate ops.size false).getD i false=false from congrFun hz i]at h;cases h
 ·rw[hz]
  have:∀n,putL ops (fun _=>false) (fun _=>undef) a n=a:=by
   intro n;induction n with
   | zero=>rfl
   | succ n ih=>unfold putL;simpa using ih
  exact(this _).symm
 ·rw[hz];exact hG
 ·intro d h;rw[show(Array.replicate ops.size false).getD d false=false from congrFun hz d]at h;cases h
theorem qJh{j:Nat}{o:Oper}{a:Act}{w w':World}{x:Value}{K:Act→World→Prop}(ho:ops[j]? = some o)(hg:o.guard=none)(h:(execOp a.eval o).run P w=.ok (.value x) w')(hK:K (a.put (qQH ops j) x) w'):wpOp P ops Q j K a w:=by
 unfold wpOp;rw[ho];simp only[Region.wanted,hg,if_true];refine .inl ?_;unfold Oper.wp;rw[h]
 have:qQH ops j=o.dst:=by unfold qQH;rw[ho];rfl
 rw[this]at hK;exact hK
theorem wpOp_skip{j:Nat}{o:Oper}{a:Act}{w w':World}{K:Act→World→Prop}(ho:ops[j]? = some o)(hg:o.guard=none)(h:(execOp a.eval o).run P w=.ok .skip w')(hK:K (a.put (qQH ops j) undef) w'):wpOp P ops Q j K a w:=by
 unfold wpOp;rw[ho];simp only[Region.wanted,hg,if_true];refine .inl ?_;unfold Oper.wp;rw[h]
 have:qQH ops j=o.dst:=by unfold qQH;rw[ho];rfl
 rw[this]at hK;exact hK
theorem qJi{j:Nat}{o:Oper}{a:Act}{w w':World}{f:FuncId}{args:Array Value}{K:Act→World→Prop}(ho:ops[j]? = some o)(hg:o.guard=none)(h:(execOp a.eval o).run P w=.ok (.enter f args) w')
 (hK:Calls P f args w' fun e w''=>∃x,e=.returned x∧K (a.put (qQH ops j) x) w''):wpOp P ops Q j K a w:=by
 unfold wpOp;rw[ho];simp only[Region.wanted,hg,if_true];refine .inl ?_;unfold Oper.wp;rw[h];have hd:qQH ops j=o.dst:=by unfold qQH;rw[ho];rfl
 rw[hd]at hK;refine Calls.mono hK ?_;rintro e w'' ⟨x,rfl,hx⟩;exact hx
end
inductive Sg
 | val (v:Value)
 | g (k:Nat)
 | any
def Sg.isG(k:Nat):Sg→Bool
 | .g i=>i == k
 | _=>false
def sgφ(sp:List Sg)(γ : Nat→Value)(d:Nat)(v:Value)(_w:World):Prop:=match sp.getD d .any with
 | .val x=>v=x
 | .g k=>v = γ k
 | .any=>True
def upd(γ : Nat→Value)(k:Nat)(x:Value):Nat→Value:=fun i=>if i=k then x else γ i
theorem sgφ_upd{sp:List Sg}{γ : Nat→Value}{j k:Nat}{x:Value}(hk:((List.range sp.length).all fun d=>d == j || !(sp.getD d .any).isG k)=true){d:Nat}(hd:d≠j){v:Value}{w w':World}(h:sgφ sp γ d v w):sgφ sp (upd γ k x) d v w':=by
 unfold sgφ at *;cases hs:sp.getD d .any with
 | val y=>rw[hs]at h;exact h
 | any=>trivial
 | g i =>
  rw[hs]at h
  have hl:d<sp.length:=by
   rcases Nat.lt_or_ge d sp.length with hl|hl
   ·exact hl
   ·rw[List.getD_eq_getElem?_getD,List.getElem?_eq_none hl]at hs;cases hs
  have:=List.all_eq_true.1 hk d (List.mem_range.2 hl)
  rw[hs]at this;simp[Sg.isG,hd]at this;simp only[upd,this,if_false];exact h
section
variable{P:Program}{ops:Array Oper}{Q:Exit→Act→World→Prop}{a0:Act}{sp:List Sg}{G:(Nat→Value)→(Nat→Bool)→World→Prop}{j:Nat}{o:Oper}
structure StIn (ops:Array Oper) (a0:Act) (sp:List Sg) (G:(Nat→Value)→(Nat→Bool)→World→Prop) (j:Nat) (γ : Nat→Value) (L:Nat→Bool) (v:Nat→Value) (a:Act) (w:World):Prop where
 off:L j=false
 dep:∀d,qZ1 ops j d=true→L d=true
 down:∀i d,L i=true→qZ1 ops i d=true→L d=true
 inv:G γ L w
 φ : ∀d,qZ1 ops j d=true→sgφ sp γ d (v d) w
 val:∀d t,qQH ops d=some t→qZ1 ops j d=true→a.tmps.getD t undef=v d
 far:∀t,((List.range ops.size).all fun d=>qQH ops d != some t)=true→a.tmps.getD t undef=a0.tmps.getD t undef
 late:∀t,((List.range ops.size).all fun d=>qQH ops d != some t||d == j||qZ1 ops d j)=true→a.tmps.getD t undef=a0.tmps.getD t undef
theorem StIn.mk'{γ : Nat→Value}{L:Nat→Bool}{v:Nat→Value}{a:Act}{w:World}(hdown:∀i d,L i=true→qZ1 ops i d=true→L d=true)(hLj:L j=false)(hneed:∀d,qZ1 ops j d=true→L d=true)(hG:G γ L w)(hφ : ∀d,L d=true→sgφ sp γ d (v d) w)
 (hval:∀d t,qQH ops d=some t→L d=true→a.tmps.getD t undef=v d) (h0:∀t,(∀d,L d=true→qQH ops d≠some t)→a.tmps.getD t undef=a0.tmps.getD t undef):StIn ops a0 sp G j γ L v a w :=
 ⟨hLj,hneed,hdown,hG,fun d hd=>hφ d (hneed d hd),fun d t hd hn=>hval d t hd (hneed d hn),fun t ht=>h0 t fun d _ hd=>by
  have hds:d<ops.size:=by
   rcases Nat.lt_or_ge d ops.size with h|h
   ·exact h
   ·unfold qQH at hd;rw[Array.getElem?_eq_none h]at hd;cases hd
  have:=List.all_eq_true.1 ht d (List.mem_range.2 hds)
  rw[hd]at this;simp at this,fun t ht=>h0 t fun d hLd hd=>by
  have hds:d<ops.size:=by
   rcases Nat.lt_or_ge d ops.size with h|h
   ·exact h
   ·unfold qQH at hd;rw[Array.getElem?_eq_none h]at hd;cases hd
  have:=List.all_eq_true.1 ht d (List.mem_range.2 hds)
  rw[hd]at this;simp at this;rcases this with rfl|this
  ·rw[hLj]at hLd;cases hLd
  ·rw[hdown d j hLd this]at hLj;cases hLj⟩
theorem qQh{x:Value}(ho:ops[j]? = some o)(hg:o.guard=none)(hs:sp.getD j .any=.val x)(hG:∀γ L w,G γ L w→L j=false→G γ (fun i=>i == j||L i) w)
 (h:∀γ L v a w,StIn ops a0 sp G j γ L v a w→(execOp a.eval o).run P w=.ok (.value x) w):qXb P ops Q a0 (sgφ sp) G j:=by
 intro γ L v a w hdown hLj hneed hGw hφ hval h0;refine qJh ho hg (h γ L v a w (StIn.mk' hdown hLj hneed hGw hφ hval h0)) ⟨x, γ,rfl,?_,fun d _ _ hh=>hh,hG γ L w hGw hLj⟩;unfold sgφ;rw[hs]
theorem qQ7(ho:ops[j]? = some o)(hg:o.guard=none)(hs:sp.getD j .any=.any)
 (h:∀γ L v a w,StIn ops a0 sp G j γ L v a w→∃w',(execOp a.eval o).run P w=.ok .skip w'∧G γ (fun i=>i == j||L i) w'):qXb P ops Q a0 (sgφ sp) G j:=by
 intro γ L v a w hdown hLj hneed hGw hφ hval h0;obtain⟨w',hrun,hG'⟩:=h γ L v a w (StIn.mk' hdown hLj hneed hGw hφ hval h0);refine wpOp_skip ho hg hrun ⟨undef, γ,rfl,?_,fun d _ _ hh=>hh,hG'⟩;unfold sgφ;rw[hs];trivial
theorem qZW{k:Nat}{f:FuncId}(ho:ops[j]? = some o)(hg:o.guard=none)(hs:sp.getD j .any=.g k)(hk:((List.range sp.length).all fun d=>d == j || !(sp.getD d .any).isG k)=true)
 (h:∀γ L v a w,StIn ops a0 sp G j γ L v a w→∃args,(execOp a.eval o).run P w=.ok (.enter f args) w∧Calls P f args w fun r w'=>∃x,r=.returned x∧G (upd γ k x) (fun i=>i == j||L i) w'):qXb P ops Q a0 (sgφ sp) G j:=by
 intro γ L v a w hdown hLj hneed hGw hφ hval h0;obtain⟨args,hrun,hcall⟩:=h γ L v a w (StIn.mk' hdown hLj hneed hGw hφ hval h0);refine qJi ho hg hrun (hcall.mono ?_);rintro r w' ⟨x,rfl,hG'⟩;refine⟨x,rfl,x,upd γ k x,rfl,?_,fun d hd _ hh=>sgφ_upd hk hd hh,hG'⟩
 unfold sgφ;rw[hs];simp[upd]
end
open Go.RowKit
section
variable{P:Program}{ops:Array Oper}{Q:Exit→Act→World→Prop}{a0:Act}{sp:List Sg}{G:(Nat→Value)→(Nat→Bool)→World→Prop}{j:Nat}{o:Oper}
theorem qZq{k:Nat}(ho:ops[j]? = some o)(hg:o.guard=none)(hs:sp.getD j .any=.g k)(hk:((List.range sp.length).all fun d=>d == j || !(sp.getD d .any).isG k)=true)
 (h:∀γ L v a w,StIn ops a0 sp G j γ L v a w→∃x w',(execOp a.eval o).run P w=.ok (.value x) w'∧G (upd γ k x) (fun i=>i == j||L i) w'):qXb P ops Q a0 (sgφ sp) G j:=by
 intro γ L v a w hdown hLj hneed hGw hφ hval h0;obtain⟨x,w',hrun,hG'⟩:=h γ L v a w (StIn.mk' hdown hLj hneed hGw hφ hval h0);refine qJh ho hg hrun ⟨x,upd γ k x,rfl,?_,fun d hd _ hh=>sgφ_upd hk hd hh,hG'⟩;unfold sgφ;rw[hs];simp[upd]
theorem sg_callv'{x:Value}{f:FuncId}(ho:ops[j]? = some o)(hg:o.guard=none)(hs:sp.getD j .any=.val x)
 (h:∀γ L v a w,StIn ops a0 sp G j γ L v a w→∃args,(execOp a.eval o).run P w=.ok (.enter f args) w∧Calls P f args w fun r w'=>r=.returned x∧G γ (fun i=>i == j||L i) w'):qXb P ops Q a0 (sgφ sp) G j:=by
 intro γ L v a w hdown hLj hneed hGw hφ hval h0;obtain⟨args,hrun,hcall⟩:=h γ L v a w (StIn.mk' hdown hLj hneed hGw hφ hval h0);refine qJi ho hg hrun (hcall.mono ?_);rintro r w' ⟨rfl,hG'⟩;refine⟨x,rfl,x, γ,rfl,?_,fun d _ _ hh=>hh,hG'⟩
 unfold sgφ;rw[hs]
theorem run_append_sln{a:Act}{w:World}{base:Nat}{e:TypeId}{size:Nat}{v:Value}{n:Nat}{xs:List Value}(hown:w.ownsRow base e size v n xs){vx:Value}{rows:List (List Value)}(hS:Sln w vx size rows)
 (hrs:∀r∈rows,r.length=size) (hone:∀r∈rows,r.all Value.oneCell'=true) {z:Value} {bytes:Nat}
 (t:TypeId) (ht:P.underlying t=some (.slice e)) (hinfo:(P.info? e).map (fun i=>(i.zero,i.size,i.bytes))=some (some z,size,bytes))
 (hzs:z.cells.size=size) (hsz:0<size) (hby:bytes≤128) (hn:n+rows.length<1000000000000) (hbase:base≤w.heap.size)
 (s x:Operand) (ho:o.op=.call { callee:=.builtin .append,args:=#[s,x],argTypes:=#[t,t] }) (hs:a.eval s=v) (hx:a.eval x=vx) :
 ∃v' w',(execOp a.eval o).run P w=.ok (.value v') w'∧w'.ownsRow base e size v' (n+rows.length) (xs++rows.flatten)∧Chg (fun k=>some k=v.ownBlock) w w':=by
 obtain⟨i,hi,h0,h1,h2⟩:∃i,P.info? e=some i∧i.zero=some z∧i.size=size∧i.bytes=bytes:=by
  cases hp:P.info? e with
  | none=>rw[hp]at hinfo;cases hinfo
  | some i =>
   rw[hp]at hinfo;simp only[Option.map_some,Option.some.injEq,Prod.mk.injEq]at hinfo;exact⟨i,rfl,hinfo.1,hinfo.2.1,hinfo.2.2⟩
 have hby2:(n+rows.length) * bytes≤140737488355328:=by
  have:(n+rows.length) * bytes≤1000000000000 * 128:=Nat.mul_le_mul (by omega) hby
  omega
 obtain⟨A,c,rfl,hc⟩:=hS
 have fin:∀v' w',(Builtin.append_ #[t,t] o.type #[v,.slice A rows.length c]).run P w=.ok v' w'→(execOp a.eval o).run P w=.ok (.value v') w':=fun v' w' hrun=>by
  unfold execOp;simp only[ho,resolve,invoke,builtin,Sem.run_bind,Sem.run_pure,Result.andThen_ok,List.map_toArray,List.map_cons,List.map_nil,hs,hx,hrun]
 cases rows with
 | nil =>
  cases A with
  | none =>
   have hrun:(Builtin.append_ #[t,t] o.type #[v,.slice none 0 c]).run P w=.ok v w:=by
    rcases hown.2 with⟨rfl,rfl⟩|⟨g,cap,cur,rfl,_,_,hnc,_⟩
    ·simp[Builtin.append_,run_underlying ht,sizeOf,typeInfo,hi,Builtin.lenOf,Builtin.firstCells]
    ·simp[Builtin.append_,run_underlying ht,sizeOf,typeInfo,hi,Builtin.lenOf,Builtin.firstCells,hnc,storeCells]
   exact⟨v,w,fin _ _ hrun,by simpa using hown,Chg.refl _ _⟩
  | some ad =>
   obtain⟨v',w',hrun,h3,h4,_⟩:=run_append_own (P:=P) (w:=w) base t o.type e i z size bytes ht hi h0 h1 h2 hzs hsz v n xs hown ad 0 c [] (by simp) (fun j u hu=>by simp at hu) (fun u hu=>by cases hu) (by unfold maxLen;simp at hn;omega) (by simpa using hby2) hbase;exact⟨v',w',fin _ _ hrun,by simpa using h3,Chg.of_grown h4⟩
 | cons r rs =>
  obtain⟨b,o',rfl,hcc⟩:=hc (by simp)
  obtain⟨v',w',hrun,h3,h4,_⟩:=run_append_own (P:=P) (w:=w) base t o.type e i z size bytes ht hi h0 h1 h2 hzs hsz v n xs hown ⟨b,o',none⟩ (r::rs).length c (r::rs).flatten (flat_len hrs) (fun j u hu=>by
   obtain⟨i',r',k,e1,e2,e3⟩:=flat_of hrs hu
   have:=hcc i' r' e1 k u e2
   rw[Go.WideShapes.add_plain,e3,←Nat.add_assoc];exact this) (fun u hu=>by
   obtain⟨r',hr',hu'⟩:=List.mem_flatten.1 hu;exact List.all_eq_true.1 (hone r' hr') u hu') (by unfold maxLen;omega) hby2 hbase
  exact⟨v',w',fin _ _ hrun,h3,Chg.of_grown h4⟩
theorem ex_append{K:Value→World→Prop}{a:Act}{w:World}{base:Nat}{e:TypeId}{size:Nat}{v:Value}{n:Nat}{xs:List Value}(hown:w.ownsRow base e size v n xs){vx:Value}{rows:List (List Value)}(hS:Sln w vx size rows)
 (hrs:∀r∈rows,r.length=size) (hone:∀r∈rows,r.all Value.oneCell'=true) {z:Value} {bytes:Nat}
 (t:TypeId) (ht:P.underlying t=some (.slice e)) (hinfo:(P.info? e).map (fun i=>(i.zero,i.size,i.bytes))=some (some z,size,bytes))
 (hzs:z.cells.size=size) (hsz:0<size) (hby:bytes≤128) (hn:n+rows.length<1000000000000) (hbase:base≤w.heap.size)
 (s x:Operand) (ho:o.op=.call { callee:=.builtin .append,args:=#[s,x],argTypes:=#[t,t] }) (hs:a.eval s=v) (hx:a.eval x=vx)
 (h:∀v' w',w'.ownsRow base e size v' (n+rows.length) (xs++rows.flatten)→Chg (fun k=>some k=v.ownBlock) w w'→K v' w') :
 ∃v' w',(execOp a.eval o).run P w=.ok (.value v') w'∧K v' w':=by
 obtain⟨v',w',h1,h2,h3⟩:=run_append_sln hown hS hrs hone t ht hinfo hzs hsz hby hn hbase s x ho hs hx;exact⟨v',w',h1,h v' w' h2 h3⟩
end
open Go.RowKit Go.Sort
theorem clone_any(w:World)(v:Value)(hl:List Int)(hH:Sl w v (hl.map (Value.int .i64)))(hb:hl.length≤17592186043904) :
 Calls prog 72 #[v] w fun e w'=>∃v',e=.returned v'∧w'.ownsRow w.heap.size 3 1 v' hl.length (hl.map (Value.int .i64))∧Ext w w':=by
 obtain⟨A,c,rfl,hx⟩:=hH;rw[List.length_map]
 by_cases hne:hl=[]
 ·subst hne;cases A with
  | none =>
   refine(Tryz.slices_Clone_int_nil _ _ _).mono ?_
   rintro e w' ⟨rfl,rfl⟩;exact⟨_,rfl,⟨rfl,.inl ⟨rfl,rfl⟩⟩,Er _⟩
  | some a =>
   refine(Tryz.slices_Clone_int_zero a c w).mono ?_
   rintro e w' ⟨v',rfl,h1,_,h2⟩;exact⟨_,rfl,h1,Ext.of_below h2⟩
 ·obtain⟨b,o,rfl,hc⟩:=hx (by simpa using hne);refine(Tryz.slices_Clone_int b o hl.length c hl w (Nat.le_refl _) (by omega) (fun j hj=>?_)).mono ?_
  ·exact hc j _ (by rw[List.getElem?_map,List.getElem?_eq_getElem hj,List.getD_eq_getElem?_getD,List.getElem?_eq_getElem hj];rfl)
  ·rintro e w' ⟨v',rfl,h1,_,h2⟩;rw[List.take_length]at h1;exact⟨_,rfl,h1,Ext.of_below h2⟩
open Go.RowKit
def newBl(x:Cmd):Bl:=⟨x.blob,x.name,x.size,x.sum,x.disks,Cp.none,Cp.none,0,false⟩
theorem qQa{w:World}{base:Nat}{e:TypeId}{size:Nat}{v:Value}{n:Nat}{xs:List Value}(h:w.ownsRow base e size v n xs):∃A c,v=.slice A n c:=by
 rcases h.2 with⟨rfl,rfl⟩|⟨g,cap,cur,rfl,_⟩
 ·exact⟨none,0,rfl⟩
 ·exact⟨_,_,rfl⟩
theorem qQ8{w:World}{base:Nat}{e:TypeId}{size:Nat}{v:Value}{n:Nat}{xs:List Value}(h:w.ownsRow base e size v n xs):w.ownsRow 0 e size v n xs:=by
 refine⟨h.1,?_⟩
 rcases h.2 with h2|⟨g,cap,cur,h2,_,h4⟩
 ·exact .inl h2
 ·exact .inr ⟨g,cap,cur,h2,Nat.zero_le _,h4⟩
def qXE(W:World)(B:Nat→Prop)(c mb mn:Nat)(C:Ct)(x:Cmd)(γ : Nat→Value)(L:Nat→Bool)(w:World):Prop :=
 if L 19=true then ∃g,CtAt w B c mb mn (C.add (newBl x) g (γ 0))∧(∀xb cs,At W xb 76 cs→At w xb 76 cs)∧Chg (· = mb) W w
 else if L 18=true then ∃g, γ 2=ptrV g∧W.heap.size≤g∧At w g 63 (blCells (newBl x) (γ 0))∧w.ownsRow 0 3 1 (γ 0) x.disks.length (x.disks.map (Value.int .i64))∧Ext W w
 else if L 17=true then γ 1=.agg (blCells (newBl x) (γ 0))∧w.ownsRow 0 3 1 (γ 0) x.disks.length (x.disks.map (Value.int .i64))∧Ext W w
 else if L 16=true then w.ownsRow 0 3 1 (γ 0) x.disks.length (x.disks.map (Value.int .i64))∧Ext W w
 else Ext W w
theorem qXE.keep{W:World}{B:Nat→Prop}{c mb mn:Nat}{C:Ct}{x:Cmd}{j:Nat}(h1:16≠j)(h2:17≠j)(h3:18≠j)(h4:19≠j):∀γ L w,qXE W B c mb mn C x γ L w→L j=false→qXE W B c mb mn C x γ (fun i=>i == j||L i) w:=by
 intro γ L w h _;unfold qXE at *;have e1:((16:Nat) == j)=false:=by simp[h1]
 have e2:((17:Nat) == j)=false:=by simp[h2]
 have e3:((18:Nat) == j)=false:=by simp[h3]
 have e4:((19:Nat) == j)=false:=by simp[h4]
 simpa[e1,e2,e3,e4]using h
theorem qXE.ext{W:World}{B:Nat→Prop}{c mb mn:Nat}{C:Ct}{x:Cmd}{γ : Nat→Value}{L:Nat→Bool}{w:World}(h:qXE W B c mb mn C x γ L w)(h19:L 19=false):Ext W w:=by
 unfold qXE at h;rw[if_neg (by rw[h19];simp)]at h
 split at h
 ·obtain⟨_,_,_,_,_,h⟩:=h;exact h
 ·split at h
  ·exact h.2.2
  ·split at h
   ·exact h.2
   ·exact h
theorem qXE.cell0{W:World}{B:Nat→Prop}{c mb mn:Nat}{C:Ct}{x:Cmd}{γ : Nat→Value}{L:Nat→Bool}{w:World}(h:qXE W B c mb mn C x γ L w)(hC:CtAt W B c mb mn C)(h19:L 19=false):w.cell? ⟨c,0,none⟩=some (.map (some mb)):=(hC.ext (h.ext h19)).c0.1
section put
variable(w:World)(B:Nat→Prop)(c mb mn:Nat)(C:Ct)(h:CtAt w B c mb mn C)(x:Cmd)(dv:Value)(hS:w.ownsRow 0 3 1 dv x.disks.length (x.disks.map (Value.int .i64)))
include h hS
omit h in
theorem put_arg(hb:x.name=ByteArray.empty∨x.blob=0∨x.disks=[]) :
 Calls prog 38 #[.pointer (some ⟨c,0,none⟩),qQd x dv] w fun e w'=>e=.returned (.int .i64 1)∧Ext w w':=by
 obtain⟨dA,dc,rfl⟩:=qQa hS;unfold qQd
 go_enter func38,ntmps38
 have hX:=At.new w 76 (cmdCells x (.slice dA x.disks.length dc));have hE:=(Er w).alloc (.cells (cmdCells x (.slice dA x.disks.length dc)) 76)
 go_upto_region 1 with fail
 generalize hxb:w.heap.size=xb at *;generalize World.alloc _ _=W at *;have x3:=hX.cell 3;have x4:=hX.cell 4;have x7:=hX.cell 7;simp at x3 x4 x7
 have hd:x.name.toList.isEmpty=true∨x.name.toList.isEmpty=false∧((((x.blob:Int) == 0)=true)∨(((x.blob:Int) == 0)=false)∧(((x.disks.length:Int) == 0)=true)):=by
  by_cases h1:x.name=ByteArray.empty
  ·left;rw[h1,Lib.toList_data];rfl
  ·have e1:x.name.toList.isEmpty=false:=by
    cases he:x.name.toList.isEmpty
    ·rfl
    ·exact absurd (qZS.1 (by rw[List.isEmpty_iff.1 he,Lib.toList_data];rfl)) h1
   by_cases h2:x.blob=0
   ·right;exact⟨e1,.inl (by rw[h2];rfl)⟩
   ·right
    refine⟨e1,.inr ⟨by rw[beq_eq_false_iff_ne];omega,?_⟩⟩
    rcases hb with hb|hb|hb
    ·exact absurd hb h1
    ·exact absurd hb h2
    ·rw[hb];rfl
 clear hb hS;rcases hd with hd|⟨hd,hd2|⟨hd2,hd3⟩⟩
 all_goals
  go_wp2_with fail
  go_ret
  exact⟨rfl,hE⟩
theorem put_there(hn:x.name≠ByteArray.empty)(hb:x.blob≠0)(hd:x.disks≠[]){r:BR}(hf:C.find x.blob=some r) :
 Calls prog 38 #[.pointer (some ⟨c,0,none⟩),qQd x dv] w fun e w'=>e=.returned (.int .i64 6)∧Ext w w':=by
 obtain⟨dA,dc,rfl⟩:=qQa hS;unfold qQd
 go_enter func38,ntmps38
 have hX:=At.new w 76 (cmdCells x (.slice dA x.disks.length dc));have hE:=(Er w).alloc (.cells (cmdCells x (.slice dA x.disks.length dc)) 76)
 go_upto_region 1 with fail
 generalize hxb:w.heap.size=xb at *;generalize World.alloc _ _=W at *;have hC:=h.ext hE;have x3:=hX.cell 3;have x4:=hX.cell 4;have x7:=hX.cell 7;simp at x3 x4 x7
 have t1:x.name.toList.isEmpty=false:=by
  cases he:x.name.toList.isEmpty
  ·rfl
  ·exact absurd (qZS.1 (by rw[List.isEmpty_iff.1 he,Lib.toList_data];rfl)) hn
 have t2:((x.blob:Int) == 0)=false:=by rw[beq_eq_false_iff_ne];omega
 have t3:((x.disks.length:Int) == 0)=false:=by
  have:=List.length_pos_iff.2 hd
  rw[beq_eq_false_iff_ne];omega
 clear hn hb hd h hS
 go_upto_region 3 with fail
 clear x3 x4 x7 t1 t2 t3;obtain⟨c0,c1⟩:=hC.c0;have hlk:=(hC.ext ((Er W).drew)).look x.blob;rw[hf]at hlk;simp only[ptrO]at hlk;have x4:=hX.cell 4;simp at x4
 go_region
 go_wp2_with fail
 go_ret
 exact⟨rfl,hE.drew⟩
def deadCt(C:Ct)(r:Option BR):Ct:=match r with
 | some r=>C.upd r.g { r.b with dead:=true } r.dv
 | none=>C
theorem put_ok(hn:x.name≠ByteArray.empty)(hb:x.blob≠0)(hd:x.disks≠[])(hf:C.find x.blob=none)(r:Option BR)(hr:∀id,lget x.name C.names=some id→C.find id=r∧r≠none)(hr0:lget x.name C.names=none→r=none)(hdl:x.disks.length≤17592186043904) :
 Calls prog 38 #[.pointer (some ⟨c,0,none⟩),qQd x dv] w fun e w'=>∃g dv',e=.returned (.int .i64 0)∧CtAt w' B c mb mn (((deadCt C r).add (newBl x) g dv').setNames ((x.name,x.blob)::qX0 x.name C.names))∧Chg (C.S c mb mn) w w':=by
 obtain⟨dA,dc,rfl⟩:=qQa hS;unfold qQd
 go_enter func38,ntmps38
 have hX:=At.new w 76 (cmdCells x (.slice dA x.disks.length dc));have hE:=(Er w).alloc (.cells (cmdCells x (.slice dA x.disks.length dc)) 76)
 go_upto_region 1 with fail
 generalize hxb:w.heap.size=xb at *;generalize World.alloc _ _=W at *;have hBw:B xb:=h.up xb (by omega);have hC:=h.ext hE;have hS1:=own_kx hS hE;have x3:=hX.cell 3;have x4:=hX.cell 4;have x7:=hX.cell 7;simp at x3 x4 x7
 have t1:x.name.toList.isEmpty=false:=by
  cases he:x.name.toList.isEmpty
  ·rfl
  ·exact absurd (qZS.1 (by rw[List.isEmpty_iff.1 he,Lib.toList_data];rfl)) hn
 have t2:((x.blob:Int) == 0)=false:=by rw[beq_eq_false_iff_ne];omega
 have t3:((x.disks.length:Int) == 0)=false:=by
  have:=List.length_pos_iff.2 hd
  rw[beq_eq_false_iff_ne];omega
 clear hn hb hd h hS
 go_upto_region 3 with fail
 clear x3 x4 x7 t1 t2 t3;obtain⟨c0,c1⟩:=hC.c0;have hlk:=(hC.ext ((Er W).drew)).look x.blob;rw[hf]at hlk;simp only[ptrO]at hlk;have x4:=hX.cell 4;simp at x4
 go_region
 clear hlk c0 c1 x4;have hX1:=hX.drew;have hC1:=hC.ext ((Er W).drew);have hE1:=hE.drew;have hS2:=qQb hS1 ((Er W).drew) (fun _ _ hh=>hh);clear hX hC hE hS1;generalize World.drew _=W1 at *
 go_upto_region 5 with fail
 obtain⟨c0,c1⟩:=hC1.c0;have hlk:=(hC1.ext ((Er W1).drew)).lookName x.name;have x3:=hX1.cell 3;simp at x3
 go_region
 clear hlk c0 c1 x3;have hX2:=hX1.drew;have hC2:=hC1.ext ((Er W1).drew);have hE2:=hE1.drew;have hS3:=qQb hS2 ((Er W1).drew) (fun _ _ hh=>hh);clear hX1 hC1 hE1 hS2;generalize World.drew _=W2 at *;generalize hon:lget x.name C.names=on at *;have HON:=Hh hon;clear hon
 go_upto_if 39 with fail
 have hwl:w.heap.size≤xb:=by omega
 go_cut [5,6]from 29 to 47 (fun _ _ wx=>CtAt wx B c mb mn (deadCt C r)∧At wx xb 76 (cmdCells x (.slice dA x.disks.length dc))∧wx.ownsRow 0 3 1 (.slice dA x.disks.length dc) x.disks.length (x.disks.map (Value.int .i64))∧Chg (C.S c mb mn) w wx)
 case first =>
  have hEB:Chg (C.S c mb mn) w W2:=Chg.mono hE2 (fun _ _ hh=>hh.elim);cases on with
  | none =>
   obtain rfl:r=none:=hr0 rfl;go_wp2_with fail
   go_meet
   case rel=>exact⟨hC2,hX2,hS3,hEB⟩
  | some id =>
   obtain⟨h1,h2⟩:=hr id rfl;obtain⟨r0,rfl⟩:=Option.ne_none_iff_exists'.1 h2;obtain⟨c0,c1⟩:=hC2.c0;have hlk:=hC2.look id;rw[h1]at hlk;simp only[ptrO]at hlk;have hrm:=(qZJ h1).1;have hB:=(hC2.bl r0 hrm).1;have hO:=(hC2.bl r0 hrm).2;have hgB:=hC2.lo.2.2.2 r0 hrm;have b12:=hB.cell 12;have f12:=hB.frozen 12;have hbl:=hB.lt;simp at b12;have hCs:=(Chg.refl (· = r0.g) W2).setCell (p:=⟨r0.g,12,none⟩) (.inl rfl) (.bool true);have hB2:At (W2.setCell ⟨r0.g,12,none⟩ (.bool true)) r0.g 63 (blCells { r0.b with dead:=true } r0.dv):=hB.set 12 _;have hC3:=hC2.chgBlob hrm (b := { r0.b with dead:=true }) (dv:=r0.dv) rfl hCs hB2 (qQb hO hCs (fun k hk e=>qQf hO hB (by decide) k hk e));have hX3:=hX2.far (p:=⟨r0.g,12,none⟩) (At.ne hX2 hB (by decide)) (.bool true);have hS4:=qQb hS3 hCs (fun k hk e=>qQf hS3 hB (by decide) k hk e);clear hr hr0;go_wp2_with fail
   go_meet
   case rel=>exact⟨hC3,hX3,hS4,Chg.trans hEB hCs (fun k _ e=>by have e':k=r0.g:=e;exact .inr (.inr (.inr ⟨r0,hrm,e'⟩)))⟩
 case rest =>
  clear hX2 hC2 hE2 hS3;obtain⟨hC4,hX4,hS4,hCh4⟩:=hcut;generalize hC1e:deadCt C r=C1 at *;have HC1:=Hh hC1e;clear hC1e
  go_upto_region 8 with fail
  obtain⟨W4,hW4⟩:∃W4,W4=wc:=⟨_,rfl⟩;subst hW4;have hB4:B W4.heap.size:=hC4.up _ (Nat.le_refl _);have hmB:=hC4.lo.2.1
  refine qQx (Γ := Nat→Value) (sgφ [.val (.pointer (some ⟨c,0,none⟩)),.val (.pointer (some ⟨c,0,none⟩)),.val (.pointer (some ⟨c,0,none⟩)),.val (.map (some mb)),.val (.pointer (some ⟨xb,4,none⟩)),.val (.int .u64 (x.blob:Int)),.val (.pointer (some ⟨xb,4,none⟩)),.val (.int .u64 (x.blob:Int)),.val (.pointer (some ⟨xb,3,none⟩)),.val (.string x.name),.val (.pointer (some ⟨xb,5,none⟩)),.val (.int .i64 x.size),.val (.pointer (some ⟨xb,6,none⟩)),.val (.int .u32 (x.sum:Int)),.val (.pointer (some ⟨xb,7,none⟩)),.val (.slice dA x.disks.length dc),.g 0,.g 1,.g 2,.any])
   (qXE W4 B c mb mn C1 x) (by kernel_rfl) (by kernel_rfl) (by kernel_rfl) (fun _=>undef) ((Er W4).drew) ?steps ?fin
  case steps =>
   show qQ2 _ _ _ _ _ _ 20
   refine⟨⟨⟨⟨⟨⟨⟨⟨⟨⟨⟨⟨⟨⟨⟨⟨⟨⟨⟨⟨trivial,?s0⟩,?s1⟩,?s2⟩,?s3⟩,?s4⟩,?s5⟩,?s6⟩,?s7⟩,?s8⟩,?s9⟩,?s10⟩,?s11⟩,?s12⟩,?s13⟩,?s14⟩,?s15⟩,?s16⟩,?s17⟩,?s18⟩,?s19⟩
   case s0 =>
    refine qQh (x:=.pointer (some ⟨c,0,none⟩)) rfl rfl rfl (qXE.keep (j:=0) (by decide) (by decide) (by decide) (by decide)) fun γ L v a w st=>?_
    have e0:=st.far 0 (by kernel_rfl);simp at e0;go_simp
   case s1 =>
    refine qQh (x:=.pointer (some ⟨c,0,none⟩)) rfl rfl rfl (qXE.keep (j:=1) (by decide) (by decide) (by decide) (by decide)) fun γ L v a w st=>?_
    have e0:=st.val 0 48 rfl (by kernel_rfl);rw[(st.φ 0 (by kernel_rfl):v 0=_)]at e0;simp at e0;go_simp
   case s2 =>
    refine qQh (x:=.pointer (some ⟨c,0,none⟩)) rfl rfl rfl (qXE.keep (j:=2) (by decide) (by decide) (by decide) (by decide)) fun γ L v a w st=>?_
    have e1:=st.val 1 49 rfl (by kernel_rfl);rw[(st.φ 1 (by kernel_rfl):v 1=_)]at e1;simp at e1;go_simp
   case s3 =>
    refine qQh (x:=.map (some mb)) rfl rfl rfl (qXE.keep (j:=3) (by decide) (by decide) (by decide) (by decide)) fun γ L v a w st=>?_
    have e2:=st.val 2 50 rfl (by kernel_rfl);rw[(st.φ 2 (by kernel_rfl):v 2=_)]at e2;simp at e2
    have h19:L 19=false:=by
     cases hq:L 19 with
     | false=>rfl
     | true =>
      have q3:=st.down 19 3 hq (by kernel_rfl);have q99:=st.off;rw[q3]at q99;cases q99
    have hc:=st.inv.cell0 hC4 h19;go_simp
   case s4 =>
    refine qQh (x:=.pointer (some ⟨xb,4,none⟩)) rfl rfl rfl (qXE.keep (j:=4) (by decide) (by decide) (by decide) (by decide)) fun γ L v a w st=>?_
    have e3:=st.far 3 (by kernel_rfl);simp at e3;go_simp
   case s6 =>
    refine qQh (x:=.pointer (some ⟨xb,4,none⟩)) rfl rfl rfl (qXE.keep (j:=6) (by decide) (by decide) (by decide) (by decide)) fun γ L v a w st=>?_
    have e3:=st.far 3 (by kernel_rfl);simp at e3;go_simp
   case s8 =>
    refine qQh (x:=.pointer (some ⟨xb,3,none⟩)) rfl rfl rfl (qXE.keep (j:=8) (by decide) (by decide) (by decide) (by decide)) fun γ L v a w st=>?_
    have e3:=st.far 3 (by kernel_rfl);simp at e3;go_simp
   case s10 =>
    refine qQh (x:=.pointer (some ⟨xb,5,none⟩)) rfl rfl rfl (qXE.keep (j:=10) (by decide) (by decide) (by decide) (by decide)) fun γ L v a w st=>?_
    have e3:=st.far 3 (by kernel_rfl);simp at e3;go_simp
   case s12 =>
    refine qQh (x:=.pointer (some ⟨xb,6,none⟩)) rfl rfl rfl (qXE.keep (j:=12) (by decide) (by decide) (by decide) (by decide)) fun γ L v a w st=>?_
    have e3:=st.far 3 (by kernel_rfl);simp at e3;go_simp
   case s14 =>
    refine qQh (x:=.pointer (some ⟨xb,7,none⟩)) rfl rfl rfl (qXE.keep (j:=14) (by decide) (by decide) (by decide) (by decide)) fun γ L v a w st=>?_
    have e3:=st.far 3 (by kernel_rfl);simp at e3;go_simp
   case s5 =>
    refine qQh (x:=.int .u64 (x.blob:Int)) rfl rfl rfl (qXE.keep (j:=5) (by decide) (by decide) (by decide) (by decide)) fun γ L v a w st=>?_
    have e4:=st.val 4 52 rfl (by kernel_rfl);rw[(st.φ 4 (by kernel_rfl):v 4=_)]at e4;simp at e4
    have h19:L 19=false:=by
     cases hq:L 19 with
     | false=>rfl
     | true =>
      have q5:=st.down 19 5 hq (by kernel_rfl);have q99:=st.off;rw[q5]at q99;cases q99
    have hc:=(hX4.ext (st.inv.ext h19)).cell 4;simp at hc;go_simp
   case s7 =>
    refine qQh (x:=.int .u64 (x.blob:Int)) rfl rfl rfl (qXE.keep (j:=7) (by decide) (by decide) (by decide) (by decide)) fun γ L v a w st=>?_
    have e6:=st.val 6 54 rfl (by kernel_rfl);rw[(st.φ 6 (by kernel_rfl):v 6=_)]at e6;simp at e6
    have h19:L 19=false:=by
     cases hq:L 19 with
     | false=>rfl
     | true =>
      have q18:=st.down 19 18 hq (by kernel_rfl);have q17:=st.down 18 17 q18 (by kernel_rfl);have q7:=st.down 17 7 q17 (by kernel_rfl);have q99:=st.off;rw[q7]at q99;cases q99
    have hc:=(hX4.ext (st.inv.ext h19)).cell 4;simp at hc;go_simp
   case s9 =>
    refine qQh (x:=.string x.name) rfl rfl rfl (qXE.keep (j:=9) (by decide) (by decide) (by decide) (by decide)) fun γ L v a w st=>?_
    have e8:=st.val 8 56 rfl (by kernel_rfl);rw[(st.φ 8 (by kernel_rfl):v 8=_)]at e8;simp at e8
    have h19:L 19=false:=by
     cases hq:L 19 with
     | false=>rfl
     | true =>
      have q18:=st.down 19 18 hq (by kernel_rfl);have q17:=st.down 18 17 q18 (by kernel_rfl);have q9:=st.down 17 9 q17 (by kernel_rfl);have q99:=st.off;rw[q9]at q99;cases q99
    have hc:=(hX4.ext (st.inv.ext h19)).cell 3;simp at hc;go_simp
   case s11 =>
    refine qQh (x:=.int .i64 x.size) rfl rfl rfl (qXE.keep (j:=11) (by decide) (by decide) (by decide) (by decide)) fun γ L v a w st=>?_
    have e10:=st.val 10 58 rfl (by kernel_rfl);rw[(st.φ 10 (by kernel_rfl):v 10=_)]at e10;simp at e10
    have h19:L 19=false:=by
     cases hq:L 19 with
     | false=>rfl
     | true =>
      have q18:=st.down 19 18 hq (by kernel_rfl);have q17:=st.down 18 17 q18 (by kernel_rfl);have q11:=st.down 17 11 q17 (by kernel_rfl);have q99:=st.off;rw[q11]at q99;cases q99
    have hc:=(hX4.ext (st.inv.ext h19)).cell 5;simp at hc;go_simp
   case s13 =>
    refine qQh (x:=.int .u32 (x.sum:Int)) rfl rfl rfl (qXE.keep (j:=13) (by decide) (by decide) (by decide) (by decide)) fun γ L v a w st=>?_
    have e12:=st.val 12 60 rfl (by kernel_rfl);rw[(st.φ 12 (by kernel_rfl):v 12=_)]at e12;simp at e12
    have h19:L 19=false:=by
     cases hq:L 19 with
     | false=>rfl
     | true =>
      have q18:=st.down 19 18 hq (by kernel_rfl);have q17:=st.down 18 17 q18 (by kernel_rfl);have q13:=st.down 17 13 q17 (by kernel_rfl);have q99:=st.off;rw[q13]at q99;cases q99
    have hc:=(hX4.ext (st.inv.ext h19)).cell 6;simp at hc;go_simp
   case s15 =>
    refine qQh (x:=.slice dA x.disks.length dc) rfl rfl rfl (qXE.keep (j:=15) (by decide) (by decide) (by decide) (by decide)) fun γ L v a w st=>?_
    have e14:=st.val 14 62 rfl (by kernel_rfl);rw[(st.φ 14 (by kernel_rfl):v 14=_)]at e14;simp at e14
    have h19:L 19=false:=by
     cases hq:L 19 with
     | false=>rfl
     | true =>
      have q18:=st.down 19 18 hq (by kernel_rfl);have q17:=st.down 18 17 q18 (by kernel_rfl);have q16:=st.down 17 16 q17 (by kernel_rfl);have q15:=st.down 16 15 q16 (by kernel_rfl);have q99:=st.off;rw[q15]at q99;cases q99
    have hc:=(hX4.ext (st.inv.ext h19)).cell 7;simp at hc;go_simp
   case s16 =>
    refine qZW (k:=0) (f:=72) rfl rfl rfl (by kernel_rfl) fun γ L v a w st=>?_
    have e15:=st.val 15 63 rfl (by kernel_rfl);rw[(st.φ 15 (by kernel_rfl):v 15=_)]at e15;simp at e15
    have h19:L 19=false:=by
     cases hq:L 19 with
     | false=>rfl
     | true =>
      have q18:=st.down 19 18 hq (by kernel_rfl);have q17:=st.down 18 17 q18 (by kernel_rfl);have q16:=st.down 17 16 q17 (by kernel_rfl);have q99:=st.off;rw[q16]at q99;cases q99
    have h18:L 18=false:=by
     cases hq:L 18 with
     | false=>rfl
     | true =>
      have q17:=st.down 18 17 hq (by kernel_rfl);have q16:=st.down 17 16 q17 (by kernel_rfl);have q99:=st.off;rw[q16]at q99;cases q99
    have h17:L 17=false:=by
     cases hq:L 17 with
     | false=>rfl
     | true =>
      have q16:=st.down 17 16 hq (by kernel_rfl);have q99:=st.off;rw[q16]at q99;cases q99
    have h16:L 16=false:=st.off;have hE:=st.inv.ext h19;refine⟨#[.slice dA x.disks.length dc],by go_simp,?_⟩
    refine(clone_any w _ x.disks (Sl.of_own (own_kx hS4 hE)) hdl).mono ?_
    rintro r w' ⟨v',rfl,hO,hEc⟩;refine⟨v',rfl,?_⟩
    unfold qXE;rw[if_neg (by simp[h19]),if_neg (by simp[h18]),if_neg (by simp[h17]),if_pos (by simp)];exact⟨qQ8 hO,hE.trans hEc⟩
   case s17 =>
    refine qZq (k:=1) rfl rfl rfl (by kernel_rfl) fun γ L v a w st=>?_
    have e7:=st.val 7 55 rfl (by kernel_rfl);rw[(st.φ 7 (by kernel_rfl):v 7=_)]at e7;simp at e7;have e9:=st.val 9 57 rfl (by kernel_rfl);rw[(st.φ 9 (by kernel_rfl):v 9=_)]at e9;simp at e9;have e11:=st.val 11 59 rfl (by kernel_rfl);rw[(st.φ 11 (by kernel_rfl):v 11=_)]at e11;simp at e11;have e13:=st.val 13 61 rfl (by kernel_rfl);rw[(st.φ 13 (by kernel_rfl):v 13=_)]at e13;simp at e13;have e16:=st.val 16 64 rfl (by kernel_rfl);rw[(st.φ 16 (by kernel_rfl):v 16=_)]at e16;simp at e16
    have h19:L 19=false:=by
     cases hq:L 19 with
     | false=>rfl
     | true =>
      have q18:=st.down 19 18 hq (by kernel_rfl);have q17:=st.down 18 17 q18 (by kernel_rfl);have q99:=st.off;rw[q17]at q99;cases q99
    have h18:L 18=false:=by
     cases hq:L 18 with
     | false=>rfl
     | true =>
      have q17:=st.down 18 17 hq (by kernel_rfl);have q99:=st.off;rw[q17]at q99;cases q99
    have h17:L 17=false:=st.off;have hinv:=st.inv;unfold qXE at hinv;rw[if_neg (by rw[h19];simp),if_neg (by rw[h18];simp),if_neg (by rw[h17];simp),if_pos (st.dep 16 (by kernel_rfl))]at hinv;obtain⟨gA,gc,hγ⟩:=qQa hinv.1;refine⟨.agg (blCells (newBl x) (γ 0)),w,by rw[hγ]at e16⊢;go_simp;exact⟨rfl,rfl,rfl,rfl,rfl,rfl,rfl,rfl,rfl,rfl,rfl,rfl⟩,?_⟩
    unfold qXE;rw[if_neg (by simp[h19]),if_neg (by simp[h18]),if_pos (by simp)];exact⟨rfl,by simpa[upd]using hinv.1,hinv.2⟩
   case s18 =>
    refine qZq (k:=2) rfl rfl rfl (by kernel_rfl) fun γ L v a w st=>?_
    have h19:L 19=false:=by
     cases hq:L 19 with
     | false=>rfl
     | true =>
      have q18:=st.down 19 18 hq (by kernel_rfl);have q99:=st.off;rw[q18]at q99;cases q99
    have h18:L 18=false:=st.off;have hinv:=st.inv;unfold qXE at hinv;rw[if_neg (by rw[h19];simp),if_neg (by rw[h18];simp),if_pos (st.dep 17 (by kernel_rfl))]at hinv;obtain⟨hg1,hO,hE⟩:=hinv;have e17:=st.val 17 65 rfl (by kernel_rfl);rw[(st.φ 17 (by kernel_rfl):v 17=_),hg1]at e17;simp at e17;refine⟨.pointer (some ⟨w.heap.size,0,none⟩),w.alloc (.cells (blCells (newBl x) (γ 0)) 63),by go_simp,?_⟩
    unfold qXE;rw[if_neg (by simp[h19]),if_pos (by simp)];exact⟨w.heap.size,by simp[upd,ptrV],hE.size,At.new w _ _,by simpa[upd]using hO.alloc _,hE.alloc _⟩
   case s19 =>
    refine qQ7 rfl rfl rfl fun γ L v a w st=>?_
    have e3:=st.val 3 51 rfl (by kernel_rfl);rw[(st.φ 3 (by kernel_rfl):v 3=_)]at e3;simp at e3;have e5:=st.val 5 53 rfl (by kernel_rfl);rw[(st.φ 5 (by kernel_rfl):v 5=_)]at e5;simp at e5;have h19:L 19=false:=st.off;have hinv:=st.inv;unfold qXE at hinv;rw[if_neg (by rw[h19];simp),if_pos (st.dep 18 (by kernel_rfl))]at hinv;obtain⟨g,hg2,hgW,hB,hO,hE⟩:=hinv;have e18:=st.val 18 66 rfl (by kernel_rfl);rw[(st.φ 18 (by kernel_rfl):v 18=_),hg2]at e18;simp[ptrV]at e18;obtain⟨w',hrun,hC',hCh⟩:=(hC4.ext hE).addRow (b:=newBl x) (dv := γ 0) hB hO (fun r hr e=>by have:=(hC4.bl r hr).1.lt;omega) (hC4.up _ (by omega));have hrun':(Instr.mapUpdate 92 (.map (some mb)) (.int .u64 (x.blob:Int)) (.pointer (some ⟨g,0,none⟩))).run prog w=.ok () w':=hrun;refine⟨w',by go_simp,?_⟩
    unfold qXE;rw[if_pos (by simp)];exact⟨g,hC',(fun xb cs hA=>(hA.ext hE).chg hCh (fun e=>(hC4.ext hE).bm.ne_at (hA.ext hE) (Eq.symm e))),Chg.trans (S:=(· = mb)) (Chg.mono hE (fun _ _ hh=>hh.elim)) hCh (fun k _ e=>e)⟩
  case fin =>
   intro γ L v wx hall hG hφ;unfold qXE at hG;rw[if_pos (hall 19 (by decide))]at hG;obtain⟨g,hC5,hX5',hCh5⟩:=hG;have hX5:=hX5' xb _ hX4;clear hX5';generalize γ 0=dv' at *;clear hall hφ hX4 hC4 hS4
   change Exit.then _ _ _ (qQM _ v _ 20) wx
   simp only[qQM,qQH,Act.put];simp only[List.getElem?_toArray,List.getElem?_cons_zero,List.getElem?_cons_succ,Option.bind_some,List.setIfInBounds_toArray,List.set_cons_zero,List.set_cons_succ];have hnms:(C1.add (newBl x) g dv').names=C.names:=by rw[←HC1.out];cases r <;> rfl
   obtain⟨w6,hup,hC6,hCh6⟩:=(hC5.ext ((Er wx).drew)).addName x.name x.blob;rw[hnms,←HC1.out]at hC6;obtain⟨c0,c1⟩:=hC5.c0;have x3:=hX5.cell 3;have x4:=hX5.cell 4;have hmnB:=hC5.lo.2.2.1;simp at x3 x4;clear hX5 hC5 hnms
   go_upto_region 9 with fail
   go_region
   go_wp2_with fail
   go_ret
   exact⟨g,dv',rfl,hC6,Chg.trans (Chg.trans hCh4 hCh5 (fun k _ e=>by have e':k=mb:=e;exact .inr (.inl e'))).drew hCh6 (fun k _ e=>by have e':k=mn:=e;exact .inr (.inr (.inl e')))⟩
end put
open Go.RowKit
section forget
variable(w:World)(B:Nat→Prop)(c mb mn:Nat)(C:Ct)(h:CtAt w B c mb mn C){r:BR}(hf:C.find r.b.id=some r)
include h hf
theorem forget_no(hk:r.b.dead=false∨0<r.b.pins) :
 Calls prog 43 #[.pointer (some ⟨c,0,none⟩),.pointer (some ⟨r.g,0,none⟩)] w fun e w'=>e=.returned (.int .i64 16)∧Ext w w':=by
 have hB:=(h.bl r (qZJ hf).1).1;have b11:=hB.cell 11;have b12:=hB.cell 12;simp at b11 b12
 have hk2:r.b.dead=false∨r.b.dead=true∧0<r.b.pins:=by
  cases hd:r.b.dead
  ·exact .inl rfl
  ·rcases hk with hk|hk
   ·rw[hd]at hk;cases hk
   ·exact .inr ⟨rfl,hk⟩
 go_enter func43,ntmps43
 clear hk h hf hB;rcases hk2 with hk|⟨hk,hk2⟩
 all_goals
  go_wp2_with fail
  go_ret
  exact⟨rfl,Er _⟩
theorem forget_ok(hd:r.b.dead=true)(hp:¬ 0<r.b.pins) :
 Calls prog 43 #[.pointer (some ⟨c,0,none⟩),.pointer (some ⟨r.g,0,none⟩)] w fun e w'=>e=.returned (.int .i64 0)∧CtAt w' B c mb mn (C.del r.b.id)∧Chg (C.S c mb mn) w w':=by
 have hB:=(h.bl r (qZJ hf).1).1;have b0:=hB.cell 0;have b11:=hB.cell 11;have b12:=hB.cell 12;simp at b0 b11 b12;obtain⟨c0,c1⟩:=h.c0;obtain⟨w',hdel,hC',hCh⟩:=(h.ext ((Er w).drew)).delRow r.b.id;have hdel':=hdel 0;have hmB:=h.lo.2.1
 go_enter func43,ntmps43
 clear h hf hB
 go_upto_region 3 with fail
 go_region
 go_wp2_with fail
 go_ret
 exact⟨rfl,hC',Chg.trans (S:=C.S c mb mn) (Chg.mono ((Er w).drew) (fun _ _ hh=>hh.elim)) hCh (fun k _ e=>by have e':k=mb:=e;exact .inr (.inl e'))⟩
theorem unpin_no(x:Cmd)(dv:Value)(hk:x.kind=6)(hp:r.b.pins=0) :
 Calls prog 44 #[.pointer (some ⟨c,0,none⟩),.pointer (some ⟨r.g,0,none⟩),qQd x dv] w fun e w'=>e=.returned (.int .i64 16)∧Ext w w':=by
 have HK:=Hh hk;clear hk;unfold qQd
 go_enter func44,ntmps44
 have hX:=At.new w 76 (cmdCells x dv);have hE:=(Er w).alloc (.cells (cmdCells x dv) 76)
 go_upto_region 1 with fail
 generalize World.alloc _ _=W at *;have hB:=((h.ext hE).bl r (qZJ hf).1).1;have b11:=hB.cell 11;have x0:=hX.cell 0;simp at b11 x0;rw[hp]at b11;rw[HK.out]at x0;clear h hf hB hX;go_wp2_with fail
 go_ret
 exact⟨rfl,hE⟩
theorem unpin_ok(x:Cmd)(dv:Value)(hk:x.kind=6)(hp:0<r.b.pins∧r.b.pins<4611686018427387904) :
 Calls prog 44 #[.pointer (some ⟨c,0,none⟩),.pointer (some ⟨r.g,0,none⟩),qQd x dv] w fun e w'=>e=.returned (.int .i64 0)∧CtAt w' B c mb mn (C.upd r.g { r.b with pins:=r.b.pins - 1 } r.dv)∧Chg (C.S c mb mn) w w':=by
 have HK:=Hh hk;clear hk;unfold qQd
 go_enter func44,ntmps44
 have hX:=At.new w 76 (cmdCells x dv);have hE:=(Er w).alloc (.cells (cmdCells x dv) 76)
 go_upto_region 1 with fail
 generalize World.alloc _ _=W at *;have hC:=h.ext hE;have hrm:=(qZJ hf).1;have hB:=(hC.bl r hrm).1;have hO:=(hC.bl r hrm).2;have hgB:=hC.lo.2.2.2 r hrm;have b11:=hB.cell 11;have f11:=hB.frozen 11;have hbl:=hB.lt;have x0:=hX.cell 0;simp at b11 x0;rw[HK.out]at x0;have hp0:(r.b.pins == 0)=false:=by rw[beq_eq_false_iff_ne];omega
 have hCs:=(Chg.refl (· = r.g) W).setCell (p:=⟨r.g,11,none⟩) (.inl rfl) (.int .i64 (r.b.pins - 1));have hB2:At (W.setCell ⟨r.g,11,none⟩ (.int .i64 (r.b.pins - 1))) r.g 63 (blCells { r.b with pins:=r.b.pins - 1 } r.dv):=hB.set 11 _;have hC2:=hC.chgBlob hrm (b := { r.b with pins:=r.b.pins - 1 }) (dv:=r.dv) rfl hCs hB2 (qQb hO hCs (fun k hk e=>qQf hO hB (by decide) k hk e));clear h hf hB hX hC hO hB2;go_wp2_with fail
 go_ret
 exact⟨rfl,hC2,Chg.trans (S:=C.S c mb mn) (Chg.mono hE (fun _ _ hh=>hh.elim)) hCs (fun k _ e=>by have e':k=r.g:=e;exact .inr (.inr (.inr ⟨r,hrm,e'⟩)))⟩
end forget
open Go.RowKit
abbrev blZero:Array Value:=#[.int .u64 0,.string ⟨#[]⟩,.int .i64 0,.int .u32 0,.slice none 0 0,.bool false,.int .i64 0,.int .i64 0,.bool false,.int .i64 0,.int .i64 0,.int .i64 0,.bool false]
theorem blob_out{W:World}{g:Nat}(h:At W g 63 blZero)(a0 a1 a2 a3 a4 a5 a6 a7 a8 a9 a10 a11 a12:Value) :
 At (((((((((((((W.setCell ⟨g,0,none⟩ a0).setCell ⟨g,1,none⟩ a1).setCell ⟨g,2,none⟩ a2).setCell ⟨g,3,none⟩ a3).setCell ⟨g,4,none⟩ a4).setCell ⟨g,5,none⟩ a5).setCell ⟨g,6,none⟩ a6).setCell ⟨g,7,none⟩ a7).setCell ⟨g,8,none⟩ a8).setCell ⟨g,9,none⟩ a9).setCell ⟨g,10,none⟩ a10).setCell ⟨g,11,none⟩ a11).setCell ⟨g,12,none⟩ a12) g 63 #[a0,a1,a2,a3,a4,a5,a6,a7,a8,a9,a10,a11,a12]∧Chg (· = g) W (((((((((((((W.setCell ⟨g,0,none⟩ a0).setCell ⟨g,1,none⟩ a1).setCell ⟨g,2,none⟩ a2).setCell ⟨g,3,none⟩ a3).setCell ⟨g,4,none⟩ a4).setCell ⟨g,5,none⟩ a5).setCell ⟨g,6,none⟩ a6).setCell ⟨g,7,none⟩ a7).setCell ⟨g,8,none⟩ a8).setCell ⟨g,9,none⟩ a9).setCell ⟨g,10,none⟩ a10).setCell ⟨g,11,none⟩ a11).setCell ⟨g,12,none⟩ a12):=by
 have h0:At (W.setCell ⟨g,0,none⟩ a0) g 63 #[a0,.string ⟨#[]⟩,.int .i64 0,.int .u32 0,.slice none 0 0,.bool false,.int .i64 0,.int .i64 0,.bool false,.int .i64 0,.int .i64 0,.int .i64 0,.bool false]:=h.set 0 a0;have c0:=(Chg.refl (· = g) W).setCell (p:=⟨g,0,none⟩) (.inl rfl) a0;have h1:At ((W.setCell ⟨g,0,none⟩ a0).setCell ⟨g,1,none⟩ a1) g 63 #[a0,a1,.int .i64 0,.int .u32 0,.slice none 0 0,.bool false,.int .i64 0,.int .i64 0,.bool false,.int .i64 0,.int .i64 0,.int .i64 0,.bool false]:=h0.set 1 a1;have c1:=(c0).setCell (p:=⟨g,1,none⟩) (.inl rfl) a1;have h2:At (((W.setCell ⟨g,0,none⟩ a0).setCell ⟨g,1,none⟩ a1).setCell ⟨g,2,none⟩ a2) g 63 #[a0,a1,a2,.int .u32 0,.slice none 0 0,.bool false,.int .i64 0,.int .i64 0,.bool false,.int .i64 0,.int .i64 0,.int .i64 0,.bool false]:=h1.set 2 a2;have c2:=(c1).setCell (p:=⟨g,2,none⟩) (.inl rfl) a2;have h3:At ((((W.setCell ⟨g,0,none⟩ a0).setCell ⟨g,1,none⟩ a1).setCell ⟨g,2,none⟩ a2).setCell ⟨g,3,none⟩ a3) g 63 #[a0,a1,a2,a3,.slice none 0 0,.bool false,.int .i64 0,.int .i64 0,.bool false,.int .i64 0,.int .i64 0,.int .i64 0,.bool false]:=h2.set 3 a3;have c3:=(c2).setCell (p:=⟨g,3,none⟩) (.inl rfl) a3;have h4:At (((((W.setCell ⟨g,0,none⟩ a0).setCell ⟨g,1,none⟩ a1).setCell ⟨g,2,none⟩ a2).setCell ⟨g,3,none⟩ a3).setCell ⟨g,4,none⟩ a4) g 63 #[a0,a1,a2,a3,a4,.bool false,.int .i64 0,.int .i64 0,.bool false,.int .i64 0,.int .i64 0,.int .i64 0,.bool false]:=h3.set 4 a4;have c4:=(c3).setCell (p:=⟨g,4,none⟩) (.inl rfl) a4;have h5:At ((((((W.setCell ⟨g,0,none⟩ a0).setCell ⟨g,1,none⟩ a1).setCell ⟨g,2,none⟩ a2).setCell ⟨g,3,none⟩ a3).setCell ⟨g,4,none⟩ a4).setCell ⟨g,5,none⟩ a5) g 63 #[a0,a1,a2,a3,a4,a5,.int .i64 0,.int .i64 0,.bool false,.int .i64 0,.int .i64 0,.int .i64 0,.bool false]:=h4.set 5 a5;have c5:=(c4).setCell (p:=⟨g,5,none⟩) (.inl rfl) a5;have h6:At (((((((W.setCell ⟨g,0,none⟩ a0).setCell ⟨g,1,none⟩ a1).setCell ⟨g,2,none⟩ a2).setCell ⟨g,3,none⟩ a3).setCell ⟨g,4,none⟩ a4).setCell ⟨g,5,none⟩ a5).setCell ⟨g,6,none⟩ a6) g 63 #[a0,a1,a2,a3,a4,a5,a6,.int .i64 0,.bool false,.int .i64 0,.int .i64 0,.int .i64 0,.bool false]:=h5.set 6 a6;have c6:=(c5).setCell (p:=⟨g,6,none⟩) (.inl rfl) a6;have h7:At ((((((((W.setCell ⟨g,0,none⟩ a0).setCell ⟨g,1,none⟩ a1).setCell ⟨g,2,none⟩ a2).setCell ⟨g,3,none⟩ a3).setCell ⟨g,4,none⟩ a4).setCell ⟨g,5,none⟩ a5).setCell ⟨g,6,none⟩ a6).setCell ⟨g,7,none⟩ a7) g 63 #[a0,a1,a2,a3,a4,a5,a6,a7,.bool false,.int .i64 0,.int .i64 0,.int .i64 0,.bool false]:=h6.set 7 a7;have c7:=(c6).setCell (p:=⟨g,7,none⟩) (.inl rfl) a7;have h8:At (((((((((W.setCell ⟨g,0,none⟩ a0).setCell ⟨g,1,none⟩ a1).setCell ⟨g,2,none⟩ a2).setCell ⟨g,3,none⟩ a3).setCell ⟨g,4,none⟩ a4).setCell ⟨g,5,none⟩ a5).setCell ⟨g,6,none⟩ a6).setCell ⟨g,7,none⟩ a7).setCell ⟨g,8,none⟩ a8) g 63 #[a0,a1,a2,a3,a4,a5,a6,a7,a8,.int .i64 0,.int .i64 0,.int .i64 0,.bool false]:=h7.set 8 a8;have c8:=(c7).setCell (p:=⟨g,8,none⟩) (.inl rfl) a8;have h9:At ((((((((((W.setCell ⟨g,0,none⟩ a0).setCell ⟨g,1,none⟩ a1).setCell ⟨g,2,none⟩ a2).setCell ⟨g,3,none⟩ a3).setCell ⟨g,4,none⟩ a4).setCell ⟨g,5,none⟩ a5).setCell ⟨g,6,none⟩ a6).setCell ⟨g,7,none⟩ a7).setCell ⟨g,8,none⟩ a8).setCell ⟨g,9,none⟩ a9) g 63 #[a0,a1,a2,a3,a4,a5,a6,a7,a8,a9,.int .i64 0,.int .i64 0,.bool false]:=h8.set 9 a9;have c9:=(c8).setCell (p:=⟨g,9,none⟩) (.inl rfl) a9;have h10:At (((((((((((W.setCell ⟨g,0,none⟩ a0).setCell ⟨g,1,none⟩ a1).setCell ⟨g,2,none⟩ a2).setCell ⟨g,3,none⟩ a3).setCell ⟨g,4,none⟩ a4).setCell ⟨g,5,none⟩ a5).setCell ⟨g,6,none⟩ a6).setCell ⟨g,7,none⟩ a7).setCell ⟨g,8,none⟩ a8).setCell ⟨g,9,none⟩ a9).setCell ⟨g,10,none⟩ a10) g 63 #[a0,a1,a2,a3,a4,a5,a6,a7,a8,a9,a10,.int .i64 0,.bool false]:=h9.set 10 a10;have c10:=(c9).setCell (p:=⟨g,10,none⟩) (.inl rfl) a10;have h11:At ((((((((((((W.setCell ⟨g,0,none⟩ a0).setCell ⟨g,1,none⟩ a1).setCell ⟨g,2,none⟩ a2).setCell ⟨g,3,none⟩ a3).setCell ⟨g,4,none⟩ a4).setCell ⟨g,5,none⟩ a5).setCell ⟨g,6,none⟩ a6).setCell ⟨g,7,none⟩ a7).setCell ⟨g,8,none⟩ a8).setCell ⟨g,9,none⟩ a9).setCell ⟨g,10,none⟩ a10).setCell ⟨g,11,none⟩ a11) g 63 #[a0,a1,a2,a3,a4,a5,a6,a7,a8,a9,a10,a11,.bool false]:=h10.set 11 a11
 have c11:=(c10).setCell (p:=⟨g,11,none⟩) (.inl rfl) a11;have h12:At (((((((((((((W.setCell ⟨g,0,none⟩ a0).setCell ⟨g,1,none⟩ a1).setCell ⟨g,2,none⟩ a2).setCell ⟨g,3,none⟩ a3).setCell ⟨g,4,none⟩ a4).setCell ⟨g,5,none⟩ a5).setCell ⟨g,6,none⟩ a6).setCell ⟨g,7,none⟩ a7).setCell ⟨g,8,none⟩ a8).setCell ⟨g,9,none⟩ a9).setCell ⟨g,10,none⟩ a10).setCell ⟨g,11,none⟩ a11).setCell ⟨g,12,none⟩ a12) g 63 #[a0,a1,a2,a3,a4,a5,a6,a7,a8,a9,a10,a11,a12]:=h11.set 12 a12;have c12:=(c11).setCell (p:=⟨g,12,none⟩) (.inl rfl) a12;exact⟨h12,c12⟩
theorem own_any(w:World)(g:Nat)(b:Bl)(dv:Value)(hB:At w g 63 (blCells b dv))(hO:w.ownsRow 0 3 1 dv b.disks.length (b.disks.map (Value.int .i64)))(hdl:b.disks.length≤17592186043904) :
 Calls prog 35 #[.pointer (some ⟨g,0,none⟩)] w fun e w'=>∃dv',e=.returned (.agg (blCells b dv'))∧w'.ownsRow 0 3 1 dv' b.disks.length (b.disks.map (Value.int .i64))∧Ext w w':=by
 obtain⟨dA,dc,rfl⟩:=qQa hO
 go_enter func35,ntmps35
 have hR:=At.new w 63 blZero;have hE:=(Er w).alloc (.cells blZero 63)
 go_upto_region 1 with fail
 generalize hxb:w.heap.size=xb at *;generalize World.alloc _ _=W at *;have hB1:=hB.ext hE;have hO1:=own_kx hO hE;have b0:=hB1.cell 0;have b1:=hB1.cell 1;have b2:=hB1.cell 2;have b3:=hB1.cell 3;have b4:=hB1.cell 4;have b5:=hB1.cell 5;have b6:=hB1.cell 6;have b7:=hB1.cell 7;have b8:=hB1.cell 8;have b9:=hB1.cell 9;have b10:=hB1.cell 10;have b11:=hB1.cell 11;have b12:=hB1.cell 12;simp at b0 b1 b2 b3 b4 b5 b6 b7 b8 b9 b10 b11 b12
 go_upto_region 2 with fail
 have hY:=At.new W 63 (blCells b (.slice dA b.disks.length dc));have hR1:=hR.alloc (.cells (blCells b (.slice dA b.disks.length dc)) 63);have hE1:=hE.alloc (.cells (blCells b (.slice dA b.disks.length dc)) 63);have hB2:=hB1.alloc (.cells (blCells b (.slice dA b.disks.length dc)) 63);have hO2:=qQb hO1 ((Er W).alloc (.cells (blCells b (.slice dA b.disks.length dc)) 63)) (fun _ _ hh=>hh);have hxw:xb<W.heap.size:=hR.lt;clear b0 b1 b2 b3 b4 b5 b6 b7 b8 b9 b10 b11 b12 hB1 hO1 hR hE;generalize hyb:W.heap.size=yb at *;generalize World.alloc _ _=W1 at *;have b4:=hB2.cell 4;simp at b4;go_wp2_with fail
 refine(clone_any W1 _ b.disks (Sl.of_own hO2) hdl).mono ?_
 rintro e W2 ⟨v',rfl,hOc,hEc⟩;have hY2:=hY.ext hEc;have hR2:=hR1.ext hEc;have hE2:=hE1.trans hEc;have y4:=hY2.cell 4;have f4:=hY2.frozen 4;have hyl:=hY2.lt;simp at y4;clear b4 hB2 hO2 hY hR1;obtain⟨vA,vc,rfl⟩:=qQa hOc
 go_upto_region 3 with fail
 have hCs:=(Chg.refl (· = yb) W2).setCell (p:=⟨yb,4,none⟩) (.inl rfl) (.slice vA b.disks.length vc);have hY3:At (W2.setCell ⟨yb,4,none⟩ (.slice vA b.disks.length vc)) yb 63 (blCells b (.slice vA b.disks.length vc)):=hY2.set 4 _;have hR3:=hR2.far (p:=⟨yb,4,none⟩) (show xb≠yb by omega) (.slice vA b.disks.length vc);have hO3:=qQb (qQ8 hOc) hCs (fun k hk e=>qQf (qQ8 hOc) hY2 (by decide) k hk e);have hwl:w.heap.size≤yb:=by omega
 have hE3:Ext w (W2.setCell ⟨yb,4,none⟩ (.slice vA b.disks.length vc)):=Chg.mono (hE2.chg_trans hCs) fun j hj e=>by have e':j=yb:=e;omega
 clear y4 f4 hyl hY2 hR2 hE2 hOc hCs;generalize World.setCell _ _ _=W3 at *;have b0:=hY3.cell 0;have b1:=hY3.cell 1;have b2:=hY3.cell 2;have b3:=hY3.cell 3;have b4:=hY3.cell 4;have b5:=hY3.cell 5;have b6:=hY3.cell 6;have b7:=hY3.cell 7;have b8:=hY3.cell 8;have b9:=hY3.cell 9;have b10:=hY3.cell 10;have b11:=hY3.cell 11;have b12:=hY3.cell 12;simp at b0 b1 b2 b3 b4 b5 b6 b7 b8 b9 b10 b11 b12;have f0:=hR3.frozen 0;have f1:=hR3.frozen 1;have f2:=hR3.frozen 2;have f3:=hR3.frozen 3;have f4:=hR3.frozen 4;have f5:=hR3.frozen 5;have f6:=hR3.frozen 6;have f7:=hR3.frozen 7;have f8:=hR3.frozen 8;have f9:=hR3.frozen 9;have f10:=hR3.frozen 10;have f11:=hR3.frozen 11;have f12:=hR3.frozen 12;have r0:=hR3.cell 0;have r1:=hR3.cell 1;have r2:=hR3.cell 2;have r3:=hR3.cell 3;have r4:=hR3.cell 4;have r5:=hR3.cell 5;have r6:=hR3.cell 6;have r7:=hR3.cell 7;have r8:=hR3.cell 8;have r9:=hR3.cell 9;have r10:=hR3.cell 10;have r11:=hR3.cell 11;have r12:=hR3.cell 12;simp at r0 r1 r2 r3 r4 r5 r6 r7 r8 r9 r10 r11 r12;go_wp2_with fail
 obtain⟨hZ,hCz⟩:=blob_out hR3 (.int .u64 (b.id:Int)) (.string b.name) (.int .i64 b.size) (.int .u32 (b.sum:Int)) (.slice vA b.disks.length vc) (.bool b.a.there) (.int .i64 b.a.vol) (.int .i64 b.a.at_) (.bool b.b.there) (.int .i64 b.b.vol) (.int .i64 b.b.at_) (.int .i64 b.pins) (.bool b.dead);generalize World.setCell _ _ _=WZ at hZ hCz⊢;have g0:=hZ.cell 0;have g1:=hZ.cell 1;have g2:=hZ.cell 2;have g3:=hZ.cell 3;have g4:=hZ.cell 4;have g5:=hZ.cell 5;have g6:=hZ.cell 6;have g7:=hZ.cell 7;have g8:=hZ.cell 8;have g9:=hZ.cell 9;have g10:=hZ.cell 10;have g11:=hZ.cell 11;have g12:=hZ.cell 12;simp at g0 g1 g2 g3 g4 g5 g6 g7 g8 g9 g10 g11 g12;refine bodyPost_ret (v:=.agg (blCells b (.slice vA b.disks.length vc))) (by simp[results,results35,go_sem,g0,g1,g2,g3,g4,g5,g6,g7,g8,g9,g10,g11,g12]) rfl ⟨_,rfl,qQb hO3 hCz (fun k hk e=>qQf hO3 hR3 (by decide) k hk e),Chg.mono (hE3.chg_trans hCz) fun j hj e=>by have e':j=xb:=e;omega⟩
end Go.Proofs.YtiojjokfeknhcaaGreat
