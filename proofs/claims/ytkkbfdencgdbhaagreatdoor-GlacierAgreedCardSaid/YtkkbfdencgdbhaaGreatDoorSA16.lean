/-
  Part 16 of what the law leans on.
-/
import Derived.Test.YtkkbfdencgdbhaaGreatDoorSA2
import Derived.Test.YtkkbfdencgdbhaaGreatDoorSA3
import Derived.Test.YtkkbfdencgdbhaaGreatDoorSA15
import Derived.Lib.OwnBridge
import Derived.Sort.OwnSortedInts
import Derived.Test.YtkkbfdencgdbhaaGreatDoorChecked
import Derived.BigQuiet
import Derived.WalkSpells
import Derived.WalkLawsBesides
set_option linter.unusedVariables false
set_option linter.unusedSimpArgs false
set_option linter.unusedSectionVars false
namespace Go.Proofs.YtkkbfdencgdbhaaGreatDoor
open Go.RowKit Go.Sort
section
variable{w:World}{base:Nat}{v:Value}{n:Nat}{zs:List Int}
def sortI(zs:List Int):List Int:=zs.mergeSort fun x y=>decide (x≤y)
theorem sort_own(h:w.ownsRow base 3 1 v n (zs.map (Value.int .i64)))(hn:n≤17592186043904) :
 Calls Tryz.prog 80 #[v] w fun e w'=>e=.returned (.tuple #[])∧w'.ownsRow base 3 1 v n ((sortI zs).map (Value.int .i64))∧Chg (fun k=>some k=v.ownBlock) w w':=by
 have hl:zs.length=n:=by simpa using h.1
 have hsl:(sortI zs).length=zs.length:=by unfold sortI;simp
 rcases h.2 with⟨rfl,h0⟩|⟨g,cap,cur,rfl,hbase,hb,h1,h2,h3,h4⟩
 ·subst h0
  have hz:zs=[]:=List.eq_nil_of_length_eq_zero hl
  subst hz
  refine(Tryz.slices_Sort_int_none none 0 w).mono ?_
  rintro e w' ⟨rfl,rfl⟩
  exact⟨rfl,by simpa[sortI]using h,Chg.refl _ _⟩
 ·subst hl
  refine(Tryz.slices_Sort_int g 0 cap zs w (holds_of_blockI hb (by simpa using h4)) (lt_of_block hb) (by omega)).mono ?_
  rintro e w' ⟨rfl,q,os,rfl⟩
  refine⟨rfl,?_,Chg.of_grown (grownBy_sortedI _)⟩
  have:=ownsRow_sortedI (n:=q) (os:=os) (ts:=sortI zs) (cap:=cap) hsl hbase hb h1 h2 h3
  exact this
end
end Go.Proofs.YtkkbfdencgdbhaaGreatDoor
namespace Go.Proofs.YtkkbfdencgdbhaaGreatDoor
open Go.RowKit Go.Sort
section
variable{w:World}{base:Nat}{v:Value}{n:Nat}{zs:List Int}
theorem compact_own(h:w.ownsRow base 3 1 v n (zs.map (Value.int .i64)))(hn:n≤17592186043904) :
 Calls Tryz.prog 81 #[v] w fun e w'=>∃v',e=.returned v'∧w'.ownsRow base 3 1 v' (Lib.compact zs).length ((Lib.compact zs).map (Value.int .i64))∧(v=.slice none 0 0→v'=v)∧v'.ownBlock=v.ownBlock∧Chg (fun k=>some k=v.ownBlock) w w':=by
 have hl:zs.length=n:=by simpa using h.1
 rcases h.2 with⟨rfl,h0⟩|⟨g,cap,cur,rfl,hbase,hb,h1,h2,h3,h4⟩
 ·subst h0
  have hz:zs=[]:=List.eq_nil_of_length_eq_zero hl
  subst hz
  refine(Tryz.slices_Compact_int_empty none 0 w).mono ?_
  rintro e w' ⟨rfl,rfl⟩
  exact⟨_,rfl,by simpa[Lib.compact,Lib.compactUpTo]using h,fun _=>rfl,rfl,Chg.refl _ _⟩
 ·subst hl
  have hcl:(Lib.compact zs).length≤zs.length:=by
   unfold Lib.compact Lib.compactUpTo
   have:=List.length_filter_le (Lib.keeps zs.toArray) (List.range zs.length)
   simpa using this
  refine(Tryz.slices_Compact_int g 0 cap zs w (holds_of_blockI hb (by simpa using h4)) (by omega) h1).mono ?_
  rintro e w' ⟨rfl,q,rfl⟩
  refine⟨_,rfl,?_,fun h=>(by cases h),rfl,?_⟩
  ·have:=Lib.ownsRow_putRow (q:=q) (ys:=Lib.compact zs++List.replicate (zs.length - (Lib.compact zs).length) 0) h (by simp;omega) hcl
   rw[List.take_append_of_le_length (Nat.le_refl _),List.take_length]at this
   exact this
  ·refine⟨rfl,rfl,rfl,by simp[putRow,mapBlock,Sort.ahead],fun k hk hn=>?_⟩
   have hne:g≠k:=fun e=>hn (by simp[Value.ownBlock,e])
   simp[putRow,mapBlock,Sort.ahead,Array.getElem?_modify,hne]
end
end Go.Proofs.YtkkbfdencgdbhaaGreatDoor
namespace Go.Proofs.YtkkbfdencgdbhaaGreatDoor
open Go.RowKit
theorem upTo_any(n l:Int)(w:World):Calls Tryz.prog 79 #[.int .i64 n,.int .i64 l] w fun e w'=>e=.returned (.bool (upB n l))∧w=w':=by
 unfold upB
 by_cases h:0≤n
 ·have t1:decide (0≤n)=true:=by simpa using h
  by_cases h2:n≤l
  ·have t2:decide (n≤l)=true:=by simpa using h2
   go_enter Tryz.func79,Tryz.ntmps79
   go_wp2
   go_ret
   exact⟨by simp[h,h2],rfl⟩
  ·have t2:decide (n≤l)=false:=by simpa using h2
   go_enter Tryz.func79,Tryz.ntmps79
   go_wp2
   go_ret
   exact⟨by simp,rfl⟩
 ·have t1:decide (0≤n)=false:=by simpa using h
  go_enter Tryz.func79,Tryz.ntmps79
  go_wp2
  go_ret
  exact⟨by simp,rfl⟩
theorem upTo_is{n l:Int}{b:Bool}(h:upB n l=b)(w:World):Calls Tryz.prog 79 #[.int .i64 n,.int .i64 l] w fun e w'=>e=.returned (.bool b)∧w=w':=by
 rw[←h];exact upTo_any n l w
section
variable(w:World)(c:Cmd)(dv:Value)
set_option maxRecDepth 100000 in
set_option maxHeartbeats 4000000 in
theorem good_any(hS:Sl w dv (c.disks.map (Value.int .i64)))(hl:c.disks.length≤9223372036854775807)(hn:c.name.size≤9223372036854775807) :
 Calls Tryz.prog 36 #[cmdVal c dv] w fun r w'=>r=.returned (.bool c.good)∧Ext w w':=by
 obtain⟨dA,dc,rfl,hx⟩:=hS
 rw[List.length_map]
 unfold cmdVal
 have u0:=fun b (h:upB c.kind 14=b)=>upTo_is h
 go_enter Tryz.func36,Tryz.ntmps36
 go_wp2_with fail
 have hB:=At.new w 39 #[.int .i64 c.kind,.int .i64 c.client,.int .i64 c.seq,.string c.name,.int .u64 (c.blob:Int),.int .i64 c.size,.int .u32 (c.sum:Int),.slice dA c.disks.length dc,.int .i64 c.pool,.int .i64 c.vol,.int .i64 c.at_]
 have hE:=(Ext.refl w).alloc (.cells #[.int .i64 c.kind,.int .i64 c.client,.int .i64 c.seq,.string c.name,.int .u64 (c.blob:Int),.int .i64 c.size,.int .u32 (c.sum:Int),.slice dA c.disks.length dc,.int .i64 c.pool,.int .i64 c.vol,.int .i64 c.at_] 39)
 generalize w.alloc (.cells #[.int .i64 c.kind,.int .i64 c.client,.int .i64 c.seq,.string c.name,.int .u64 (c.blob:Int),.int .i64 c.size,.int .u32 (c.sum:Int),.slice dA c.disks.length dc,.int .i64 c.pool,.int .i64 c.vol,.int .i64 c.at_] 39)=W at hB hE⊢
 generalize w.heap.size=b at hB⊢
 have c0:=hB.cell 0
 have c1:=hB.cell 1
 have c2:=hB.cell 2
 have c3:=hB.cell 3
 have c5:=hB.cell 5
 have c7:=hB.cell 7
 have c8:=hB.cell 8
 have c9:=hB.cell 9
 have c10:=hB.cell 10
 simp at c0 c1 c2 c3 c5 c7 c8 c9 c10
 cases hk:upB c.kind 14
 ·have hfin:c.good=false:=by simp only[Cmd.good,hk,Bool.false_and]
  have HF:=Lib.hid hfin
  clear hfin
  refine(upTo_is hk _).mono ?_
  rintro e w' ⟨rfl,rfl⟩
  go_wp2_with fail
  go_ret
  rw[HF.out]
  exact⟨rfl,hE⟩
 ·cases hk0:(c.kind == 0)
  ·have hkn:(c.kind != 0)=true:=by rw[bne,hk0];rfl
   refine(upTo_is hk _).mono ?_
   rintro e w' ⟨rfl,rfl⟩
   go_wp2_with fail
   go_loop [17] (fun iv=>∃k:Nat,k≤c.disks.length∧iv=.int .i64 (k:Int)∧∀j,j<k→stepOk c.disks j=true) (fun iv=>c.disks.length - (intOf iv).toNat)
   case atStart=>exact⟨0,Nat.zero_le _,rfl,fun j hj=>by omega⟩
   case round =>
    obtain⟨k,hkl,rfl,hok⟩:=hrel
    by_cases hlt:k<c.disks.length
    ·obtain⟨bd,od,rfl,hcell⟩:=hx (by intro e;rw[List.map_eq_nil_iff]at e;rw[e]at hlt;simp at hlt)
     have r0:W.cell? ⟨bd,od+k,none⟩=some (.int .i64 c.disks[k]):=(Ext.cell (p:=⟨bd,od+k,none⟩) hE (cell_lt (hcell k _ (by rw[List.getElem?_map,List.getElem?_eq_getElem hlt];rfl)))).trans (hcell k _ (by rw[List.getElem?_map,List.getElem?_eq_getElem hlt];rfl))
     have hgk:c.disks.getD k 0=c.disks[k]:=by rw[List.getD_eq_getElem?_getD,List.getElem?_eq_getElem hlt];rfl
     have hso:stepOk c.disks k=(upB c.disks[k] 5&&(k == 0||decide (c.disks.getD (k - 1) 0<c.disks[k]))):=by unfold stepOk;rw[hgk]
     have hbad:stepOk c.disks k=false→c.good=false:=fun h=>by
      have:risesB c.disks=false:=by
       unfold risesB
       rw[List.all_eq_false]
       exact⟨k,List.mem_range.2 hlt,by rw[h];simp⟩
      simp only[Cmd.good,this,Bool.and_false,Bool.false_and]
     have hr1:0<k→W.cell? ⟨bd,od+(k - 1),none⟩=some (.int .i64 (c.disks.getD (k - 1) 0)):=fun h=>by
      have hl':k - 1<c.disks.length:=by omega
      have hg:c.disks.getD (k - 1) 0=c.disks[k - 1]:=by rw[List.getD_eq_getElem?_getD,List.getElem?_eq_getElem hl'];rfl
      rw[hg]
      exact(Ext.cell (p:=⟨bd,od+(k - 1),none⟩) hE (cell_lt (hcell (k - 1) _ (by rw[List.getElem?_map,List.getElem?_eq_getElem hl'];rfl)))).trans (hcell (k - 1) _ (by rw[List.getElem?_map,List.getElem?_eq_getElem hl'];rfl))
     clear hcell hx hgk
     generalize c.disks[k]=dk at r0 hso
     generalize c.disks.getD (k - 1) 0=dp at hso hr1
     cases hu:upB dk 5
     ·have hfin:=hbad (by rw[hso,hu];rfl)
      have HF:=Lib.hid hfin
      clear hfin hso hbad hr1 hok
      go_wp2_with fail
      refine(upTo_is hu _).mono ?_
      rintro e w' ⟨rfl,rfl⟩
      go_wp2_with fail
      go_ret
      rw[HF.out]
      exact⟨rfl,hE⟩
     ·by_cases hk00:k=0
      ·have hstep:stepOk c.disks k=true:=by rw[hso,hu,hk00];rfl
       have hok':∀j,j<k+1→stepOk c.disks j=true:=fun j hj=>by
        by_cases e:j=k
        ·rw[e];exact hstep
        ·exact hok j (by omega)
       have HK:=Lib.hid hok'
       have hkz:(k:Int)≤0:=by omega
       have t0:decide ((0:Int)<(k:Int))=false:=by simp;omega
       clear hso hbad hr1 hok hok' hstep hk00
       go_wp2_with fail
       refine(upTo_is hu _).mono ?_
       rintro e w' ⟨rfl,rfl⟩
       go_wp2_with fail
       go_round
       case rel=>exact⟨k+1,by omega,by go_num,HK.out⟩
       case measure=>simp[intOf];omega
      ·have hkp:(1:Int)≤(k:Int):=by omega
       have t0:decide ((0:Int)<(k:Int))=true:=by simp;omega
       have r1:=hr1 (by omega)
       have ek:((k - 1:Nat):Int)=(k:Int) - 1:=by omega
       have ekn:((k:Int) - 1).toNat=k - 1:=by omega
       by_cases hlt2:dp<dk
       ·have hstep:stepOk c.disks k=true:=by rw[hso,hu];simp[hlt2]
        have hok':∀j,j<k+1→stepOk c.disks j=true:=fun j hj=>by
         by_cases e:j=k
         ·rw[e];exact hstep
         ·exact hok j (by omega)
        have HK:=Lib.hid hok'
        have t1:decide (dk≤dp)=false:=by simp;omega
        clear hso hbad hr1 hok hok' hstep hk00
        go_wp2_with fail
        refine(upTo_is hu _).mono ?_
        rintro e w' ⟨rfl,rfl⟩
        go_wp2_with fail
        go_round
        case rel=>exact⟨k+1,by omega,by go_num,HK.out⟩
        case measure=>simp[intOf];omega
       ·have hfin:=hbad (by rw[hso,hu];simp[hlt2,hk00])
        have HF:=Lib.hid hfin
        have t1:decide (dk≤dp)=true:=by simp;omega
        clear hfin hso hbad hr1 hok hk00
        go_wp2_with fail
        refine(upTo_is hu _).mono ?_
        rintro e w' ⟨rfl,rfl⟩
        go_wp2_with fail
        go_ret
        rw[HF.out]
        exact⟨rfl,hE⟩
    ·have hge:c.disks.length≤k:=by omega
     have hr:risesB c.disks=true:=by
      unfold risesB
      rw[List.all_eq_true]
      exact fun j hj=>hok j (by have:=List.mem_range.1 hj;omega)
     clear hok hlt hx
     cases hclient:upB c.client 1073741824
     ·have hfin:c.good=false:=by
       simp only[Cmd.good,hclient,Bool.false_and,Bool.and_false]
      have HF:=Lib.hid hfin
      clear hfin
      go_wp2_with fail
      refine(upTo_is hclient _).mono ?_
      rintro e w' ⟨rfl,rfl⟩
      go_wp2_with fail
      go_ret
      rw[HF.out]
      exact⟨rfl,hE⟩
     ·cases hseq:upB c.seq 1073741824
      ·have hfin:c.good=false:=by
        simp only[Cmd.good,hseq,Bool.false_and,Bool.and_false]
       have HF:=Lib.hid hfin
       clear hfin
       go_wp2_with fail
       refine(upTo_is hclient _).mono ?_
       rintro e w' ⟨rfl,rfl⟩
       go_wp2_with fail
       refine(upTo_is hseq _).mono ?_
       rintro e w' ⟨rfl,rfl⟩
       go_wp2_with fail
       go_ret
       rw[HF.out]
       exact⟨rfl,hE⟩
      ·cases hname:decide (c.name.size≤32)
       ·have t32:decide ((c.name.size:Int)≤32)=false:=by simp at hname⊢;omega
        have hfin:c.good=false:=by
         simp only[Cmd.good,hname,Bool.false_and,Bool.and_false]
        have HF:=Lib.hid hfin
        clear hfin
        go_wp2_with fail
        refine(upTo_is hclient _).mono ?_
        rintro e w' ⟨rfl,rfl⟩
        go_wp2_with fail
        refine(upTo_is hseq _).mono ?_
        rintro e w' ⟨rfl,rfl⟩
        go_wp2_with fail
        go_ret
        rw[HF.out]
        exact⟨rfl,hE⟩
       ·have t32:decide ((c.name.size:Int)≤32)=true:=by simp at hname⊢;omega
        cases hsize:upB c.size 4000
        ·have hfin:c.good=false:=by
          simp only[Cmd.good,hsize,Bool.false_and,Bool.and_false]
         have HF:=Lib.hid hfin
         clear hfin
         go_wp2_with fail
         refine(upTo_is hclient _).mono ?_
         rintro e w' ⟨rfl,rfl⟩
         go_wp2_with fail
         refine(upTo_is hseq _).mono ?_
         rintro e w' ⟨rfl,rfl⟩
         go_wp2_with fail
         refine(upTo_is hsize _).mono ?_
         rintro e w' ⟨rfl,rfl⟩
         go_wp2_with fail
         go_ret
         rw[HF.out]
         exact⟨rfl,hE⟩
        ·cases hpool:upB c.pool 1
         ·have hfin:c.good=false:=by
           simp only[Cmd.good,hpool,Bool.false_and,Bool.and_false]
          have HF:=Lib.hid hfin
          clear hfin
          go_wp2_with fail
          refine(upTo_is hclient _).mono ?_
          rintro e w' ⟨rfl,rfl⟩
          go_wp2_with fail
          refine(upTo_is hseq _).mono ?_
          rintro e w' ⟨rfl,rfl⟩
          go_wp2_with fail
          refine(upTo_is hsize _).mono ?_
          rintro e w' ⟨rfl,rfl⟩
          go_wp2_with fail
          refine(upTo_is hpool _).mono ?_
          rintro e w' ⟨rfl,rfl⟩
          go_wp2_with fail
          go_ret
          rw[HF.out]
          exact⟨rfl,hE⟩
         ·cases hvol:upB c.vol 11
          ·have hfin:c.good=false:=by
            simp only[Cmd.good,hvol,Bool.false_and,Bool.and_false]
           have HF:=Lib.hid hfin
           clear hfin
           go_wp2_with fail
           refine(upTo_is hclient _).mono ?_
           rintro e w' ⟨rfl,rfl⟩
           go_wp2_with fail
           refine(upTo_is hseq _).mono ?_
           rintro e w' ⟨rfl,rfl⟩
           go_wp2_with fail
           refine(upTo_is hsize _).mono ?_
           rintro e w' ⟨rfl,rfl⟩
           go_wp2_with fail
           refine(upTo_is hpool _).mono ?_
           rintro e w' ⟨rfl,rfl⟩
           go_wp2_with fail
           refine(upTo_is hvol _).mono ?_
           rintro e w' ⟨rfl,rfl⟩
           go_wp2_with fail
           go_ret
           rw[HF.out]
           exact⟨rfl,hE⟩
          ·cases hat:upB c.at_ 1073741824
           ·have hfin:c.good=false:=by
             simp only[Cmd.good,hat,Bool.and_false]
            have HF:=Lib.hid hfin
            clear hfin
            go_wp2_with fail
            refine(upTo_is hclient _).mono ?_
            rintro e w' ⟨rfl,rfl⟩
            go_wp2_with fail
            refine(upTo_is hseq _).mono ?_
            rintro e w' ⟨rfl,rfl⟩
            go_wp2_with fail
            refine(upTo_is hsize _).mono ?_
            rintro e w' ⟨rfl,rfl⟩
            go_wp2_with fail
            refine(upTo_is hpool _).mono ?_
            rintro e w' ⟨rfl,rfl⟩
            go_wp2_with fail
            refine(upTo_is hvol _).mono ?_
            rintro e w' ⟨rfl,rfl⟩
            go_wp2_with fail
            refine(upTo_is hat _).mono ?_
            rintro e w' ⟨rfl,rfl⟩
            go_wp2_with fail
            go_ret
            rw[HF.out]
            exact⟨rfl,hE⟩
           ·have hfin:c.good=true:=by
             simp only[Cmd.good,hk,hkn,hr,hclient,hseq,hname,hsize,hpool,hvol,hat,Bool.and_true]
            have HF:=Lib.hid hfin
            clear hfin
            go_wp2_with fail
            refine(upTo_is hclient _).mono ?_
            rintro e w' ⟨rfl,rfl⟩
            go_wp2_with fail
            refine(upTo_is hseq _).mono ?_
            rintro e w' ⟨rfl,rfl⟩
            go_wp2_with fail
            refine(upTo_is hsize _).mono ?_
            rintro e w' ⟨rfl,rfl⟩
            go_wp2_with fail
            refine(upTo_is hpool _).mono ?_
            rintro e w' ⟨rfl,rfl⟩
            go_wp2_with fail
            refine(upTo_is hvol _).mono ?_
            rintro e w' ⟨rfl,rfl⟩
            go_wp2_with fail
            refine(upTo_is hat _).mono ?_
            rintro e w' ⟨rfl,rfl⟩
            go_wp2_with fail
            go_ret
            rw[HF.out]
            exact⟨rfl,hE⟩
  ·have hkn:(c.kind != 0)=false:=by rw[bne,hk0];rfl
   have hfin:c.good=false:=by simp only[Cmd.good,hkn,Bool.false_and,Bool.and_false]
   have HF:=Lib.hid hfin
   clear hfin
   refine(upTo_is hk _).mono ?_
   rintro e w' ⟨rfl,rfl⟩
   go_wp2_with fail
   go_ret
   rw[HF.out]
   exact⟨rfl,hE⟩
end
end Go.Proofs.YtkkbfdencgdbhaaGreatDoor
namespace Go.Proofs.YtkkbfdencgdbhaaGreatDoor
open Go.RowKit
def diskOf(l:List Int):List Int:=Lib.compact (sortI (l.filter fun d=>upB d 5))
set_option maxHeartbeats 2000000 in
set_option maxRecDepth 100000 in
theorem disk_any(w:World)(lv:Value)(l:List Int)(hS:Sl w lv (l.map (Value.int .i64)))(hl:l.length≤17592186043904) :
 Calls Tryz.prog 35 #[lv] w fun e w'=>∃v,e=.returned v∧w'.ownsRow w.heap.size 3 1 v (diskOf l).length ((diskOf l).map (Value.int .i64))∧Ext w w':=by
 obtain⟨A,c,rfl,hx⟩:=hS
 rw[List.length_map]
 have hl0:(l.length:Int)≤17592186043904:=by omega
 obtain⟨i0,hi,hz0,hz1,hz2⟩:=info_parts int_info
 go_enter Tryz.func35,Tryz.ntmps35
 go_wp2_with fail
 go_loopw [3,8] (fun rv iv wr=>∃(k:Nat) (r:List Int),k≤l.length∧iv=.int .i64 (k:Int)∧r=(l.take k).filter (fun d=>upB d 5)∧r.length≤k∧wr.ownsRow w.heap.size 3 1 rv r.length (r.map (Value.int .i64))∧Ext w wr) (fun _ iv _=>l.length - (intOf iv).toNat)
 case atStart=>exact⟨0,[],Nat.zero_le _,rfl,rfl,Nat.le_refl _,⟨rfl,.inl ⟨rfl,rfl⟩⟩,Ext.refl _⟩
 case round =>
  obtain⟨k,r,hk,rfl,hr,hrk,hown,hE⟩:=hrel
  by_cases hlt:k<l.length
  ·obtain⟨b,o,rfl,hcell⟩:=hx (by intro e;rw[List.map_eq_nil_iff]at e;rw[e]at hlt;simp at hlt)
   have hc0:=hcell k _ (by rw[List.getElem?_map,List.getElem?_eq_getElem hlt];rfl)
   have r0:wr.cell? ⟨b,o+k,none⟩=some (.int .i64 l[k]):=(Ext.cell (p:=⟨b,o+k,none⟩) hE (cell_lt hc0)).trans hc0
   have htk:(l.take (k+1)).filter (fun d=>upB d 5)=r++(if upB l[k] 5 then [l[k]]else []):=by
    rw[List.take_succ_eq_append_getElem hlt,List.filter_append,←hr]
    congr 1
    simp only[List.filter_cons,List.filter_nil]
   clear hcell hx hc0
   generalize l[k]=x at r0 htk
   clear hr
   cases hu:upB x 5
   ·rw[hu]at htk
    have HT:=Lib.hid htk
    clear htk
    go_wp2_with fail
    refine(upTo_is hu _).mono ?_
    rintro e w' ⟨rfl,rfl⟩
    go_wp2_with fail
    go_roundw
    case rel=>exact⟨k+1,r,by omega,by go_num,by rw[HT.out];simp,by omega,hown,hE⟩
    case measure=>simp[intOf];omega
   ·rw[hu]at htk
    have HT:=Lib.hid htk
    clear htk
    have hsz:=hE.size
    go_wp2_with fail
    refine(upTo_is hu _).mono ?_
    rintro e w' ⟨rfl,rfl⟩
    go_wp2_with (at_builtin;refine wpList_append_own _ rfl _ _ 37 rfl w.heap.size 3 i0 (.int .i64 0) 1 8 Tryz.underlying37 hi hz0 hz1 hz2 rfl (by decide) _ _ _ rfl (hown.alloc _) ⟨wr.heap.size,0,none⟩ 1 1 [.int .i64 x] rfl rfl ?c1 ?c2 ?c3 ?c4 ?c5 ?_)
    case c1=>exact cell_one
    case c2=>simp[Value.oneCell']
    case c3=>unfold maxLen;omega
    case c4=>omega
    case c5=>simp;omega
    intro v1 w1 hown1 hgrow1 _
    have hge:=own_ge (hown.alloc (.cells #[.int .i64 x] 3))
    have hE1:Ext w w1:=Chg.mono ((hE.alloc _).chg_trans (Chg.of_grown hgrow1)) fun j hj h=>by have:=hge j h;omega
    clear hgrow1 hge
    go_wp2
    go_roundw
    case rel=>exact⟨k+1,r++[x],by omega,by go_num,by rw[HT.out];simp,by simp;omega,by simpa using hown1,hE1⟩
    case measure=>simp[intOf];omega
  ·have hge:l.length≤k:=by omega
   rw[List.take_of_length_le (by omega)]at hr
   have HR:=Lib.hid hr
   clear hr hx
   go_wp2_with fail
   refine(sort_own hown (by omega)).mono ?_
   rintro e w1 ⟨rfl,hown1,hC1⟩
   have hgb:=own_ge hown
   have hE1:Ext w w1:=Chg.mono (hE.chg_trans hC1) fun j hj h=>by have:=hgb j h;omega
   go_wp2_with fail
   refine(compact_own hown1 (by omega)).mono ?_
   rintro e w2 ⟨v',rfl,hown2,_,_,hC2⟩
   have hE2:Ext w w2:=Chg.mono (hE1.chg_trans hC2) fun j hj h=>by have:=hgb j h;omega
   go_wp2_with fail
   go_ret
   rw[HR.out]at hown2
   exact⟨_,rfl,hown2,hE2⟩
end Go.Proofs.YtkkbfdencgdbhaaGreatDoor
namespace Go.Proofs.YtkkbfdencgdbhaaGreatDoor
theorem getb_lt{zs:List Int}{i:Nat}(h:i<zs.length):zs.toArray[i]! = zs[i]:=by
 simp[getElem!_pos,h]
theorem compact_mem(zs:List Int)(x:Int):x∈Lib.compact zs↔x∈zs:=by
 unfold Lib.compact Lib.compactUpTo
 rw[List.mem_map]
 constructor
 ·rintro⟨i,hi,rfl⟩
  have hl:i<zs.length:=List.mem_range.1 (List.mem_filter.1 hi).1
  rw[getb_lt hl]
  exact List.getElem_mem hl
 ·intro hx
  obtain⟨i,hi,rfl⟩:=List.mem_iff_getElem.1 hx
  have key:∀n i (hi:i<zs.length),i≤n→∃j,∃hj:j<zs.length,zs[j]=zs[i]∧(j=0∨∃h:j - 1<zs.length,zs[j - 1]≠zs[j]):=by
   intro n
   induction n with
   | zero=>exact fun i hi h=>⟨i,hi,rfl,.inl (by omega)⟩
   | succ n ih =>
    intro i hi h
    by_cases h0:i=0
    ·exact⟨i,hi,rfl,.inl h0⟩
    ·by_cases he:zs[i - 1]=zs[i]
     ·obtain⟨j,hj,e,hh⟩:=ih (i - 1) (by omega) (by omega)
      exact⟨j,hj,e.trans he,hh⟩
     ·exact⟨i,hi,rfl,.inr ⟨by omega,he⟩⟩
  obtain⟨j,hj,e,hh⟩:=key i i hi (Nat.le_refl _)
  refine⟨j,List.mem_filter.2 ⟨List.mem_range.2 hj,?_⟩,by rw[getb_lt hj,e]⟩
  unfold Lib.keeps
  rw[decide_eq_true_eq]
  rcases hh with h|⟨h,hne⟩
  ·exact .inl h
  ·right
   rw[getb_lt hj,getb_lt h]
   exact fun e=>hne e.symm
theorem compact_rises{zs:List Int}(h:zs.Pairwise (· ≤ ·)):(Lib.compact zs).Pairwise (· < ·):=by
 unfold Lib.compact Lib.compactUpTo
 rw[List.pairwise_map]
 have hr:((List.range zs.length).filter (Lib.keeps zs.toArray)).Pairwise (· < ·):=List.Pairwise.filter _ List.pairwise_lt_range
 refine hr.imp_of_mem ?_
 intro i j hi hj hij
 have hil:i<zs.length:=List.mem_range.1 (List.mem_filter.1 hi).1
 have hjl:j<zs.length:=List.mem_range.1 (List.mem_filter.1 hj).1
 have hk:=(List.mem_filter.1 hj).2
 unfold Lib.keeps at hk
 rw[decide_eq_true_eq]at hk
 have hne:zs[j]≠zs[j - 1]:=by
  rcases hk with h|h
  ·omega
  ·rw[getb_lt hjl,getb_lt (by omega)]at h;exact h
 rw[getb_lt hil,getb_lt hjl]
 have h1:zs[j - 1]≤zs[j]:=List.pairwise_iff_getElem.1 h (j - 1) j (by omega) hjl (by omega)
 have h2:zs[i]≤zs[j - 1]:=by
  by_cases e:i=j - 1
  ·subst e;exact Int.le_refl _
  ·exact List.pairwise_iff_getElem.1 h i (j - 1) hil (by omega) (by omega)
 omega
theorem sortI_le(zs:List Int):(sortI zs).Pairwise (· ≤ ·):=by
 have:=List.pairwise_mergeSort (le:=fun(x y:Int)=>decide (x≤y)) (fun a b c h h'=>by simp only[decide_eq_true_eq]at *;omega) (fun a b=>by simp only[Bool.or_eq_true,decide_eq_true_eq];omega) zs
 exact this.imp fun h=>by simpa using h
theorem sortI_mem(zs:List Int)(x:Int):x∈sortI zs↔x∈zs:=(List.mergeSort_perm zs _).mem_iff
theorem diskOf_rises(l:List Int):(diskOf l).Pairwise (· < ·):=compact_rises (sortI_le _)
theorem diskOf_mem(l:List Int)(x:Int):x∈diskOf l↔x∈l∧upB x 5=true:=by
 unfold diskOf
 rw[compact_mem,sortI_mem,List.mem_filter]
theorem risesB_iff(ds:List Int):risesB ds=true↔ds.Pairwise (· < ·)∧∀d∈ds,upB d 5=true:=by
 unfold risesB
 rw[List.all_eq_true]
 constructor
 ·intro h
  have hs:∀k,k<ds.length→stepOk ds k=true:=fun k hk=>h k (List.mem_range.2 hk)
  have hlt:∀k (hk:k<ds.length),0<k→ds.getD (k - 1) 0<ds.getD k 0:=fun k hk h0=>by
   have:=hs k hk
   unfold stepOk at this
   simp only[Bool.and_eq_true,Bool.or_eq_true,beq_iff_eq,decide_eq_true_eq]at this
   rcases this.2 with h|h
   ·omega
   ·exact h
  have hg:∀k (hk:k<ds.length),ds.getD k 0=ds[k]:=fun k hk=>by rw[List.getD_eq_getElem?_getD,List.getElem?_eq_getElem hk];rfl
  refine⟨List.pairwise_iff_getElem.2 fun i j hi hj hij=>?_,fun d hd=>?_⟩
  ·have key:∀n i j (hi:i<ds.length) (hj:j<ds.length),i<j→j≤i+1+n→ds[i]<ds[j]:=by
    intro n
    induction n with
    | zero =>
     intro i j hi hj h1 h2
     have e:i=j - 1:=by omega
     have:=hlt j hj (by omega)
     rw[hg j hj,hg (j - 1) (by omega)]at this
     simpa[e]using this
    | succ n ih =>
     intro i j hi hj h1 h2
     by_cases e:i=j - 1
     ·have:=hlt j hj (by omega)
      rw[hg j hj,hg (j - 1) (by omega)]at this
      simpa[e]using this
     ·have h3:=ih i (j - 1) hi (by omega) (by omega) (by omega)
      have:=hlt j hj (by omega)
      rw[hg j hj,hg (j - 1) (by omega)]at this
      omega
   exact key (j - i) i j hi hj hij (by omega)
  ·obtain⟨k,hk,rfl⟩:=List.mem_iff_getElem.1 hd
   have:=hs k hk
   unfold stepOk at this
   rw[hg k hk]at this
   simp only[Bool.and_eq_true]at this
   exact this.1
 ·rintro⟨h1,h2⟩ k hk
  have hk:=List.mem_range.1 hk
  have hg:∀k (hk:k<ds.length),ds.getD k 0=ds[k]:=fun k hk=>by rw[List.getD_eq_getElem?_getD,List.getElem?_eq_getElem hk];rfl
  unfold stepOk
  rw[hg k hk]
  simp only[Bool.and_eq_true,Bool.or_eq_true,beq_iff_eq,decide_eq_true_eq]
  refine⟨h2 _ (List.getElem_mem hk),?_⟩
  by_cases e:k=0
  ·exact .inl e
  ·right
   rw[hg (k - 1) (by omega)]
   exact List.pairwise_iff_getElem.1 h1 (k - 1) k (by omega) hk (by omega)
theorem diskOf_risesB(l:List Int):risesB (diskOf l)=true:=(risesB_iff _).2 ⟨diskOf_rises l,fun d hd=>((diskOf_mem l d).1 hd).2⟩
end Go.Proofs.YtkkbfdencgdbhaaGreatDoor
