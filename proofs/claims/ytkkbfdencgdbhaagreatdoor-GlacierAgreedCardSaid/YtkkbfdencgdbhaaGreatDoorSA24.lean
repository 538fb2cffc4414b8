/-
  Part 24 of what the law leans on.
-/
import Derived.Test.YtkkbfdencgdbhaaGreatDoorSA1
import Derived.Test.YtkkbfdencgdbhaaGreatDoorSA2
import Derived.Test.YtkkbfdencgdbhaaGreatDoorSA3
import Derived.Sort.LotA
import Derived.Sort.LotB
import Derived.Sort.LotC
import Derived.Sort.LotD1
import Derived.Sort.LotD2
import Derived.CellFam
import Derived.RegionTactic
import Derived.Deep.QuietTactic
import Derived.BigQuiet
import Derived.Deep.Cut
import Derived.Deep.CutRange
import Derived.Deep.CutBlock
import Derived.Outline
import Derived.Laws.Bits64b
import Derived.Laws.Closers25b
set_option linter.unusedVariables false
set_option linter.unusedSimpArgs false
set_option linter.unusedSectionVars false
namespace Go.Proofs.YtkkbfdencgdbhaaGreatDoor
open Go.RowKit Go.Sort
def eU(z:Int):Value:=.int .u64 z
structure RU (w:World) (blk off cap:Nat) (d:Array Int):Prop where
 z:off=0
 own:w.ownsRow 0 30 1 (.slice (some ⟨blk,0,none⟩) d.size cap) d.size (d.toList.map eU)
section
variable{w w':World}{blk off cap:Nat}{d:Array Int}
theorem RU.cell(h:RU w blk off cap d){i:Nat}(hi:i<d.size):w.cell? ⟨blk,off+i,none⟩=some (.int .u64 d[i]!):=by
 have:=h.own.cellAt i (by simpa using hi)
 rw[h.z,Nat.zero_add,this,List.getElem?_map,Array.getElem?_toList,getElem!_pos d i hi,Array.getElem?_eq_getElem hi]
 rfl
theorem RU.frozen(h:RU w blk off cap d)(i:Nat):w.frozen? ⟨blk,off+i,none⟩=false:=by
 rw[h.z,Nat.zero_add];exact h.own.frozenAt i
theorem RU.block(h:RU w blk off cap d):∃cur,At w blk 30 cur:=by
 rcases h.own.2 with⟨e,_⟩|⟨g,c,cur,e,_,hg,_⟩
 ·cases e
 ·injection e with e1 _ _
  injection e1 with e1
  injection e1 with e1 _ _
  subst e1
  exact⟨cur,hg⟩
theorem RU.ext(h:RU w blk off cap d)(he:Ext w w'):RU w' blk off cap d:=by
 refine⟨h.z,h.own.1,?_⟩
 rcases h.own.2 with h2|⟨g,c,cur,e,hb,hg,h3⟩
 ·exact .inl h2
 ·exact .inr ⟨g,c,cur,e,hb,(Ext.block he (lt_of_block hg)).trans hg,h3⟩
theorem RU.drew(h:RU w blk off cap d):RU w.drew blk off cap d:=⟨h.z,h.own⟩
theorem RU.swap(h:RU w blk off cap d){i j:Nat}(_hi:i<d.size)(_hj:j<d.size) :
 RU ((w.setCell ⟨blk,off+i,none⟩ (.int .u64 d[j]!)).setCell ⟨blk,off+j,none⟩ (.int .u64 d[i]!)) blk off cap (swp d i j):=by
 have h1:=((h.own.stored i (eU d[j]!)).1.stored j (eU d[i]!)).1
 refine⟨h.z,?_⟩
 rw[h.z,Nat.zero_add,Nat.zero_add,size_swp]
 rw[show(swp d i j).toList.map eU=((d.toList.map eU).set i (eU d[j]!)).set j (eU d[i]!)from ?_]
 ·exact h1
 ·unfold swp
  rw[Array.toList_setIfInBounds,Array.toList_setIfInBounds,List.map_set,List.map_set]
theorem RU.cellSet(h:RU w blk off cap d)(i:Nat){j:Nat}(hj:j<d.size)(x:Value):∃v,(w.setCell ⟨blk,off+i,none⟩ x).cell? ⟨blk,off+j,none⟩=some v:=by
 have h1:=(h.own.stored i x).1.cellAt j (by simpa using hj)
 rw[h.z,Nat.zero_add,Nat.zero_add,h1]
 have:j<((d.toList.map eU).set i x).length:=by simpa using hj
 exact⟨_,List.getElem?_eq_getElem this⟩
theorem RU.swapC{S:Nat→Prop}{w0:World}(hC:Chg S w0 w)(hS:S blk)(i j:Nat)(x y:Value):Chg S w0 ((w.setCell ⟨blk,i,none⟩ x).setCell ⟨blk,j,none⟩ y):=(hC.setCell (.inl hS) x).setCell (.inl hS) y
theorem RU.chg{S:Nat→Prop}(h:RU w blk off cap d)(hC:Chg S w w')(hS:¬ S blk):RU w' blk off cap d:=by
 refine⟨h.z,h.own.1,?_⟩
 rcases h.own.2 with h2|⟨g,c,cur,e,hb,hg,h3⟩
 ·exact .inl h2
 ·refine .inr ⟨g,c,cur,e,hb,?_,h3⟩
  injection e with e1 _ _
  injection e1 with e1
  injection e1 with e1 _ _
  subst e1
  exact(hC.block blk (lt_of_block hg) hS).trans hg
end
theorem as_fun(d:Array Int):∃G:Nat→Int,∀t,G t=d[t]! := ⟨fun t=>d[t]!,fun _=>rfl⟩
theorem nan_any(w:World)(x:Int):Calls Tryz.prog 243 #[.int .u64 x] w fun e w'=>e=.returned (.bool false)∧w'=w:=by
 go_enter Tryz.func243,Tryz.ntmps243
 go_wp2_with fail
 go_ret
 exact⟨by simp,rfl⟩
theorem less_any(w:World)(x y:Int):Calls Tryz.prog 232 #[.int .u64 x,.int .u64 y] w fun e w'=>e=.returned (.bool (ltInt x y))∧w'=w:=by
 go_enter Tryz.func232,Tryz.ntmps232
 go_wp2_with fail
 refine(nan_any w x).mono ?_
 rintro e w' ⟨rfl,rfl⟩
 go_wp2_with fail
 go_ret
 exact⟨rfl,rfl⟩
section
variable(blk off cap a b:Nat)(d:Array Int)(w:World)(h:RU w blk off cap d)(hsz:d.size<4611686018427387904)
include h hsz
set_option maxHeartbeats 2000000 in
theorem rev_any(hb:b≤d.size)(hab:a<b):Calls Tryz.prog 230 #[.slice (some ⟨blk,off,none⟩) d.size cap,.int .i64 a,.int .i64 b] w fun e w' =>
 e=.returned (.tuple #[])∧∃d',PermIn a b d d'∧RU w' blk off cap d'∧Chg (· = blk) w w':=by
 go_enter Tryz.func230,Tryz.ntmps230
 go_wp2_with fail
 go_loopw [6,7] (fun iv jv wr=>∃(i j:Nat) (dk:Array Int),iv=.int .i64 i∧jv=.int .i64 ((j:Int) - 1)∧a≤i∧i≤b∧j≤b∧PermIn a b d dk∧RU wr blk off cap dk∧Chg (· = blk) w wr) (fun _ jv _=>(intOf jv).toNat+1)
 case atStart=>exact⟨a,b,d,rfl,rfl,Nat.le_refl _,by omega,Nat.le_refl _,permIn_refl _ _ _,h,Chg.refl _ _⟩
 case round =>
  obtain⟨i,j,dk,rfl,rfl,hai,hib,hjb,hP,hR,hC⟩:=hrel
  have hs:=hP.1
  obtain⟨G,hG⟩:=as_fun dk
  have hcw:∀t,t<d.size→wr.cell? ⟨blk,off+t,none⟩=some (.int .u64 (G t)):=fun t ht=>by rw[hG];exact hR.cell (by omega)
  have hfw:∀t,t<d.size→wr.frozen? ⟨blk,off+t,none⟩=false:=fun t _=>hR.frozen t
  have HG:=Lib.hid hG
  have HS:=Lib.hid hs
  clear hG hs h
  by_cases hlt:(i:Int)<(j:Int) - 1
  ·obtain⟨k,rfl⟩:∃k,j=k+1:=⟨j - 1,by omega⟩
   have hki:i<k:=by omega
   have e1:((k+1:Nat):Int) - 1=(k:Int):=by omega
   rw[e1]at hlt⊢
   clear e1
   go_wp2_with fail
   go_region
   have hs2:=HS.out
   have hZ:=hR.swap (i:=i) (j:=k) (by omega) (by omega)
   have hZc:=RU.swapC hC rfl (off+i) (off+k) (.int .u64 dk[k]!) (.int .u64 dk[i]!)
   rw[←HG.out,←HG.out]at hZ hZc
   generalize World.setCell _ _ _=W9 at hZ hZc⊢
   go_wp2_with fail
   go_roundw
   case rel=>exact⟨i+1,k,swp dk i k,by go_num,by go_num,by omega,by omega,by omega,permIn_trans _ _ _ _ _ hP (swp_permIn dk a b i k hai (by omega) (by omega) (by omega) (by omega)),hZ.drew,hZc.drew⟩
   case measure=>simp[intOf];omega
  ·go_wp2_with fail
   go_end0
   exact⟨rfl,dk,hP,hR,hC⟩
set_option maxHeartbeats 2000000 in
theorem insu_any(hb:b≤d.size)(hab:a≤b):Calls Tryz.prog 226 #[.slice (some ⟨blk,off,none⟩) d.size cap,.int .i64 a,.int .i64 b] w fun e w' =>
 e=.returned (.tuple #[])∧∃d',PermIn a b d d'∧SortedIn ltInt a b d'∧RU w' blk off cap d'∧Chg (· = blk) w w':=by
 go_enter Tryz.func226,Tryz.ntmps226
 go_wp2_with fail
 go_loopw [6] (fun iv wr=>∃(i:Nat) (dk:Array Int),iv=.int .i64 i∧a<i∧i≤b+1∧PermIn a b d dk∧SortedIn ltInt a i dk∧RU wr blk off cap dk∧Chg (· = blk) w wr) (fun iv _=>b+1 - (intOf iv).toNat)
 case atStart=>exact⟨a+1,d,by go_num,by omega,by omega,permIn_refl _ _ _,fun i j h1 h2 h3=>by omega,h,Chg.refl _ _⟩
 case round =>
  obtain⟨i,dk,rfl,hai,hib,hP,hSo,hR,hC⟩:=hrel
  have HSO:=Lib.hid hSo
  have HP:=Lib.hid hP
  clear hSo hP h
  by_cases hlt:i<b
  ·go_wp2_with fail
   obtain⟨wo,rfl⟩:∃wo:World,wo=wr:=⟨_,rfl⟩
   go_loopw [7] (fun jv wx=>∃(j:Nat) (dj:Array Int),jv=.int .i64 j∧a≤j∧j≤i∧PermIn a b d dj∧Ins ltInt a j i dj∧RU wx blk off cap dj∧Chg (· = blk) w wx) (fun jv _=>(intOf jv).toNat)
   case atStart=>exact⟨i,dk,rfl,by omega,Nat.le_refl _,HP.out,⟨fun p q h1 h2 h3 h4 h5=>HSO.out p q h1 h2 (by omega),fun q h1 h2=>by omega⟩,hR,hC⟩
   case round =>
    obtain⟨j,dj,rfl,haj,hji,hPj,hI,hRj,hCj⟩:=hrel
    clear hR hC
    have hs:=hPj.1
    obtain⟨G,hG⟩:=as_fun dj
    have hcw:∀t,t<d.size→wr.cell? ⟨blk,off+t,none⟩=some (.int .u64 (G t)):=fun t ht=>by rw[hG];exact hRj.cell (by omega)
    have hfw:∀t,t<d.size→wr.frozen? ⟨blk,off+t,none⟩=false:=fun t _=>hRj.frozen t
    have HG:=Lib.hid hG
    have HS:=Lib.hid hs
    have HI:=Lib.hid hI
    have HPJ:=Lib.hid hPj
    clear hG hs hI hPj
    have out:(j≤a∨ltInt dj[j]! dj[j - 1]! = false)→SortedIn ltInt a (i+1) dj:=fun hs=>HI.out.stop swo_ltInt hs
    have OUT:=Lib.hid out
    clear out
    by_cases hja:a<j
    ·by_cases hl:ltInt (G j) (G (j - 1))=true
     ·go_wp2_with fail
      go_quiet ((first|(go_at_call 232;exact Calls.quiet_of_same (less_any _ _ _))))
      go_wp2_with fail
      go_region
      have hs2:=HS.out
      have hq:Ext wr (wr.drewN (nq+1)):=(Ext.refl wr).drewN _
      have hZ:=(hRj.ext hq).swap (i:=j) (j:=j - 1) (by omega) (by omega)
      have hZc:=RU.swapC (hCj.ext_trans hq) rfl (off+j) (off+(j - 1)) (.int .u64 dj[j - 1]!) (.int .u64 dj[j]!)
      rw[←HG.out,←HG.out]at hZ hZc
      generalize World.setCell _ _ _=W9 at hZ hZc⊢
      go_wp2_with fail
      go_roundw
      case rel =>
       obtain⟨k,rfl⟩:∃k,j=k+1:=⟨j - 1,by omega⟩
       have hI2:=HI.out.step (by rw[←HG.out,←HG.out];exact hl) (by omega) (by omega)
       refine⟨k,_,by go_num,by omega,by omega,permIn_trans _ _ _ _ _ HPJ.out (swp_permIn dj a b (k+1) k (by omega) (by omega) (by omega) (by omega) (by omega)),hI2,hZ,hZc⟩
      case measure=>simp[intOf];omega
     ·have hl2:ltInt (G j) (G (j - 1))=false:=by simpa using hl
      clear hl
      go_wp2_with fail
      go_quiet ((first|(go_at_call 232;exact Calls.quiet_of_same (less_any _ _ _))))
      go_wp2_with fail
      go_roundw
      case rel=>exact⟨i+1,dj,by go_num,by omega,by omega,HPJ.out,OUT.out (.inr (by rw[←HG.out,←HG.out];exact hl2)),hRj.ext ((Ext.refl wr).drewN _),hCj.drewN _⟩
      case measure=>simp[intOf];omega
    ·go_wp2_with fail
     go_quiet (fail)
     go_wp2_with fail
     go_roundw
     case rel=>exact⟨i+1,dj,by go_num,by omega,by omega,HPJ.out,OUT.out (.inl (by omega)),hRj.ext ((Ext.refl wr).drewN _),hCj.drewN _⟩
     case measure=>simp[intOf];omega
  ·go_wp2_with fail
   go_end0
   exact⟨rfl,dk,HP.out,fun p q h1 h2 h3=>HSO.out p q h1 h2 (by omega),hR,hC⟩
end
end Go.Proofs.YtkkbfdencgdbhaaGreatDoor
namespace Go.Proofs.YtkkbfdencgdbhaaGreatDoor
open Go.RowKit Go.Sort
def childOf(lt:Int→Int→Bool)(hi first root:Nat)(d:Array Int):Nat :=
 if 2 * root+2<hi∧lt d[first+(2 * root+1)]! d[first+(2 * root+2)]! = true then 2 * root+2 else 2 * root+1
theorem sift_stop{lt:Int→Int→Bool}{hi first root:Nat}{d:Array Int}(h:¬ 2 * root+1<hi):siftDown lt hi first root d=d:=by
 rw[siftDown,dif_pos (by omega)]
theorem sift_go{lt:Int→Int→Bool}{hi first root:Nat}{d:Array Int}(h:2 * root+1<hi) :
 siftDown lt hi first root d=if lt d[first+root]! d[first+childOf lt hi first root d]! = false then d else siftDown lt hi first (childOf lt hi first root d) (swp d (first+root) (first+childOf lt hi first root d)):=by
 rw[siftDown,dif_neg (by omega)]
 unfold childOf
 have e1:first+(2 * root+1)+1=first+(2 * root+2):=by omega
 have e2:2 * root+1+1=2 * root+2:=by omega
 rw[e1,e2]
 by_cases h2:2 * root+2<hi
 ·by_cases hl:lt d[first+(2 * root+1)]! d[first+(2 * root+2)]! = true
  ·have hc:(if 2 * root+2<hi∧lt d[first+(2 * root+1)]! d[first+(2 * root+2)]! = true then 2 * root+2 else 2 * root+1)=2 * root+2:=if_pos ⟨h2,hl⟩
   rw[hc]
   simp only[h2,hl,decide_true,Bool.and_self,if_true,dif_pos]
   cases lt d[first+root]! d[first+(2 * root+2)]! <;> simp
  ·have hc:(if 2 * root+2<hi∧lt d[first+(2 * root+1)]! d[first+(2 * root+2)]! = true then 2 * root+2 else 2 * root+1)=2 * root+1:=if_neg (fun h=>hl h.2)
   rw[hc]
   simp only[hl,Bool.and_false,Bool.false_eq_true,if_false]
   cases lt d[first+root]! d[first+(2 * root+1)]! <;> simp
 ·have hc:(if 2 * root+2<hi∧lt d[first+(2 * root+1)]! d[first+(2 * root+2)]! = true then 2 * root+2 else 2 * root+1)=2 * root+1:=if_neg (fun h=>h2 h.1)
  rw[hc]
  simp only[h2,decide_false,Bool.false_and,Bool.false_eq_true,if_false]
  cases lt d[first+root]! d[first+(2 * root+1)]! <;> simp
theorem childOf_bd{lt:Int→Int→Bool}{hi first root:Nat}{d:Array Int}(h:2 * root+1<hi):root<childOf lt hi first root d∧childOf lt hi first root d<hi:=by
 unfold childOf
 split
 ·rename_i h';omega
 ·omega
section
variable(blk off cap:Nat)(d:Array Int)(w:World)(h:RU w blk off cap d)(hsz:d.size<4611686018427387904)
include h hsz
set_option maxHeartbeats 4000000 in
theorem siftu_any(lo hi first:Nat)(hb:first+hi≤d.size)(hlo:lo≤hi):Calls Tryz.prog 240 #[.slice (some ⟨blk,off,none⟩) d.size cap,.int .i64 lo,.int .i64 hi,.int .i64 first] w fun e w' =>
 e=.returned (.tuple #[])∧RU w' blk off cap (siftDown ltInt hi first lo d)∧Chg (· = blk) w w':=by
 go_enter Tryz.func240,Tryz.ntmps240
 go_wp2_with fail
 go_loopw [8] (fun rv wr=>∃(root:Nat) (dk:Array Int),rv=.int .i64 root∧root≤hi∧dk.size=d.size∧siftDown ltInt hi first root dk=siftDown ltInt hi first lo d∧RU wr blk off cap dk∧Chg (· = blk) w wr) (fun rv _=>hi - (intOf rv).toNat)
 case atStart=>exact⟨lo,d,rfl,hlo,rfl,rfl,h,Chg.refl _ _⟩
 case round =>
  obtain⟨root,dk,rfl,hrh,hs,hE,hR,hC⟩:=hrel
  have HE:=Lib.hid hE
  clear hE h
  by_cases hch:2 * root+1<hi
  ·have hgo:=sift_go (lt:=ltInt) (first:=first) (d:=dk) hch
   have hcb:=childOf_bd (lt:=ltInt) (first:=first) (d:=dk) hch
   have hcd:childOf ltInt hi first root dk=if 2 * root+2<hi∧ltInt dk[first+(2 * root+1)]! dk[first+(2 * root+2)]! = true then 2 * root+2 else 2 * root+1:=rfl
   generalize childOf ltInt hi first root dk=c at *
   obtain⟨G,hG⟩:=as_fun dk
   have hcw:∀t,t<d.size→wr.cell? ⟨blk,off+t,none⟩=some (.int .u64 (G t)):=fun t ht=>by rw[hG];exact hR.cell (by omega)
   have hfw:∀t,t<d.size→wr.frozen? ⟨blk,off+t,none⟩=false:=fun t _=>hR.frozen t
   rw[←hG,←hG]at hcd hgo
   have HG:=Lib.hid hG
   have HS:=Lib.hid hs
   have HGO:=Lib.hid hgo
   have HCD:=Lib.hid hcd
   clear hG hs hgo hcd
   have ways:(2 * root+2<hi∧ltInt (G (first+(2 * root+1))) (G (first+(2 * root+2)))=true∧c=2 * root+2)∨(2 * root+2<hi∧ltInt (G (first+(2 * root+1))) (G (first+(2 * root+2)))=false∧c=2 * root+1)∨(¬ 2 * root+2<hi∧c=2 * root+1):=by
    have:=HCD.out
    by_cases h2:2 * root+2<hi
    ·cases hl:ltInt (G (first+(2 * root+1))) (G (first+(2 * root+2)))
     ·exact .inr (.inl ⟨h2,rfl,by rw[this,if_neg (by rw[hl];simp)]⟩)
     ·exact .inl ⟨h2,rfl,by rw[this,if_pos ⟨h2,hl⟩]⟩
    ·exact .inr (.inr ⟨h2,by rw[this,if_neg (fun hh=>h2 hh.1)]⟩)
   clear HCD
   rcases ways with⟨h2,hl,hc⟩|⟨h2,hl,hc⟩|⟨h2,hc⟩
   have HC:=Lib.hid hc
   clear hc
   go_wp2_with fail
   have d1:decide (2 * (root:Int)+1+1<(hi:Int))=true:=by simp;omega
   have n1:((first:Int)+(2 * (root:Int)+1)).toNat=first+(2 * root+1):=by omega
   have n2:((first:Int)+(2 * (root:Int)+1)+1).toNat=first+(2 * root+2):=by omega
   have z1:0≤(first:Int)+(2 * (root:Int)+1):=by omega
   have z2:0≤(first:Int)+(2 * (root:Int)+1)+1:=by omega
   have b1:first+(2 * root+1)<d.size:=by omega
   have b2:first+(2 * root+2)<d.size:=by omega
   have w1:IntKind.i64.wrap (2 * (root:Int)+1+1)=2 * root+1+1:=IntWalk.i64_in _ (by omega)
   have w2:IntKind.i64.wrap ((first:Int)+(2 * (root:Int)+1))=first+(2 * root+1):=IntWalk.i64_in _ (by omega)
   have w3:IntKind.i64.wrap ((first:Int)+(2 * (root:Int)+1)+1)=first+(2 * root+1)+1:=IntWalk.i64_in _ (by omega)
   go_quiet ((first|(go_at_call 232;exact Calls.quiet_of_same (less_any _ _ _))))
   clear n1 n2 z1 z2 w1 w2 w3 d1 b1 b2
   go_wp2_with fail
   have ec:2 * (root:Int)+1+1=(c:Int):=by have:=HC.out;omega
   simp only[ec]
   clear ec hl
   rotate_left 1
   have HC:=Lib.hid hc
   clear hc
   go_wp2_with fail
   have d1:decide (2 * (root:Int)+1+1<(hi:Int))=true:=by simp;omega
   have n1:((first:Int)+(2 * (root:Int)+1)).toNat=first+(2 * root+1):=by omega
   have n2:((first:Int)+(2 * (root:Int)+1)+1).toNat=first+(2 * root+2):=by omega
   have z1:0≤(first:Int)+(2 * (root:Int)+1):=by omega
   have z2:0≤(first:Int)+(2 * (root:Int)+1)+1:=by omega
   have b1:first+(2 * root+1)<d.size:=by omega
   have b2:first+(2 * root+2)<d.size:=by omega
   have w1:IntKind.i64.wrap (2 * (root:Int)+1+1)=2 * root+1+1:=IntWalk.i64_in _ (by omega)
   have w2:IntKind.i64.wrap ((first:Int)+(2 * (root:Int)+1))=first+(2 * root+1):=IntWalk.i64_in _ (by omega)
   have w3:IntKind.i64.wrap ((first:Int)+(2 * (root:Int)+1)+1)=first+(2 * root+1)+1:=IntWalk.i64_in _ (by omega)
   go_quiet ((first|(go_at_call 232;exact Calls.quiet_of_same (less_any _ _ _))))
   clear n1 n2 z1 z2 w1 w2 w3 d1 b1 b2
   go_wp2_with fail
   have ec:2 * (root:Int)+1=(c:Int):=by have:=HC.out;omega
   simp only[ec]
   clear ec hl
   rotate_left 1
   have HC:=Lib.hid hc
   clear hc
   go_wp2_with fail
   have d1:decide (2 * (root:Int)+1+1<(hi:Int))=false:=by simp;omega
   have w1:IntKind.i64.wrap (2 * (root:Int)+1+1)=2 * root+1+1:=IntWalk.i64_in _ (by omega)
   go_quiet (fail)
   clear d1 w1
   go_wp2_with fail
   have ec:2 * (root:Int)+1=(c:Int):=by have:=HC.out;omega
   simp only[ec]
   clear ec
   all_goals
    clear HC
    have hcb1:=hcb.1
    have hcb2:=hcb.2
    clear hcb h2
    have n1:((first:Int)+(root:Int)).toNat=first+root:=by omega
    have n2:((first:Int)+(c:Int)).toNat=first+c:=by omega
    have z1:0≤(first:Int)+(root:Int):=by omega
    have z2:0≤(first:Int)+(c:Int):=by omega
    have b1:first+root<d.size:=by omega
    have b2:first+c<d.size:=by omega
    have w1:IntKind.i64.wrap ((first:Int)+(root:Int))=first+root:=IntWalk.i64_in _ (by omega)
    have w2:IntKind.i64.wrap ((first:Int)+(c:Int))=first+c:=IntWalk.i64_in _ (by omega)
    generalize hW1:wr.drewN nq=W1
    have hq:Ext wr W1:=by rw[←hW1];exact(Ext.refl wr).drewN _
    have hR1:=hR.ext hq
    have hC1:=hC.ext_trans hq
    have hcw1:∀t,t<d.size→W1.cell? ⟨blk,off+t,none⟩=some (.int .u64 (G t)):=fun t ht=>by rw[←hW1];exact hcw t ht
    have hfw1:∀t,t<d.size→W1.frozen? ⟨blk,off+t,none⟩=false:=fun t ht=>by rw[←hW1];exact hfw t ht
    clear hW1 hq hR hC hcw hfw
    go_quiet ((first|(go_at_call 232;exact Calls.quiet_of_same (less_any _ _ _))))
    go_wp2_with fail
   all_goals
    first
     | (have hl2:ltInt (G (first+root)) (G (first+c))=false:=by
         have h':(!ltInt (G (first+root)) (G (first+c)))=true:=by assumption
         simpa using h'
        clear w1 w2 n1 n2 z1 z2
        refine bodyPost_ret (v:=.tuple #[]) (by simp[results,Tryz.results240,go_sem]) rfl ⟨rfl,?_,hC1.drewN _⟩
        rw[←HE.out,HGO.out,if_pos hl2]
        exact hR1.ext ((Ext.refl W1).drewN _))
     | (have hl2:ltInt (G (first+root)) (G (first+c))=true:=by
         have h':(!ltInt (G (first+root)) (G (first+c)))=false:=by assumption
         simpa using h'
        generalize hW2:W1.drewN nq=W2
        have hq2:Ext W1 W2:=by rw[←hW2];exact(Ext.refl W1).drewN _
        have hR2:=hR1.ext hq2
        have hC2:=hC1.ext_trans hq2
        have hcw2:∀t,t<d.size→W2.cell? ⟨blk,off+t,none⟩=some (.int .u64 (G t)):=fun t ht=>by rw[←hW2];exact hcw1 t ht
        have hfw2:∀t,t<d.size→W2.frozen? ⟨blk,off+t,none⟩=false:=fun t ht=>by rw[←hW2];exact hfw1 t ht
        clear hW2 hq2 hR1 hC1 hcw1 hfw1
        go_region
        have hs2:=HS.out
        have hZ:=(hR2.swap (i:=first+root) (j:=first+c) (by omega) (by omega)).drew
        have hZc:=(RU.swapC hC2 rfl (off+(first+root)) (off+(first+c)) (.int .u64 dk[first+c]!) (.int .u64 dk[first+root]!)).drew
        rw[←HG.out,←HG.out]at hZ hZc
        have hzs:(swp dk (first+root) (first+c)).size=d.size:=by rw[size_swp];exact hs2
        have hze:siftDown ltInt hi first c (swp dk (first+root) (first+c))=siftDown ltInt hi first lo d:=by
         rw[←HE.out,HGO.out,if_neg (by rw[hl2];simp)]
        have HZS:=Lib.hid hzs
        have HZE:=Lib.hid hze
        clear hzs hze hs2 HGO HE HS HG n1 n2 z1 z2 w1 w2 hcw2 hfw2 hR2 hC2
        generalize World.drew _=W9 at hZ hZc⊢
        generalize swp dk (first+root) (first+c)=dz at *
        go_wp2_with fail
        go_roundw
        case rel=>exact⟨c,dz,rfl,by omega,HZS.out,HZE.out,hZ,hZc⟩
        case measure=>simp[intOf];omega)
  ·go_wp2_with fail
   go_end0
   exact⟨rfl,by rw[←HE.out,sift_stop hch];exact hR,hC⟩
end
end Go.Proofs.YtkkbfdencgdbhaaGreatDoor
namespace Go.Proofs.YtkkbfdencgdbhaaGreatDoor
open Go.RowKit Go.Sort
theorem pop_succ(lt:Int→Int→Bool)(first k:Nat)(d:Array Int):heapPop lt first (k+1) d=heapPop lt first k (siftDown lt k first 0 (swp d first (first+k))):=rfl
theorem sift_size(lt:Int→Int→Bool)(hi first:Nat):∀(n root:Nat) (d:Array Int),hi - root≤n→(siftDown lt hi first root d).size=d.size:=by
 intro n
 induction n with
 | zero=>intro root d h;rw[sift_stop (by omega)]
 | succ n ih =>
  intro root d h
  by_cases hc:2 * root+1<hi
  ·rw[sift_go hc]
   split
   ·rfl
   ·have hb:=childOf_bd (lt:=lt) (first:=first) (d:=d) hc
    rw[ih _ _ (by omega),size_swp]
  ·rw[sift_stop hc]
section
variable(blk off cap:Nat)(d:Array Int)(w:World)(h:RU w blk off cap d)(hsz:d.size<4611686018427387904)
include h hsz
set_option maxHeartbeats 4000000 in
theorem heapu_any(a b:Nat)(hb:b≤d.size)(hab:a<b):Calls Tryz.prog 227 #[.slice (some ⟨blk,off,none⟩) d.size cap,.int .i64 a,.int .i64 b] w fun e w' =>
 e=.returned (.tuple #[])∧∃d',PermIn a b d d'∧SortedIn ltInt a b d'∧RU w' blk off cap d'∧Chg (· = blk) w w':=by
 have hfin:=heapSort_holds (lt:=ltInt) swo_ltInt d a b (by omega) hb
 have hhs:heapSort ltInt d a b=heapPop ltInt a (b - a) (heapBuild ltInt (b - a) a ((b - a - 1) / 2+1) d):=rfl
 rw[hhs]at hfin
 have HF:=Lib.hid hfin
 clear hfin hhs
 obtain⟨n,hn⟩:∃n,n=b - a:=⟨_,rfl⟩
 rw[←hn]at HF
 have hn1:a+n≤d.size:=by omega
 have hn2:1≤n:=by omega
 have en:(b:Int) - (a:Int)=(n:Int):=by omega
 clear hn
 go_enter Tryz.func227,Tryz.ntmps227
 go_wp2_with fail
 clear en
 obtain⟨m,hm⟩:∃m,m=(n - 1) / 2+1:=⟨_,rfl⟩
 have e1:((n:Int) - 1) / 2=(m:Int) - 1:=by omega
 rw[←hm]at HF
 have hmn:m≤n:=by omega
 rw[e1]
 clear hm e1
 go_loopw [9] (fun iv wr=>∃(k:Nat) (dk:Array Int),iv=.int .i64 ((k:Int) - 1)∧k≤m∧dk.size=d.size∧heapBuild ltInt n a k dk=heapBuild ltInt n a m d∧RU wr blk off cap dk∧Chg (· = blk) w wr) (fun iv _=>(intOf iv+1).toNat)
 case atStart=>exact⟨m,d,rfl,Nat.le_refl _,rfl,rfl,h,Chg.refl _ _⟩
 case round =>
  obtain⟨k,dk,rfl,hkm,hs,hE,hR,hC⟩:=hrel
  have HE:=Lib.hid hE
  clear hE h
  rcases Nat.eq_zero_or_pos k with h0|h0
  ·subst h0
   have he:dk=heapBuild ltInt n a m d:=HE.out
   rw[←he]at HF
   clear HE he
   rw[show((0:Nat):Int) - 1 = -1 from rfl]
   go_wp2_with fail
   obtain⟨wo,rfl⟩:∃wo:World,wo=wr:=⟨_,rfl⟩
   go_loopw [10] (fun iv wx=>∃(k:Nat) (dj:Array Int),iv=.int .i64 ((k:Int) - 1)∧k≤n∧dj.size=d.size∧heapPop ltInt a k dj=heapPop ltInt a n dk∧RU wx blk off cap dj∧Chg (· = blk) w wx) (fun iv _=>(intOf iv+1).toNat)
   case atStart=>exact⟨n,dk,rfl,Nat.le_refl _,hs,rfl,hR,hC⟩
   case round =>
    clear hR hC
    obtain⟨k,dj,rfl,hkn,hsj,hEj,hRj,hCj⟩:=hrel
    have HEJ:=Lib.hid hEj
    clear hEj
    rcases Nat.eq_zero_or_pos k with h1|h1
    ·subst h1
     have he:dj=heapPop ltInt a n dk:=HEJ.out
     go_wp2_with fail
     go_end0
     refine⟨rfl,dj,?_,?_,hRj,hCj⟩
     ·rw[he];exact HF.out.1
     ·rw[he];exact HF.out.2
    ·obtain⟨j,rfl⟩:∃j,k=j+1:=⟨k - 1,by omega⟩
     have e2:((j+1:Nat):Int) - 1=(j:Int):=by omega
     rw[e2]
     clear e2
     obtain⟨G,hG⟩:=as_fun dj
     have hcw:∀t,t<d.size→wr.cell? ⟨blk,off+t,none⟩=some (.int .u64 (G t)):=fun t ht=>by rw[hG];exact hRj.cell (by omega)
     have hfw:∀t,t<d.size→wr.frozen? ⟨blk,off+t,none⟩=false:=fun t _=>hRj.frozen t
     have HG:=Lib.hid hG
     have HS:=Lib.hid hsj
     clear hG hsj hs
     have n2:((a:Int)+(j:Int)).toNat=a+j:=by omega
     have z2:0≤(a:Int)+(j:Int):=by omega
     have b1:a<d.size:=by omega
     have b2:a+j<d.size:=by omega
     go_wp2_with fail
     have w2:IntKind.i64.wrap ((a:Int)+(j:Int))=a+j:=IntWalk.i64_in _ (by omega)
     obtain⟨vv,hvv⟩:=hRj.cellSet a (j:=a+j) (by have:=HS.out;omega) (.int .u64 (G (a+j)))
     go_region
     clear hvv
     have hs2:=HS.out
     have hZ:=(hRj.swap (i:=a) (j:=a+j) (by omega) (by omega)).drew
     have hZc:=(RU.swapC hCj rfl (off+a) (off+(a+j)) (.int .u64 dj[a+j]!) (.int .u64 dj[a]!)).drew
     rw[←HG.out,←HG.out]at hZ hZc
     have hzs:(swp dj a (a+j)).size=d.size:=by rw[size_swp];exact hs2
     have hze:heapPop ltInt a j (siftDown ltInt j a 0 (swp dj a (a+j)))=heapPop ltInt a n dk:=by rw[←HEJ.out,pop_succ]
     have HZE:=Lib.hid hze
     clear w2 n2 z2 hze hs2 HEJ HG HS hcw hfw hRj hCj
     generalize World.drew _=W9 at hZ hZc⊢
     generalize swp dj a (a+j)=dz at *
     have HC:=Lib.hid (siftu_any blk off cap dz W9 hZ (by omega) 0 j a (by omega) (by omega))
     rw[hzs]at HC
     have HZS:=Lib.hid hzs
     clear hzs
     go_wp2_with fail
     refine HC.out.mono ?_
     rintro e w2 ⟨rfl,hR2,hC2⟩
     go_wp2_with fail
     go_roundw
     case rel=>exact⟨j,_,rfl,by omega,by rw[sift_size _ _ _ _ _ _ (Nat.le_refl _)];exact HZS.out,HZE.out,hR2,hZc.trans hC2 (fun _ _ e=>e)⟩
     case measure=>simp[intOf] <;> omega
  ·obtain⟨j,rfl⟩:∃j,k=j+1:=⟨k - 1,by omega⟩
   have e2:((j+1:Nat):Int) - 1=(j:Int):=by omega
   rw[e2]
   clear e2
   have HC:=Lib.hid (siftu_any blk off cap dk wr hR (by omega) j n a (by omega) (by omega))
   rw[hs]at HC
   have HS:=Lib.hid hs
   clear hs
   go_wp2_with fail
   refine HC.out.mono ?_
   rintro e w2 ⟨rfl,hR2,hC2⟩
   go_wp2_with fail
   go_roundw
   case rel=>exact⟨j,_,rfl,by omega,by rw[sift_size _ _ _ _ _ _ (Nat.le_refl _)];exact HS.out,HE.out,hR2,hC.trans hC2 (fun _ _ e=>e)⟩
   case measure=>simp[intOf] <;> omega
end
end Go.Proofs.YtkkbfdencgdbhaaGreatDoor
namespace Go.Proofs.YtkkbfdencgdbhaaGreatDoor
open Go.RowKit Go.Sort
def CntAt(w:World)(g:Nat)(s:Nat):Prop:=At w g 3 #[.int .i64 (s:Int)]
section
variable(blk off cap:Nat)(d:Array Int)(w:World)(h:RU w blk off cap d)(hsz:d.size<4611686018427387904)
include h hsz
omit hsz in
set_option maxHeartbeats 4000000 in
theorem ord_any(a b s g:Nat)(ha:a<d.size)(hb:b<d.size)(hg:CntAt w g s)(hs:s<100):Calls Tryz.prog 244 #[.slice (some ⟨blk,off,none⟩) d.size cap,.int .i64 a,.int .i64 b,.pointer (some ⟨g,0,none⟩)] w fun e w' =>
 ∃x y s':Nat,e=.returned (.tuple #[.int .i64 x,.int .i64 y])∧(x=a∧y=b∨x=b∧y=a)∧s'≤s+1∧RU w' blk off cap d∧CntAt w' g s'∧Chg (· = g) w w':=by
 obtain⟨G,hG⟩:=as_fun d
 have hcw:∀t,t<d.size→w.cell? ⟨blk,off+t,none⟩=some (.int .u64 (G t)):=fun t ht=>by rw[hG];exact h.cell (by omega)
 have hne:g≠blk:=by
  obtain⟨cur,hcur⟩:=h.block
  exact At.ne (t:=3) hg hcur (by decide)
 have c0:=At.cell hg 0
 have f0:=At.frozen hg 0
 simp at c0
 clear hG
 go_enter Tryz.func244,Tryz.ntmps244
 go_wp2_with fail
 go_quiet ((first|(go_at_call 232;exact Calls.quiet_of_same (less_any _ _ _))))
 go_wp2_with fail
 ·have hset:CntAt ((w.drewN nq).setCell ⟨g,0,none⟩ (.int .i64 ((s+1:Nat):Int))) g (s+1):=At.set (At.drewN hg nq) 0 _
  have hC:Chg (· = g) w ((w.drewN nq).setCell ⟨g,0,none⟩ (.int .i64 ((s+1:Nat):Int))):=(Chg.drewN (Chg.refl (· = g) w) nq).setCell (p:=⟨g,0,none⟩) (.inl rfl) _
  have hR:=h.chg hC (fun e=>hne e.symm)
  rw[show((s+1:Nat):Int)=(s:Int)+1 by omega]at hset hC hR
  go_ret2
  exact⟨b,a,s+1,rfl,.inr ⟨rfl,rfl⟩,Nat.le_refl _,hR,hset,hC⟩
 ·go_ret2
  exact⟨a,b,s,rfl,.inl ⟨rfl,rfl⟩,by omega,h.ext ((Ext.refl w).drewN _),At.drewN hg _,(Chg.refl _ w).drewN _⟩
omit hsz in
set_option maxHeartbeats 4000000 in
theorem med_any(a b c s g:Nat)(ha:a<d.size)(hb:b<d.size)(hc:c<d.size)(hg:CntAt w g s)(hs:s<50):Calls Tryz.prog 242 #[.slice (some ⟨blk,off,none⟩) d.size cap,.int .i64 a,.int .i64 b,.int .i64 c,.pointer (some ⟨g,0,none⟩)] w fun e w' =>
 ∃x s':Nat,e=.returned (.int .i64 x)∧(x=a∨x=b∨x=c)∧s'≤s+3∧CntAt w' g s'∧Chg (· = g) w w':=by
 have H1:=Lib.hid (ord_any blk off cap d w h a b s g ha hb hg (by omega))
 go_enter Tryz.func242,Tryz.ntmps242
 go_wp2_with fail
 refine H1.out.mono ?_
 rintro e w1 ⟨x1,y1,s1,rfl,hxy,hs1,hR1,hg1,hC1⟩
 have H2:=Lib.hid (ord_any blk off cap d w1 hR1 y1 c s1 g (by omega) hc hg1 (by omega))
 have HX:=Lib.hid hxy
 clear hxy hR1 H1
 go_wp2_with fail
 refine H2.out.mono ?_
 rintro e w2 ⟨x2,y2,s2,rfl,hxy2,hs2,hR2,hg2,hC2⟩
 have HX2:=Lib.hid hxy2
 clear hxy2
 have H3:=Lib.hid (ord_any blk off cap d w2 hR2 x1 x2 s2 g (by have:=HX.out;omega) (by have:=HX.out;have:=HX2.out;omega) hg2 (by omega))
 clear hR2 H2
 go_wp2_with fail
 refine H3.out.mono ?_
 rintro e w3 ⟨x3,y3,s3,rfl,hxy3,hs3,hR3,hg3,hC3⟩
 have HX3:=Lib.hid hxy3
 clear hxy3 hR3 H3
 go_wp2_with fail
 go_ret
 refine⟨y3,s3,rfl,?_,by omega,hg3,(hC1.trans hC2 (fun _ _ e=>e)).trans hC3 (fun _ _ e=>e)⟩
 have:=HX.out
 have:=HX2.out
 have:=HX3.out
 omega
set_option maxHeartbeats 4000000 in
theorem piv_any(a b:Nat)(hab:a+12<b)(hb:b≤d.size)(h50:b<a+50):Calls Tryz.prog 229 #[.slice (some ⟨blk,off,none⟩) d.size cap,.int .i64 a,.int .i64 b] w fun e w' =>
 ∃p q:Nat,e=.returned (.tuple #[.int .i64 p,.int .i64 q])∧a≤p∧p<b∧q≤2∧RU w' blk off cap d∧Ext w w':=by
 obtain⟨l,hl⟩:∃l,l=b - a:=⟨_,rfl⟩
 have en:(b:Int) - (a:Int)=(l:Int):=by omega
 have q1:(l:Int).tdiv 4=((l / 4:Nat):Int):=by rw[Int.tdiv_eq_ediv_of_nonneg (by omega)];omega
 have hl1:8≤l:=by omega
 have hl2:l<50:=by omega
 have bi:a+l / 4<b:=by omega
 have bj:a+l / 4 * 2<b:=by omega
 have bk:a+l / 4 * 3<b:=by omega
 have ei:(a:Int)+(l:Int) / 4=((a+l / 4:Nat):Int):=by omega
 have ej:(a:Int)+(l:Int) / 4 * 2=((a+l / 4 * 2:Nat):Int):=by omega
 have ek:(a:Int)+(l:Int) / 4 * 3=((a+l / 4 * 3:Nat):Int):=by omega
 have HE:=Lib.hid (show _∧_∧_ from⟨ei,ej,ek⟩)
 have HB:=Lib.hid (show _∧_∧_ from⟨bi,bj,bk⟩)
 have hab2:a<b:=by omega
 clear hl bi bj bk ei ej ek q1
 go_enter Tryz.func229,Tryz.ntmps229
 go_wp2_with fail
 obtain⟨ei,ej,ek⟩:=HE.out
 obtain⟨bi,bj,bk⟩:=HB.out
 rw[ei,ej,ek]
 clear ei ej ek HE
 have hW:CntAt (w.alloc (.cells #[.int .i64 ((0:Nat):Int)] 3)) w.heap.size 0:=At.new w _ _
 have hR:=h.ext ((Ext.refl w).alloc (.cells #[.int .i64 0] 3))
 have H1:=Lib.hid (med_any blk off cap d (w.alloc (.cells #[.int .i64 0] 3)) hR (a+l / 4) (a+l / 4 * 2) (a+l / 4 * 3) 0 w.heap.size (by omega) (by omega) (by omega) hW (by omega))
 generalize hgs:w.heap.size=g at *
 refine H1.out.mono ?_
 rintro e w1 ⟨x,s',rfl,hx,hs',hg,hC⟩
 have hE:Ext w w1:=Chg.mono (((Ext.refl w).alloc (.cells #[.int .i64 0] 3)).chg_trans hC) (fun k hk e=>by have e':k=g:=e;omega)
 have hxl:a≤x∧x<b:=by omega
 have HX:=Lib.hid hxl
 clear hx hxl HB bi bj bk
 have c0:=At.cell hg 0
 simp at c0
 go_wp2_with fail
 ·go_ret2
  exact⟨x,1,rfl,HX.out.1,HX.out.2,by omega,(h.ext hE),hE⟩
 ·go_ret2
  exact⟨x,0,rfl,HX.out.1,HX.out.2,by omega,(h.ext hE),hE⟩
end
end Go.Proofs.YtkkbfdencgdbhaaGreatDoor
namespace Go.Proofs.YtkkbfdencgdbhaaGreatDoor
open Go.RowKit Go.Sort
section
variable(blk off cap:Nat)(d:Array Int)(w:World)(h:RU w blk off cap d)(hsz:d.size<4611686018427387904)
include h hsz
set_option maxRecDepth 100000 in
set_option maxHeartbeats 4000000 in
theorem parti_any(a b:Nat)(hab:a<b)(hb:b≤d.size)(h50:b<a+50):Calls Tryz.prog 231 #[.slice (some ⟨blk,off,none⟩) d.size cap,.int .i64 a,.int .i64 b] w fun e w' =>
 ∃v:Bool,e=.returned (.bool v)∧(v=true→SortedIn ltInt a b d)∧Ext w w':=by
 go_enter Tryz.func231,Tryz.ntmps231
 go_wp2_with fail
 refine wp_loop_rounds 1 ?_
 rw[rounds_succ]
 go_wp2_with fail
 obtain⟨G,hG⟩:=as_fun d
 have HG:=Lib.hid hG
 clear hG
 go_loopw [7] (fun iv wr=>∃i:Nat,iv=.int .i64 i∧a+1≤i∧i≤b∧SortedIn ltInt a i d∧RU wr blk off cap d∧Ext w wr) (fun iv _=>b - (intOf iv).toNat)
 case atStart=>exact⟨a+1,by go_num,Nat.le_refl _,by omega,fun i j h1 h2 h3=>by omega,h,Ext.refl _⟩
 case round =>
  obtain⟨i,rfl,hai,hib,hS,hR,hE⟩:=hrel
  have HS:=Lib.hid hS
  clear hS
  have hcw:∀t,t<d.size→wr.cell? ⟨blk,off+t,none⟩=some (.int .u64 (G t)):=fun t ht=>by rw[HG.out];exact hR.cell (by omega)
  have hab50:(b:Int) - (a:Int)<50:=by omega
  by_cases hlt:i<b
  ·have hne:((i:Int) == (b:Int))=false:=by rw[beq_eq_false_iff_ne];omega
   go_wp2_with fail
   go_quiet ((first|(go_at_call 232;exact Calls.quiet_of_same (less_any _ _ _))))
   go_wp2_with fail
   ·have hl:ltInt (G i) (G (i - 1))=false:=by
     have h':(!ltInt (G i) (G (i - 1)))=true:=by assumption
     simpa using h'
    go_roundw
    case rel=>exact⟨i+1,by go_num,by omega,by omega,HS.out.snoc swo_ltInt (by rw[←HG.out,←HG.out];exact hl),hR.ext ((Ext.refl wr).drewN _),hE.drewN _⟩
    case measure=>simp[intOf];omega
   ·go_ret
    exact⟨false,rfl,fun h=>(by cases h),hE.drewN _⟩
  ·obtain rfl:i=b:=by omega
   go_wp2_with fail
   go_quiet (fail)
   go_wp2_with fail
   go_ret
   exact⟨true,rfl,fun _=>HS.out,hE.drewN _⟩
end
end Go.Proofs.YtkkbfdencgdbhaaGreatDoor
namespace Go.Proofs.YtkkbfdencgdbhaaGreatDoor
open Go.RowKit Go.Sort
structure PI (p:Int→Int→Bool) (a b i j:Nat) (d:Array Int):Prop where
 ai:a<i
 ij:i≤j+1
 jb:j<b
 lo:∀t,a<t→t<i→p d[t]! d[a]! = true
 hi:∀t,j<t→t<b→p d[t]! d[a]! = false
def pL(x v:Int):Bool:=ltInt x v
def pE(x v:Int):Bool := !ltInt v x
section
variable{p:Int→Int→Bool}{a b i j:Nat}{d:Array Int}
theorem PI.up(h:PI p a b i j d)(hij:i≤j)(hp:p d[i]! d[a]! = true):PI p a b (i+1) j d :=
 ⟨by have:=h.ai;omega,by omega,h.jb,fun t h1 h2=>by
  by_cases e:t=i
  ·rw[e];exact hp
  ·exact h.lo t h1 (by omega),h.hi⟩
theorem PI.down(h:PI p a b i j d)(hij:i≤j)(hp:p d[j]! d[a]! = false):PI p a b i (j - 1) d :=
 ⟨h.ai,by have:=h.ai;omega,by have:=h.jb;omega,h.lo,fun t h1 h2=>by
  by_cases e:t=j
  ·rw[e];exact hp
  ·exact h.hi t (by omega) h2⟩
theorem PI.lt(hij:i≤j)(h1:p d[i]! d[a]! = false)(h2:p d[j]! d[a]! = true):i<j:=by
 rcases Nat.lt_or_eq_of_le hij with h|h
 ·exact h
 ·subst h;rw[h1]at h2;cases h2
theorem PI.swap(h:PI p a b i j d)(hij:i<j)(hb:b≤d.size)(h1:p d[i]! d[a]! = false)(h2:p d[j]! d[a]! = true):PI p a b (i+1) (j - 1) (swp d i j):=by
 have e1:=h.ai
 have e2:=h.jb
 have ea:(swp d i j)[a]! = d[a]! := swp_other d i j a (by omega) (by omega)
 refine⟨by omega,by omega,by omega,fun t g1 g2=>?_,fun t g1 g2=>?_⟩
 ·rw[ea]
  by_cases e:t=i
  ·rw[e,swp_left d i j (by omega) (by omega)];exact h2
  ·rw[swp_other d i j t e (by omega)];exact h.lo t g1 (by omega)
 ·rw[ea]
  by_cases e:t=j
  ·rw[e,swp_right d i j (by omega)];exact h1
  ·rw[swp_other d i j t (by omega) e];exact h.hi t (by omega) g2
theorem PI.fin(h:PI p a b i j d)(hij:¬ i≤j)(hb:b≤d.size):a≤j∧j<b∧(∀t,a≤t→t<j→p (swp d j a)[t]! (swp d j a)[j]! = true)∧(∀t,j<t→t<b→p (swp d j a)[t]! (swp d j a)[j]! = false):=by
 have e1:=h.ai
 have e2:=h.jb
 have e3:=h.ij
 have hj:(swp d j a)[j]! = d[a]! := by
  by_cases e:j=a
  ·subst e
   rw[swp_right d j j (by omega)]
  ·rw[swp_left d j a (by omega) e]
 rw[hj]
 refine⟨by omega,e2,fun t g1 g2=>?_,fun t g1 g2=>?_⟩
 ·by_cases e:t=a
  ·rw[e,swp_right d j a (by omega)];exact h.lo j (by omega) (by omega)
  ·rw[swp_other d j a t (by omega) e];exact h.lo t (by omega) (by omega)
 ·rw[swp_other d j a t (by omega) (by omega)];exact h.hi t g1 g2
end
section
variable(blk off cap:Nat)(d:Array Int)(w:World)(h:RU w blk off cap d)(hsz:d.size<4611686018427387904)
include h hsz
set_option maxRecDepth 100000 in
set_option maxHeartbeats 16000000 in
theorem part_any(a b q:Nat)(haq:a≤q)(hqb:q<b)(hab:a+1<b)(hb:b≤d.size):Calls Tryz.prog 234 #[.slice (some ⟨blk,off,none⟩) d.size cap,.int .i64 a,.int .i64 b,.int .i64 q] w fun e w' =>
 ∃(m:Nat) (v:Bool) (d':Array Int),e=.returned (.tuple #[.int .i64 m,.bool v])∧a≤m∧m<b∧PermIn a b d d'∧(∀t,a≤t→t<m→pL d'[t]! d'[m]! = true)∧(∀t,m<t→t<b→pL d'[t]! d'[m]! = false)∧RU w' blk off cap d'∧Chg (· = blk) w w':=by
 go_enter Tryz.func234,Tryz.ntmps234
 go_wp2_with fail
 obtain⟨dk,hdk⟩:∃dk,dk=d:=⟨_,rfl⟩
 have HP:Hid (PermIn a b d dk):=Lib.hid (by rw[hdk];exact permIn_refl _ _ _)
 have HS:Hid (dk.size=d.size):=Lib.hid (by rw[hdk])
 have hR:RU w blk off cap dk:=by rw[hdk];exact h
 have hC:Chg (· = blk) w w:=Chg.refl _ _
 clear hdk h
 obtain⟨G,hG⟩:=as_fun dk
 have hcw:∀t,t<d.size→w.cell? ⟨blk,off+t,none⟩=some (.int .u64 (G t)):=fun t ht=>by rw[hG];exact hR.cell (by have:=HS.out;omega)
 have hfw:∀t,t<d.size→w.frozen? ⟨blk,off+t,none⟩=false:=fun t _=>hR.frozen t
 have HG:=Lib.hid hG
 clear hG
 obtain⟨vv,hvv⟩:=hR.cellSet (a) (j:=q) (by have:=HS.out;omega) (.int .u64 (G (q)))
 go_region
 clear hvv
 have hZ:=(hR.swap (i:=a) (j:=q) (by have:=HS.out;omega) (by have:=HS.out;omega)).drew
 have hZc:=(RU.swapC hC rfl (off+(a)) (off+(q)) (.int .u64 dk[q]!) (.int .u64 dk[a]!)).drew
 rw[←HG.out,←HG.out]at hZ hZc
 generalize World.drew _=W9 at hZ hZc⊢
 clear hcw hfw HG hR hC
 have HP2:=Lib.hid (permIn_trans _ _ _ _ _ HP.out (swp_permIn dk a b (a) (q) (by omega) (by omega) (by omega) (by omega) (by have:=HS.out;omega)))
 have HS2:Hid ((swp dk (a) (q)).size=d.size):=Lib.hid (by rw[size_swp];exact HS.out)
 clear HP HS
 generalize swp dk (a) (q)=dz at *
 have hPI:PI pL a b (a+1) (b - 1) dz:=⟨by omega,by omega,by omega,fun t h1 h2=>by omega,fun t h1 h2=>by omega⟩
 obtain⟨i,hi⟩:∃i,i=a+1:=⟨_,rfl⟩
 obtain⟨j,hj⟩:∃j,j=b - 1:=⟨_,rfl⟩
 rw[←hi,←hj]at hPI
 have ei:(a:Int)+1=(i:Int):=by omega
 have ej:(b:Int) - 1=(j:Int):=by omega
 clear hi hj
 obtain⟨dk,hdk⟩:∃dk,dk=dz:=⟨_,rfl⟩
 subst hdk
 have HP:=HP2
 have HS:=HS2
 have hR:=hZ
 have hC:=hZc
 clear HP2 HS2 hZ hZc
 go_upto_block 0 with fail
 go_cut [10]from 30 to 46 (fun v wx=>∃x:Nat,v=.int .i64 x∧PI pL a b x j dk∧(x≤j→pL dk[x]! dk[a]! = false)∧RU wx blk off cap dk∧Chg (· = blk) w wx)
 case first =>
  go_wp2_with fail
  go_loopw [10] (fun v wr=>∃x:Nat,v=.int .i64 x∧PI pL a b x j dk∧RU wr blk off cap dk∧Chg (· = blk) w wr) (fun v _=>j+1 - (intOf v).toNat)
  case atStart=>exact⟨i,rfl,hPI,hR,hC⟩
  case round =>
   clear hPI hR hC
   obtain⟨i,rfl,hPI,hR,hC⟩:=hrel
   obtain⟨G,hG⟩:=as_fun dk
   have hcw:∀t,t<d.size→wr.cell? ⟨blk,off+t,none⟩=some (.int .u64 (G t)):=fun t ht=>by rw[hG];exact hR.cell (by have:=HS.out;omega)
   have hfw:∀t,t<d.size→wr.frozen? ⟨blk,off+t,none⟩=false:=fun t _=>hR.frozen t
   have HG:=Lib.hid hG
   clear hG
   have HPI:=Lib.hid hPI
   have a1:=hPI.ai
   have a2:=hPI.ij
   have a3:=hPI.jb
   clear hPI
   have ad:a<d.size:=by omega
   by_cases hij:i≤j
   ·have vd:i<d.size:=by omega
    cases hl:ltInt (G i) (G a)
    ·go_wp2_with fail
     go_quiet ((first|(go_at_call 232;exact Calls.quiet_of_same (less_any _ _ _))))
     go_wp2_with fail
     go_meet
     case rel=>exact⟨i,rfl,HPI.out,fun _=>(show ltInt dk[i]! dk[a]! = _ from by rw[←HG.out,←HG.out];exact hl),hR.ext ((Ext.refl wr).drewN _),hC.drewN _⟩
    ·go_wp2_with fail
     go_quiet ((first|(go_at_call 232;exact Calls.quiet_of_same (less_any _ _ _))))
     go_wp2_with fail
     go_roundw
     case rel=>exact⟨i+1,by go_num,HPI.out.up hij (show ltInt dk[i]! dk[a]! = _ from by rw[←HG.out,←HG.out];exact hl),hR.ext ((Ext.refl wr).drewN _),hC.drewN _⟩
     case measure=>simp[intOf] <;> omega
   ·go_wp2_with fail
    go_quiet (fail)
    go_wp2_with fail
    go_meet
    case rel=>exact⟨i,rfl,HPI.out,fun h=>absurd h hij,hR.ext ((Ext.refl wr).drewN _),hC.drewN _⟩
 case rest =>
  clear hPI hR hC
  obtain⟨i,rfl,hPI,hST1,hR,hC⟩:=hcut
  obtain⟨jo,hjo⟩:∃jo,jo=j:=⟨_,rfl⟩
  have hjl:j≤jo:=by omega
  have hjm:jo≤j:=by omega
  rw[←hjo]at hST1
  clear hjo
  go_upto_block 2 with fail
  go_cut [11]from 46 to 63 (fun v wx=>∃x:Nat,v=.int .i64 x∧x≤jo∧PI pL a b i x dk∧(i≤x→pL dk[x]! dk[a]! = true)∧RU wx blk off cap dk∧Chg (· = blk) w wx)
  case first =>
   go_wp2_with fail
   go_loopw [11] (fun v wr=>∃x:Nat,v=.int .i64 x∧x≤jo∧PI pL a b i x dk∧RU wr blk off cap dk∧Chg (· = blk) w wr) (fun v _=>(intOf v).toNat)
   case atStart=>exact⟨j,rfl,by omega,hPI,hR,hC⟩
   case round =>
    clear hPI hR hC
    obtain⟨j,rfl,hjl,hPI,hR,hC⟩:=hrel
    obtain⟨G,hG⟩:=as_fun dk
    have hcw:∀t,t<d.size→wr.cell? ⟨blk,off+t,none⟩=some (.int .u64 (G t)):=fun t ht=>by rw[hG];exact hR.cell (by have:=HS.out;omega)
    have hfw:∀t,t<d.size→wr.frozen? ⟨blk,off+t,none⟩=false:=fun t _=>hR.frozen t
    have HG:=Lib.hid hG
    clear hG
    have HPI:=Lib.hid hPI
    have a1:=hPI.ai
    have a2:=hPI.ij
    have a3:=hPI.jb
    clear hPI
    have ad:a<d.size:=by omega
    by_cases hij:i≤j
    ·have vd:j<d.size:=by omega
     cases hl:ltInt (G j) (G a)
     ·go_wp2_with fail
      go_quiet ((first|(go_at_call 232;exact Calls.quiet_of_same (less_any _ _ _))))
      go_wp2_with fail
      go_roundw
      case rel=>exact⟨j - 1,by congr 1;omega,by omega,HPI.out.down hij (show ltInt dk[j]! dk[a]! = _ from by rw[←HG.out,←HG.out];exact hl),hR.ext ((Ext.refl wr).drewN _),hC.drewN _⟩
      case measure=>simp[intOf] <;> omega
     ·go_wp2_with fail
      go_quiet ((first|(go_at_call 232;exact Calls.quiet_of_same (less_any _ _ _))))
      go_wp2_with fail
      go_meet
      case rel=>exact⟨j,rfl,by omega,HPI.out,fun _=>(show ltInt dk[j]! dk[a]! = _ from by rw[←HG.out,←HG.out];exact hl),hR.ext ((Ext.refl wr).drewN _),hC.drewN _⟩
    ·go_wp2_with fail
     go_quiet (fail)
     go_wp2_with fail
     go_meet
     case rel=>exact⟨j,rfl,by omega,HPI.out,fun h=>absurd h hij,hR.ext ((Ext.refl wr).drewN _),hC.drewN _⟩
  case rest =>
   clear hPI hR hC
   obtain⟨j,rfl,hjl,hPI,hST2,hR,hC⟩:=hcut
   by_cases hij:i≤j
   ·skip
    have p1:=hST1 (by omega)
    have p2:=hST2 hij
    have hlt:=PI.lt hij p1 p2
    have hPI2:=hPI.swap hlt (by have:=HS.out;omega) p1 p2
    have HPI:=Lib.hid hPI2
    have a1:=hPI.ai
    have a2:=hPI.jb
    clear hPI hPI2 p1 p2 hST1 hST2
    have ej:(j:Int) - 1=((j - 1:Nat):Int):=by omega
    have ei:(i:Int)+1=((i+1:Nat):Int):=by omega
    have HEJ:=Lib.hid (show _∧_ from⟨ei,ej⟩)
    clear ei ej
    go_wp2_with fail
    obtain⟨G,hG⟩:=as_fun dk
    have hcw:∀t,t<d.size→wc.cell? ⟨blk,off+t,none⟩=some (.int .u64 (G t)):=fun t ht=>by rw[hG];exact hR.cell (by have:=HS.out;omega)
    have hfw:∀t,t<d.size→wc.frozen? ⟨blk,off+t,none⟩=false:=fun t _=>hR.frozen t
    have HG:=Lib.hid hG
    clear hG
    obtain⟨vv,hvv⟩:=hR.cellSet (i) (j:=j) (by have:=HS.out;omega) (.int .u64 (G (j)))
    go_region
    clear hvv
    have hZ:=(hR.swap (i:=i) (j:=j) (by have:=HS.out;omega) (by have:=HS.out;omega)).drew
    have hZc:=(RU.swapC hC rfl (off+(i)) (off+(j)) (.int .u64 dk[j]!) (.int .u64 dk[i]!)).drew
    rw[←HG.out,←HG.out]at hZ hZc
    generalize World.drew _=W9 at hZ hZc⊢
    clear hcw hfw HG hR hC
    have HP2:=Lib.hid (permIn_trans _ _ _ _ _ HP.out (swp_permIn dk a b (i) (j) (by omega) (by omega) (by omega) (by omega) (by have:=HS.out;omega)))
    have HS2:Hid ((swp dk (i) (j)).size=d.size):=Lib.hid (by rw[size_swp];exact HS.out)
    clear HP HS
    generalize swp dk (i) (j)=dz at *
    have HPI2:=HPI
    clear HPI
    go_wp2_with fail
    obtain⟨ei,ej⟩:=HEJ.out
    rw[ei,ej]
    clear ei ej HEJ
    go_loopw [10,11] (fun iv jv wr=>∃(i j:Nat) (dk:Array Int),iv=.int .i64 i∧jv=.int .i64 j∧PI pL a b i j dk∧PermIn a b d dk∧dk.size=d.size∧RU wr blk off cap dk∧Chg (· = blk) w wr) (fun _ jv _=>(intOf jv).toNat)
    case atStart=>exact⟨i+1,j - 1,dz,rfl,rfl,HPI2.out,HP2.out,HS2.out,hZ,hZc⟩
    case round =>
     clear hZ hZc HP2 HS2 HPI2
     obtain⟨i,j,dk,rfl,rfl,hPI,hP,hS,hR,hC⟩:=hrel
     have HP:=Lib.hid hP
     have HS:=Lib.hid hS
     have ai:=hPI.ai
     clear hP hS
     go_upto_block 6 with fail
     go_cut [10]from 99 to 115 (fun v wx=>∃x:Nat,v=.int .i64 x∧PI pL a b x j dk∧(x≤j→pL dk[x]! dk[a]! = false)∧RU wx blk off cap dk∧Chg (· = blk) w wx)
     case first =>
      go_wp2_with fail
      go_loopw [10] (fun v wr=>∃x:Nat,v=.int .i64 x∧PI pL a b x j dk∧RU wr blk off cap dk∧Chg (· = blk) w wr) (fun v _=>j+1 - (intOf v).toNat)
      case atStart=>exact⟨i,rfl,hPI,hR,hC⟩
      case round =>
       clear hPI hR hC
       obtain⟨i,rfl,hPI,hR,hC⟩:=hrel
       obtain⟨G,hG⟩:=as_fun dk
       have hcw:∀t,t<d.size→wr.cell? ⟨blk,off+t,none⟩=some (.int .u64 (G t)):=fun t ht=>by rw[hG];exact hR.cell (by have:=HS.out;omega)
       have hfw:∀t,t<d.size→wr.frozen? ⟨blk,off+t,none⟩=false:=fun t _=>hR.frozen t
       have HG:=Lib.hid hG
       clear hG
       have HPI:=Lib.hid hPI
       have a1:=hPI.ai
       have a2:=hPI.ij
       have a3:=hPI.jb
       clear hPI
       have ad:a<d.size:=by omega
       by_cases hij:i≤j
       ·have vd:i<d.size:=by omega
        cases hl:ltInt (G i) (G a)
        ·go_wp2_with fail
         go_quiet ((first|(go_at_call 232;exact Calls.quiet_of_same (less_any _ _ _))))
         go_wp2_with fail
         go_meet
         case rel=>exact⟨i,rfl,HPI.out,fun _=>(show ltInt dk[i]! dk[a]! = _ from by rw[←HG.out,←HG.out];exact hl),hR.ext ((Ext.refl wr).drewN _),hC.drewN _⟩
        ·go_wp2_with fail
         go_quiet ((first|(go_at_call 232;exact Calls.quiet_of_same (less_any _ _ _))))
         go_wp2_with fail
         go_roundw
         case rel=>exact⟨i+1,by go_num,HPI.out.up hij (show ltInt dk[i]! dk[a]! = _ from by rw[←HG.out,←HG.out];exact hl),hR.ext ((Ext.refl wr).drewN _),hC.drewN _⟩
         case measure=>simp[intOf] <;> omega
       ·go_wp2_with fail
        go_quiet (fail)
        go_wp2_with fail
        go_meet
        case rel=>exact⟨i,rfl,HPI.out,fun h=>absurd h hij,hR.ext ((Ext.refl wr).drewN _),hC.drewN _⟩
     case rest =>
      clear hPI hR hC
      obtain⟨i,rfl,hPI,hST1,hR,hC⟩:=hcut
      obtain⟨jo,hjo⟩:∃jo,jo=j:=⟨_,rfl⟩
      have hjl:j≤jo:=by omega
      have hjm:jo≤j:=by omega
      rw[←hjo]at hST1
      clear hjo
      go_upto_block 8 with fail
      go_cut [11]from 115 to 132 (fun v wx=>∃x:Nat,v=.int .i64 x∧x≤jo∧PI pL a b i x dk∧(i≤x→pL dk[x]! dk[a]! = true)∧RU wx blk off cap dk∧Chg (· = blk) w wx)
      case first =>
       go_wp2_with fail
       go_loopw [11] (fun v wr=>∃x:Nat,v=.int .i64 x∧x≤jo∧PI pL a b i x dk∧RU wr blk off cap dk∧Chg (· = blk) w wr) (fun v _=>(intOf v).toNat)
       case atStart=>exact⟨j,rfl,by omega,hPI,hR,hC⟩
       case round =>
        clear hPI hR hC
        obtain⟨j,rfl,hjl,hPI,hR,hC⟩:=hrel
        obtain⟨G,hG⟩:=as_fun dk
        have hcw:∀t,t<d.size→wr.cell? ⟨blk,off+t,none⟩=some (.int .u64 (G t)):=fun t ht=>by rw[hG];exact hR.cell (by have:=HS.out;omega)
        have hfw:∀t,t<d.size→wr.frozen? ⟨blk,off+t,none⟩=false:=fun t _=>hR.frozen t
        have HG:=Lib.hid hG
        clear hG
        have HPI:=Lib.hid hPI
        have a1:=hPI.ai
        have a2:=hPI.ij
        have a3:=hPI.jb
        clear hPI
        have ad:a<d.size:=by omega
        by_cases hij:i≤j
        ·have vd:j<d.size:=by omega
         cases hl:ltInt (G j) (G a)
         ·go_wp2_with fail
          go_quiet ((first|(go_at_call 232;exact Calls.quiet_of_same (less_any _ _ _))))
          go_wp2_with fail
          go_roundw
          case rel=>exact⟨j - 1,by congr 1;omega,by omega,HPI.out.down hij (show ltInt dk[j]! dk[a]! = _ from by rw[←HG.out,←HG.out];exact hl),hR.ext ((Ext.refl wr).drewN _),hC.drewN _⟩
          case measure=>simp[intOf] <;> omega
         ·go_wp2_with fail
          go_quiet ((first|(go_at_call 232;exact Calls.quiet_of_same (less_any _ _ _))))
          go_wp2_with fail
          go_meet
          case rel=>exact⟨j,rfl,by omega,HPI.out,fun _=>(show ltInt dk[j]! dk[a]! = _ from by rw[←HG.out,←HG.out];exact hl),hR.ext ((Ext.refl wr).drewN _),hC.drewN _⟩
        ·go_wp2_with fail
         go_quiet (fail)
         go_wp2_with fail
         go_meet
         case rel=>exact⟨j,rfl,by omega,HPI.out,fun h=>absurd h hij,hR.ext ((Ext.refl wr).drewN _),hC.drewN _⟩
      case rest =>
       clear hPI hR hC
       obtain⟨j,rfl,hjl,hPI,hST2,hR,hC⟩:=hcut
       by_cases hij:i≤j
       ·skip
        have p1:=hST1 (by omega)
        have p2:=hST2 hij
        have hlt:=PI.lt hij p1 p2
        have hPI2:=hPI.swap hlt (by have:=HS.out;omega) p1 p2
        have HPI:=Lib.hid hPI2
        have a1:=hPI.ai
        have a2:=hPI.jb
        clear hPI hPI2 p1 p2 hST1 hST2
        have ej:(j:Int) - 1=((j - 1:Nat):Int):=by omega
        have ei:(i:Int)+1=((i+1:Nat):Int):=by omega
        have HEJ:=Lib.hid (show _∧_ from⟨ei,ej⟩)
        clear ei ej
        go_wp2_with fail
        obtain⟨G,hG⟩:=as_fun dk
        have hcw:∀t,t<d.size→wc.cell? ⟨blk,off+t,none⟩=some (.int .u64 (G t)):=fun t ht=>by rw[hG];exact hR.cell (by have:=HS.out;omega)
        have hfw:∀t,t<d.size→wc.frozen? ⟨blk,off+t,none⟩=false:=fun t _=>hR.frozen t
        have HG:=Lib.hid hG
        clear hG
        obtain⟨vv,hvv⟩:=hR.cellSet (i) (j:=j) (by have:=HS.out;omega) (.int .u64 (G (j)))
        go_region
        clear hvv
        have hZ:=(hR.swap (i:=i) (j:=j) (by have:=HS.out;omega) (by have:=HS.out;omega)).drew
        have hZc:=(RU.swapC hC rfl (off+(i)) (off+(j)) (.int .u64 dk[j]!) (.int .u64 dk[i]!)).drew
        rw[←HG.out,←HG.out]at hZ hZc
        generalize World.drew _=W9 at hZ hZc⊢
        clear hcw hfw HG hR hC
        have HP2:=Lib.hid (permIn_trans _ _ _ _ _ HP.out (swp_permIn dk a b (i) (j) (by omega) (by omega) (by omega) (by omega) (by have:=HS.out;omega)))
        have HS2:Hid ((swp dk (i) (j)).size=d.size):=Lib.hid (by rw[size_swp];exact HS.out)
        clear HP HS
        generalize swp dk (i) (j)=dz at *
        have HPI2:=HPI
        clear HPI
        go_wp2_with fail
        go_roundw
        case rel=>exact⟨i+1,j - 1,dz,by go_num,by congr 1;omega,HPI2.out,HP2.out,HS2.out,hZ,hZc⟩
        case measure=>simp[intOf];omega
       ·skip
        obtain⟨f1,f2,f3,f4⟩:=hPI.fin hij (by have:=HS.out;omega)
        have HF:=Lib.hid (show _∧_ from⟨f3,f4⟩)
        have ai:=hPI.ai
        clear f3 f4 hPI
        go_wp2_with fail
        obtain⟨G,hG⟩:=as_fun dk
        have hcw:∀t,t<d.size→wc.cell? ⟨blk,off+t,none⟩=some (.int .u64 (G t)):=fun t ht=>by rw[hG];exact hR.cell (by have:=HS.out;omega)
        have hfw:∀t,t<d.size→wc.frozen? ⟨blk,off+t,none⟩=false:=fun t _=>hR.frozen t
        have HG:=Lib.hid hG
        clear hG
        obtain⟨vv,hvv⟩:=hR.cellSet (j) (j:=a) (by have:=HS.out;omega) (.int .u64 (G (a)))
        go_region
        clear hvv
        have hZ:=(hR.swap (i:=j) (j:=a) (by have:=HS.out;omega) (by have:=HS.out;omega)).drew
        have hZc:=(RU.swapC hC rfl (off+(j)) (off+(a)) (.int .u64 dk[a]!) (.int .u64 dk[j]!)).drew
        rw[←HG.out,←HG.out]at hZ hZc
        generalize World.drew _=W9 at hZ hZc⊢
        clear hcw hfw HG hR hC
        have HP2:=Lib.hid (permIn_trans _ _ _ _ _ HP.out (swp_permIn dk a b (j) (a) (by omega) (by omega) (by omega) (by omega) (by have:=HS.out;omega)))
        have HS2:Hid ((swp dk (j) (a)).size=d.size):=Lib.hid (by rw[size_swp];exact HS.out)
        clear HP HS
        generalize swp dk (j) (a)=dz at *
        go_wp2_with fail
        go_ret2
        exact⟨j,_,dz,rfl,f1,f2,HP2.out,HF.out.1,HF.out.2,hZ,hZc⟩
   ·skip
    obtain⟨f1,f2,f3,f4⟩:=hPI.fin hij (by have:=HS.out;omega)
    have HF:=Lib.hid (show _∧_ from⟨f3,f4⟩)
    have ai:=hPI.ai
    clear f3 f4 hPI
    go_wp2_with fail
    obtain⟨G,hG⟩:=as_fun dk
    have hcw:∀t,t<d.size→wc.cell? ⟨blk,off+t,none⟩=some (.int .u64 (G t)):=fun t ht=>by rw[hG];exact hR.cell (by have:=HS.out;omega)
    have hfw:∀t,t<d.size→wc.frozen? ⟨blk,off+t,none⟩=false:=fun t _=>hR.frozen t
    have HG:=Lib.hid hG
    clear hG
    obtain⟨vv,hvv⟩:=hR.cellSet (j) (j:=a) (by have:=HS.out;omega) (.int .u64 (G (a)))
    go_region
    clear hvv
    have hZ:=(hR.swap (i:=j) (j:=a) (by have:=HS.out;omega) (by have:=HS.out;omega)).drew
    have hZc:=(RU.swapC hC rfl (off+(j)) (off+(a)) (.int .u64 dk[a]!) (.int .u64 dk[j]!)).drew
    rw[←HG.out,←HG.out]at hZ hZc
    generalize World.drew _=W9 at hZ hZc⊢
    clear hcw hfw HG hR hC
    have HP2:=Lib.hid (permIn_trans _ _ _ _ _ HP.out (swp_permIn dk a b (j) (a) (by omega) (by omega) (by omega) (by omega) (by have:=HS.out;omega)))
    have HS2:Hid ((swp dk (j) (a)).size=d.size):=Lib.hid (by rw[size_swp];exact HS.out)
    clear HP HS
    generalize swp dk (j) (a)=dz at *
    go_wp2_with fail
    go_ret2
    exact⟨j,_,dz,rfl,f1,f2,HP2.out,HF.out.1,HF.out.2,hZ,hZc⟩
set_option maxRecDepth 100000 in
set_option maxHeartbeats 16000000 in
theorem eqpart_any(a b q:Nat)(haq:a≤q)(hqb:q<b)(hab:a+1<b)(hb:b≤d.size):Calls Tryz.prog 233 #[.slice (some ⟨blk,off,none⟩) d.size cap,.int .i64 a,.int .i64 b,.int .i64 q] w fun e w' =>
 ∃(m:Nat) (d':Array Int),e=.returned (.int .i64 m)∧a<m∧m≤b∧PermIn a b d d'∧d'[a]! = d[q]! ∧ (∀t,a<t→t<m→pE d'[t]! d'[a]! = true)∧(∀t,m≤t→t<b→pE d'[t]! d'[a]! = false)∧RU w' blk off cap d'∧Chg (· = blk) w w':=by
 obtain⟨z,hz⟩:∃z,z=d[q]! := ⟨_,rfl⟩
 have HQ:=Lib.hid hz
 go_enter Tryz.func233,Tryz.ntmps233
 go_wp2_with fail
 obtain⟨dk,hdk⟩:∃dk,dk=d:=⟨_,rfl⟩
 have HP:Hid (PermIn a b d dk):=Lib.hid (by rw[hdk];exact permIn_refl _ _ _)
 have HS:Hid (dk.size=d.size):=Lib.hid (by rw[hdk])
 have hR:RU w blk off cap dk:=by rw[hdk];exact h
 have hC:Chg (· = blk) w w:=Chg.refl _ _
 have hdq:dk[q]! = d[q]! := by rw[hdk]
 clear hdk h
 obtain⟨G,hG⟩:=as_fun dk
 have hcw:∀t,t<d.size→w.cell? ⟨blk,off+t,none⟩=some (.int .u64 (G t)):=fun t ht=>by rw[hG];exact hR.cell (by have:=HS.out;omega)
 have hfw:∀t,t<d.size→w.frozen? ⟨blk,off+t,none⟩=false:=fun t _=>hR.frozen t
 have HG:=Lib.hid hG
 clear hG
 obtain⟨vv,hvv⟩:=hR.cellSet (a) (j:=q) (by have:=HS.out;omega) (.int .u64 (G (q)))
 go_region
 clear hvv
 have hZ:=(hR.swap (i:=a) (j:=q) (by have:=HS.out;omega) (by have:=HS.out;omega)).drew
 have hZc:=(RU.swapC hC rfl (off+(a)) (off+(q)) (.int .u64 dk[q]!) (.int .u64 dk[a]!)).drew
 rw[←HG.out,←HG.out]at hZ hZc
 generalize World.drew _=W9 at hZ hZc⊢
 clear hcw hfw HG hR hC
 have HP2:=Lib.hid (permIn_trans _ _ _ _ _ HP.out (swp_permIn dk a b (a) (q) (by omega) (by omega) (by omega) (by omega) (by have:=HS.out;omega)))
 have HS2:Hid ((swp dk (a) (q)).size=d.size):=Lib.hid (by rw[size_swp];exact HS.out)
 have HZA:(swp dk (a) (q))[a]! = z:=by
  by_cases e:a=q
  ·subst e;rw[swp_right dk a a (by have:=HS.out;omega)];rw[hz,hdq]
  ·rw[swp_left dk a q (by have:=HS.out;omega) e];rw[hz,hdq]
 clear HP HS hz hdq
 generalize swp dk (a) (q)=dz at *
 have hza:dz[a]! = z:=HZA
 clear HZA
 have HZ:=Lib.hid hza
 clear hza
 have hPI:PI pE a b (a+1) (b - 1) dz:=⟨by omega,by omega,by omega,fun t h1 h2=>by omega,fun t h1 h2=>by omega⟩
 obtain⟨i,hi⟩:∃i,i=a+1:=⟨_,rfl⟩
 obtain⟨j,hj⟩:∃j,j=b - 1:=⟨_,rfl⟩
 rw[←hi,←hj]at hPI
 have ei:(a:Int)+1=(i:Int):=by omega
 have ej:(b:Int) - 1=(j:Int):=by omega
 clear hi hj
 obtain⟨dk,hdk⟩:∃dk,dk=dz:=⟨_,rfl⟩
 subst hdk
 have HP:=HP2
 have HS:=HS2
 have hR:=hZ
 have hC:=hZc
 clear HP2 HS2 hZ hZc
 go_wp2_with fail
 clear ei ej
 go_loopw [9,10] (fun iv jv wr=>∃(i j:Nat) (dk:Array Int),iv=.int .i64 i∧jv=.int .i64 j∧PI pE a b i j dk∧PermIn a b d dk∧dk.size=d.size∧dk[a]! = z∧RU wr blk off cap dk∧Chg (· = blk) w wr) (fun _ jv _=>(intOf jv).toNat)
 case atStart=>exact⟨i,j,dk,rfl,rfl,hPI,HP.out,HS.out,HZ.out,hR,hC⟩
 case round =>
  clear hR hC HP HS hPI HZ
  obtain⟨i,j,dk,rfl,rfl,hPI,hP,hS,hz,hR,hC⟩:=hrel
  have HP:=Lib.hid hP
  have HS:=Lib.hid hS
  have HZ:=Lib.hid hz
  have ai:=hPI.ai
  clear hP hS hz
  go_upto_block 2 with fail
  go_cut [9]from 29 to 46 (fun v wx=>∃x:Nat,v=.int .i64 x∧PI pE a b x j dk∧(x≤j→pE dk[x]! dk[a]! = false)∧RU wx blk off cap dk∧Chg (· = blk) w wx)
  case first =>
   go_wp2_with fail
   go_loopw [9] (fun v wr=>∃x:Nat,v=.int .i64 x∧PI pE a b x j dk∧RU wr blk off cap dk∧Chg (· = blk) w wr) (fun v _=>j+1 - (intOf v).toNat)
   case atStart=>exact⟨i,rfl,hPI,hR,hC⟩
   case round =>
    clear hPI hR hC
    obtain⟨i,rfl,hPI,hR,hC⟩:=hrel
    obtain⟨G,hG⟩:=as_fun dk
    have hcw:∀t,t<d.size→wr.cell? ⟨blk,off+t,none⟩=some (.int .u64 (G t)):=fun t ht=>by rw[hG];exact hR.cell (by have:=HS.out;omega)
    have hfw:∀t,t<d.size→wr.frozen? ⟨blk,off+t,none⟩=false:=fun t _=>hR.frozen t
    have HG:=Lib.hid hG
    clear hG
    have HPI:=Lib.hid hPI
    have a1:=hPI.ai
    have a2:=hPI.ij
    have a3:=hPI.jb
    clear hPI
    have ad:a<d.size:=by omega
    by_cases hij:i≤j
    ·have vd:i<d.size:=by omega
     cases hl:ltInt (G a) (G i)
     ·go_wp2_with fail
      go_quiet ((first|(go_at_call 232;exact Calls.quiet_of_same (less_any _ _ _))))
      go_wp2_with fail
      go_roundw
      case rel=>exact⟨i+1,by go_num,HPI.out.up hij (show(!ltInt dk[a]! dk[i]!)=_ from by rw[←HG.out,←HG.out];exact congrArg (fun b => !b) hl),hR.ext ((Ext.refl wr).drewN _),hC.drewN _⟩
      case measure=>simp[intOf] <;> omega
     ·go_wp2_with fail
      go_quiet ((first|(go_at_call 232;exact Calls.quiet_of_same (less_any _ _ _))))
      go_wp2_with fail
      go_meet
      case rel=>exact⟨i,rfl,HPI.out,fun _=>(show(!ltInt dk[a]! dk[i]!)=_ from by rw[←HG.out,←HG.out];exact congrArg (fun b => !b) hl),hR.ext ((Ext.refl wr).drewN _),hC.drewN _⟩
    ·go_wp2_with fail
     go_quiet (fail)
     go_wp2_with fail
     go_meet
     case rel=>exact⟨i,rfl,HPI.out,fun h=>absurd h hij,hR.ext ((Ext.refl wr).drewN _),hC.drewN _⟩
  case rest =>
   clear hPI hR hC
   obtain⟨i,rfl,hPI,hST1,hR,hC⟩:=hcut
   obtain⟨jo,hjo⟩:∃jo,jo=j:=⟨_,rfl⟩
   have hjl:j≤jo:=by omega
   have hjm:jo≤j:=by omega
   rw[←hjo]at hST1
   clear hjo
   go_upto_block 4 with fail
   go_cut [10]from 46 to 62 (fun v wx=>∃x:Nat,v=.int .i64 x∧x≤jo∧PI pE a b i x dk∧(i≤x→pE dk[x]! dk[a]! = true)∧RU wx blk off cap dk∧Chg (· = blk) w wx)
   case first =>
    go_wp2_with fail
    go_loopw [10] (fun v wr=>∃x:Nat,v=.int .i64 x∧x≤jo∧PI pE a b i x dk∧RU wr blk off cap dk∧Chg (· = blk) w wr) (fun v _=>(intOf v).toNat)
    case atStart=>exact⟨j,rfl,by omega,hPI,hR,hC⟩
    case round =>
     clear hPI hR hC
     obtain⟨j,rfl,hjl,hPI,hR,hC⟩:=hrel
     obtain⟨G,hG⟩:=as_fun dk
     have hcw:∀t,t<d.size→wr.cell? ⟨blk,off+t,none⟩=some (.int .u64 (G t)):=fun t ht=>by rw[hG];exact hR.cell (by have:=HS.out;omega)
     have hfw:∀t,t<d.size→wr.frozen? ⟨blk,off+t,none⟩=false:=fun t _=>hR.frozen t
     have HG:=Lib.hid hG
     clear hG
     have HPI:=Lib.hid hPI
     have a1:=hPI.ai
     have a2:=hPI.ij
     have a3:=hPI.jb
     clear hPI
     have ad:a<d.size:=by omega
     by_cases hij:i≤j
     ·have vd:j<d.size:=by omega
      cases hl:ltInt (G a) (G j)
      ·go_wp2_with fail
       go_quiet ((first|(go_at_call 232;exact Calls.quiet_of_same (less_any _ _ _))))
       go_wp2_with fail
       go_meet
       case rel=>exact⟨j,rfl,by omega,HPI.out,fun _=>(show(!ltInt dk[a]! dk[j]!)=_ from by rw[←HG.out,←HG.out];exact congrArg (fun b => !b) hl),hR.ext ((Ext.refl wr).drewN _),hC.drewN _⟩
      ·go_wp2_with fail
       go_quiet ((first|(go_at_call 232;exact Calls.quiet_of_same (less_any _ _ _))))
       go_wp2_with fail
       go_roundw
       case rel=>exact⟨j - 1,by congr 1;omega,by omega,HPI.out.down hij (show(!ltInt dk[a]! dk[j]!)=_ from by rw[←HG.out,←HG.out];exact congrArg (fun b => !b) hl),hR.ext ((Ext.refl wr).drewN _),hC.drewN _⟩
       case measure=>simp[intOf] <;> omega
     ·go_wp2_with fail
      go_quiet (fail)
      go_wp2_with fail
      go_meet
      case rel=>exact⟨j,rfl,by omega,HPI.out,fun h=>absurd h hij,hR.ext ((Ext.refl wr).drewN _),hC.drewN _⟩
   case rest =>
    clear hPI hR hC
    obtain⟨j,rfl,hjl,hPI,hST2,hR,hC⟩:=hcut
    by_cases hij:i≤j
    ·skip
     have p1:=hST1 (by omega)
     have p2:=hST2 hij
     have hlt:=PI.lt hij p1 p2
     have hPI2:=hPI.swap hlt (by have:=HS.out;omega) p1 p2
     have HPI:=Lib.hid hPI2
     have a1:=hPI.ai
     have a2:=hPI.jb
     clear hPI hPI2 p1 p2 hST1 hST2
     go_wp2_with fail
     obtain⟨G,hG⟩:=as_fun dk
     have hcw:∀t,t<d.size→wc.cell? ⟨blk,off+t,none⟩=some (.int .u64 (G t)):=fun t ht=>by rw[hG];exact hR.cell (by have:=HS.out;omega)
     have hfw:∀t,t<d.size→wc.frozen? ⟨blk,off+t,none⟩=false:=fun t _=>hR.frozen t
     have HG:=Lib.hid hG
     clear hG
     obtain⟨vv,hvv⟩:=hR.cellSet (i) (j:=j) (by have:=HS.out;omega) (.int .u64 (G (j)))
     go_region
     clear hvv
     have hZ:=(hR.swap (i:=i) (j:=j) (by have:=HS.out;omega) (by have:=HS.out;omega)).drew
     have hZc:=(RU.swapC hC rfl (off+(i)) (off+(j)) (.int .u64 dk[j]!) (.int .u64 dk[i]!)).drew
     rw[←HG.out,←HG.out]at hZ hZc
     generalize World.drew _=W9 at hZ hZc⊢
     clear hcw hfw HG hR hC
     have HZ2:Hid ((swp dk (i) (j))[a]! = z):=Lib.hid (by rw[swp_other dk i j a (by omega) (by omega)];exact HZ.out)
     clear HZ
     have HP2:=Lib.hid (permIn_trans _ _ _ _ _ HP.out (swp_permIn dk a b (i) (j) (by omega) (by omega) (by omega) (by omega) (by have:=HS.out;omega)))
     have HS2:Hid ((swp dk (i) (j)).size=d.size):=Lib.hid (by rw[size_swp];exact HS.out)
     clear HP HS
     generalize swp dk (i) (j)=dz at *
     go_wp2_with fail
     go_roundw
     case rel=>exact⟨i+1,j - 1,dz,by go_num,by congr 1;omega,HPI.out,HP2.out,HS2.out,HZ2.out,hZ,hZc⟩
     case measure=>simp[intOf];omega
    ·skip
     have a1:=hPI.ai
     have a2:=hPI.ij
     have a3:=hPI.jb
     have HPI:=Lib.hid hPI
     clear hPI hST1 hST2
     go_wp2_with fail
     go_ret
     exact⟨i,dk,rfl,a1,by omega,HP.out,HZ.out.trans HQ.out,HPI.out.lo,fun t h1 h2=>HPI.out.hi t (by omega) h2,hR,hC⟩
end
end Go.Proofs.YtkkbfdencgdbhaaGreatDoor
namespace Go.Proofs.YtkkbfdencgdbhaaGreatDoor
open Go.RowKit Go.Sort
theorem len_cases:∀x,x<50→8≤x→(Lib.bitLen x=4∧x<16)∨(Lib.bitLen x=5∧16≤x∧x<32)∨(Lib.bitLen x=6∧32≤x):=by decide +kernel
theorem npt_any(w:World)(l:Nat)(h1:8≤l)(h2:l<50):Calls Tryz.prog 200 #[.int .i64 l] w fun e w'=>∃m:Nat,e=.returned (.int .u64 m)∧1≤m∧m≤2 * l∧l≤m∧w=w':=by
 have hl:=len_cases l h2 h1
 have HC:=Lib.hid (Tryz.bits_Len (l:Int) w (by omega) (by omega))
 rw[Int.toNat_natCast]at HC
 go_enter Tryz.func200,Tryz.ntmps200
 go_wp2_with fail
 refine HC.out.mono ?_
 rintro e w' ⟨rfl,rfl⟩
 clear HC
 rcases hl with⟨hb,h3⟩|⟨hb,h3⟩|⟨hb,h3⟩
 all_goals rw[hb];clear hb
 ·go_wp2_with fail
  go_ret
  exact⟨16,rfl,by omega,by omega,by omega,rfl⟩
 ·go_wp2_with fail
  go_ret
  exact⟨32,rfl,by omega,by omega,by omega,rfl⟩
 ·go_wp2_with fail
  go_ret
  exact⟨64,rfl,by omega,by omega,by omega,rfl⟩
def RndAt(w:World)(g:Nat)(x:Int):Prop:=At w g 257 #[.int .u64 x]
theorem rnd_set{W w:World}{g:Nat}{x:Int}(hg:RndAt w g x)(hC:Chg (· = g) W w)(y:Int):RndAt ((w.setCell ⟨g,0,none⟩ (.int .u64 y)).drew) g y∧Chg (· = g) W ((w.setCell ⟨g,0,none⟩ (.int .u64 y)).drew) :=
 ⟨(At.set hg 0 _).drew,(hC.setCell (p:=⟨g,0,none⟩) (.inl rfl) _).drew⟩
set_option maxHeartbeats 4000000 in
theorem next_any(w:World)(g:Nat)(x:Int)(hg:RndAt w g x):Calls Tryz.prog 201 #[.pointer (some ⟨g,0,none⟩)] w fun e w'=>∃y:Int,e=.returned (.int .u64 y)∧(0≤y∧y≤18446744073709551615)∧RndAt w' g y∧Chg (· = g) w w':=by
 have c0:=At.cell hg 0
 have f0:=At.frozen hg 0
 have hC:Chg (· = g) w w:=Chg.refl _ _
 simp at c0
 go_enter Tryz.func201,Tryz.ntmps201
 go_wp2_with fail
 go_region
 obtain⟨hg1,hC1⟩:=rnd_set hg hC (bits .xor .u64 x (IntKind.u64.wrap (x * 8192)))
 generalize bits BinOp.xor IntKind.u64 _ _=x1 at *
 generalize World.drew _=w1 at *
 clear c0 f0 hg hC
 have c0:=At.cell hg1 0
 have f0:=At.frozen hg1 0
 simp at c0
 go_wp2_with fail
 go_region
 obtain⟨hg2,hC2⟩:=rnd_set hg1 hC1 (bits .xor .u64 x1 (x1 / 128))
 generalize bits BinOp.xor IntKind.u64 _ _=x2 at *
 generalize World.drew _=w2 at *
 clear c0 f0 hg1 hC1
 have c0:=At.cell hg2 0
 have f0:=At.frozen hg2 0
 simp at c0
 go_wp2_with fail
 go_region
 obtain⟨hg3,hC3⟩:=rnd_set hg2 hC2 (bits .xor .u64 x2 (IntKind.u64.wrap (x2 * 131072)))
 have hb:=And.intro (bits_lo_u64 .xor x2 (IntKind.u64.wrap (x2 * 131072))) (bits_hi_u64 .xor x2 (IntKind.u64.wrap (x2 * 131072)))
 generalize bits BinOp.xor IntKind.u64 _ _=x3 at *
 generalize World.drew _=w3 at *
 clear c0 f0 hg2 hC2
 have c0:=At.cell hg3 0
 simp at c0
 go_wp2_with fail
 go_ret
 exact⟨x3,rfl,hb,hg3,hC3⟩
section
variable(blk off cap:Nat)(d:Array Int)(w:World)(h:RU w blk off cap d)(hsz:d.size<4611686018427387904)
include h hsz
set_option maxRecDepth 100000 in
set_option maxHeartbeats 8000000 in
theorem brk_any(a b:Nat)(hab:a+12<b)(hb:b≤d.size)(h50:b<a+50):Calls Tryz.prog 228 #[.slice (some ⟨blk,off,none⟩) d.size cap,.int .i64 a,.int .i64 b] w fun e w' =>
 e=.returned (.tuple #[])∧∃d',PermIn a b d d'∧RU w' blk off cap d'∧Chg (· = blk) w w':=by
 obtain⟨l,hl⟩:∃l,l=b - a:=⟨_,rfl⟩
 have en:(b:Int) - (a:Int)=(l:Int):=by omega
 have hl1:8≤l:=by omega
 have hl2:l<50:=by omega
 obtain⟨B,hB⟩:∃B,B=a+l / 4 * 2:=⟨_,rfl⟩
 have eB:(a:Int)+(l:Int) / 4 * 2=(B:Int):=by omega
 have hB1:a+4≤B:=by omega
 have hB2:B+1<a+l:=by omega
 have hal:a+l=b:=by omega
 have HAL:=Lib.hid hal
 clear hl hB hal
 have hW:RndAt (w.alloc (.cells #[.int .u64 (l:Int)] 257)) w.heap.size l:=At.new w _ _
 have hR:=h.ext ((Ext.refl w).alloc (.cells #[.int .u64 (l:Int)] 257))
 have hE:=(Ext.refl w).alloc (.cells #[.int .u64 (l:Int)] 257)
 have hbl:blk<w.heap.size:=by obtain⟨cur,hc⟩:=h.block;exact hc.lt
 clear h
 go_enter Tryz.func228,Tryz.ntmps228
 go_wp2_with fail
 refine(npt_any _ l hl1 hl2).mono ?_
 rintro e w1 ⟨m,rfl,hm1,hm2,hm3,rfl⟩
 generalize hgs:w.heap.size=g at *
 have e1:(m:Int) - 1=((m - 1:Nat):Int):=by omega
 go_wp2_with fail
 generalize hW1:w.alloc (.cells #[.int .u64 (l:Int)] 257)=W1 at *
 have e0:(B:Int) - 1=((B - 1:Nat):Int):=by omega
 rw[e0]
 clear e0 hW1
 go_loopw [9] (fun kv wr=>∃(k:Nat) (dk:Array Int) (x:Int),kv=.int .i64 k∧B≤k+1∧k≤B+2∧PermIn a b d dk∧dk.size=d.size∧RU wr blk off cap dk∧RndAt wr g x∧Chg (fun j=>j=blk∨j=g) w wr) (fun kv _=>B+2 - (intOf kv).toNat)
 case atStart=>exact⟨B - 1,d,_,rfl,by omega,by omega,permIn_refl _ _ _,rfl,hR,hW,hE.chg⟩
 case round =>
  clear hR hW hE
  obtain⟨k,dk,x,rfl,hk1,hk2,hP,hS,hR,hX,hC⟩:=hrel
  have HP:=Lib.hid hP
  have HS:=Lib.hid hS
  clear hP hS
  have hne:blk≠g:=by omega
  by_cases hk:k≤B+1
  ·have HN:=Lib.hid (next_any wr g x hX)
   clear hX
   go_wp2_with fail
   refine HN.out.mono ?_
   rintro e w2 ⟨y,rfl,⟨hy0,hy1⟩,hX2,hCx⟩
   have hR2:=hR.chg hCx hne
   have hC2:Chg (fun j=>j=blk∨j=g) w w2:=hC.trans hCx (fun j _ e=>.inr e)
   clear hR hC hCx HN
   obtain⟨y,rfl⟩:=Int.eq_ofNat_of_zero_le hy0
   have e2:bits .and .u64 (y:Int) ((m - 1:Nat):Int)=((y &&& (m - 1):Nat):Int):=bits_and_u64_nat _ _ (by omega) (by omega)
   have ho:y &&& (m - 1)≤m - 1:=Nat.and_le_right
   generalize y &&& (m - 1)=o at *
   clear hy0 hy1
   have hway:(l≤o∧∃o2:Nat,(o:Int) - (l:Int)=(o2:Int)∧o2<l)∨o<l:=by
    by_cases hol:l≤o
    ·exact .inl ⟨hol,o - l,by omega,by omega⟩
    ·exact .inr (by omega)
   rcases hway with⟨hol,o2,e3,ho2⟩|ho2
   go_wp2_with fail
   clear e3 hol ho e2 e1
   rotate_left 1
   obtain⟨o2,rfl⟩:∃o2,o2=o:=⟨_,rfl⟩
   go_wp2_with fail
   clear ho e2 e1
   all_goals
    have hal:=HAL.out
    have n2:((a:Int)+(o2:Int)).toNat=a+o2:=by omega
    have z2:0≤(a:Int)+(o2:Int):=by omega
    have b1:k<d.size:=by omega
    have b2:a+o2<d.size:=by omega
    have hkb:a≤k∧k<b:=by omega
    obtain⟨G,hG⟩:=as_fun dk
    have hcw:∀t,t<d.size→w2.cell? ⟨blk,off+t,none⟩=some (.int .u64 (G t)):=fun t ht=>by rw[hG];exact hR2.cell (by have:=HS.out;omega)
    have hfw:∀t,t<d.size→w2.frozen? ⟨blk,off+t,none⟩=false:=fun t _=>hR2.frozen t
    have HG:=Lib.hid hG
    clear hG
    obtain⟨vv,hvv⟩:=hR2.cellSet k (j:=a+o2) (by have:=HS.out;omega) (.int .u64 (G (a+o2)))
    have HKB:=Lib.hid hkb
    clear hal hkb
    have wr2:IntKind.i64.wrap ((a:Int)+(o2:Int))=a+o2:=IntWalk.i64_in _ (by omega)
    go_region
    clear hvv wr2 n2 z2
    have hZ:=(hR2.swap (i:=k) (j:=a+o2) (by have:=HS.out;omega) (by have:=HS.out;omega)).drew
    have hZc:=(RU.swapC hC2 (.inl rfl) (off+k) (off+(a+o2)) (.int .u64 dk[a+o2]!) (.int .u64 dk[k]!)).drew
    have hZx:RndAt _ g y:=((At.far hX2 (p:=⟨blk,off+k,none⟩) (fun e=>hne e.symm) (.int .u64 dk[a+o2]!)).far (p:=⟨blk,off+(a+o2),none⟩) (fun e=>hne e.symm) (.int .u64 dk[k]!)).drew
    rw[←HG.out,←HG.out]at hZ hZc hZx
    have hal:=HAL.out
    have hkb:=HKB.out
    have HP2:=Lib.hid (permIn_trans _ _ _ _ _ HP.out (swp_permIn dk a b k (a+o2) (by omega) (by omega) (by omega) (by omega) (by have:=HS.out;omega)))
    have HS2:Hid ((swp dk k (a+o2)).size=d.size):=Lib.hid (by rw[size_swp];exact HS.out)
    generalize World.drew _=W9 at hZ hZc hZx⊢
    clear hcw hfw HG hR2 hC2 HP HS hX2 hal hkb
    generalize swp dk k (a+o2)=dz at *
    go_wp2_with fail
    go_roundw
    case rel=>exact⟨k+1,dz,_,by go_num,by omega,by omega,HP2.out,HS2.out,hZ,hZx,hZc⟩
    case measure=>simp[intOf];omega
  ·go_wp2_with fail
   go_end0
   exact⟨rfl,dk,HP.out,hR,hC.mono (fun j hj e=>by rcases e with e|e <;> omega)⟩
end
end Go.Proofs.YtkkbfdencgdbhaaGreatDoor
