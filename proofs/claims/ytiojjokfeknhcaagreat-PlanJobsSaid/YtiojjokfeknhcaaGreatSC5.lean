/-
  Part 5 of what the law leans on.
-/
import Derived.Test.YtiojjokfeknhcaaGreatSC1
import Derived.Test.YtiojjokfeknhcaaGreatSC2
import Derived.Sort.LotA
import Derived.Sort.LotB
import Derived.Sort.LotC
import Derived.Sort.LotD1
import Derived.Sort.LotD2
import Derived.CellFam
import Derived.RegionTactic
import Derived.Deep.QuietTactic
import Derived.BigQuiet
import Derived.Deep.Cut
import Derived.Deep.CutRange
import Derived.Deep.CutBlock
import Derived.Outline
import Derived.Laws.Bits64b
import Derived.Laws.Closers25b
import Derived.Shelf.SlIter.Nil
import Derived.Sort.LoopGhostIn
namespace Go.Proofs.YtiojjokfeknhcaaGreat
set_option maxRecDepth 100000
set_option maxHeartbeats 8000000
set_option linter.unusedVariables false
set_option linter.unusedSimpArgs false
set_option linter.unusedSectionVars false
open _root_.Go.Proofs.Tryz
open Go.RowKit Go.Sort
def eU(z:Int):Value:=.int .u64 z
structure RU (w:World) (blk off cap:Nat) (d:Array Int):Prop where
 z:off=0
 own:w.ownsRow 0 47 1 (.slice (some ⟨blk,0,none⟩) d.size cap) d.size (d.toList.map eU)
section
variable{w w':World}{blk off cap:Nat}{d:Array Int}
theorem RU.cell(h:RU w blk off cap d){i:Nat}(hi:i<d.size):w.cell? ⟨blk,off+i,none⟩=some (.int .u64 d[i]!):=by
 have:=h.own.cellAt i (by simpa using hi)
 rw[h.z,Nat.zero_add,this,List.getElem?_map,Array.getElem?_toList,getElem!_pos d i hi,Array.getElem?_eq_getElem hi];rfl
theorem RU.frozen(h:RU w blk off cap d)(i:Nat):w.frozen? ⟨blk,off+i,none⟩=false:=by
 rw[h.z,Nat.zero_add];exact h.own.frozenAt i
theorem RU.block(h:RU w blk off cap d):∃cur,At w blk 47 cur:=by
 rcases h.own.2 with⟨e,_⟩|⟨g,c,cur,e,_,hg,_⟩
 ·cases e
 ·injection e with e1 _ _;injection e1 with e1;injection e1 with e1 _ _;subst e1;exact⟨cur,hg⟩
theorem RU.ext(h:RU w blk off cap d)(he:Ext w w'):RU w' blk off cap d:=by
 refine⟨h.z,h.own.1,?_⟩
 rcases h.own.2 with h2|⟨g,c,cur,e,hb,hg,h3⟩
 ·exact .inl h2
 ·exact .inr ⟨g,c,cur,e,hb,(Ext.block he (qQY hg)).trans hg,h3⟩
theorem RU.drew(h:RU w blk off cap d):RU w.drew blk off cap d:=⟨h.z,h.own⟩
theorem RU.swap(h:RU w blk off cap d){i j:Nat}(_hi:i<d.size)(_hj:j<d.size) :
 RU ((w.setCell ⟨blk,off+i,none⟩ (.int .u64 d[j]!)).setCell ⟨blk,off+j,none⟩ (.int .u64 d[i]!)) blk off cap (swp d i j):=by
 have h1:=((h.own.stored i (eU d[j]!)).1.stored j (eU d[i]!)).1;refine⟨h.z,?_⟩
 rw[h.z,Nat.zero_add,Nat.zero_add,size_swp];rw[show(swp d i j).toList.map eU=((d.toList.map eU).set i (eU d[j]!)).set j (eU d[i]!)from ?_]
 ·exact h1
 ·unfold swp;rw[Array.toList_setIfInBounds,Array.toList_setIfInBounds,List.map_set,List.map_set]
theorem RU.cellSet(h:RU w blk off cap d)(i:Nat){j:Nat}(hj:j<d.size)(x:Value):∃v,(w.setCell ⟨blk,off+i,none⟩ x).cell? ⟨blk,off+j,none⟩=some v:=by
 have h1:=(h.own.stored i x).1.cellAt j (by simpa using hj);rw[h.z,Nat.zero_add,Nat.zero_add,h1]
 have:j<((d.toList.map eU).set i x).length:=by simpa using hj
 exact⟨_,List.getElem?_eq_getElem this⟩
theorem RU.swapC{S:Nat→Prop}{w0:World}(hC:Chg S w0 w)(hS:S blk)(i j:Nat)(x y:Value):Chg S w0 ((w.setCell ⟨blk,i,none⟩ x).setCell ⟨blk,j,none⟩ y):=(hC.setCell (.inl hS) x).setCell (.inl hS) y
theorem RU.chg{S:Nat→Prop}(h:RU w blk off cap d)(hC:Chg S w w')(hS:¬ S blk):RU w' blk off cap d:=by
 refine⟨h.z,h.own.1,?_⟩
 rcases h.own.2 with h2|⟨g,c,cur,e,hb,hg,h3⟩
 ·exact .inl h2
 ·refine .inr ⟨g,c,cur,e,hb,?_,h3⟩;injection e with e1 _ _;injection e1 with e1;injection e1 with e1 _ _;subst e1;exact(hC.block blk (qQY hg) hS).trans hg
end
theorem qZs(d:Array Int):∃G:Nat→Int,∀t,G t=d[t]! := ⟨fun t=>d[t]!,fun _=>rfl⟩
theorem nan_any(w:World)(x:Int):Calls prog 152 #[.int .u64 x] w fun e w'=>e=.returned (.bool false)∧w'=w:=by
 go_enter func152,ntmps152
 go_wp2_with fail
 go_ret
 exact⟨by simp,rfl⟩
theorem qQU(w:World)(x y:Int):Calls prog 139 #[.int .u64 x,.int .u64 y] w fun e w'=>e=.returned (.bool (ltInt x y))∧w'=w:=by
 go_enter func139,ntmps139
 go_wp2_with fail
 refine(nan_any w x).mono ?_
 rintro e w' ⟨rfl,rfl⟩;go_wp2_with fail
 go_ret
 exact⟨rfl,rfl⟩
section
variable(blk off cap a b:Nat)(d:Array Int)(w:World)(h:RU w blk off cap d)(hsz:d.size<4611686018427387904)
include h hsz
theorem rev_any(hb:b≤d.size)(hab:a<b):Calls prog 137 #[.slice (some ⟨blk,off,none⟩) d.size cap,.int .i64 a,.int .i64 b] w fun e w' =>
 e=.returned (.tuple #[])∧∃d',PermIn a b d d'∧RU w' blk off cap d'∧Chg (· = blk) w w':=by
 go_enter func137,ntmps137
 go_wp2_with fail
 go_loopw [6,7] (fun iv jv wr=>∃(i j:Nat) (dk:Array Int),iv=.int .i64 i∧jv=.int .i64 ((j:Int) - 1)∧a≤i∧i≤b∧j≤b∧PermIn a b d dk∧RU wr blk off cap dk∧Chg (· = blk) w wr) (fun _ jv _=>(intOf jv).toNat+1)
 case atStart=>exact⟨a,b,d,rfl,rfl,Nat.le_refl _,by omega,Nat.le_refl _,permIn_refl _ _ _,h,Chg.refl _ _⟩
 case round =>
  obtain⟨i,j,dk,rfl,rfl,hai,hib,hjb,hP,hR,hC⟩:=hrel;have hs:=hP.1;obtain⟨G,hG⟩:=qZs dk;have hcw:∀t,t<d.size→wr.cell? ⟨blk,off+t,none⟩=some (.int .u64 (G t)):=fun t ht=>by rw[hG];exact hR.cell (by omega)
  have hfw:∀t,t<d.size→wr.frozen? ⟨blk,off+t,none⟩=false:=fun t _=>hR.frozen t
  have HG:=Hh hG;have HS:=Hh hs;clear hG hs h
  by_cases hlt:(i:Int)<(j:Int) - 1
  ·obtain⟨k,rfl⟩:∃k,j=k+1:=⟨j - 1,by omega⟩;have hki:i<k:=by omega
   have e1:((k+1:Nat):Int) - 1=(k:Int):=by omega
   rw[e1]at hlt⊢;clear e1;go_wp2_with fail
   go_region
   have hs2:=HS.out;have hZ:=hR.swap (i:=i) (j:=k) (by omega) (by omega);have hZc:=RU.swapC hC rfl (off+i) (off+k) (.int .u64 dk[k]!) (.int .u64 dk[i]!);rw[←HG.out,←HG.out]at hZ hZc;generalize World.setCell _ _ _=W9 at hZ hZc⊢;go_wp2_with fail
   go_roundw
   case rel=>exact⟨i+1,k,swp dk i k,by go_num,by go_num,by omega,by omega,by omega,permIn_trans _ _ _ _ _ hP (swp_permIn dk a b i k hai (by omega) (by omega) (by omega) (by omega)),hZ.drew,hZc.drew⟩
   case measure=>simp[intOf];omega
  ·go_wp2_with fail
   go_end0
   exact⟨rfl,dk,hP,hR,hC⟩
theorem insu_any(hb:b≤d.size)(hab:a≤b):Calls prog 133 #[.slice (some ⟨blk,off,none⟩) d.size cap,.int .i64 a,.int .i64 b] w fun e w' =>
 e=.returned (.tuple #[])∧∃d',PermIn a b d d'∧SortedIn ltInt a b d'∧RU w' blk off cap d'∧Chg (· = blk) w w':=by
 go_enter func133,ntmps133
 go_wp2_with fail
 go_loopw [6] (fun iv wr=>∃(i:Nat) (dk:Array Int),iv=.int .i64 i∧a<i∧i≤b+1∧PermIn a b d dk∧SortedIn ltInt a i dk∧RU wr blk off cap dk∧Chg (· = blk) w wr) (fun iv _=>b+1 - (intOf iv).toNat)
 case atStart=>exact⟨a+1,d,by go_num,by omega,by omega,permIn_refl _ _ _,fun i j h1 h2 h3=>by omega,h,Chg.refl _ _⟩
 case round =>
  obtain⟨i,dk,rfl,hai,hib,hP,hSo,hR,hC⟩:=hrel;have HSO:=Hh hSo;have HP:=Hh hP;clear hSo hP h
  by_cases hlt:i<b
  ·go_wp2_with fail
   obtain⟨wo,rfl⟩:∃wo:World,wo=wr:=⟨_,rfl⟩
   go_loopw [7] (fun jv wx=>∃(j:Nat) (dj:Array Int),jv=.int .i64 j∧a≤j∧j≤i∧PermIn a b d dj∧Ins ltInt a j i dj∧RU wx blk off cap dj∧Chg (· = blk) w wx) (fun jv _=>(intOf jv).toNat)
   case atStart=>exact⟨i,dk,rfl,by omega,Nat.le_refl _,HP.out,⟨fun p q h1 h2 h3 h4 h5=>HSO.out p q h1 h2 (by omega),fun q h1 h2=>by omega⟩,hR,hC⟩
   case round =>
    obtain⟨j,dj,rfl,haj,hji,hPj,hI,hRj,hCj⟩:=hrel;clear hR hC;have hs:=hPj.1;obtain⟨G,hG⟩:=qZs dj;have hcw:∀t,t<d.size→wr.cell? ⟨blk,off+t,none⟩=some (.int .u64 (G t)):=fun t ht=>by rw[hG];exact hRj.cell (by omega)
    have hfw:∀t,t<d.size→wr.frozen? ⟨blk,off+t,none⟩=false:=fun t _=>hRj.frozen t
    have HG:=Hh hG;have HS:=Hh hs;have HI:=Hh hI;have HPJ:=Hh hPj;clear hG hs hI hPj;have out:(j≤a∨ltInt dj[j]! dj[j - 1]! = false)→SortedIn ltInt a (i+1) dj:=fun hs=>HI.out.stop swo_ltInt hs
    have OUT:=Hh out;clear out
    by_cases hja:a<j
    ·by_cases hl:ltInt (G j) (G (j - 1))=true
     ·go_wp2_with fail
      go_quiet ((first|(go_at_call 139;exact Calls.quiet_of_same (qQU _ _ _))))
      go_wp2_with fail
      go_region
      have hs2:=HS.out;have hq:Ext wr (wr.drewN (nq+1)):=(Er wr).drewN _;have hZ:=(hRj.ext hq).swap (i:=j) (j:=j - 1) (by omega) (by omega);have hZc:=RU.swapC (hCj.ext_trans hq) rfl (off+j) (off+(j - 1)) (.int .u64 dj[j - 1]!) (.int .u64 dj[j]!);rw[←HG.out,←HG.out]at hZ hZc;generalize World.setCell _ _ _=W9 at hZ hZc⊢;go_wp2_with fail
      go_roundw
      case rel =>
       obtain⟨k,rfl⟩:∃k,j=k+1:=⟨j - 1,by omega⟩;have hI2:=HI.out.step (by rw[←HG.out,←HG.out];exact hl) (by omega) (by omega);refine⟨k,_,by go_num,by omega,by omega,permIn_trans _ _ _ _ _ HPJ.out (swp_permIn dj a b (k+1) k (by omega) (by omega) (by omega) (by omega) (by omega)),hI2,hZ,hZc⟩
      case measure=>simp[intOf];omega
     ·have hl2:ltInt (G j) (G (j - 1))=false:=by simpa using hl
      clear hl;go_wp2_with fail
      go_quiet ((first|(go_at_call 139;exact Calls.quiet_of_same (qQU _ _ _))))
      go_wp2_with fail
      go_roundw
      case rel=>exact⟨i+1,dj,by go_num,by omega,by omega,HPJ.out,OUT.out (.inr (by rw[←HG.out,←HG.out];exact hl2)),hRj.ext ((Er wr).drewN _),hCj.drewN _⟩
      case measure=>simp[intOf];omega
    ·go_wp2_with fail
     go_quiet (fail)
     go_wp2_with fail
     go_roundw
     case rel=>exact⟨i+1,dj,by go_num,by omega,by omega,HPJ.out,OUT.out (.inl (by omega)),hRj.ext ((Er wr).drewN _),hCj.drewN _⟩
     case measure=>simp[intOf];omega
  ·go_wp2_with fail
   go_end0
   exact⟨rfl,dk,HP.out,fun p q h1 h2 h3=>HSO.out p q h1 h2 (by omega),hR,hC⟩
end
open Go.RowKit Go.Sort
def qXk(lt:Int→Int→Bool)(hi first root:Nat)(d:Array Int):Nat :=
 if 2 * root+2<hi∧lt d[first+(2 * root+1)]! d[first+(2 * root+2)]! = true then 2 * root+2 else 2 * root+1
theorem sift_stop{lt:Int→Int→Bool}{hi first root:Nat}{d:Array Int}(h:¬ 2 * root+1<hi):siftDown lt hi first root d=d:=by
 rw[siftDown,dif_pos (by omega)]
theorem sift_go{lt:Int→Int→Bool}{hi first root:Nat}{d:Array Int}(h:2 * root+1<hi) :
 siftDown lt hi first root d=if lt d[first+root]! d[first+qXk lt hi first root d]! = false then d else siftDown lt hi first (qXk lt hi first root d) (swp d (first+root) (first+qXk lt hi first root d)):=by
 rw[siftDown,dif_neg (by omega)];unfold qXk;have e1:first+(2 * root+1)+1=first+(2 * root+2):=by omega
 have e2:2 * root+1+1=2 * root+2:=by omega
 rw[e1,e2]
 by_cases h2:2 * root+2<hi
 ·by_cases hl:lt d[first+(2 * root+1)]! d[first+(2 * root+2)]! = true
  ·have hc:(if 2 * root+2<hi∧lt d[first+(2 * root+1)]! d[first+(2 * root+2)]! = true then 2 * root+2 else 2 * root+1)=2 * root+2:=if_pos ⟨h2,hl⟩;rw[hc];simp only[h2,hl,decide_true,Bool.and_self,if_true,dif_pos];cases lt d[first+root]! d[first+(2 * root+2)]! <;> simp
  ·have hc:(if 2 * root+2<hi∧lt d[first+(2 * root+1)]! d[first+(2 * root+2)]! = true then 2 * root+2 else 2 * root+1)=2 * root+1:=if_neg (fun h=>hl h.2);rw[hc];simp only[hl,Bool.and_false,Bool.false_eq_true,if_false];cases lt d[first+root]! d[first+(2 * root+1)]! <;> simp
 ·have hc:(if 2 * root+2<hi∧lt d[first+(2 * root+1)]! d[first+(2 * root+2)]! = true then 2 * root+2 else 2 * root+1)=2 * root+1:=if_neg (fun h=>h2 h.1);rw[hc];simp only[h2,decide_false,Bool.false_and,Bool.false_eq_true,if_false];cases lt d[first+root]! d[first+(2 * root+1)]! <;> simp
theorem childOf_bd{lt:Int→Int→Bool}{hi first root:Nat}{d:Array Int}(h:2 * root+1<hi):root<qXk lt hi first root d∧qXk lt hi first root d<hi:=by
 unfold qXk;split
 ·rename_i h';omega
 ·omega
section
variable(blk off cap:Nat)(d:Array Int)(w:World)(h:RU w blk off cap d)(hsz:d.size<4611686018427387904)
include h hsz
theorem siftu_any(lo hi first:Nat)(hb:first+hi≤d.size)(hlo:lo≤hi):Calls prog 149 #[.slice (some ⟨blk,off,none⟩) d.size cap,.int .i64 lo,.int .i64 hi,.int .i64 first] w fun e w' =>
 e=.returned (.tuple #[])∧RU w' blk off cap (siftDown ltInt hi first lo d)∧Chg (· = blk) w w':=by
 go_enter func149,ntmps149
 go_wp2_with fail
 go_loopw [8] (fun rv wr=>∃(root:Nat) (dk:Array Int),rv=.int .i64 root∧root≤hi∧dk.size=d.size∧siftDown ltInt hi first root dk=siftDown ltInt hi first lo d∧RU wr blk off cap dk∧Chg (· = blk) w wr) (fun rv _=>hi - (intOf rv).toNat)
 case atStart=>exact⟨lo,d,rfl,hlo,rfl,rfl,h,Chg.refl _ _⟩
 case round =>
  obtain⟨root,dk,rfl,hrh,hs,hE,hR,hC⟩:=hrel;have HE:=Hh hE;clear hE h
  by_cases hch:2 * root+1<hi
  ·have hgo:=sift_go (lt:=ltInt) (first:=first) (d:=dk) hch;have hcb:=childOf_bd (lt:=ltInt) (first:=first) (d:=dk) hch;have hcd:qXk ltInt hi first root dk=if 2 * root+2<hi∧ltInt dk[first+(2 * root+1)]! dk[first+(2 * root+2)]! = true then 2 * root+2 else 2 * root+1:=rfl
   generalize qXk ltInt hi first root dk=c at *;obtain⟨G,hG⟩:=qZs dk;have hcw:∀t,t<d.size→wr.cell? ⟨blk,off+t,none⟩=some (.int .u64 (G t)):=fun t ht=>by rw[hG];exact hR.cell (by omega)
   have hfw:∀t,t<d.size→wr.frozen? ⟨blk,off+t,none⟩=false:=fun t _=>hR.frozen t
   rw[←hG,←hG]at hcd hgo;have HG:=Hh hG;have HS:=Hh hs;have HGO:=Hh hgo;have HCD:=Hh hcd;clear hG hs hgo hcd
   have ways:(2 * root+2<hi∧ltInt (G (first+(2 * root+1))) (G (first+(2 * root+2)))=true∧c=2 * root+2)∨(2 * root+2<hi∧ltInt (G (first+(2 * root+1))) (G (first+(2 * root+2)))=false∧c=2 * root+1)∨(¬ 2 * root+2<hi∧c=2 * root+1):=by
    have:=HCD.out
    by_cases h2:2 * root+2<hi
    ·cases hl:ltInt (G (first+(2 * root+1))) (G (first+(2 * root+2)))
     ·exact .inr (.inl ⟨h2,rfl,by rw[this,if_neg (by rw[hl];simp)]⟩)
     ·exact .inl ⟨h2,rfl,by rw[this,if_pos ⟨h2,hl⟩]⟩
    ·exact .inr (.inr ⟨h2,by rw[this,if_neg (fun hh=>h2 hh.1)]⟩)
   clear HCD;rcases ways with⟨h2,hl,hc⟩|⟨h2,hl,hc⟩|⟨h2,hc⟩
   have HC:=Hh hc;clear hc;go_wp2_with fail
   have d1:decide (2 * (root:Int)+1+1<(hi:Int))=true:=by simp;omega
   have n1:((first:Int)+(2 * (root:Int)+1)).toNat=first+(2 * root+1):=by omega
   have n2:((first:Int)+(2 * (root:Int)+1)+1).toNat=first+(2 * root+2):=by omega
   have z1:0≤(first:Int)+(2 * (root:Int)+1):=by omega
   have z2:0≤(first:Int)+(2 * (root:Int)+1)+1:=by omega
   have b1:first+(2 * root+1)<d.size:=by omega
   have b2:first+(2 * root+2)<d.size:=by omega
   have w1:IntKind.i64.wrap (2 * (root:Int)+1+1)=2 * root+1+1:=IntWalk.i64_in _ (by omega);have w2:IntKind.i64.wrap ((first:Int)+(2 * (root:Int)+1))=first+(2 * root+1):=IntWalk.i64_in _ (by omega);have w3:IntKind.i64.wrap ((first:Int)+(2 * (root:Int)+1)+1)=first+(2 * root+1)+1:=IntWalk.i64_in _ (by omega)
   go_quiet ((first|(go_at_call 139;exact Calls.quiet_of_same (qQU _ _ _))))
   clear n1 n2 z1 z2 w1 w2 w3 d1 b1 b2;go_wp2_with fail
   have ec:2 * (root:Int)+1+1=(c:Int):=by have:=HC.out;omega
   simp only[ec];clear ec hl
   rotate_left 1
   have HC:=Hh hc;clear hc;go_wp2_with fail
   have d1:decide (2 * (root:Int)+1+1<(hi:Int))=true:=by simp;omega
   have n1:((first:Int)+(2 * (root:Int)+1)).toNat=first+(2 * root+1):=by omega
   have n2:((first:Int)+(2 * (root:Int)+1)+1).toNat=first+(2 * root+2):=by omega
   have z1:0≤(first:Int)+(2 * (root:Int)+1):=by omega
   have z2:0≤(first:Int)+(2 * (root:Int)+1)+1:=by omega
   have b1:first+(2 * root+1)<d.size:=by omega
   have b2:first+(2 * root+2)<d.size:=by omega
   have w1:IntKind.i64.wrap (2 * (root:Int)+1+1)=2 * root+1+1:=IntWalk.i64_in _ (by omega);have w2:IntKind.i64.wrap ((first:Int)+(2 * (root:Int)+1))=first+(2 * root+1):=IntWalk.i64_in _ (by omega);have w3:IntKind.i64.wrap ((first:Int)+(2 * (root:Int)+1)+1)=first+(2 * root+1)+1:=IntWalk.i64_in _ (by omega)
   go_quiet ((first|(go_at_call 139;exact Calls.quiet_of_same (qQU _ _ _))))
   clear n1 n2 z1 z2 w1 w2 w3 d1 b1 b2;go_wp2_with fail
   have ec:2 * (root:Int)+1=(c:Int):=by have:=HC.out;omega
   simp only[ec];clear ec hl
   rotate_left 1
   have HC:=Hh hc;clear hc;go_wp2_with fail
   have d1:decide (2 * (root:Int)+1+1<(hi:Int))=false:=by simp;omega
   have w1:IntKind.i64.wrap (2 * (root:Int)+1+1)=2 * root+1+1:=IntWalk.i64_in _ (by omega)
   go_quiet (fail)
   clear d1 w1;go_wp2_with fail
   have ec:2 * (root:Int)+1=(c:Int):=by have:=HC.out;omega
   simp only[ec];clear ec
   all_goals
    clear HC;have hcb1:=hcb.1;have hcb2:=hcb.2;clear hcb h2;have n1:((first:Int)+(root:Int)).toNat=first+root:=by omega
    have n2:((first:Int)+(c:Int)).toNat=first+c:=by omega
    have z1:0≤(first:Int)+(root:Int):=by omega
    have z2:0≤(first:Int)+(c:Int):=by omega
    have b1:first+root<d.size:=by omega
    have b2:first+c<d.size:=by omega
    have w1:IntKind.i64.wrap ((first:Int)+(root:Int))=first+root:=IntWalk.i64_in _ (by omega);have w2:IntKind.i64.wrap ((first:Int)+(c:Int))=first+c:=IntWalk.i64_in _ (by omega);generalize hW1:wr.drewN nq=W1;have hq:Ext wr W1:=by rw[←hW1];exact(Er wr).drewN _
    have hR1:=hR.ext hq;have hC1:=hC.ext_trans hq;have hcw1:∀t,t<d.size→W1.cell? ⟨blk,off+t,none⟩=some (.int .u64 (G t)):=fun t ht=>by rw[←hW1];exact hcw t ht
    have hfw1:∀t,t<d.size→W1.frozen? ⟨blk,off+t,none⟩=false:=fun t ht=>by rw[←hW1];exact hfw t ht
    clear hW1 hq hR hC hcw hfw
    go_quiet ((first|(go_at_call 139;exact Calls.quiet_of_same (qQU _ _ _))))
    go_wp2_with fail
   all_goals
    first
     | (have hl2:ltInt (G (first+root)) (G (first+c))=false:=by
         have h':(!ltInt (G (first+root)) (G (first+c)))=true:=by assumption
         simpa using h'
        clear w1 w2 n1 n2 z1 z2;refine bodyPost_ret (v:=.tuple #[]) (by simp[results,results149,go_sem]) rfl ⟨rfl,?_,hC1.drewN _⟩;rw[←HE.out,HGO.out,if_pos hl2];exact hR1.ext ((Er W1).drewN _))
     | (have hl2:ltInt (G (first+root)) (G (first+c))=true:=by
         have h':(!ltInt (G (first+root)) (G (first+c)))=false:=by assumption
         simpa using h'
        generalize hW2:W1.drewN nq=W2;have hq2:Ext W1 W2:=by rw[←hW2];exact(Er W1).drewN _
        have hR2:=hR1.ext hq2;have hC2:=hC1.ext_trans hq2;have hcw2:∀t,t<d.size→W2.cell? ⟨blk,off+t,none⟩=some (.int .u64 (G t)):=fun t ht=>by rw[←hW2];exact hcw1 t ht
        have hfw2:∀t,t<d.size→W2.frozen? ⟨blk,off+t,none⟩=false:=fun t ht=>by rw[←hW2];exact hfw1 t ht
        clear hW2 hq2 hR1 hC1 hcw1 hfw1
        go_region
        have hs2:=HS.out;have hZ:=(hR2.swap (i:=first+root) (j:=first+c) (by omega) (by omega)).drew;have hZc:=(RU.swapC hC2 rfl (off+(first+root)) (off+(first+c)) (.int .u64 dk[first+c]!) (.int .u64 dk[first+root]!)).drew;rw[←HG.out,←HG.out]at hZ hZc;have hzs:(swp dk (first+root) (first+c)).size=d.size:=by rw[size_swp];exact hs2
        have hze:siftDown ltInt hi first c (swp dk (first+root) (first+c))=siftDown ltInt hi first lo d:=by
         rw[←HE.out,HGO.out,if_neg (by rw[hl2];simp)]
        have HZS:=Hh hzs;have HZE:=Hh hze;clear hzs hze hs2 HGO HE HS HG n1 n2 z1 z2 w1 w2 hcw2 hfw2 hR2 hC2;generalize World.drew _=W9 at hZ hZc⊢;generalize swp dk (first+root) (first+c)=dz at *;go_wp2_with fail
        go_roundw
        case rel=>exact⟨c,dz,rfl,by omega,HZS.out,HZE.out,hZ,hZc⟩
        case measure=>simp[intOf];omega)
  ·go_wp2_with fail
   go_end0
   exact⟨rfl,by rw[←HE.out,sift_stop hch];exact hR,hC⟩
end
open Go.RowKit Go.Sort
theorem pop_succ(lt:Int→Int→Bool)(first k:Nat)(d:Array Int):heapPop lt first (k+1) d=heapPop lt first k (siftDown lt k first 0 (swp d first (first+k))):=rfl
theorem sift_size(lt:Int→Int→Bool)(hi first:Nat):∀(n root:Nat) (d:Array Int),hi - root≤n→(siftDown lt hi first root d).size=d.size:=by
 intro n
 induction n with
 | zero=>intro root d h;rw[sift_stop (by omega)]
 | succ n ih =>
  intro root d h
  by_cases hc:2 * root+1<hi
  ·rw[sift_go hc];split
   ·rfl
   ·have hb:=childOf_bd (lt:=lt) (first:=first) (d:=d) hc;rw[ih _ _ (by omega),size_swp]
  ·rw[sift_stop hc]
section
variable(blk off cap:Nat)(d:Array Int)(w:World)(h:RU w blk off cap d)(hsz:d.size<4611686018427387904)
include h hsz
theorem heapu_any(a b:Nat)(hb:b≤d.size)(hab:a<b):Calls prog 134 #[.slice (some ⟨blk,off,none⟩) d.size cap,.int .i64 a,.int .i64 b] w fun e w' =>
 e=.returned (.tuple #[])∧∃d',PermIn a b d d'∧SortedIn ltInt a b d'∧RU w' blk off cap d'∧Chg (· = blk) w w':=by
 have hfin:=heapSort_holds (lt:=ltInt) swo_ltInt d a b (by omega) hb;have hhs:heapSort ltInt d a b=heapPop ltInt a (b - a) (heapBuild ltInt (b - a) a ((b - a - 1) / 2+1) d):=rfl;rw[hhs]at hfin;have HF:=Hh hfin;clear hfin hhs;obtain⟨n,hn⟩:∃n,n=b - a:=⟨_,rfl⟩;rw[←hn]at HF;have hn1:a+n≤d.size:=by omega
 have hn2:1≤n:=by omega
 have en:(b:Int) - (a:Int)=(n:Int):=by omega
 clear hn
 go_enter func134,ntmps134
 go_wp2_with fail
 clear en;obtain⟨m,hm⟩:∃m,m=(n - 1) / 2+1:=⟨_,rfl⟩;have e1:((n:Int) - 1) / 2=(m:Int) - 1:=by omega
 rw[←hm]at HF;have hmn:m≤n:=by omega
 rw[e1];clear hm e1
 go_loopw [9] (fun iv wr=>∃(k:Nat) (dk:Array Int),iv=.int .i64 ((k:Int) - 1)∧k≤m∧dk.size=d.size∧heapBuild ltInt n a k dk=heapBuild ltInt n a m d∧RU wr blk off cap dk∧Chg (· = blk) w wr) (fun iv _=>(intOf iv+1).toNat)
 case atStart=>exact⟨m,d,rfl,Nat.le_refl _,rfl,rfl,h,Chg.refl _ _⟩
 case round =>
  obtain⟨k,dk,rfl,hkm,hs,hE,hR,hC⟩:=hrel;have HE:=Hh hE;clear hE h;rcases Nat.eq_zero_or_pos k with h0|h0
  ·subst h0;have he:dk=heapBuild ltInt n a m d:=HE.out;rw[←he]at HF;clear HE he;rw[show((0:Nat):Int) - 1 = -1 from rfl];go_wp2_with fail
   obtain⟨wo,rfl⟩:∃wo:World,wo=wr:=⟨_,rfl⟩
   go_loopw [10] (fun iv wx=>∃(k:Nat) (dj:Array Int),iv=.int .i64 ((k:Int) - 1)∧k≤n∧dj.size=d.size∧heapPop ltInt a k dj=heapPop ltInt a n dk∧RU wx blk off cap dj∧Chg (· = blk) w wx) (fun iv _=>(intOf iv+1).toNat)
   case atStart=>exact⟨n,dk,rfl,Nat.le_refl _,hs,rfl,hR,hC⟩
   case round =>
    clear hR hC;obtain⟨k,dj,rfl,hkn,hsj,hEj,hRj,hCj⟩:=hrel;have HEJ:=Hh hEj;clear hEj;rcases Nat.eq_zero_or_pos k with h1|h1
    ·subst h1;have he:dj=heapPop ltInt a n dk:=HEJ.out;go_wp2_with fail
     go_end0
     refine⟨rfl,dj,?_,?_,hRj,hCj⟩
     ·rw[he];exact HF.out.1
     ·rw[he];exact HF.out.2
    ·obtain⟨j,rfl⟩:∃j,k=j+1:=⟨k - 1,by omega⟩;have e2:((j+1:Nat):Int) - 1=(j:Int):=by omega
     rw[e2];clear e2;obtain⟨G,hG⟩:=qZs dj;have hcw:∀t,t<d.size→wr.cell? ⟨blk,off+t,none⟩=some (.int .u64 (G t)):=fun t ht=>by rw[hG];exact hRj.cell (by omega)
     have hfw:∀t,t<d.size→wr.frozen? ⟨blk,off+t,none⟩=false:=fun t _=>hRj.frozen t
     have HG:=Hh hG;have HS:=Hh hsj;clear hG hsj hs;have n2:((a:Int)+(j:Int)).toNat=a+j:=by omega
     have z2:0≤(a:Int)+(j:Int):=by omega
     have b1:a<d.size:=by omega
     have b2:a+j<d.size:=by omega
     go_wp2_with fail
     have w2:IntKind.i64.wrap ((a:Int)+(j:Int))=a+j:=IntWalk.i64_in _ (by omega);obtain⟨vv,hvv⟩:=hRj.cellSet a (j:=a+j) (by have:=HS.out;omega) (.int .u64 (G (a+j)))
     go_region
     clear hvv;have hs2:=HS.out;have hZ:=(hRj.swap (i:=a) (j:=a+j) (by omega) (by omega)).drew;have hZc:=(RU.swapC hCj rfl (off+a) (off+(a+j)) (.int .u64 dj[a+j]!) (.int .u64 dj[a]!)).drew;rw[←HG.out,←HG.out]at hZ hZc;have hzs:(swp dj a (a+j)).size=d.size:=by rw[size_swp];exact hs2
     have hze:heapPop ltInt a j (siftDown ltInt j a 0 (swp dj a (a+j)))=heapPop ltInt a n dk:=by rw[←HEJ.out,pop_succ]
     have HZE:=Hh hze;clear w2 n2 z2 hze hs2 HEJ HG HS hcw hfw hRj hCj;generalize World.drew _=W9 at hZ hZc⊢;generalize swp dj a (a+j)=dz at *;have HC:=Hh (siftu_any blk off cap dz W9 hZ (by omega) 0 j a (by omega) (by omega));rw[hzs]at HC;have HZS:=Hh hzs;clear hzs;go_wp2_with fail
     refine HC.out.mono ?_;rintro e w2 ⟨rfl,hR2,hC2⟩;go_wp2_with fail
     go_roundw
     case rel=>exact⟨j,_,rfl,by omega,by rw[sift_size _ _ _ _ _ _ (Nat.le_refl _)];exact HZS.out,HZE.out,hR2,hZc.trans hC2 (fun _ _ e=>e)⟩
     case measure=>simp[intOf] <;> omega
  ·obtain⟨j,rfl⟩:∃j,k=j+1:=⟨k - 1,by omega⟩;have e2:((j+1:Nat):Int) - 1=(j:Int):=by omega
   rw[e2];clear e2;have HC:=Hh (siftu_any blk off cap dk wr hR (by omega) j n a (by omega) (by omega));rw[hs]at HC;have HS:=Hh hs;clear hs;go_wp2_with fail
   refine HC.out.mono ?_;rintro e w2 ⟨rfl,hR2,hC2⟩;go_wp2_with fail
   go_roundw
   case rel=>exact⟨j,_,rfl,by omega,by rw[sift_size _ _ _ _ _ _ (Nat.le_refl _)];exact HS.out,HE.out,hR2,hC.trans hC2 (fun _ _ e=>e)⟩
   case measure=>simp[intOf] <;> omega
end
open Go.RowKit Go.Sort
def CntAt(w:World)(g:Nat)(s:Nat):Prop:=At w g 3 #[.int .i64 (s:Int)]
section
variable(blk off cap:Nat)(d:Array Int)(w:World)(h:RU w blk off cap d)(hsz:d.size<4611686018427387904)
include h hsz
omit hsz in
theorem ord_any(a b s g:Nat)(ha:a<d.size)(hb:b<d.size)(hg:CntAt w g s)(hs:s<100):Calls prog 155 #[.slice (some ⟨blk,off,none⟩) d.size cap,.int .i64 a,.int .i64 b,.pointer (some ⟨g,0,none⟩)] w fun e w' =>
 ∃x y s':Nat,e=.returned (.tuple #[.int .i64 x,.int .i64 y])∧(x=a∧y=b∨x=b∧y=a)∧s'≤s+1∧RU w' blk off cap d∧CntAt w' g s'∧Chg (· = g) w w':=by
 obtain⟨G,hG⟩:=qZs d;have hcw:∀t,t<d.size→w.cell? ⟨blk,off+t,none⟩=some (.int .u64 (G t)):=fun t ht=>by rw[hG];exact h.cell (by omega)
 have hne:g≠blk:=by
  obtain⟨cur,hcur⟩:=h.block;exact At.ne (t:=3) hg hcur (by decide)
 have c0:=At.cell hg 0;have f0:=At.frozen hg 0;simp at c0;clear hG
 go_enter func155,ntmps155
 go_wp2_with fail
 go_quiet ((first|(go_at_call 139;exact Calls.quiet_of_same (qQU _ _ _))))
 go_wp2_with fail
 ·have hset:CntAt ((w.drewN nq).setCell ⟨g,0,none⟩ (.int .i64 ((s+1:Nat):Int))) g (s+1):=At.set (At.drewN hg nq) 0 _;have hC:Chg (· = g) w ((w.drewN nq).setCell ⟨g,0,none⟩ (.int .i64 ((s+1:Nat):Int))):=(Chg.drewN (Chg.refl (· = g) w) nq).setCell (p:=⟨g,0,none⟩) (.inl rfl) _;have hR:=h.chg hC (fun e=>hne e.symm);rw[show((s+1:Nat):Int)=(s:Int)+1 by omega]at hset hC hR;go_ret2
  exact⟨b,a,s+1,rfl,.inr ⟨rfl,rfl⟩,Nat.le_refl _,hR,hset,hC⟩
 ·go_ret2
  exact⟨a,b,s,rfl,.inl ⟨rfl,rfl⟩,by omega,h.ext ((Er w).drewN _),At.drewN hg _,(Chg.refl _ w).drewN _⟩
omit hsz in
theorem med_any(a b c s g:Nat)(ha:a<d.size)(hb:b<d.size)(hc:c<d.size)(hg:CntAt w g s)(hs:s<50):Calls prog 151 #[.slice (some ⟨blk,off,none⟩) d.size cap,.int .i64 a,.int .i64 b,.int .i64 c,.pointer (some ⟨g,0,none⟩)] w fun e w' =>
 ∃x s':Nat,e=.returned (.int .i64 x)∧(x=a∨x=b∨x=c)∧s'≤s+3∧CntAt w' g s'∧Chg (· = g) w w':=by
 have H1:=Hh (ord_any blk off cap d w h a b s g ha hb hg (by omega))
 go_enter func151,ntmps151
 go_wp2_with fail
 refine H1.out.mono ?_;rintro e w1 ⟨x1,y1,s1,rfl,hxy,hs1,hR1,hg1,hC1⟩;have H2:=Hh (ord_any blk off cap d w1 hR1 y1 c s1 g (by omega) hc hg1 (by omega));have HX:=Hh hxy;clear hxy hR1 H1;go_wp2_with fail
 refine H2.out.mono ?_;rintro e w2 ⟨x2,y2,s2,rfl,hxy2,hs2,hR2,hg2,hC2⟩;have HX2:=Hh hxy2;clear hxy2;have H3:=Hh (ord_any blk off cap d w2 hR2 x1 x2 s2 g (by have:=HX.out;omega) (by have:=HX.out;have:=HX2.out;omega) hg2 (by omega));clear hR2 H2;go_wp2_with fail
 refine H3.out.mono ?_;rintro e w3 ⟨x3,y3,s3,rfl,hxy3,hs3,hR3,hg3,hC3⟩;have HX3:=Hh hxy3;clear hxy3 hR3 H3;go_wp2_with fail
 go_ret
 refine⟨y3,s3,rfl,?_,by omega,hg3,(hC1.trans hC2 (fun _ _ e=>e)).trans hC3 (fun _ _ e=>e)⟩
 have:=HX.out
 have:=HX2.out
 have:=HX3.out
 omega
theorem piv_any(a b:Nat)(hab:a+12<b)(hb:b≤d.size)(h50:b<a+50):Calls prog 136 #[.slice (some ⟨blk,off,none⟩) d.size cap,.int .i64 a,.int .i64 b] w fun e w' =>
 ∃p q:Nat,e=.returned (.tuple #[.int .i64 p,.int .i64 q])∧a≤p∧p<b∧q≤2∧RU w' blk off cap d∧Ext w w':=by
 obtain⟨l,hl⟩:∃l,l=b - a:=⟨_,rfl⟩;have en:(b:Int) - (a:Int)=(l:Int):=by omega
 have q1:(l:Int).tdiv 4=((l / 4:Nat):Int):=by rw[Int.tdiv_eq_ediv_of_nonneg (by omega)];omega
 have hl1:8≤l:=by omega
 have hl2:l<50:=by omega
 have bi:a+l / 4<b:=by omega
 have bj:a+l / 4 * 2<b:=by omega
 have bk:a+l / 4 * 3<b:=by omega
 have ei:(a:Int)+(l:Int) / 4=((a+l / 4:Nat):Int):=by omega
 have ej:(a:Int)+(l:Int) / 4 * 2=((a+l / 4 * 2:Nat):Int):=by omega
 have ek:(a:Int)+(l:Int) / 4 * 3=((a+l / 4 * 3:Nat):Int):=by omega
 have HE:=Hh (show _∧_∧_ from⟨ei,ej,ek⟩);have HB:=Hh (show _∧_∧_ from⟨bi,bj,bk⟩);have hab2:a<b:=by omega
 clear hl bi bj bk ei ej ek q1
 go_enter func136,ntmps136
 go_wp2_with fail
 obtain⟨ei,ej,ek⟩:=HE.out;obtain⟨bi,bj,bk⟩:=HB.out;rw[ei,ej,ek];clear ei ej ek HE;have hW:CntAt (w.alloc (.cells #[.int .i64 ((0:Nat):Int)] 3)) w.heap.size 0:=At.new w _ _;have hR:=h.ext ((Er w).alloc (.cells #[.int .i64 0] 3));have H1:=Hh (med_any blk off cap d (w.alloc (.cells #[.int .i64 0] 3)) hR (a+l / 4) (a+l / 4 * 2) (a+l / 4 * 3) 0 w.heap.size (by omega) (by omega) (by omega) hW (by omega));generalize hgs:w.heap.size=g at *;refine H1.out.mono ?_;rintro e w1 ⟨x,s',rfl,hx,hs',hg,hC⟩;have hE:Ext w w1:=Chg.mono (((Er w).alloc (.cells #[.int .i64 0] 3)).chg_trans hC) (fun k hk e=>by have e':k=g:=e;omega);have hxl:a≤x∧x<b:=by omega
 have HX:=Hh hxl;clear hx hxl HB bi bj bk;have c0:=At.cell hg 0;simp at c0;go_wp2_with fail
 ·go_ret2
  exact⟨x,1,rfl,HX.out.1,HX.out.2,by omega,(h.ext hE),hE⟩
 ·go_ret2
  exact⟨x,0,rfl,HX.out.1,HX.out.2,by omega,(h.ext hE),hE⟩
end
open Go.RowKit Go.Sort
section
variable(blk off cap:Nat)(d:Array Int)(w:World)(h:RU w blk off cap d)(hsz:d.size<4611686018427387904)
include h hsz
theorem parti_any(a b:Nat)(hab:a<b)(hb:b≤d.size)(h50:b<a+50):Calls prog 138 #[.slice (some ⟨blk,off,none⟩) d.size cap,.int .i64 a,.int .i64 b] w fun e w' =>
 ∃v:Bool,e=.returned (.bool v)∧(v=true→SortedIn ltInt a b d)∧Ext w w':=by
 go_enter func138,ntmps138
 go_wp2_with fail
 refine wp_loop_rounds 1 ?_;rw[rounds_succ];go_wp2_with fail
 obtain⟨G,hG⟩:=qZs d;have HG:=Hh hG;clear hG
 go_loopw [7] (fun iv wr=>∃i:Nat,iv=.int .i64 i∧a+1≤i∧i≤b∧SortedIn ltInt a i d∧RU wr blk off cap d∧Ext w wr) (fun iv _=>b - (intOf iv).toNat)
 case atStart=>exact⟨a+1,by go_num,Nat.le_refl _,by omega,fun i j h1 h2 h3=>by omega,h,Er _⟩
 case round =>
  obtain⟨i,rfl,hai,hib,hS,hR,hE⟩:=hrel;have HS:=Hh hS;clear hS;have hcw:∀t,t<d.size→wr.cell? ⟨blk,off+t,none⟩=some (.int .u64 (G t)):=fun t ht=>by rw[HG.out];exact hR.cell (by omega)
  have hab50:(b:Int) - (a:Int)<50:=by omega
  by_cases hlt:i<b
  ·have hne:((i:Int) == (b:Int))=false:=by rw[beq_eq_false_iff_ne];omega
   go_wp2_with fail
   go_quiet ((first|(go_at_call 139;exact Calls.quiet_of_same (qQU _ _ _))))
   go_wp2_with fail
   ·have hl:ltInt (G i) (G (i - 1))=false:=by
     have h':(!ltInt (G i) (G (i - 1)))=true:=by assumption
     simpa using h'
    go_roundw
    case rel=>exact⟨i+1,by go_num,by omega,by omega,HS.out.snoc swo_ltInt (by rw[←HG.out,←HG.out];exact hl),hR.ext ((Er wr).drewN _),hE.drewN _⟩
    case measure=>simp[intOf];omega
   ·go_ret
    exact⟨false,rfl,fun h=>(by cases h),hE.drewN _⟩
  ·obtain rfl:i=b:=by omega
   go_wp2_with fail
   go_quiet (fail)
   go_wp2_with fail
   go_ret
   exact⟨true,rfl,fun _=>HS.out,hE.drewN _⟩
end
open Go.RowKit Go.Sort
structure PI (p:Int→Int→Bool) (a b i j:Nat) (d:Array Int):Prop where
 ai:a<i
 ij:i≤j+1
 jb:j<b
 lo:∀t,a<t→t<i→p d[t]! d[a]! = true
 hi:∀t,j<t→t<b→p d[t]! d[a]! = false
def pL(x v:Int):Bool:=ltInt x v
def pE(x v:Int):Bool := !ltInt v x
section
variable{p:Int→Int→Bool}{a b i j:Nat}{d:Array Int}
theorem PI.up(h:PI p a b i j d)(hij:i≤j)(hp:p d[i]! d[a]! = true):PI p a b (i+1) j d :=
 ⟨by have:=h.ai;omega,by omega,h.jb,fun t h1 h2=>by
  by_cases e:t=i
  ·rw[e];exact hp
  ·exact h.lo t h1 (by omega),h.hi⟩
theorem PI.down(h:PI p a b i j d)(hij:i≤j)(hp:p d[j]! d[a]! = false):PI p a b i (j - 1) d :=
 ⟨h.ai,by have:=h.ai;omega,by have:=h.jb;omega,h.lo,fun t h1 h2=>by
  by_cases e:t=j
  ·rw[e];exact hp
  ·exact h.hi t (by omega) h2⟩
theorem PI.lt(hij:i≤j)(h1:p d[i]! d[a]! = false)(h2:p d[j]! d[a]! = true):i<j:=by
 rcases Nat.lt_or_eq_of_le hij with h|h
 ·exact h
 ·subst h;rw[h1]at h2;cases h2
theorem PI.swap(h:PI p a b i j d)(hij:i<j)(hb:b≤d.size)(h1:p d[i]! d[a]! = false)(h2:p d[j]! d[a]! = true):PI p a b (i+1) (j - 1) (swp d i j):=by
 have e1:=h.ai;have e2:=h.jb;have ea:(swp d i j)[a]! = d[a]! := swp_other d i j a (by omega) (by omega);refine⟨by omega,by omega,by omega,fun t g1 g2=>?_,fun t g1 g2=>?_⟩
 ·rw[ea]
  by_cases e:t=i
  ·rw[e,swp_left d i j (by omega) (by omega)];exact h2
  ·rw[swp_other d i j t e (by omega)];exact h.lo t g1 (by omega)
 ·rw[ea]
  by_cases e:t=j
  ·rw[e,swp_right d i j (by omega)];exact h1
  ·rw[swp_other d i j t (by omega) e];exact h.hi t (by omega) g2
theorem PI.fin(h:PI p a b i j d)(hij:¬ i≤j)(hb:b≤d.size):a≤j∧j<b∧(∀t,a≤t→t<j→p (swp d j a)[t]! (swp d j a)[j]! = true)∧(∀t,j<t→t<b→p (swp d j a)[t]! (swp d j a)[j]! = false):=by
 have e1:=h.ai;have e2:=h.jb;have e3:=h.ij
 have hj:(swp d j a)[j]! = d[a]! := by
  by_cases e:j=a
  ·subst e;rw[swp_right d j j (by omega)]
  ·rw[swp_left d j a (by omega) e]
 rw[hj];refine⟨by omega,e2,fun t g1 g2=>?_,fun t g1 g2=>?_⟩
 ·by_cases e:t=a
  ·rw[e,swp_right d j a (by omega)];exact h.lo j (by omega) (by omega)
  ·rw[swp_other d j a t (by omega) e];exact h.lo t (by omega) (by omega)
 ·rw[swp_other d j a t (by omega) (by omega)];exact h.hi t g1 g2
end
section
variable(blk off cap:Nat)(d:Array Int)(w:World)(h:RU w blk off cap d)(hsz:d.size<4611686018427387904)
include h hsz
theorem part_any(a b q:Nat)(haq:a≤q)(hqb:q<b)(hab:a+1<b)(hb:b≤d.size):Calls prog 141 #[.slice (some ⟨blk,off,none⟩) d.size cap,.int .i64 a,.int .i64 b,.int .i64 q] w fun e w' =>
 ∃(m:Nat) (v:Bool) (d':Array Int),e=.returned (.tuple #[.int .i64 m,.bool v])∧a≤m∧m<b∧PermIn a b d d'∧(∀t,a≤t→t<m→pL d'[t]! d'[m]! = true)∧(∀t,m<t→t<b→pL d'[t]! d'[m]! = false)∧RU w' blk off cap d'∧Chg (· = blk) w w':=by
 go_enter func141,ntmps141
 go_wp2_with fail
 obtain⟨dk,hdk⟩:∃dk,dk=d:=⟨_,rfl⟩;have HP:Hid (PermIn a b d dk):=Hh (by rw[hdk];exact permIn_refl _ _ _);have HS:Hid (dk.size=d.size):=Hh (by rw[hdk]);have hR:RU w blk off cap dk:=by rw[hdk];exact h
 have hC:Chg (· = blk) w w:=Chg.refl _ _;clear hdk h;obtain⟨G,hG⟩:=qZs dk;have hcw:∀t,t<d.size→w.cell? ⟨blk,off+t,none⟩=some (.int .u64 (G t)):=fun t ht=>by rw[hG];exact hR.cell (by have:=HS.out;omega)
 have hfw:∀t,t<d.size→w.frozen? ⟨blk,off+t,none⟩=false:=fun t _=>hR.frozen t
 have HG:=Hh hG;clear hG;obtain⟨vv,hvv⟩:=hR.cellSet (a) (j:=q) (by have:=HS.out;omega) (.int .u64 (G (q)))
 go_region
 clear hvv;have hZ:=(hR.swap (i:=a) (j:=q) (by have:=HS.out;omega) (by have:=HS.out;omega)).drew;have hZc:=(RU.swapC hC rfl (off+(a)) (off+(q)) (.int .u64 dk[q]!) (.int .u64 dk[a]!)).drew;rw[←HG.out,←HG.out]at hZ hZc;generalize World.drew _=W9 at hZ hZc⊢;clear hcw hfw HG hR hC;have HP2:=Hh (permIn_trans _ _ _ _ _ HP.out (swp_permIn dk a b (a) (q) (by omega) (by omega) (by omega) (by omega) (by have:=HS.out;omega)));have HS2:Hid ((swp dk (a) (q)).size=d.size):=Hh (by rw[size_swp];exact HS.out);clear HP HS;generalize swp dk (a) (q)=dz at *;have hPI:PI pL a b (a+1) (b - 1) dz:=⟨by omega,by omega,by omega,fun t h1 h2=>by omega,fun t h1 h2=>by omega⟩;obtain⟨i,hi⟩:∃i,i=a+1:=⟨_,rfl⟩;obtain⟨j,hj⟩:∃j,j=b - 1:=⟨_,rfl⟩;rw[←hi,←hj]at hPI;have ei:(a:Int)+1=(i:Int):=by omega
 have ej:(b:Int) - 1=(j:Int):=by omega
 clear hi hj;obtain⟨dk,hdk⟩:∃dk,dk=dz:=⟨_,rfl⟩;subst hdk;have HP:=HP2;have HS:=HS2;have hR:=hZ;have hC:=hZc;clear HP2 HS2 hZ hZc
 go_upto_block 0 with fail
 go_cut [10]from 30 to 46 (fun v wx=>∃x:Nat,v=.int .i64 x∧PI pL a b x j dk∧(x≤j→pL dk[x]! dk[a]! = false)∧RU wx blk off cap dk∧Chg (· = blk) w wx)
 case first =>
  go_wp2_with fail
  go_loopw [10] (fun v wr=>∃x:Nat,v=.int .i64 x∧PI pL a b x j dk∧RU wr blk off cap dk∧Chg (· = blk) w wr) (fun v _=>j+1 - (intOf v).toNat)
  case atStart=>exact⟨i,rfl,hPI,hR,hC⟩
  case round =>
   clear hPI hR hC;obtain⟨i,rfl,hPI,hR,hC⟩:=hrel;obtain⟨G,hG⟩:=qZs dk;have hcw:∀t,t<d.size→wr.cell? ⟨blk,off+t,none⟩=some (.int .u64 (G t)):=fun t ht=>by rw[hG];exact hR.cell (by have:=HS.out;omega)
   have hfw:∀t,t<d.size→wr.frozen? ⟨blk,off+t,none⟩=false:=fun t _=>hR.frozen t
   have HG:=Hh hG;clear hG;have HPI:=Hh hPI;have a1:=hPI.ai;have a2:=hPI.ij;have a3:=hPI.jb;clear hPI;have ad:a<d.size:=by omega
   by_cases hij:i≤j
   ·have vd:i<d.size:=by omega
    cases hl:ltInt (G i) (G a)
    ·go_wp2_with fail
     go_quiet ((first|(go_at_call 139;exact Calls.quiet_of_same (qQU _ _ _))))
     go_wp2_with fail
     go_meet
     case rel=>exact⟨i,rfl,HPI.out,fun _=>(show ltInt dk[i]! dk[a]! = _ from by rw[←HG.out,←HG.out];exact hl),hR.ext ((Er wr).drewN _),hC.drewN _⟩
    ·go_wp2_with fail
     go_quiet ((first|(go_at_call 139;exact Calls.quiet_of_same (qQU _ _ _))))
     go_wp2_with fail
     go_roundw
     case rel=>exact⟨i+1,by go_num,HPI.out.up hij (show ltInt dk[i]! dk[a]! = _ from by rw[←HG.out,←HG.out];exact hl),hR.ext ((Er wr).drewN _),hC.drewN _⟩
     case measure=>simp[intOf] <;> omega
   ·go_wp2_with fail
    go_quiet (fail)
    go_wp2_with fail
    go_meet
    case rel=>exact⟨i,rfl,HPI.out,fun h=>absurd h hij,hR.ext ((Er wr).drewN _),hC.drewN _⟩
 case rest =>
  clear hPI hR hC;obtain⟨i,rfl,hPI,hST1,hR,hC⟩:=hcut;obtain⟨jo,hjo⟩:∃jo,jo=j:=⟨_,rfl⟩;have hjl:j≤jo:=by omega
  have hjm:jo≤j:=by omega
  rw[←hjo]at hST1;clear hjo
  go_upto_block 2 with fail
  go_cut [11]from 46 to 63 (fun v wx=>∃x:Nat,v=.int .i64 x∧x≤jo∧PI pL a b i x dk∧(i≤x→pL dk[x]! dk[a]! = true)∧RU wx blk off cap dk∧Chg (· = blk) w wx)
  case first =>
   go_wp2_with fail
   go_loopw [11] (fun v wr=>∃x:Nat,v=.int .i64 x∧x≤jo∧PI pL a b i x dk∧RU wr blk off cap dk∧Chg (· = blk) w wr) (fun v _=>(intOf v).toNat)
   case atStart=>exact⟨j,rfl,by omega,hPI,hR,hC⟩
   case round =>
    clear hPI hR hC;obtain⟨j,rfl,hjl,hPI,hR,hC⟩:=hrel;obtain⟨G,hG⟩:=qZs dk;have hcw:∀t,t<d.size→wr.cell? ⟨blk,off+t,none⟩=some (.int .u64 (G t)):=fun t ht=>by rw[hG];exact hR.cell (by have:=HS.out;omega)
    have hfw:∀t,t<d.size→wr.frozen? ⟨blk,off+t,none⟩=false:=fun t _=>hR.frozen t
    have HG:=Hh hG;clear hG;have HPI:=Hh hPI;have a1:=hPI.ai;have a2:=hPI.ij;have a3:=hPI.jb;clear hPI;have ad:a<d.size:=by omega
    by_cases hij:i≤j
    ·have vd:j<d.size:=by omega
     cases hl:ltInt (G j) (G a)
     ·go_wp2_with fail
      go_quiet ((first|(go_at_call 139;exact Calls.quiet_of_same (qQU _ _ _))))
      go_wp2_with fail
      go_roundw
      case rel=>exact⟨j - 1,by congr 1;omega,by omega,HPI.out.down hij (show ltInt dk[j]! dk[a]! = _ from by rw[←HG.out,←HG.out];exact hl),hR.ext ((Er wr).drewN _),hC.drewN _⟩
      case measure=>simp[intOf] <;> omega
     ·go_wp2_with fail
      go_quiet ((first|(go_at_call 139;exact Calls.quiet_of_same (qQU _ _ _))))
      go_wp2_with fail
      go_meet
      case rel=>exact⟨j,rfl,by omega,HPI.out,fun _=>(show ltInt dk[j]! dk[a]! = _ from by rw[←HG.out,←HG.out];exact hl),hR.ext ((Er wr).drewN _),hC.drewN _⟩
    ·go_wp2_with fail
     go_quiet (fail)
     go_wp2_with fail
     go_meet
     case rel=>exact⟨j,rfl,by omega,HPI.out,fun h=>absurd h hij,hR.ext ((Er wr).drewN _),hC.drewN _⟩
  case rest =>
   clear hPI hR hC;obtain⟨j,rfl,hjl,hPI,hST2,hR,hC⟩:=hcut
   by_cases hij:i≤j
   ·skip
    have p1:=hST1 (by omega);have p2:=hST2 hij;have hlt:=PI.lt hij p1 p2;have hPI2:=hPI.swap hlt (by have:=HS.out;omega) p1 p2;have HPI:=Hh hPI2;have a1:=hPI.ai;have a2:=hPI.jb;clear hPI hPI2 p1 p2 hST1 hST2;have ej:(j:Int) - 1=((j - 1:Nat):Int):=by omega
    have ei:(i:Int)+1=((i+1:Nat):Int):=by omega
    have HEJ:=Hh (show _∧_ from⟨ei,ej⟩);clear ei ej;go_wp2_with fail
    obtain⟨G,hG⟩:=qZs dk;have hcw:∀t,t<d.size→wc.cell? ⟨blk,off+t,none⟩=some (.int .u64 (G t)):=fun t ht=>by rw[hG];exact hR.cell (by have:=HS.out;omega)
    have hfw:∀t,t<d.size→wc.frozen? ⟨blk,off+t,none⟩=false:=fun t _=>hR.frozen t
    have HG:=Hh hG;clear hG;obtain⟨vv,hvv⟩:=hR.cellSet (i) (j:=j) (by have:=HS.out;omega) (.int .u64 (G (j)))
    go_region
    clear hvv;have hZ:=(hR.swap (i:=i) (j:=j) (by have:=HS.out;omega) (by have:=HS.out;omega)).drew;have hZc:=(RU.swapC hC rfl (off+(i)) (off+(j)) (.int .u64 dk[j]!) (.int .u64 dk[i]!)).drew;rw[←HG.out,←HG.out]at hZ hZc;generalize World.drew _=W9 at hZ hZc⊢;clear hcw hfw HG hR hC;have HP2:=Hh (permIn_trans _ _ _ _ _ HP.out (swp_permIn dk a b (i) (j) (by omega) (by omega) (by omega) (by omega) (by have:=HS.out;omega)));have HS2:Hid ((swp dk (i) (j)).size=d.size):=Hh (by rw[size_swp];exact HS.out);clear HP HS;generalize swp dk (i) (j)=dz at *;have HPI2:=HPI;clear HPI;go_wp2_with fail
    obtain⟨ei,ej⟩:=HEJ.out;rw[ei,ej];clear ei ej HEJ
    go_loopw [10,11] (fun iv jv wr=>∃(i j:Nat) (dk:Array Int),iv=.int .i64 i∧jv=.int .i64 j∧PI pL a b i j dk∧PermIn a b d dk∧dk.size=d.size∧RU wr blk off cap dk∧Chg (· = blk) w wr) (fun _ jv _=>(intOf jv).toNat)
    case atStart=>exact⟨i+1,j - 1,dz,rfl,rfl,HPI2.out,HP2.out,HS2.out,hZ,hZc⟩
    case round =>
     clear hZ hZc HP2 HS2 HPI2;obtain⟨i,j,dk,rfl,rfl,hPI,hP,hS,hR,hC⟩:=hrel;have HP:=Hh hP;have HS:=Hh hS;have ai:=hPI.ai;clear hP hS
     go_upto_block 6 with fail
     go_cut [10]from 99 to 115 (fun v wx=>∃x:Nat,v=.int .i64 x∧PI pL a b x j dk∧(x≤j→pL dk[x]! dk[a]! = false)∧RU wx blk off cap dk∧Chg (· = blk) w wx)
     case first =>
      go_wp2_with fail
      go_loopw [10] (fun v wr=>∃x:Nat,v=.int .i64 x∧PI pL a b x j dk∧RU wr blk off cap dk∧Chg (· = blk) w wr) (fun v _=>j+1 - (intOf v).toNat)
      case atStart=>exact⟨i,rfl,hPI,hR,hC⟩
      case round =>
       clear hPI hR hC;obtain⟨i,rfl,hPI,hR,hC⟩:=hrel;obtain⟨G,hG⟩:=qZs dk;have hcw:∀t,t<d.size→wr.cell? ⟨blk,off+t,none⟩=some (.int .u64 (G t)):=fun t ht=>by rw[hG];exact hR.cell (by have:=HS.out;omega)
       have hfw:∀t,t<d.size→wr.frozen? ⟨blk,off+t,none⟩=false:=fun t _=>hR.frozen t
       have HG:=Hh hG;clear hG;have HPI:=Hh hPI;have a1:=hPI.ai;have a2:=hPI.ij;have a3:=hPI.jb;clear hPI;have ad:a<d.size:=by omega
       by_cases hij:i≤j
       ·have vd:i<d.size:=by omega
        cases hl:ltInt (G i) (G a)
        ·go_wp2_with fail
         go_quiet ((first|(go_at_call 139;exact Calls.quiet_of_same (qQU _ _ _))))
         go_wp2_with fail
         go_meet
         case rel=>exact⟨i,rfl,HPI.out,fun _=>(show ltInt dk[i]! dk[a]! = _ from by rw[←HG.out,←HG.out];exact hl),hR.ext ((Er wr).drewN _),hC.drewN _⟩
        ·go_wp2_with fail
         go_quiet ((first|(go_at_call 139;exact Calls.quiet_of_same (qQU _ _ _))))
         go_wp2_with fail
         go_roundw
         case rel=>exact⟨i+1,by go_num,HPI.out.up hij (show ltInt dk[i]! dk[a]! = _ from by rw[←HG.out,←HG.out];exact hl),hR.ext ((Er wr).drewN _),hC.drewN _⟩
         case measure=>simp[intOf] <;> omega
       ·go_wp2_with fail
        go_quiet (fail)
        go_wp2_with fail
        go_meet
        case rel=>exact⟨i,rfl,HPI.out,fun h=>absurd h hij,hR.ext ((Er wr).drewN _),hC.drewN _⟩
     case rest =>
      clear hPI hR hC;obtain⟨i,rfl,hPI,hST1,hR,hC⟩:=hcut;obtain⟨jo,hjo⟩:∃jo,jo=j:=⟨_,rfl⟩;have hjl:j≤jo:=by omega
      have hjm:jo≤j:=by omega
      rw[←hjo]at hST1;clear hjo
      go_upto_block 8 with fail
      go_cut [11]from 115 to 132 (fun v wx=>∃x:Nat,v=.int .i64 x∧x≤jo∧PI pL a b i x dk∧(i≤x→pL dk[x]! dk[a]! = true)∧RU wx blk off cap dk∧Chg (· = blk) w wx)
      case first =>
       go_wp2_with fail
       go_loopw [11] (fun v wr=>∃x:Nat,v=.int .i64 x∧x≤jo∧PI pL a b i x dk∧RU wr blk off cap dk∧Chg (· = blk) w wr) (fun v _=>(intOf v).toNat)
       case atStart=>exact⟨j,rfl,by omega,hPI,hR,hC⟩
       case round =>
        clear hPI hR hC;obtain⟨j,rfl,hjl,hPI,hR,hC⟩:=hrel;obtain⟨G,hG⟩:=qZs dk;have hcw:∀t,t<d.size→wr.cell? ⟨blk,off+t,none⟩=some (.int .u64 (G t)):=fun t ht=>by rw[hG];exact hR.cell (by have:=HS.out;omega)
        have hfw:∀t,t<d.size→wr.frozen? ⟨blk,off+t,none⟩=false:=fun t _=>hR.frozen t
        have HG:=Hh hG;clear hG;have HPI:=Hh hPI;have a1:=hPI.ai;have a2:=hPI.ij;have a3:=hPI.jb;clear hPI;have ad:a<d.size:=by omega
        by_cases hij:i≤j
        ·have vd:j<d.size:=by omega
         cases hl:ltInt (G j) (G a)
         ·go_wp2_with fail
          go_quiet ((first|(go_at_call 139;exact Calls.quiet_of_same (qQU _ _ _))))
          go_wp2_with fail
          go_roundw
          case rel=>exact⟨j - 1,by congr 1;omega,by omega,HPI.out.down hij (show ltInt dk[j]! dk[a]! = _ from by rw[←HG.out,←HG.out];exact hl),hR.ext ((Er wr).drewN _),hC.drewN _⟩
          case measure=>simp[intOf] <;> omega
         ·go_wp2_with fail
          go_quiet ((first|(go_at_call 139;exact Calls.quiet_of_same (qQU _ _ _))))
          go_wp2_with fail
          go_meet
          case rel=>exact⟨j,rfl,by omega,HPI.out,fun _=>(show ltInt dk[j]! dk[a]! = _ from by rw[←HG.out,←HG.out];exact hl),hR.ext ((Er wr).drewN _),hC.drewN _⟩
        ·go_wp2_with fail
         go_quiet (fail)
         go_wp2_with fail
         go_meet
         case rel=>exact⟨j,rfl,by omega,HPI.out,fun h=>absurd h hij,hR.ext ((Er wr).drewN _),hC.drewN _⟩
      case rest =>
       clear hPI hR hC;obtain⟨j,rfl,hjl,hPI,hST2,hR,hC⟩:=hcut
       by_cases hij:i≤j
       ·skip
        have p1:=hST1 (by omega);have p2:=hST2 hij;have hlt:=PI.lt hij p1 p2;have hPI2:=hPI.swap hlt (by have:=HS.out;omega) p1 p2;have HPI:=Hh hPI2;have a1:=hPI.ai;have a2:=hPI.jb;clear hPI hPI2 p1 p2 hST1 hST2;have ej:(j:Int) - 1=((j - 1:Nat):Int):=by omega
        have ei:(i:Int)+1=((i+1:Nat):Int):=by omega
        have HEJ:=Hh (show _∧_ from⟨ei,ej⟩);clear ei ej;go_wp2_with fail
        obtain⟨G,hG⟩:=qZs dk;have hcw:∀t,t<d.size→wc.cell? ⟨blk,off+t,none⟩=some (.int .u64 (G t)):=fun t ht=>by rw[hG];exact hR.cell (by have:=HS.out;omega)
        have hfw:∀t,t<d.size→wc.frozen? ⟨blk,off+t,none⟩=false:=fun t _=>hR.frozen t
        have HG:=Hh hG;clear hG;obtain⟨vv,hvv⟩:=hR.cellSet (i) (j:=j) (by have:=HS.out;omega) (.int .u64 (G (j)))
        go_region
        clear hvv;have hZ:=(hR.swap (i:=i) (j:=j) (by have:=HS.out;omega) (by have:=HS.out;omega)).drew;have hZc:=(RU.swapC hC rfl (off+(i)) (off+(j)) (.int .u64 dk[j]!) (.int .u64 dk[i]!)).drew;rw[←HG.out,←HG.out]at hZ hZc;generalize World.drew _=W9 at hZ hZc⊢;clear hcw hfw HG hR hC;have HP2:=Hh (permIn_trans _ _ _ _ _ HP.out (swp_permIn dk a b (i) (j) (by omega) (by omega) (by omega) (by omega) (by have:=HS.out;omega)));have HS2:Hid ((swp dk (i) (j)).size=d.size):=Hh (by rw[size_swp];exact HS.out);clear HP HS;generalize swp dk (i) (j)=dz at *;have HPI2:=HPI;clear HPI;go_wp2_with fail
        go_roundw
        case rel=>exact⟨i+1,j - 1,dz,by go_num,by congr 1;omega,HPI2.out,HP2.out,HS2.out,hZ,hZc⟩
        case measure=>simp[intOf];omega
       ·skip
        obtain⟨f1,f2,f3,f4⟩:=hPI.fin hij (by have:=HS.out;omega);have HF:=Hh (show _∧_ from⟨f3,f4⟩);have ai:=hPI.ai;clear f3 f4 hPI;go_wp2_with fail
        obtain⟨G,hG⟩:=qZs dk;have hcw:∀t,t<d.size→wc.cell? ⟨blk,off+t,none⟩=some (.int .u64 (G t)):=fun t ht=>by rw[hG];exact hR.cell (by have:=HS.out;omega)
        have hfw:∀t,t<d.size→wc.frozen? ⟨blk,off+t,none⟩=false:=fun t _=>hR.frozen t
        have HG:=Hh hG;clear hG;obtain⟨vv,hvv⟩:=hR.cellSet (j) (j:=a) (by have:=HS.out;omega) (.int .u64 (G (a)))
        go_region
        clear hvv;have hZ:=(hR.swap (i:=j) (j:=a) (by have:=HS.out;omega) (by have:=HS.out;omega)).drew;have hZc:=(RU.swapC hC rfl (off+(j)) (off+(a)) (.int .u64 dk[a]!) (.int .u64 dk[j]!)).drew;rw[←HG.out,←HG.out]at hZ hZc;generalize World.drew _=W9 at hZ hZc⊢;clear hcw hfw HG hR hC;have HP2:=Hh (permIn_trans _ _ _ _ _ HP.out (swp_permIn dk a b (j) (a) (by omega) (by omega) (by omega) (by omega) (by have:=HS.out;omega)));have HS2:Hid ((swp dk (j) (a)).size=d.size):=Hh (by rw[size_swp];exact HS.out);clear HP HS;generalize swp dk (j) (a)=dz at *;go_wp2_with fail
        go_ret2
        exact⟨j,_,dz,rfl,f1,f2,HP2.out,HF.out.1,HF.out.2,hZ,hZc⟩
   ·skip
    obtain⟨f1,f2,f3,f4⟩:=hPI.fin hij (by have:=HS.out;omega);have HF:=Hh (show _∧_ from⟨f3,f4⟩);have ai:=hPI.ai;clear f3 f4 hPI;go_wp2_with fail
    obtain⟨G,hG⟩:=qZs dk;have hcw:∀t,t<d.size→wc.cell? ⟨blk,off+t,none⟩=some (.int .u64 (G t)):=fun t ht=>by rw[hG];exact hR.cell (by have:=HS.out;omega)
    have hfw:∀t,t<d.size→wc.frozen? ⟨blk,off+t,none⟩=false:=fun t _=>hR.frozen t
    have HG:=Hh hG;clear hG;obtain⟨vv,hvv⟩:=hR.cellSet (j) (j:=a) (by have:=HS.out;omega) (.int .u64 (G (a)))
    go_region
    clear hvv;have hZ:=(hR.swap (i:=j) (j:=a) (by have:=HS.out;omega) (by have:=HS.out;omega)).drew;have hZc:=(RU.swapC hC rfl (off+(j)) (off+(a)) (.int .u64 dk[a]!) (.int .u64 dk[j]!)).drew;rw[←HG.out,←HG.out]at hZ hZc;generalize World.drew _=W9 at hZ hZc⊢;clear hcw hfw HG hR hC;have HP2:=Hh (permIn_trans _ _ _ _ _ HP.out (swp_permIn dk a b (j) (a) (by omega) (by omega) (by omega) (by omega) (by have:=HS.out;omega)));have HS2:Hid ((swp dk (j) (a)).size=d.size):=Hh (by rw[size_swp];exact HS.out);clear HP HS;generalize swp dk (j) (a)=dz at *;go_wp2_with fail
    go_ret2
    exact⟨j,_,dz,rfl,f1,f2,HP2.out,HF.out.1,HF.out.2,hZ,hZc⟩
theorem eqpart_any(a b q:Nat)(haq:a≤q)(hqb:q<b)(hab:a+1<b)(hb:b≤d.size):Calls prog 140 #[.slice (some ⟨blk,off,none⟩) d.size cap,.int .i64 a,.int .i64 b,.int .i64 q] w fun e w' =>
 ∃(m:Nat) (d':Array Int),e=.returned (.int .i64 m)∧a<m∧m≤b∧PermIn a b d d'∧d'[a]! = d[q]! ∧ (∀t,a<t→t<m→pE d'[t]! d'[a]! = true)∧(∀t,m≤t→t<b→pE d'[t]! d'[a]! = false)∧RU w' blk off cap d'∧Chg (· = blk) w w':=by
 obtain⟨z,hz⟩:∃z,z=d[q]! := ⟨_,rfl⟩;have HQ:=Hh hz
 go_enter func140,ntmps140
 go_wp2_with fail
 obtain⟨dk,hdk⟩:∃dk,dk=d:=⟨_,rfl⟩;have HP:Hid (PermIn a b d dk):=Hh (by rw[hdk];exact permIn_refl _ _ _);have HS:Hid (dk.size=d.size):=Hh (by rw[hdk]);have hR:RU w blk off cap dk:=by rw[hdk];exact h
 have hC:Chg (· = blk) w w:=Chg.refl _ _;have hdq:dk[q]! = d[q]! := by rw[hdk]
 clear hdk h;obtain⟨G,hG⟩:=qZs dk;have hcw:∀t,t<d.size→w.cell? ⟨blk,off+t,none⟩=some (.int .u64 (G t)):=fun t ht=>by rw[hG];exact hR.cell (by have:=HS.out;omega)
 have hfw:∀t,t<d.size→w.frozen? ⟨blk,off+t,none⟩=false:=fun t _=>hR.frozen t
 have HG:=Hh hG;clear hG;obtain⟨vv,hvv⟩:=hR.cellSet (a) (j:=q) (by have:=HS.out;omega) (.int .u64 (G (q)))
 go_region
 clear hvv;have hZ:=(hR.swap (i:=a) (j:=q) (by have:=HS.out;omega) (by have:=HS.out;omega)).drew;have hZc:=(RU.swapC hC rfl (off+(a)) (off+(q)) (.int .u64 dk[q]!) (.int .u64 dk[a]!)).drew;rw[←HG.out,←HG.out]at hZ hZc;generalize World.drew _=W9 at hZ hZc⊢;clear hcw hfw HG hR hC;have HP2:=Hh (permIn_trans _ _ _ _ _ HP.out (swp_permIn dk a b (a) (q) (by omega) (by omega) (by omega) (by omega) (by have:=HS.out;omega)));have HS2:Hid ((swp dk (a) (q)).size=d.size):=Hh (by rw[size_swp];exact HS.out)
 have HZA:(swp dk (a) (q))[a]! = z:=by
  by_cases e:a=q
  ·subst e;rw[swp_right dk a a (by have:=HS.out;omega)];rw[hz,hdq]
  ·rw[swp_left dk a q (by have:=HS.out;omega) e];rw[hz,hdq]
 clear HP HS hz hdq;generalize swp dk (a) (q)=dz at *;have hza:dz[a]! = z:=HZA;clear HZA;have HZ:=Hh hza;clear hza;have hPI:PI pE a b (a+1) (b - 1) dz:=⟨by omega,by omega,by omega,fun t h1 h2=>by omega,fun t h1 h2=>by omega⟩;obtain⟨i,hi⟩:∃i,i=a+1:=⟨_,rfl⟩;obtain⟨j,hj⟩:∃j,j=b - 1:=⟨_,rfl⟩;rw[←hi,←hj]at hPI;have ei:(a:Int)+1=(i:Int):=by omega
 have ej:(b:Int) - 1=(j:Int):=by omega
 clear hi hj;obtain⟨dk,hdk⟩:∃dk,dk=dz:=⟨_,rfl⟩;subst hdk;have HP:=HP2;have HS:=HS2;have hR:=hZ;have hC:=hZc;clear HP2 HS2 hZ hZc;go_wp2_with fail
 clear ei ej
 go_loopw [9,10] (fun iv jv wr=>∃(i j:Nat) (dk:Array Int),iv=.int .i64 i∧jv=.int .i64 j∧PI pE a b i j dk∧PermIn a b d dk∧dk.size=d.size∧dk[a]! = z∧RU wr blk off cap dk∧Chg (· = blk) w wr) (fun _ jv _=>(intOf jv).toNat)
 case atStart=>exact⟨i,j,dk,rfl,rfl,hPI,HP.out,HS.out,HZ.out,hR,hC⟩
 case round =>
  clear hR hC HP HS hPI HZ;obtain⟨i,j,dk,rfl,rfl,hPI,hP,hS,hz,hR,hC⟩:=hrel;have HP:=Hh hP;have HS:=Hh hS;have HZ:=Hh hz;have ai:=hPI.ai;clear hP hS hz
  go_upto_block 2 with fail
  go_cut [9]from 29 to 46 (fun v wx=>∃x:Nat,v=.int .i64 x∧PI pE a b x j dk∧(x≤j→pE dk[x]! dk[a]! = false)∧RU wx blk off cap dk∧Chg (· = blk) w wx)
  case first =>
   go_wp2_with fail
   go_loopw [9] (fun v wr=>∃x:Nat,v=.int .i64 x∧PI pE a b x j dk∧RU wr blk off cap dk∧Chg (· = blk) w wr) (fun v _=>j+1 - (intOf v).toNat)
   case atStart=>exact⟨i,rfl,hPI,hR,hC⟩
   case round =>
    clear hPI hR hC;obtain⟨i,rfl,hPI,hR,hC⟩:=hrel;obtain⟨G,hG⟩:=qZs dk;have hcw:∀t,t<d.size→wr.cell? ⟨blk,off+t,none⟩=some (.int .u64 (G t)):=fun t ht=>by rw[hG];exact hR.cell (by have:=HS.out;omega)
    have hfw:∀t,t<d.size→wr.frozen? ⟨blk,off+t,none⟩=false:=fun t _=>hR.frozen t
    have HG:=Hh hG;clear hG;have HPI:=Hh hPI;have a1:=hPI.ai;have a2:=hPI.ij;have a3:=hPI.jb;clear hPI;have ad:a<d.size:=by omega
    by_cases hij:i≤j
    ·have vd:i<d.size:=by omega
     cases hl:ltInt (G a) (G i)
     ·go_wp2_with fail
      go_quiet ((first|(go_at_call 139;exact Calls.quiet_of_same (qQU _ _ _))))
      go_wp2_with fail
      go_roundw
      case rel=>exact⟨i+1,by go_num,HPI.out.up hij (show(!ltInt dk[a]! dk[i]!)=_ from by rw[←HG.out,←HG.out];exact congrArg (fun b => !b) hl),hR.ext ((Er wr).drewN _),hC.drewN _⟩
      case measure=>simp[intOf] <;> omega
     ·go_wp2_with fail
      go_quiet ((first|(go_at_call 139;exact Calls.quiet_of_same (qQU _ _ _))))
      go_wp2_with fail
      go_meet
      case rel=>exact⟨i,rfl,HPI.out,fun _=>(show(!ltInt dk[a]! dk[i]!)=_ from by rw[←HG.out,←HG.out];exact congrArg (fun b => !b) hl),hR.ext ((Er wr).drewN _),hC.drewN _⟩
    ·go_wp2_with fail
     go_quiet (fail)
     go_wp2_with fail
     go_meet
     case rel=>exact⟨i,rfl,HPI.out,fun h=>absurd h hij,hR.ext ((Er wr).drewN _),hC.drewN _⟩
  case rest =>
   clear hPI hR hC;obtain⟨i,rfl,hPI,hST1,hR,hC⟩:=hcut;obtain⟨jo,hjo⟩:∃jo,jo=j:=⟨_,rfl⟩;have hjl:j≤jo:=by omega
   have hjm:jo≤j:=by omega
   rw[←hjo]at hST1;clear hjo
   go_upto_block 4 with fail
   go_cut [10]from 46 to 62 (fun v wx=>∃x:Nat,v=.int .i64 x∧x≤jo∧PI pE a b i x dk∧(i≤x→pE dk[x]! dk[a]! = true)∧RU wx blk off cap dk∧Chg (· = blk) w wx)
   case first =>
    go_wp2_with fail
    go_loopw [10] (fun v wr=>∃x:Nat,v=.int .i64 x∧x≤jo∧PI pE a b i x dk∧RU wr blk off cap dk∧Chg (· = blk) w wr) (fun v _=>(intOf v).toNat)
    case atStart=>exact⟨j,rfl,by omega,hPI,hR,hC⟩
    case round =>
     clear hPI hR hC;obtain⟨j,rfl,hjl,hPI,hR,hC⟩:=hrel;obtain⟨G,hG⟩:=qZs dk;have hcw:∀t,t<d.size→wr.cell? ⟨blk,off+t,none⟩=some (.int .u64 (G t)):=fun t ht=>by rw[hG];exact hR.cell (by have:=HS.out;omega)
     have hfw:∀t,t<d.size→wr.frozen? ⟨blk,off+t,none⟩=false:=fun t _=>hR.frozen t
     have HG:=Hh hG;clear hG;have HPI:=Hh hPI;have a1:=hPI.ai;have a2:=hPI.ij;have a3:=hPI.jb;clear hPI;have ad:a<d.size:=by omega
     by_cases hij:i≤j
     ·have vd:j<d.size:=by omega
      cases hl:ltInt (G a) (G j)
      ·go_wp2_with fail
       go_quiet ((first|(go_at_call 139;exact Calls.quiet_of_same (qQU _ _ _))))
       go_wp2_with fail
       go_meet
       case rel=>exact⟨j,rfl,by omega,HPI.out,fun _=>(show(!ltInt dk[a]! dk[j]!)=_ from by rw[←HG.out,←HG.out];exact congrArg (fun b => !b) hl),hR.ext ((Er wr).drewN _),hC.drewN _⟩
      ·go_wp2_with fail
       go_quiet ((first|(go_at_call 139;exact Calls.quiet_of_same (qQU _ _ _))))
       go_wp2_with fail
       go_roundw
       case rel=>exact⟨j - 1,by congr 1;omega,by omega,HPI.out.down hij (show(!ltInt dk[a]! dk[j]!)=_ from by rw[←HG.out,←HG.out];exact congrArg (fun b => !b) hl),hR.ext ((Er wr).drewN _),hC.drewN _⟩
       case measure=>simp[intOf] <;> omega
     ·go_wp2_with fail
      go_quiet (fail)
      go_wp2_with fail
      go_meet
      case rel=>exact⟨j,rfl,by omega,HPI.out,fun h=>absurd h hij,hR.ext ((Er wr).drewN _),hC.drewN _⟩
   case rest =>
    clear hPI hR hC;obtain⟨j,rfl,hjl,hPI,hST2,hR,hC⟩:=hcut
    by_cases hij:i≤j
    ·skip
     have p1:=hST1 (by omega);have p2:=hST2 hij;have hlt:=PI.lt hij p1 p2;have hPI2:=hPI.swap hlt (by have:=HS.out;omega) p1 p2;have HPI:=Hh hPI2;have a1:=hPI.ai;have a2:=hPI.jb;clear hPI hPI2 p1 p2 hST1 hST2;go_wp2_with fail
     obtain⟨G,hG⟩:=qZs dk;have hcw:∀t,t<d.size→wc.cell? ⟨blk,off+t,none⟩=some (.int .u64 (G t)):=fun t ht=>by rw[hG];exact hR.cell (by have:=HS.out;omega)
     have hfw:∀t,t<d.size→wc.frozen? ⟨blk,off+t,none⟩=false:=fun t _=>hR.frozen t
     have HG:=Hh hG;clear hG;obtain⟨vv,hvv⟩:=hR.cellSet (i) (j:=j) (by have:=HS.out;omega) (.int .u64 (G (j)))
     go_region
     clear hvv;have hZ:=(hR.swap (i:=i) (j:=j) (by have:=HS.out;omega) (by have:=HS.out;omega)).drew;have hZc:=(RU.swapC hC rfl (off+(i)) (off+(j)) (.int .u64 dk[j]!) (.int .u64 dk[i]!)).drew;rw[←HG.out,←HG.out]at hZ hZc;generalize World.drew _=W9 at hZ hZc⊢;clear hcw hfw HG hR hC;have HZ2:Hid ((swp dk (i) (j))[a]! = z):=Hh (by rw[swp_other dk i j a (by omega) (by omega)];exact HZ.out);clear HZ;have HP2:=Hh (permIn_trans _ _ _ _ _ HP.out (swp_permIn dk a b (i) (j) (by omega) (by omega) (by omega) (by omega) (by have:=HS.out;omega)));have HS2:Hid ((swp dk (i) (j)).size=d.size):=Hh (by rw[size_swp];exact HS.out);clear HP HS;generalize swp dk (i) (j)=dz at *;go_wp2_with fail
     go_roundw
     case rel=>exact⟨i+1,j - 1,dz,by go_num,by congr 1;omega,HPI.out,HP2.out,HS2.out,HZ2.out,hZ,hZc⟩
     case measure=>simp[intOf];omega
    ·skip
     have a1:=hPI.ai;have a2:=hPI.ij;have a3:=hPI.jb;have HPI:=Hh hPI;clear hPI hST1 hST2;go_wp2_with fail
     go_ret
     exact⟨i,dk,rfl,a1,by omega,HP.out,HZ.out.trans HQ.out,HPI.out.lo,fun t h1 h2=>HPI.out.hi t (by omega) h2,hR,hC⟩
end
open Go.RowKit Go.Sort
theorem len_cases:∀x,x<50→8≤x→(Lib.bitLen x=4∧x<16)∨(Lib.bitLen x=5∧16≤x∧x<32)∨(Lib.bitLen x=6∧32≤x):=by decide +kernel
theorem npt_any(w:World)(l:Nat)(h1:8≤l)(h2:l<50):Calls prog 126 #[.int .i64 l] w fun e w'=>∃m:Nat,e=.returned (.int .u64 m)∧1≤m∧m≤2 * l∧l≤m∧w=w':=by
 have hl:=len_cases l h2 h1;have HC:=Hh (Tryz.bits_Len (l:Int) w (by omega) (by omega));rw[Int.toNat_natCast]at HC
 go_enter func126,ntmps126
 go_wp2_with fail
 refine HC.out.mono ?_;rintro e w' ⟨rfl,rfl⟩;clear HC;rcases hl with⟨hb,h3⟩|⟨hb,h3⟩|⟨hb,h3⟩
 all_goals rw[hb];clear hb
 ·go_wp2_with fail
  go_ret
  exact⟨16,rfl,by omega,by omega,by omega,rfl⟩
 ·go_wp2_with fail
  go_ret
  exact⟨32,rfl,by omega,by omega,by omega,rfl⟩
 ·go_wp2_with fail
  go_ret
  exact⟨64,rfl,by omega,by omega,by omega,rfl⟩
def RndAt(w:World)(g:Nat)(x:Int):Prop:=At w g 185 #[.int .u64 x]
theorem rnd_set{W w:World}{g:Nat}{x:Int}(hg:RndAt w g x)(hC:Chg (· = g) W w)(y:Int):RndAt ((w.setCell ⟨g,0,none⟩ (.int .u64 y)).drew) g y∧Chg (· = g) W ((w.setCell ⟨g,0,none⟩ (.int .u64 y)).drew) :=
 ⟨(At.set hg 0 _).drew,(hC.setCell (p:=⟨g,0,none⟩) (.inl rfl) _).drew⟩
theorem next_any(w:World)(g:Nat)(x:Int)(hg:RndAt w g x):Calls prog 127 #[.pointer (some ⟨g,0,none⟩)] w fun e w'=>∃y:Int,e=.returned (.int .u64 y)∧(0≤y∧y≤18446744073709551615)∧RndAt w' g y∧Chg (· = g) w w':=by
 have c0:=At.cell hg 0;have f0:=At.frozen hg 0;have hC:Chg (· = g) w w:=Chg.refl _ _;simp at c0
 go_enter func127,ntmps127
 go_wp2_with fail
 go_region
 obtain⟨hg1,hC1⟩:=rnd_set hg hC (bits .xor .u64 x (IntKind.u64.wrap (x * 8192)));generalize bits BinOp.xor IntKind.u64 _ _=x1 at *;generalize World.drew _=w1 at *;clear c0 f0 hg hC;have c0:=At.cell hg1 0;have f0:=At.frozen hg1 0;simp at c0;go_wp2_with fail
 go_region
 obtain⟨hg2,hC2⟩:=rnd_set hg1 hC1 (bits .xor .u64 x1 (x1 / 128));generalize bits BinOp.xor IntKind.u64 _ _=x2 at *;generalize World.drew _=w2 at *;clear c0 f0 hg1 hC1;have c0:=At.cell hg2 0;have f0:=At.frozen hg2 0;simp at c0;go_wp2_with fail
 go_region
 obtain⟨hg3,hC3⟩:=rnd_set hg2 hC2 (bits .xor .u64 x2 (IntKind.u64.wrap (x2 * 131072)));have hb:=And.intro (bits_lo_u64 .xor x2 (IntKind.u64.wrap (x2 * 131072))) (bits_hi_u64 .xor x2 (IntKind.u64.wrap (x2 * 131072)));generalize bits BinOp.xor IntKind.u64 _ _=x3 at *;generalize World.drew _=w3 at *;clear c0 f0 hg2 hC2;have c0:=At.cell hg3 0;simp at c0;go_wp2_with fail
 go_ret
 exact⟨x3,rfl,hb,hg3,hC3⟩
section
variable(blk off cap:Nat)(d:Array Int)(w:World)(h:RU w blk off cap d)(hsz:d.size<4611686018427387904)
include h hsz
theorem brk_any(a b:Nat)(hab:a+12<b)(hb:b≤d.size)(h50:b<a+50):Calls prog 135 #[.slice (some ⟨blk,off,none⟩) d.size cap,.int .i64 a,.int .i64 b] w fun e w' =>
 e=.returned (.tuple #[])∧∃d',PermIn a b d d'∧RU w' blk off cap d'∧Chg (· = blk) w w':=by
 obtain⟨l,hl⟩:∃l,l=b - a:=⟨_,rfl⟩;have en:(b:Int) - (a:Int)=(l:Int):=by omega
 have hl1:8≤l:=by omega
 have hl2:l<50:=by omega
 obtain⟨B,hB⟩:∃B,B=a+l / 4 * 2:=⟨_,rfl⟩;have eB:(a:Int)+(l:Int) / 4 * 2=(B:Int):=by omega
 have hB1:a+4≤B:=by omega
 have hB2:B+1<a+l:=by omega
 have hal:a+l=b:=by omega
 have HAL:=Hh hal;clear hl hB hal;have hW:RndAt (w.alloc (.cells #[.int .u64 (l:Int)] 185)) w.heap.size l:=At.new w _ _;have hR:=h.ext ((Er w).alloc (.cells #[.int .u64 (l:Int)] 185));have hE:=(Er w).alloc (.cells #[.int .u64 (l:Int)] 185);have hbl:blk<w.heap.size:=by obtain⟨cur,hc⟩:=h.block;exact hc.lt
 clear h
 go_enter func135,ntmps135
 go_wp2_with fail
 refine(npt_any _ l hl1 hl2).mono ?_
 rintro e w1 ⟨m,rfl,hm1,hm2,hm3,rfl⟩;generalize hgs:w.heap.size=g at *;have e1:(m:Int) - 1=((m - 1:Nat):Int):=by omega
 go_wp2_with fail
 generalize hW1:w.alloc (.cells #[.int .u64 (l:Int)] 185)=W1 at *;have e0:(B:Int) - 1=((B - 1:Nat):Int):=by omega
 rw[e0];clear e0 hW1
 go_loopw [9] (fun kv wr=>∃(k:Nat) (dk:Array Int) (x:Int),kv=.int .i64 k∧B≤k+1∧k≤B+2∧PermIn a b d dk∧dk.size=d.size∧RU wr blk off cap dk∧RndAt wr g x∧Chg (fun j=>j=blk∨j=g) w wr) (fun kv _=>B+2 - (intOf kv).toNat)
 case atStart=>exact⟨B - 1,d,_,rfl,by omega,by omega,permIn_refl _ _ _,rfl,hR,hW,hE.chg⟩
 case round =>
  clear hR hW hE;obtain⟨k,dk,x,rfl,hk1,hk2,hP,hS,hR,hX,hC⟩:=hrel;have HP:=Hh hP;have HS:=Hh hS;clear hP hS;have hne:blk≠g:=by omega
  by_cases hk:k≤B+1
  ·have HN:=Hh (next_any wr g x hX);clear hX;go_wp2_with fail
   refine HN.out.mono ?_;rintro e w2 ⟨y,rfl,⟨hy0,hy1⟩,hX2,hCx⟩;have hR2:=hR.chg hCx hne;have hC2:Chg (fun j=>j=blk∨j=g) w w2:=hC.trans hCx (fun j _ e=>.inr e);clear hR hC hCx HN;obtain⟨y,rfl⟩:=Int.eq_ofNat_of_zero_le hy0;have e2:bits .and .u64 (y:Int) ((m - 1:Nat):Int)=((y &&& (m - 1):Nat):Int):=bits_and_u64_nat _ _ (by omega) (by omega);have ho:y &&& (m - 1)≤m - 1:=Nat.and_le_right;generalize y &&& (m - 1)=o at *;clear hy0 hy1
   have hway:(l≤o∧∃o2:Nat,(o:Int) - (l:Int)=(o2:Int)∧o2<l)∨o<l:=by
    by_cases hol:l≤o
    ·exact .inl ⟨hol,o - l,by omega,by omega⟩
    ·exact .inr (by omega)
   rcases hway with⟨hol,o2,e3,ho2⟩|ho2
   go_wp2_with fail
   clear e3 hol ho e2 e1
   rotate_left 1
   obtain⟨o2,rfl⟩:∃o2,o2=o:=⟨_,rfl⟩;go_wp2_with fail
   clear ho e2 e1
   all_goals
    have hal:=HAL.out;have n2:((a:Int)+(o2:Int)).toNat=a+o2:=by omega
    have z2:0≤(a:Int)+(o2:Int):=by omega
    have b1:k<d.size:=by omega
    have b2:a+o2<d.size:=by omega
    have hkb:a≤k∧k<b:=by omega
    obtain⟨G,hG⟩:=qZs dk;have hcw:∀t,t<d.size→w2.cell? ⟨blk,off+t,none⟩=some (.int .u64 (G t)):=fun t ht=>by rw[hG];exact hR2.cell (by have:=HS.out;omega)
    have hfw:∀t,t<d.size→w2.frozen? ⟨blk,off+t,none⟩=false:=fun t _=>hR2.frozen t
    have HG:=Hh hG;clear hG;obtain⟨vv,hvv⟩:=hR2.cellSet k (j:=a+o2) (by have:=HS.out;omega) (.int .u64 (G (a+o2)));have HKB:=Hh hkb;clear hal hkb;have wr2:IntKind.i64.wrap ((a:Int)+(o2:Int))=a+o2:=IntWalk.i64_in _ (by omega)
    go_region
    clear hvv wr2 n2 z2;have hZ:=(hR2.swap (i:=k) (j:=a+o2) (by have:=HS.out;omega) (by have:=HS.out;omega)).drew;have hZc:=(RU.swapC hC2 (.inl rfl) (off+k) (off+(a+o2)) (.int .u64 dk[a+o2]!) (.int .u64 dk[k]!)).drew;have hZx:RndAt _ g y:=((At.far hX2 (p:=⟨blk,off+k,none⟩) (fun e=>hne e.symm) (.int .u64 dk[a+o2]!)).far (p:=⟨blk,off+(a+o2),none⟩) (fun e=>hne e.symm) (.int .u64 dk[k]!)).drew;rw[←HG.out,←HG.out]at hZ hZc hZx;have hal:=HAL.out;have hkb:=HKB.out;have HP2:=Hh (permIn_trans _ _ _ _ _ HP.out (swp_permIn dk a b k (a+o2) (by omega) (by omega) (by omega) (by omega) (by have:=HS.out;omega)));have HS2:Hid ((swp dk k (a+o2)).size=d.size):=Hh (by rw[size_swp];exact HS.out);generalize World.drew _=W9 at hZ hZc hZx⊢;clear hcw hfw HG hR2 hC2 HP HS hX2 hal hkb;generalize swp dk k (a+o2)=dz at *;go_wp2_with fail
    go_roundw
    case rel=>exact⟨k+1,dz,_,by go_num,by omega,by omega,HP2.out,HS2.out,hZ,hZx,hZc⟩
    case measure=>simp[intOf];omega
  ·go_wp2_with fail
   go_end0
   exact⟨rfl,dk,HP.out,hR,hC.mono (fun j hj e=>by rcases e with e|e <;> omega)⟩
end
open Go.RowKit Go.Sort
structure Pt (a m b:Nat) (d:Array Int):Prop where
 am:a≤m
 mb:m<b
 lo:∀t,a≤t→t<m→ltInt d[t]! d[m]! = true
 hi:∀t,m<t→t<b→ltInt d[t]! d[m]! = false
section
variable{a m b:Nat}{d L R:Array Int}
theorem Pt.permL(h:Pt a m b d)(hb:b≤d.size)(hp:PermIn a m d L):Pt a m b L:=by
 have e:∀i,m≤i→L[i]! = d[i]! := fun i hi=>hp.2.1 i (.inr hi)
 have h1:=h.mb;refine⟨h.am,h.mb,fun t g1 g2=>?_,fun t g1 g2=>?_⟩
 ·rw[e m (Nat.le_refl _)];exact permIn_all d L a m (fun x=>ltInt x d[m]! = true) (by omega) hp h.lo t g1 g2
 ·rw[e m (Nat.le_refl _),e t (by omega)];exact h.hi t g1 g2
theorem Pt.permR(h:Pt a m b d)(hb:b≤d.size)(hp:PermIn (m+1) b d R):Pt a m b R:=by
 have e:∀i,i≤m→R[i]! = d[i]! := fun i hi=>hp.2.1 i (.inl (by omega))
 refine⟨h.am,h.mb,fun t g1 g2=>?_,fun t g1 g2=>?_⟩
 ·rw[e m (Nat.le_refl _),e t (by omega)];exact h.lo t g1 g2
 ·rw[e m (Nat.le_refl _)];exact permIn_all d R (m+1) b (fun x=>ltInt x d[m]! = false) hb hp (fun i g1 g2=>h.hi i (by omega) g2) t (by omega) g2
theorem Pt.glue(h:Pt a m b R)(h1:SortedIn ltInt a m R)(h2:SortedIn ltInt (m+1) b R):SortedIn ltInt a b R :=
 sorted_glue swo_ltInt h1 h2 h.lo h.hi
theorem Pt.left(h:Pt a m b d)(hb:b≤d.size)(hL:PermIn a m d L)(hs:SortedIn ltInt a m L) :
 Sort.Below ltInt (m+1) b L∧∀R,PermIn (m+1) b L R→SortedIn ltInt (m+1) b R→SortedIn ltInt a b R:=by
 have hp:=h.permL hb hL;refine⟨.inr fun i g1 g2=>by rw[Nat.add_sub_cancel];exact hp.hi i (by omega) g2,fun R hR hsR=>?_⟩
 exact(hp.permR (by rw[hL.1];exact hb) hR).glue (hs.congr fun i _ g2=>hR.2.1 i (.inl (by omega))) hsR
theorem Pt.right(h:Pt a m b d)(hb:b≤d.size)(hB:Sort.Below ltInt a m d)(hL:PermIn (m+1) b d L)(hs:SortedIn ltInt (m+1) b L) :
 Sort.Below ltInt a m L∧∀R,PermIn a m L R→SortedIn ltInt a m R→SortedIn ltInt a b R:=by
 have hp:=h.permR hb hL;have h1:=h.am;refine⟨?_,fun R hR hsR=>?_⟩
 ·rcases hB with h0|hB
  ·exact .inl h0
  ·exact .inr fun i g1 g2=>by rw[hL.2.1 i (.inl (by omega)),hL.2.1 (a - 1) (.inl (by omega))];exact hB i g1 g2
 ·exact(hp.permL (by rw[hL.1];exact hb) hR).glue hsR (hs.congr fun i g1 _=>hR.2.1 i (.inr (by omega)))
theorem eq_round{q:Nat}{d':Array Int}(ha:0<a)(hB:Sort.Below ltInt a b d)(hb:b≤d.size)(hn:ltInt d[a - 1]! d[q]! = false)(ham:a<m)(hmb:m≤b)(hp:PermIn a b d d')(hq:d'[a]! = d[q]!)
 (h1:∀t,a<t→t<m→pE d'[t]! d'[a]! = true) (h2:∀t,m≤t→t<b→pE d'[t]! d'[a]! = false) :
 Sort.Below ltInt m b d'∧∀R,PermIn m b d' R→SortedIn ltInt m b R→SortedIn ltInt a b R:=by
 have hge:∀i,a≤i→i<b→ltInt d[i]! d'[a]! = false:=fun i g1 g2=>by
  rw[hq];rcases hB with h0|hB
  ·omega
  ·exact swo_ltInt.ntrans _ _ _ (hB i g1 g2) hn
 have hge2:=permIn_all d d' a b (fun x=>ltInt x d'[a]! = false) hb hp hge
 have k1:∀t,a≤t→t<m→ltInt d'[a]! d'[t]! = false:=fun t g1 g2=>by
  by_cases e:t=a
  ·rw[e];exact swo_ltInt.irrefl _
  ·have:=h1 t (by omega) g2
   unfold pE at this;simpa using this
 have k2:∀t,m≤t→t<b→ltInt d'[a]! d'[t]! = true:=fun t g1 g2=>by
  have:=h2 t g1 g2
  unfold pE at this;simpa using this
 refine⟨.inr fun i g1 g2=>?_,fun R hR hs=>?_⟩
 ·cases hc:ltInt d'[i]! d'[m - 1]! with
  | false=>rfl
  | true=>have:=swo_ltInt.trans _ _ _ (k2 i g1 g2) hc;rw[k1 (m - 1) (by omega) (by omega)]at this;cases this
 ·refine sorted_glue_eq swo_ltInt d'[a]! hs (fun i g1 g2=>?_) (fun i g1 g2=>?_) (permIn_all d' R m b (fun x=>ltInt d'[a]! x=true) (by rw[hp.1];exact hb) hR k2)
  ·rw[hR.2.1 i (.inl g2)];exact k1 i g1 g2
  ·rw[hR.2.1 i (.inl g2)];exact hge2 i g1 (by omega)
end
structure PQ (a b a' b':Nat) (d dk:Array Int):Prop where
 lo:a≤a'
 mid:a'≤b'
 hi:b'≤b
 perm:PermIn a b d dk
 below:Sort.Below ltInt a' b' dk
 fin:∀R,PermIn a' b' dk R→SortedIn ltInt a' b' R→SortedIn ltInt a b R
section
variable{a b a' b':Nat}{d dk d2:Array Int}
theorem PQ.size(h:PQ a b a' b' d dk):dk.size=d.size:=h.perm.1
theorem PQ.turn(h:PQ a b a' b' d dk)(hb:b≤d.size)(hp:PermIn a' b' dk d2):PQ a b a' b' d d2 :=
 ⟨h.lo,h.mid,h.hi,permIn_trans _ _ _ _ _ h.perm (permIn_mono _ _ _ _ _ _ h.lo h.hi (by rw[h.size];exact hb) hp),h.below.perm (by rw[h.size];have:=h.hi;omega) hp,fun R hR hs=>h.fin R (permIn_trans _ _ _ _ _ hp hR) hs⟩
theorem PQ.left{m:Nat}{L:Array Int}(h:PQ a b a' b' d dk)(hb:b≤d.size)(hp:PermIn a' b' dk d2)(ht:Pt a' m b' d2)(hL:PermIn a' m d2 L)(hs:SortedIn ltInt a' m L):PQ a b (m+1) b' d L:=by
 have h2:=h.turn hb hp;have hb2:b'≤d2.size:=by rw[h2.size];have:=h.hi;omega
 have hmb:=ht.mb;have ham:=ht.am;have hlo:=h.lo;obtain⟨g1,g2⟩:=ht.left hb2 hL hs;refine⟨by omega,by omega,h.hi,permIn_trans _ _ _ _ _ h2.perm (permIn_mono _ _ _ _ _ _ h.lo (by have:=h.hi;omega) (by rw[h2.size];exact hb) hL),g1,fun R hR hsR=>?_⟩
 have hRL:PermIn a' b' d2 R:=permIn_trans _ _ _ _ _ (permIn_mono _ _ _ _ _ _ (Nat.le_refl _) (by omega) hb2 hL) (permIn_mono _ _ _ _ _ _ (by omega) (Nat.le_refl _) (by rw[hL.1];exact hb2) hR);exact h2.fin R hRL (g2 R hR hsR)
theorem PQ.right{m:Nat}{L:Array Int}(h:PQ a b a' b' d dk)(hb:b≤d.size)(hp:PermIn a' b' dk d2)(ht:Pt a' m b' d2)(hL:PermIn (m+1) b' d2 L)(hs:SortedIn ltInt (m+1) b' L):PQ a b a' m d L:=by
 have h2:=h.turn hb hp;have hb2:b'≤d2.size:=by rw[h2.size];have:=h.hi;omega
 have hmb:=ht.mb;have ham:=ht.am;obtain⟨g1,g2⟩:=ht.right hb2 (h2.below.mono (by omega)) hL hs;refine⟨h.lo,ham,by have:=h.hi;omega,permIn_trans _ _ _ _ _ h2.perm (permIn_mono _ _ _ _ _ _ (by have:=h.lo;omega) h.hi (by rw[h2.size];exact hb) hL),g1,fun R hR hsR=>?_⟩
 have hRL:PermIn a' b' d2 R:=permIn_trans _ _ _ _ _ (permIn_mono _ _ _ _ _ _ (by omega) (Nat.le_refl _) hb2 hL) (permIn_mono _ _ _ _ _ _ (Nat.le_refl _) (by omega) (by rw[hL.1];exact hb2) hR);exact h2.fin R hRL (g2 R hR hsR)
theorem PQ.eq{m q:Nat}(h:PQ a b a' b' d dk)(hb:b≤d.size)(ha:0<a')(hn:ltInt dk[a' - 1]! dk[q]! = false)(ham:a'<m)(hmb:m≤b')(hp:PermIn a' b' dk d2)(hq:d2[a']! = dk[q]!)
 (h1:∀t,a'<t→t<m→pE d2[t]! d2[a']! = true) (h2:∀t,m≤t→t<b'→pE d2[t]! d2[a']! = false):PQ a b m b' d d2:=by
 have h3:=h.turn hb hp;have hb1:b'≤dk.size:=by rw[h.size];have:=h.hi;omega
 obtain⟨g1,g2⟩:=eq_round ha h.below hb1 hn ham hmb hp hq h1 h2;refine⟨by have:=h.lo;omega,hmb,h.hi,h3.perm,g1,fun R hR hsR=>?_⟩
 exact h3.fin R (permIn_mono _ _ _ _ _ _ (by omega) (Nat.le_refl _) (by rw[hp.1];exact hb1) hR) (g2 R hR hsR)
theorem PQ.done(h:PQ a b a' b' d dk)(hb:b≤d.size)(hp:PermIn a' b' dk d2)(hs:SortedIn ltInt a' b' d2):PermIn a b d d2∧SortedIn ltInt a b d2 :=
 ⟨(h.turn hb hp).perm,h.fin d2 hp hs⟩
end
def PdqOk(n:Nat):Prop:=∀(blk off cap a b lim:Nat) (d:Array Int) (w:World),RU w blk off cap d→d.size<4611686018427387904→b - a≤n→a≤b→b≤d.size→b<a+50→lim<100→Sort.Below ltInt a b d →
 Calls prog 115 #[.slice (some ⟨blk,off,none⟩) d.size cap,.int .i64 a,.int .i64 b,.int .i64 lim] w fun e w' =>
  e=.returned (.tuple #[])∧∃d',PermIn a b d d'∧SortedIn ltInt a b d'∧RU w' blk off cap d'∧Chg (· = blk) w w'
section
variable(blk off cap:Nat)(d:Array Int)(w:World)(h:RU w blk off cap d)(hsz:d.size<4611686018427387904)
include h hsz
theorem pdq_step(n:Nat)(ih:Hid (∀k,k<n→PdqOk k))(a b lim:Nat)(hn:b - a≤n)(hab:a≤b)(hb:b≤d.size)(h50:b<a+50)(hlim:lim<100)(hB:Sort.Below ltInt a b d) :
 Calls prog 115 #[.slice (some ⟨blk,off,none⟩) d.size cap,.int .i64 a,.int .i64 b,.int .i64 lim] w fun e w' =>
  e=.returned (.tuple #[])∧∃d',PermIn a b d d'∧SortedIn ltInt a b d'∧RU w' blk off cap d'∧Chg (· = blk) w w':=by
 have HB:=Hh hB;clear hB
 go_enter func115,ntmps115
 go_wp2_with fail
 go_loopw [1,2,3,8,9] (fun av bv lv wb wp wr=>∃(a' b' lim:Nat) (v1 v2:Bool) (dk:Array Int),av=.int .i64 a'∧bv=.int .i64 b'∧lv=.int .i64 lim∧wb=.bool v1∧wp=.bool v2∧lim<100∧PQ a b a' b' d dk∧RU wr blk off cap dk∧Chg (· = blk) w wr) (fun av bv _ _ _ _=>(intOf bv - intOf av).toNat)
 case atStart=>exact⟨a,b,lim,true,true,d,rfl,rfl,rfl,rfl,rfl,hlim,⟨Nat.le_refl _,hab,Nat.le_refl _,permIn_refl _ _ _,HB.out,fun R _ hs=>hs⟩,h,Chg.refl _ _⟩
 case round =>
  clear h HB hlim;obtain⟨a',b',lim,v1,v2,dk,rfl,rfl,rfl,rfl,rfl,hlim,hPQ,hR,hC⟩:=hrel;have HPQ:=Hh hPQ;have q1:=hPQ.lo;have q2:=hPQ.mid;have q3:=hPQ.hi;have hs:=hPQ.size;obtain⟨l,hl⟩:∃l,l=b' - a':=⟨_,rfl⟩;have en:(b':Int) - (a':Int)=(l:Int):=by omega
  have hl2:a'+l=b':=by omega
  have HL:=Hh hl2;clear hPQ hl hl2
  by_cases h12:l≤12
  ·have HC:=Hh (insu_any blk off cap a' b' dk wr hR (by omega) (by omega) q2);rw[hs]at HC;clear hs;go_wp2_with fail
   refine HC.out.mono ?_;rintro e w2 ⟨rfl,d2,hp2,hs2,hR2,hC2⟩;go_wp2_with fail
   have hdn:=HPQ.out.done hb hp2 hs2;refine bodyPost_ret (v:=.tuple #[]) (by simp[results,results115,go_sem]) rfl ⟨rfl,d2,hdn.1,hdn.2,hR2,hC.trans hC2 (fun _ _ e=>e)⟩
  rcases Nat.eq_zero_or_pos lim with h0|h0
  ·subst h0;have hl3:=HL.out;have HC:=Hh (heapu_any blk off cap dk wr hR (by omega) a' b' (by omega) (by omega));rw[hs]at HC;clear hs hl3;go_wp2_with fail
   refine HC.out.mono ?_;rintro e w2 ⟨rfl,d2,hp2,hs2,hR2,hC2⟩;go_wp2_with fail
   have hdn:=HPQ.out.done hb hp2 hs2;refine bodyPost_ret (v:=.tuple #[]) (by simp[results,results115,go_sem]) rfl ⟨rfl,d2,hdn.1,hdn.2,hR2,hC.trans hC2 (fun _ _ e=>e)⟩
  have hl3:=HL.out;have hlz:((lim:Int) == 0)=false:=by rw[beq_eq_false_iff_ne];omega
  have HS:=Hh hs
  go_upto_if 35 with fail
  go_cut [3]from 35 to 42 (fun lv wx=>∃(lim2:Nat) (d2:Array Int),lv=.int .i64 lim2∧lim2<100∧PQ a b a' b' d d2∧RU wx blk off cap d2∧Chg (· = blk) w wx)
  case first =>
   cases v1
   ·have HC:=Hh (brk_any blk off cap dk wr hR (by omega) a' b' (by omega) (by omega) (by omega));rw[hs]at HC;clear hs hl3;go_wp2_with fail
    refine HC.out.mono ?_;rintro e w2 ⟨rfl,d2,hp2,hR2,hC2⟩;have e1:(lim:Int) - 1=((lim - 1:Nat):Int):=by omega
    go_wp2_with fail
    go_meet
    case rel=>exact⟨lim - 1,d2,rfl,by omega,HPQ.out.turn hb hp2,hR2,hC.trans hC2 (fun _ _ e=>e)⟩
   ·clear hs hl3;go_wp2_with fail
    go_meet
    case rel=>exact⟨lim,dk,rfl,hlim,HPQ.out,hR,hC⟩
  case rest =>
   clear hR hC hs HPQ HS hlz h0 hlim;obtain⟨lim,dk,rfl,hlim,hPQ,hR,hC⟩:=hcut;have HPQ:=Hh hPQ;have hs:=hPQ.size;clear hPQ;have HC:=Hh (piv_any blk off cap dk wc hR (by omega) a' b' (by omega) (by omega) (by omega));rw[hs]at HC;have HS:=Hh hs;clear hs hl3;go_wp2_with fail
   refine HC.out.mono ?_;rintro e w2 ⟨p,q,rfl,hp1,hp2,hq,hR2,hE2⟩;have hC2:=hC.ext_trans hE2;clear hR hC hE2 HC
   go_upto_if 50 with fail
   go_cut [11,12]from 50 to 61 (fun pv hv wx=>∃(p q:Nat) (d2:Array Int),pv=.int .i64 p∧hv=.int .i64 q∧a'≤p∧p<b'∧q≤1∧PQ a b a' b' d d2∧RU wx blk off cap d2∧Chg (· = blk) w wx)
   case first =>
    cases hqb:((q:Int) == 2)
    ·have hq1:q≤1:=by
      have:(q:Int)≠2:=by rw[beq_eq_false_iff_ne]at hqb;exact hqb
      omega
     go_wp2_with fail
     go_meet
     case rel=>exact⟨p,q,dk,rfl,rfl,hp1,hp2,hq1,HPQ.out,hR2,hC2⟩
    ·have HC:=Hh (rev_any blk off cap a' b' dk w2 hR2 (by have:=HS.out;omega) (by have:=HS.out;omega) (by omega));rw[HS.out]at HC;go_wp2_with fail
     refine HC.out.mono ?_;rintro e w3 ⟨rfl,d2,hpm,hR3,hC3⟩;go_wp2_with fail
     go_meet
     case rel=>exact⟨b' - 1 - (p - a'),1,d2,by congr 1;omega,rfl,by omega,by omega,Nat.le_refl _,HPQ.out.turn hb hpm,hR3,hC2.trans hC3 (fun _ _ e=>e)⟩
   case rest =>
    clear HPQ HS hR2 hC2 hp1 hp2 hq;obtain⟨p,q,dk,rfl,rfl,hp1,hp2,hq,hPQ,hR,hC⟩:=hcut;have HPQ:=Hh hPQ;have HS:=Hh hPQ.size;clear hPQ;obtain⟨wo,rfl⟩:∃wo:World,wo=wc:=⟨_,rfl⟩
    go_upto_region 15 with fail
    go_cut [68]from 61 to 69 (fun tv wx=>∃t:Bool,tv=.bool t∧wx=wo)
    case first =>
     cases v1
     ·go_wp2_with fail
      go_meet
      case rel=>exact⟨false,rfl,rfl⟩
     ·cases v2
      ·go_wp2_with fail
       go_meet
       case rel=>exact⟨false,rfl,rfl⟩
      ·go_wp2_with fail
       go_meet
       case rel=>exact⟨_,rfl,rfl⟩
    case rest =>
     obtain⟨t,rfl,rfl⟩:=hcut;have HC:=Hh (parti_any blk off cap dk wc hR (by have:=HS.out;omega) a' b' (by omega) (by have:=HS.out;omega) (by omega));rw[HS.out]at HC;cases t
     go_upto_region 17 with fail
     clear HC;have hR3:=hR;have hC3:=hC;clear hR hC;obtain⟨W3,rfl⟩:∃W3:World,W3=wc:=⟨_,rfl⟩
     rotate_left 1
     go_wp2_with fail
     refine HC.out.mono ?_;rintro e W3 ⟨v,rfl,hv,hE3⟩;have hR3:=hR.ext hE3;have hC3:=hC.ext_trans hE3;have HV:=Hh hv;clear hv hE3 hR hC HC;cases v
     rotate_left 1
     ·have hdn:=HPQ.out.done hb (permIn_refl _ _ _) (HV.out rfl);go_wp2_with fail
      refine bodyPost_ret (v:=.tuple #[]) (by simp[results,results115,go_sem]) rfl ⟨rfl,dk,hdn.1,hdn.2,hR3,hC3⟩
     rotate_left 1
     go_upto_region 17 with fail
     clear HV
     all_goals
      obtain⟨G,hG⟩:=qZs dk;have hcw:∀t,t<d.size→W3.cell? ⟨blk,off+t,none⟩=some (.int .u64 (G t)):=fun t ht=>by rw[hG];exact hR3.cell (by have:=HS.out;omega)
      have HG:=Hh hG;clear hG;have hpd:p<d.size:=by omega
      have had:a' - 1<d.size:=by omega
      have ways:a'=0∨0<a'∧ltInt (G (a' - 1)) (G p)=true∨0<a'∧ltInt (G (a' - 1)) (G p)=false:=by
       by_cases h0:a'=0
       ·exact .inl h0
       ·cases hl:ltInt (G (a' - 1)) (G p)
        ·exact .inr (.inr ⟨by omega,rfl⟩)
        ·exact .inr (.inl ⟨by omega,rfl⟩)
      rcases ways with h0|⟨h0,hl⟩|⟨h0,hl⟩
      have hz:¬ 0<a':=by omega
      clear h0
      go_quiet (fail)
      clear hz
      go_upto_region 20 with fail
      rotate_left 1
      have zi:0≤(a':Int) - 1:=by omega
      have zn:((a':Int) - 1).toNat=a' - 1:=by omega
      have zw:IntKind.i64.wrap ((a':Int) - 1)=(a':Int) - 1:=IntWalk.i64_in _ (by omega)
      go_quiet ((first|(go_at_call 139;exact Calls.quiet_of_same (qQU _ _ _))))
      clear zi zn zw
      go_upto_region 20 with fail
      rotate_left 1
      have zi:0≤(a':Int) - 1:=by omega
      have zn:((a':Int) - 1).toNat=a' - 1:=by omega
      have zw:IntKind.i64.wrap ((a':Int) - 1)=(a':Int) - 1:=IntWalk.i64_in _ (by omega)
      go_quiet ((first|(go_at_call 139;exact Calls.quiet_of_same (qQU _ _ _))))
      clear zi zn zw;rw[HG.out,HG.out]at hl;have HLT:=Hh hl;clear hl hcw;have hCE:=Hh (eqpart_any blk off cap dk (W3.drewN nq) (hR3.ext ((Er W3).drewN _)) (by have:=HS.out;omega) a' b' p hp1 hp2 (by omega) (by have:=HS.out;omega));rw[HS.out]at hCE;go_wp2_with fail
      refine hCE.out.mono ?_;rintro e W5 ⟨m,d2,rfl,ham,hmb,hpm,hq2,g1,g2,hR5,hC5⟩;have HPQ2:=Hh (HPQ.out.eq hb h0 HLT.out ham hmb hpm hq2 g1 g2);have hC6:=(hC3.drewN nq).trans hC5 (fun _ _ e=>e);clear hCE HLT hpm hq2 g1 g2 hC5 hR3 hC3 HPQ;go_wp2_with fail
      go_roundw
      case rel=>exact⟨m,b',lim,v1,v2,d2,rfl,rfl,rfl,rfl,rfl,hlim,HPQ2.out,hR5,hC6⟩
      case measure=>simp[intOf];omega
      all_goals
       have hE4:Ext W3 (W3.drewN nq):=(Er W3).drewN _;generalize W3.drewN nq=W4 at *;have hR4:=hR3.ext hE4;have hC4:=hC3.ext_trans hE4;clear hR3 hC3 hE4 HG;have hCP:=Hh (part_any blk off cap dk W4 hR4 (by have:=HS.out;omega) a' b' p hp1 hp2 (by omega) (by have:=HS.out;omega));rw[HS.out]at hCP;go_wp2_with fail
       refine hCP.out.mono ?_;rintro e W5 ⟨m,v,d2,rfl,ham,hmb,hpm,g1,g2,hR5,hC5⟩;have HPT:Hid (Pt a' m b' d2):=Hh ⟨ham,hmb,g1,g2⟩;have HPM:=Hh hpm;have hC6:=hC4.trans hC5 (fun _ _ e=>e);have hsd:d2.size=d.size:=by rw[hpm.1];exact HS.out
       have HSD:=Hh hsd;clear hCP g1 g2 hC4 hC5 hR4 hpm hsd;obtain⟨x,hx⟩:∃x,x=m - a':=⟨_,rfl⟩;obtain⟨y,hy⟩:∃y,y=b' - m:=⟨_,rfl⟩;have ex:(m:Int) - (a':Int)=(x:Int):=by omega
       have ey:(b':Int) - (m:Int)=(y:Int):=by omega
       have hxn:m - a'<n:=by omega
       have hyn:b' - (m+1)<n:=by omega
       have HXY:=Hh (show _∧_ from⟨hx,hy⟩);have HXN:=Hh (show _∧_ from⟨hxn,hyn⟩);clear hx hy hxn hyn
       by_cases hxy:x<y
       ·have HI:=Hh (ih.out _ HXN.out.1 blk off cap a' m lim d2 W5 hR5 (by have:=HSD.out;omega) (Nat.le_refl _) ham (by have:=HSD.out;omega) (by omega) hlim ((HPQ.out.turn hb HPM.out).below.mono (by omega)));rw[HSD.out]at HI;clear hR5;go_wp2_with fail
        refine HI.out.mono ?_;rintro e W6 ⟨rfl,d3,hp3,hs3,hR6,hC7⟩;have HPQ2:=Hh (HPQ.out.left hb HPM.out HPT.out hp3 hs3);have hC8:=hC6.trans hC7 (fun _ _ e=>e);clear HI hp3 hs3 hC7 hC6 HPQ HPM HPT;go_wp2_with fail
        go_roundw
        case rel=>exact⟨m+1,b',lim,_,v,d3,by go_num,rfl,rfl,rfl,rfl,hlim,HPQ2.out,hR6,hC8⟩
        case measure=>simp[intOf];omega
       ·have HI:=Hh (ih.out _ HXN.out.2 blk off cap (m+1) b' lim d2 W5 hR5 (by have:=HSD.out;omega) (Nat.le_refl _) (by omega) (by have:=HSD.out;omega) (by omega) hlim (.inr fun i k1 k2=>by rw[Nat.add_sub_cancel];exact HPT.out.hi i (by omega) k2));rw[HSD.out,show((m+1:Nat):Int)=(m:Int)+1 by omega]at HI;clear hR5;go_wp2_with fail
        refine HI.out.mono ?_;rintro e W6 ⟨rfl,d3,hp3,hs3,hR6,hC7⟩;have HPQ2:=Hh (HPQ.out.right hb HPM.out HPT.out hp3 hs3);have hC8:=hC6.trans hC7 (fun _ _ e=>e);clear HI hp3 hs3 hC7 hC6 HPQ HPM HPT;go_wp2_with fail
        go_roundw
        case rel=>exact⟨a',m,lim,_,v,d3,rfl,rfl,rfl,rfl,rfl,hlim,HPQ2.out,hR6,hC8⟩
        case measure=>simp[intOf];omega
end
theorem pdq_all:∀n,PdqOk n:=by
 intro n
 induction n using Nat.strongRecOn with
 | ind n ih =>
  intro blk off cap a b lim d w h hsz hn hab hb h50 hlim hB;exact pdq_step blk off cap d w h hsz n (Hh fun k hk=>ih k hk) a b lim hn hab hb h50 hlim hB
open Go.RowKit Go.Sort
theorem Chg.grown{w w':World}{r:Nat}(h:Chg (· = r) w w'):w.grownBy w' (some r):=⟨h.os,h.tape,h.output,h.size,fun k hk hn=>h.block k hk (fun e=>hn (by have e':k=r:=e;rw[e']))⟩
theorem Ext.grown{w w':World}(h:Ext w w'):w.grownBy w' none:=⟨h.os,h.tape,h.output,h.size,fun _ hk _=>Ext.block h hk⟩
section
variable{ν : Type}{vv : ν → Value}
theorem qQ6.walks{K:KeyWay Int}{w w':World}{b r:Nat}{L left:List (Int × ν)}(h:qQ6 K vv w b r L left)(hk:KeepsWalks w w'):qQ6 K vv w' b r L left:=by
 obtain⟨es,clk,seen,h1,h2,h3,h4,h5⟩:=h;exact⟨es,clk,seen,hk.same b _ h1 rfl,h2,h3,hk.same r _ h4 rfl,h5⟩
theorem qQ6.iter_walk{K:KeyWay Int}{w:World}{b r:Nat}{L left:List (Int × ν)}(h:qQ6 K vv w b r L left):∃o:Obj,w.heap[r]? = some o∧o.isWalk=true:=by
 obtain⟨es,clk,seen,h1,h2,h3,h4,h5⟩:=h;exact⟨_,h4,rfl⟩
end
theorem keys1_in(F:Fence)(n:Nat)(hfn:F.fn 93)(hro:F.round=none)(hn:1≤n)(l Bm b:Nat)(L:List (Int×Nat))(J:List Int→World→Prop)
 (hY:∀pre x W,J pre W→pre.length<L.length→YieldAt F (n - 1) prog l #[eU x] W fun e W'=>e=.returned (.bool true)∧J (pre++[x]) W'∧KeepsWalks W W')
 (W:World) (hJ:AbidesFrom W.heap.size J) (hm:W.cell? ⟨Bm,0,none⟩=some (.map (some b))) (hM:qQW qXp ptrV W b L) (h0:J [] W) :
 CallsIn F n prog 93 #[.func (.yield l) #[] #[],.pointer (some ⟨Bm,0,none⟩)] W fun e W'=>(∃v,e=.returned v)∧∃ss:List Int,ss.Perm (L.map (·.1))∧J ss W':=by
 obtain⟨w0,hrun,hR,hE⟩:=hM.range qXa;have HY:=Hh hY;have HJ:=Hh hJ;clear hY hJ;refine callsIn_of_wp func93 rfl hfn ?_ hro;simp only[ntmps93,List.size_toArray,List.length_cons,List.length_nil,Nat.reduceAdd,Nat.reduceSub,Array.replicate_succ,Array.replicate_zero,List.push_toArray,List.append_toArray,List.nil_append,List.cons_append]
 gi_wp2
 have hJ0:J [] w0:=HJ.out [] W w0 none h0 hE.grown (fun r e=>by cases e);clear hrun h0 hm hM;obtain⟨r,hr⟩:∃r,r=W.heap.size:=⟨_,rfl⟩;rw[←hr]at hR⊢;have hrg:W.heap.size≤r:=by omega
 clear hr hE
 gi_loopg [3] L.length (fun k _ wr=>∃left ss,left.length=k∧(L.map (·.1)).Perm (ss++left.map (·.1))∧qQ6 qXp ptrV wr b r L left∧J ss wr)
 case atStart=>exact⟨L,[],rfl,List.Perm.refl _,hR,hJ0⟩
 case round =>
  obtain⟨left,ss,rfl,hp,hRk,hJs⟩:=hrel;clear hR hJ0;have HP:=Hh hp;clear hp;rcases hRk.next (P:=prog) 0 with⟨rfl,hrun⟩|⟨p,left',w1,hperm,hrun,hR1,hC1,hent⟩
  ·have hrun':∀ty,(Instr.next (.pointer (some ⟨r,0,none⟩)) false ty).run prog wr=.ok (.tuple #[.bool false]) wr:=fun _=>hrun
   clear hrun
   gi_wp2
   go_end0
   exact⟨⟨_,rfl⟩,ss,by have:=HP.out;simpa using this.symm,hJs⟩
  ·have hrun':∀ty,(Instr.next (.pointer (some ⟨r,0,none⟩)) false ty).run prog wr=.ok (.tuple #[.bool true,.int .u64 p.1,.pointer (some ⟨p.2,0,none⟩)]) w1:=fun _=>hrun
   have hent':(Instr.entry (.pointer (some ⟨r,0,none⟩))).run prog w1=.ok (.tuple #[.int .u64 p.1,.pointer (some ⟨p.2,0,none⟩)]) w1:=hent;clear hrun hent;have hlen:left'.length<left.length:=by have:=hperm.length_eq;simp at this;omega
   have hp2:(L.map (·.1)).Perm ((ss++[p.1])++left'.map (·.1)):=by
    refine HP.out.trans ?_;rw[List.append_assoc];exact(hperm.map _).append_left ss
   have hsl:ss.length<L.length:=by have:=hp2.length_eq;simp at this;omega
   have HP2:=Hh hp2;clear hp2 hperm HP;have hJ2:J ss w1:=HJ.out ss wr w1 (some r) hJs hC1.grown (fun r' e=>by cases e;exact⟨hrg,hRk.iter_walk⟩);obtain⟨fn,tmps,assign,body,hy,hRd⟩:=HY.out ss p.1 w1 hJ2 hsl;clear hJs hRk hC1;unfold eU at hy
   gi_wp2
   refine hRd.mono ?_;rintro e W3 ⟨rfl,hJ3,hk3⟩
   gi_wp2
   gi_roundg left'.length
   case measure=>exact hlen
   case rel=>exact⟨left',ss++[p.1],rfl,HP2.out,hR1.walks hk3,hJ3⟩
theorem keys_gives(F:Fence)(n:Nat)(hfn:F.fn 93)(hro:F.round=none)(hn:1≤n)(Bm b:Nat)(L:List (Int×Nat))(w:World)(hBm:Bm<w.heap.size)
 (hm:w.cell? ⟨Bm,0,none⟩=some (.map (some b))) (hM:qQW qXp ptrV w b L) :
 SeqGives F n prog 93 #[.pointer (some ⟨Bm,0,none⟩)] eU (fun ss=>ss.Perm (L.map (·.1))) L.length w:=fun l J W hW hJ hY h0=>by
 have hE:Ext w W:=Ext.of_below hW;exact keys1_in F n hfn hro hn l Bm b L J hY W hJ ((Ext.cell hE hBm).trans hm) (hM.ext hE) h0
theorem keysU_in(F:Fence)(n:Nat)(h7:F.fn 71)(hro:F.round=none)(mb:Option Nat)(w:World) :
 CallsIn F n prog 71 #[.map mb] w fun e w'=>e=.returned (.func (.func 93) #[] #[.pointer (some ⟨w.heap.size,0,none⟩)])∧w'=w.alloc (.cells #[.map mb] 92):=by
 refine callsIn_of_wp func71 rfl h7 ?_ hro;simp only[ntmps71,List.size_toArray,List.length_cons,List.length_nil,Nat.reduceAdd,Nat.reduceSub,Array.replicate_succ,Array.replicate_zero,List.push_toArray,List.append_toArray,List.nil_append,List.cons_append]
 gi_wp2
 go_ret
 exact⟨rfl,rfl⟩
open Go.RowKit Go.Maps Go.Sort Go.Shelf
theorem u64_info:(prog.info? 47).map (fun i=>(i.zero,i.size,i.bytes))=some (some (.int .u64 0),1,8):=by kernel_rfl
def uapAssign:Code:=(Code.region 2 #[{ dst:=some 5,op:=Op.assign (Operand.tmp 7),type:=47,pos := "iter.go:51",after:=#[],guard:=none }] false)
def uapBody:Code:=(Code.block 1 (Code.region 3 #[{ dst:=some 8,op:=Op.load 97 (Operand.tmp 2),type:=97,pos := "iter.go:52",after:=#[],guard:=none }, { dst:=some 9,op:=Op.move (Operand.tmp 5),type:=47,pos := "iter.go:52",after:=#[],guard:=none }, { dst:=some 10,op:=Op.buildSlice 97 1 #[(0,Operand.tmp 9)],type:=97,pos := "iter.go:52",after:=#[{ on:=1,ground:=Ground.data }],guard:=none }, { dst:=some 11,op:=Op.call { callee:=Callee.builtin Builtin.append,args:=#[Operand.tmp 8,Operand.tmp 10],argTypes:=#[97,97] },type:=97,pos := "iter.go:52",after:=#[{ on:=0,ground:=Ground.data }, { on:=2,ground:=Ground.data }],guard:=none }, { dst:=none,op:=Op.store 97 (Operand.tmp 2) (Operand.tmp 11),type:=0,pos := "iter.go:52",after:=#[{ on:=3,ground:=Ground.data }, { on:=3,ground:=Ground.chain }, { on:=0,ground:=Ground.phase }, { on:=1,ground:=Ground.phase }, { on:=2,ground:=Ground.phase }, { on:=3,ground:=Ground.phase }],guard:=none }] false))
def qXw(fn:FuncId)(sv:Value)(Bs D:Nat)(st:LoopState)(pend:Option Code):Loop :=
 { state:=st,pending:=pend,fn,tmps:=#[.slice none 0 0,sv,.pointer (some ⟨Bs,0,none⟩),undef,.slice none 0 0,undef,sv,undef,undef,undef,undef,undef,undef],params:=#[7],assign:=uapAssign,body:=uapBody,defers:=D }
structure uApAt (w0:World) (fn:FuncId) (sv:Value) (Bs l D:Nat) (ss:List Int) (W:World):Prop where
 box:∃v,W.heap[Bs]? = some (.cells #[v] 97 (0,0))∧W.ownsRow w0.heap.size 47 1 v ss.length (ss.map (Value.int .u64))∧(v=.slice none 0 0↔ss=[])
 L:W.heap[l]? = some (.loop (qXw fn sv Bs D .ready none))
 K:W.heap[D]? = some (.deferred (some []))
 below:Below w0.heap.size w0 W
theorem uap_abides(w0:World)(fn:FuncId)(sv:Value)(Bs l D B:Nat)(hB:w0.heap.size≤B):AbidesFrom B (uApAt w0 fn sv Bs l D):=fun s W W' row h hg hrow=>by
 have hrow':∀r,row=some r→∃o:Obj,W.heap[r]? = some o∧o.isWalk=true:=fun r e=>(hrow r e).2
 obtain⟨v,hv,hr,hn⟩:=h.box
 exact⟨⟨v,(grownBy_keeps hg hrow' hv rfl).trans hv,ownsRow_abides_a hr hg hrow',hn⟩,(grownBy_keeps hg hrow' h.L rfl).trans h.L,(grownBy_keeps hg hrow' h.K rfl).trans h.K,
  h.below.grown hg h.below.size (fun k e=>Nat.le_trans hB (hrow k e).1)⟩
theorem uapYield(F:Fence)(m:Nat)(w0:World)(fn:FuncId)(hfn:F.fn fn)(sv:Value)(Bs l D:Nat)(hBl:Bs≠l)(hDl:D≠l)(hDB:D≠Bs)(h0B:w0.heap.size≤Bs)(h0l:w0.heap.size≤l)
 (N:Nat) (hN:N≤maxLen) (hNb:N * 8≤140737488355328) (ss:List Int) (x:Int) (W:World) (h:uApAt w0 fn sv Bs l D ss W) (hlen:ss.length<N) :
 YieldAt F m prog l #[Value.int .u64 x] W fun e W'=>e=.returned (.bool true)∧uApAt w0 fn sv Bs l D (ss++[x]) W'∧KeepsWalks W W':=by
 obtain⟨i0,hi,hz0,hz1,hz2⟩:=info_parts u64_info;obtain⟨v,hv,hrow,_⟩:=h.box;refine⟨fn,#[.slice none 0 0,sv,.pointer (some ⟨Bs,0,none⟩),undef,.slice none 0 0,undef,sv,Value.int .u64 x,undef,undef,undef,undef,undef],uapAssign,uapBody,by simpa[qXw]using run_yield (P:=prog) (args:=#[Value.int .u64 x]) h.L rfl,roundIn_of_wpIn hfn ?_⟩
 have hl:l<W.heap.size:=(Array.getElem?_eq_some_iff.1 h.L).1;have hbr:=run_beginRound (P:=prog) h.L rfl;obtain⟨W2,hW2⟩:∃W2,W.putObj l (.loop { qXw fn sv Bs D .ready none with state:=.busy })=W2:=⟨_,rfl⟩;rw[hW2]at hbr;have hg2:W.grownBy W2 (some l):=by rw[←hW2];exact grownBy_putObj_a _ _ _
 have hk2:KeepsWalks W W2:=by rw[←hW2];exact KeepsWalks.putObj _ h.L rfl
 have hv2:W2.heap[Bs]? = some (.cells #[v] 97 (0,0)):=by rw[←hW2];exact(World.putObj_heap_other hBl).trans hv
 have hK2:W2.heap[D]? = some (.deferred (some [])):=by rw[←hW2];exact(World.putObj_heap_other hDl).trans h.K
 have hL2:W2.heap[l]? = some (.loop { qXw fn sv Bs D .ready none with state:=.busy }):=by rw[←hW2];exact World.putObj_heap_same hl
 have hrow2:W2.ownsRow w0.heap.size 47 1 v ss.length (ss.map (Value.int .u64)):=hrow.kept hg2 (ownsRow_ne_a hrow h.L (fun cur e=>by first|cases e|exact absurd (Obj.cells.inj e).2.1 (by decide)));have hb2:Below w0.heap.size w0 W2:=h.below.grown hg2 h.below.size (fun k e=>by cases e;exact h0l);obtain⟨hc2,hf2⟩:=cell_of_box_a hv2;have hBlt:Bs<W2.heap.size:=(Array.getElem?_eq_some_iff.1 hv2).1;have hl2:l<W2.heap.size:=(Array.getElem?_eq_some_iff.1 hL2).1;have hDlt:D<W2.heap.size:=(Array.getElem?_eq_some_iff.1 hK2).1
 have ne_of:∀ {j:Nat} {o:Obj},W2.heap[j]? = some o→(∀cur,o≠.cells cur 47 (0,0))→some j≠v.ownBlock:=fun hj hno=>by
  rcases ownsRow_ne_a hrow2 hj hno with e|e
  ·rw[e];simp
  ·exact fun e'=>e e'.symm
 clear hW2;unfold uapAssign
 gi_wp2_with gi_round_op_a
 unfold uapBody
 gi_wp2_with (first
  | (gi_at_builtin;refine wpListIn_append_own _ rfl _ _ 97 rfl w0.heap.size 47 i0 (.int .u64 0) 1 8 underlying97 hi hz0 hz1 hz2 rfl (by decide) _ _ _ rfl (hrow2.alloc _) ⟨W2.heap.size,0,none⟩ 1 1 [Value.int .u64 x] rfl rfl (cell_one_new _ _ _) (by simp[Value.oneCell']) (by omega) (by omega) (by have:=hb2.size;simp;omega) ?_;intro v' w3 hown' hg3 hnil3
     have hv3:w3.heap[Bs]? = some (.cells #[v] 97 (0,0)):=(hg3.block Bs (by simp;omega) (ne_of hv2 (fun cur e=>by first|cases e|exact absurd (Obj.cells.inj e).2.1 (by decide)))).trans ((Below.heap_alloc _ _ Bs hBlt).trans hv2);obtain⟨hc3,hf3⟩:=cell_of_box_a hv3
     obtain⟨g',cap',cur',rfl,hbase',hgb',hr1,hr2,hr3,hr4⟩:∃g' cap' cur',v'=.slice (some ⟨g',0,none⟩) (ss.length+1) cap'∧w0.heap.size≤g'∧w3.heap[g']? = some (.cells cur' 47 (0,0))∧ss.length+1≤cap'∧cap'≤maxLen∧cur'.size=cap' * 1∧cur'.toList.take ((ss.length+1) * 1)=ss.map (Value.int .u64)++[Value.int .u64 x]:=by
      rcases hown'.2 with⟨_,h0⟩|h'
      ·exact absurd h0 (by omega)
      ·exact h'
     go_frame)
  | gi_round_op_a)
 have hg3':(W2.alloc (.cells #[Value.int .u64 x] 47)).grownBy w3 v.ownBlock:=hg3;have hL3:w3.heap[l]? = some (.loop { qXw fn sv Bs D .ready none with state:=.busy }):=(hg3'.block l (by simp;omega) (ne_of hL2 (fun cur e=>by first|cases e|exact absurd (Obj.cells.inj e).2.1 (by decide)))).trans ((Below.heap_alloc _ _ l hl2).trans hL2);have hK3:w3.heap[D]? = some (.deferred (some [])):=(hg3'.block D (by simp;omega) (ne_of hK2 (fun cur e=>by first|cases e|exact absurd (Obj.cells.inj e).2.1 (by decide)))).trans ((Below.heap_alloc _ _ D hDlt).trans hK2);obtain⟨w4,hw4⟩:∃w4,w3.setCell ⟨Bs,0,none⟩ (.slice (some ⟨g',0,none⟩) (ss.length+1) cap')=w4:=⟨_,rfl⟩;rw[hw4];have hg4:w3.grownBy w4 (some Bs):=by rw[←hw4];exact grownBy_setCell0_a _ _ _
 have hv4:w4.heap[Bs]? = some (.cells #[.slice (some ⟨g',0,none⟩) (ss.length+1) cap'] 97 (0,0)):=by rw[←hw4];exact heap_setCell_box_a _ hv3
 have hL4:w4.heap[l]? = some (.loop { qXw fn sv Bs D .ready none with state:=.busy }):=(hg4.block l (Array.getElem?_eq_some_iff.1 hL3).1 (fun e=>hBl (by cases e;rfl))).trans hL3;have hK4:w4.heap[D]? = some (.deferred (some [])):=(hg4.block D (Array.getElem?_eq_some_iff.1 hK3).1 (fun e=>hDB (by cases e;rfl))).trans hK3;have hrow4:=hown'.kept hg4 (ownsRow_ne_a hown' hv3 (fun cur e=>by first|cases e|exact absurd (Obj.cells.inj e).2.1 (by decide)));have hl4:l<w4.heap.size:=(Array.getElem?_eq_some_iff.1 hL4).1;have hb3:Below w0.heap.size w0 w3:=(hb2.alloc hb2.size _).grown hg3' (by have:=hb2.size;simp;omega) (fun k e=>(hrow2.lt k e).1);have hb4:Below w0.heap.size w0 w4:=hb3.grown hg4 hb3.size (fun k e=>by cases e;exact h0B);have hk4:KeepsWalks W w4:=((hk2.trans (KeepsWalks.alloc _ _)).trans (KeepsWalks.of_grownBy hg3' (ownsRow_not_walk_a (hrow2.alloc _)))).trans (by rw[←hw4];exact KeepsWalks.setCell _ _ _);clear hw4;refine⟨_,_,run_endRound none hL4,rfl,⟨⟨_,(World.putObj_heap_other hBl).trans hv4,?_,by simp⟩,World.putObj_heap_same hl4,(World.putObj_heap_other hDl).trans hK4,hb4.grown (grownBy_putObj_a _ _ _) hb4.size (fun k e=>by cases e;exact h0l)⟩,hk4.trans (KeepsWalks.putObj _ hL4 rfl)⟩
 have:=hrow4.kept (grownBy_putObj_a w4 l (.loop { { qXw fn sv Bs D .ready none with state:=.busy } with state:=if(none:Option Code).isNone then .ready else .done,pending:=none })) (ownsRow_ne_a hrow4 hL4 (fun cur e=>by first|cases e|exact absurd (Obj.cells.inj e).2.1 (by decide)))
 simpa using this
theorem uappendSeq_in(F:Fence)(n:Nat)(h11:F.fn 114)(hro:F.round=none)(hn:2≤n)(g:Nat)(lb:Array Value)(hFg:F.fn g)(eg:∀args w,(callFunc g args).run prog w=.ok (.enter g args) w)
 (S:List Int→Prop) (N:Nat) (hN:N≤maxLen) (hNb:N * 8≤140737488355328) (w:World) (hseq:SeqGives F (n - 1) prog g lb (Value.int .u64) S N w) :
 CallsIn F n prog 114 #[.slice none 0 0,.func (.func g) #[] lb] w fun e w'=>∃(v:Value) (ss:List Int),e=.returned v∧S ss∧w'.ownsRow w.heap.size 47 1 v ss.length (ss.map (Value.int .u64))∧(v=.slice none 0 0↔ss=[])∧Below w.heap.size w w':=by
 have h1:1≤n:=by omega
 refine callsIn_of_wp_marks func114 rfl h11 ?_ hro;simp only[ntmps114,List.size_toArray,List.length_cons,List.length_nil,Nat.reduceAdd,Nat.reduceSub,Array.replicate_succ,Array.replicate_zero,List.push_toArray,List.append_toArray,List.nil_append,List.cons_append]
 gi_wp2
 refine wpIn_rangeFunc ?_;intro fn hfn;rw[hro];obtain⟨W0,hW0⟩:∃W0,w.alloc (.cells #[.slice none 0 0] 97)=W0:=⟨_,rfl⟩;have hs0:W0.heap.size=w.heap.size+1:=by rw[←hW0];simp
 have hv0:W0.heap[w.heap.size]? = some (.cells #[.slice none 0 0] 97 (0,0)):=by rw[←hW0];exact World.alloc_heap_new w _
 have hb0:Below w.heap.size w W0:=by rw[←hW0];exact(Below.refl _ w).alloc (Nat.le_refl _) _
 rw[hW0];obtain⟨W1,hW1⟩:∃W1,(W0.alloc (.deferred (some []))).alloc (.loop (qXw fn (.func (.func g) #[] lb) w.heap.size W0.heap.size .ready none))=W1:=⟨_,rfl⟩
 have hold:∀k,k<W0.heap.size→W1.heap[k]? = W0.heap[k]? := fun k hk=>by
  rw[←hW1];exact(Below.heap_alloc _ _ k (by simp;omega)).trans (Below.heap_alloc _ _ k hk)
 have hb1:Below w.heap.size w W1:=by rw[←hW1];exact(hb0.alloc hb0.size _).alloc (by have:=hb0.size;simp;omega) _
 have hs1:W1.heap.size=W0.heap.size+2:=by rw[←hW1];simp
 have hM:uApAt w fn (.func (.func g) #[] lb) w.heap.size (W0.heap.size+1) W0.heap.size [] W1 :=
  ⟨⟨_,(hold w.heap.size (by omega)).trans hv0,⟨rfl,.inl ⟨rfl,rfl⟩⟩,by simp⟩,
   by rw[←hW1];have:=World.alloc_heap_new (W0.alloc (.deferred (some []))) (.loop (qXw fn (.func (.func g) #[] lb) w.heap.size W0.heap.size .ready none));rwa[World.size_alloc]at this,
   by rw[←hW1];exact(Below.heap_alloc _ _ _ (by simp)).trans (World.alloc_heap_new W0 _),hb1⟩
 refine⟨W0.heap.size+1,[{ target:=.collected W0.heap.size,args:=#[] }],W1, { target:=.fn (.func g) lb,args:=#[.func (.yield (W0.heap.size+1)) #[] #[]] },W1,g,
  #[.func (.yield (W0.heap.size+1)) #[] #[]]++lb,W1,?_,?_,?_,?_,fun _=>h1,?_⟩
 ·rw[←hW1];exact run_enterLoop_outer _ _ _ _ _
 ·simp[resolve,go_sem]
 ·intro f' hf';simp[Target.leads]at hf';subst hf';exact hFg
 ·simp[invoke,go_sem,eg]
 ·refine(hseq (W0.heap.size+1) (uApAt w fn (.func (.func g) #[] lb) w.heap.size (W0.heap.size+1) W0.heap.size) W1 hb1 (uap_abides _ _ _ _ _ _ _ hb1.size)
   (fun pre x W hJ hl=>uapYield F (n - 1 - 1) w fn hfn _ w.heap.size (W0.heap.size+1) W0.heap.size (by omega) (by omega) (by omega) (Nat.le_refl _) (by omega) N hN hNb pre x W hJ hl) hM).mono ?_
  rintro e W2 ⟨⟨v0,rfl⟩,ss,hS,h2⟩;obtain⟨v,hv,hrow,hnil⟩:=h2.box;have hend:=run_endLoop (P:=prog) h2.L (by simp[qXw]);obtain⟨W3,hW3⟩:∃W3,W2.putObj (W0.heap.size+1) (.loop { qXw fn (.func (.func g) #[] lb) w.heap.size W0.heap.size .ready none with state:=.exhausted })=W3:=⟨_,rfl⟩;rw[hW3]at hend;have hg3:W2.grownBy W3 (some (W0.heap.size+1)):=by rw[←hW3];exact grownBy_putObj_a _ _ _
  have hv3:W3.heap[w.heap.size]? = some (.cells #[v] 97 (0,0)):=by rw[←hW3];exact(World.putObj_heap_other (by omega)).trans hv
  have hK3:W3.heap[W0.heap.size]? = some (.deferred (some [])):=by rw[←hW3];exact(World.putObj_heap_other (by omega)).trans h2.K
  have hrow3:=hrow.kept hg3 (ownsRow_ne_a hrow h2.L (fun cur e=>by first|cases e|exact absurd (Obj.cells.inj e).2.1 (by decide)));have hb3:Below w.heap.size w W3:=h2.below.grown hg3 h2.below.size (fun k e=>by cases e;omega);obtain⟨hc3,hf3⟩:=cell_of_box_a hv3;clear hW3;refine⟨none,W3,hend,?_⟩
  gi_wp2
  rw[←hs0];refine⟨by simp,.inl ⟨_,_,rfl,run_takeDeferred hK3,?_⟩⟩
  exact⟨_,results_tmp rfl _ _ _,v,ss,rfl,hS,hrow3.kept (grownBy_putObj_a _ _ _) (ownsRow_ne_a hrow3 hK3 (fun cur e=>by first|cases e|exact absurd (Obj.cells.inj e).2.1 (by decide))),hnil,hb3.grown (grownBy_putObj_a _ _ _) hb3.size (fun k e=>by cases e;omega)⟩
theorem ucollect_in(F:Fence)(n:Nat)(h8:F.fn 91)(h11:F.fn 114)(hro:F.round=none)(hn:3≤n)(g:Nat)(lb:Array Value)(hFg:F.fn g)(eg:∀args w,(callFunc g args).run prog w=.ok (.enter g args) w)
 (S:List Int→Prop) (N:Nat) (hN:N≤maxLen) (hNb:N * 8≤140737488355328) (w:World) (hseq:SeqGives F (n - 1 - 1) prog g lb (Value.int .u64) S N w) :
 CallsIn F n prog 91 #[.func (.func g) #[] lb] w fun e w'=>∃(v:Value) (ss:List Int),e=.returned v∧S ss∧w'.ownsRow w.heap.size 47 1 v ss.length (ss.map (Value.int .u64))∧(v=.slice none 0 0↔ss=[])∧Below w.heap.size w w':=by
 have h1:1≤n:=by omega
 refine callsIn_of_wp func91 rfl h8 ?_ hro;simp only[ntmps91,List.size_toArray,List.length_cons,List.length_nil,Nat.reduceAdd,Nat.reduceSub,Array.replicate_succ,Array.replicate_zero,List.push_toArray,List.append_toArray,List.nil_append,List.cons_append]
 gi_wp2_with (gi_at_call 114;refine(uappendSeq_in F (n - 1) h11 hro (by omega) g lb hFg eg S N hN hNb _ hseq).mono ?_;rintro e w' ⟨v,ss,rfl,hS,hrow,hnil,hb⟩)
 go_ret
 exact⟨v,ss,rfl,hS,hrow,hnil,hb⟩
open Go.RowKit Go.Sort
theorem sorted_list{d d':Array Int}{ids:List Int}(hp:PermIn 0 d.size d d')(hs:SortedIn ltInt 0 d.size d')(hi:ids.Pairwise (· < ·))(hq:ids.Perm d.toList):d'.toList=ids:=by
 have hsz:=hp.1
 have h1:d'.toList.Perm d.toList:=by
  have:=hp.2.2
  rw[Array.extract_size]at this;rw[show d'.extract 0 d.size=d' by rw[←hsz,Array.extract_size]]at this;exact this
 have h2:d'.toList.Pairwise (fun x y=>x≤y):=by
  rw[List.pairwise_iff_getElem];intro i j hi' hj hij
  have:=hs i j (Nat.zero_le _) hij (by rw[←hsz];simpa using hj)
  rw[getElem!_pos d' i (by simpa using hi'),getElem!_pos d' j (by simpa using hj)]at this;unfold ltInt at this;simp only[decide_eq_false_iff_not]at this;simp only[Array.getElem_toList];omega
 exact List.Perm.eq_of_pairwise (le:=fun x y=>x≤y) (fun a b _ _ h h'=>by omega) h2 (hi.imp fun h=>by omega) (h1.trans hq.symm)
theorem insu_nil(p:Option Addr)(cap:Nat)(w:World):Calls prog 133 #[.slice p 0 cap,.int .i64 0,.int .i64 0] w fun e w'=>e=.returned (.tuple #[])∧w'=w:=by
 go_enter func133,ntmps133
 go_wp2_with fail
 refine wp_loop_rounds 1 ?_;rw[rounds_succ];go_wp2_with fail
 go_end0
 exact⟨rfl,rfl⟩
theorem pdq_nil(p:Option Addr)(cap:Nat)(w:World):Calls prog 115 #[.slice p 0 cap,.int .i64 0,.int .i64 0,.int .i64 0] w fun e w'=>e=.returned (.tuple #[])∧w'=w:=by
 go_enter func115,ntmps115
 go_wp2_with fail
 refine wp_loop_rounds 1 ?_;rw[rounds_succ];go_wp2_with fail
 refine(insu_nil p cap w).mono ?_
 rintro e w' ⟨rfl,rfl⟩;go_wp2_with fail
 exact bodyPost_ret (v:=.tuple #[]) (by simp[results,results115,go_sem]) rfl ⟨rfl,rfl⟩
theorem sortu_nil(p:Option Addr)(cap:Nat)(w:World):Calls prog 92 #[.slice p 0 cap] w fun e w'=>e=.returned (.tuple #[])∧w'=w:=by
 have HL:=Hh (Tryz.bits_Len 0 w (by omega) (by omega));rw[show Lib.bitLen (0:Int).toNat=0 by decide +kernel]at HL
 go_enter func92,ntmps92
 go_wp2_with fail
 refine HL.out.mono ?_;rintro e w' ⟨rfl,rfl⟩;go_wp2_with fail
 refine(pdq_nil p cap _).mono ?_
 rintro e w' ⟨rfl,rfl⟩;go_wp2_with fail
 go_end0
 exact⟨rfl,rfl⟩
theorem own_baseU{w:World}{b1 b2:Nat}{e:TypeId}{s:Nat}{v:Value}{n:Nat}{xs:List Value}(h:w.ownsRow b1 e s v n xs)(hb:b2≤b1):w.ownsRow b2 e s v n xs:=by
 refine⟨h.1,?_⟩
 rcases h.2 with hn|⟨g,cap,cur,hv,hbg,rest⟩
 ·exact .inl hn
 ·exact .inr ⟨g,cap,cur,hv,Nat.le_trans hb hbg,rest⟩
theorem bitLen_lt{n:Nat}(h:n<50):Lib.bitLen n<100:=by
 have:=Lib.bitLen_le n 6 (by omega) (by omega)
 omega
theorem sortu_any(blk cap:Nat)(d:Array Int)(w:World)(h:RU w blk 0 cap d)(h50:d.size<50):Calls prog 92 #[.slice (some ⟨blk,0,none⟩) d.size cap] w fun e w' =>
 e=.returned (.tuple #[])∧∃d',PermIn 0 d.size d d'∧SortedIn ltInt 0 d.size d'∧RU w' blk 0 cap d'∧Chg (· = blk) w w':=by
 have HL:=Hh (Tryz.bits_Len (d.size:Int) w (by omega) (by omega));rw[Int.toNat_natCast]at HL;have HP:=Hh (pdq_all d.size blk 0 cap 0 d.size (Lib.bitLen d.size) d w h (by omega) (by omega) (Nat.zero_le _) (Nat.le_refl _) (by omega) (bitLen_lt h50) (.inl rfl));generalize Lib.bitLen d.size=bl at *
 go_enter func92,ntmps92
 clear h;go_wp2_with fail
 refine HL.out.mono ?_;rintro e w' ⟨rfl,rfl⟩;go_wp2_with fail
 refine HP.out.mono ?_;rintro e w2 ⟨rfl,d',h1,h2,h3,h4⟩;have H:=Hh (show _∧_∧_∧_ from⟨h1,h2,h3,h4⟩);clear h1 h2 h3 h4;go_wp2_with fail
 go_end0
 exact⟨rfl,d',H.out⟩
theorem sortedu_any(Bm b:Nat)(L:List (Int×Nat))(ids:List Int)(w:World)(hm:w.cell? ⟨Bm,0,none⟩=some (.map (some b)))(hM:qQW qXp ptrV w b L)(hi:ids.Pairwise (· < ·))(hp:ids.Perm (L.map (·.1)))(h50:ids.length<50) :
 Calls prog 70 #[.func (.func 93) #[] #[.pointer (some ⟨Bm,0,none⟩)]] w fun e w'=>∃v,e=.returned v ∧
  w'.ownsRow w.heap.size 47 1 v ids.length (ids.map (Value.int .u64))∧Ext w w':=by
 have hlL:L.length<50:=by have:=hp.length_eq;simp at this;omega
 have hseq:SeqGives Fence.wide (3 - 1 - 1) prog 93 #[.pointer (some ⟨Bm,0,none⟩)] (Value.int .u64) (fun ss:List Int=>ss.Perm (L.map (fun p:Int×Nat=>p.1))) L.length w:=keys_gives Fence.wide 1 trivial rfl (Nat.le_refl _) Bm b L w (qQv hm) hm hM;have HC:=Hh (callsIn_wide.1 (ucollect_in Fence.wide 3 trivial trivial rfl (Nat.le_refl _) _ #[.pointer (some ⟨Bm,0,none⟩)] trivial (enters_of func93 (by kernel_rfl) rfl) (fun ss:List Int=>ss.Perm (L.map (fun p:Int×Nat=>p.1))) L.length (by unfold maxLen;omega) (by omega) w hseq));clear hm hM hseq
 go_enter func70,ntmps70
 go_wp2_with fail
 refine HC.out.mono ?_;rintro e w1 ⟨v,ss,rfl,hS,hO,hnil,hb⟩;have hE:=Ext.of_below hb;have HS:=Hh hS;have hsl:ss.length=ids.length:=by rw[hS.length_eq,hp.length_eq]
 have HSL:=Hh hsl;have HNIL:=Hh hnil;clear hS hb hsl HC hnil;rcases hO.2 with⟨rfl,hz⟩|⟨gb,cap,cur,rfl,hbase,hgb,r1,r2,r3,r4⟩
 ·have hss:ss=[]:=List.eq_nil_of_length_eq_zero hz;subst hss;have hid:ids=[]:=List.eq_nil_of_length_eq_zero HSL.out.symm;subst hid;go_wp2_with fail
  refine(sortu_nil none 0 w1).mono ?_
  rintro e w' ⟨rfl,rfl⟩;go_wp2_with fail
  go_ret
  exact⟨_,rfl,hO,hE⟩
 ·have hR:RU w1 gb 0 cap ss.toArray:=by
   refine⟨rfl,?_⟩
   have e1:ss.toArray.size=ss.length:=by simp
   have e2:ss.toArray.toList.map eU=ss.map (Value.int .u64):=rfl;rw[e1,e2];have hO':=hO;refine⟨hO'.1,?_⟩
   exact .inr ⟨gb,cap,cur,rfl,Nat.zero_le _,hgb,r1,r2,r3,r4⟩
  have HP:=Hh (sortu_any gb cap ss.toArray w1 hR (by have:=HSL.out;simp;omega));rw[show ss.toArray.size=ss.length by simp]at HP;clear r1 r2 r3 r4 hgb hR hO;go_wp2_with fail
  refine HP.out.mono ?_;rintro e w2 ⟨rfl,d',h1,h2,h3,h4⟩;have hfin:d'.toList=ids:=sorted_list (d:=ss.toArray) (by simpa using h1) (by simpa using h2) hi (hp.trans HS.out.symm);have hsz:d'.size=ids.length:=by rw[←hfin];simp
  have hown:=h3.own;rw[hfin,hsz]at hown;have hE2:Ext w w2:=Chg.mono (hE.chg_trans h4) (fun k hk e=>by have e':k=gb:=e;omega);have hsl:=HSL.out
  have HO:Hid (w2.ownsRow w.heap.size 47 1 (.slice (some ⟨gb,0,none⟩) ss.length cap) ids.length (ids.map (Value.int .u64))):=Hh (by
   rw[hsl];refine⟨hown.1,?_⟩
   rcases hown.2 with⟨h0,_⟩|⟨g',c',cur',e',_,q⟩
   ·cases h0
   ·injection e' with e1 e2 e3;injection e1 with e1;injection e1 with e1 _ _;subst e1;subst e3;exact .inr ⟨gb,cap,cur',rfl,hbase,q⟩)
  clear hfin hsz hown h1 h2 h3 h4 hsl HP;go_wp2_with fail
  go_ret
  exact⟨_,rfl,HO.out,hE2⟩
theorem ids_any(w:World)(B:Nat→Prop)(c mb mn:Nat)(C:Ct)(h:CtAt w B c mb mn C)(ids:List Int)(hi:ids.Pairwise (· < ·))(hp:ids.Perm (C.idx.map (·.1)))(h50:ids.length<50) :
 Calls prog 34 #[.pointer (some ⟨c,0,none⟩)] w fun e w'=>∃v,e=.returned v∧w'.ownsRow w.heap.size 47 1 v ids.length (ids.map (Value.int .u64))∧Ext w w':=by
 obtain⟨c0,c1⟩:=h.c0;have HK:=Hh (callsIn_wide.1 (keysU_in Fence.wide 1 trivial rfl (some mb) w));have hX:=At.new w 92 #[.map (some mb)];have hE:=(Er w).alloc (.cells #[.map (some mb)] 92);have HS:=Hh (sortedu_any w.heap.size mb C.idx ids (w.alloc (.cells #[.map (some mb)] 92)) (hX.cell 0) (h.bm.ext hE) hi hp h50)
 go_enter func34,ntmps34
 clear hi hp h50 h;go_wp2_with fail
 refine HK.out.mono ?_;rintro e w1 ⟨rfl,rfl⟩;go_wp2_with fail
 refine HS.out.mono ?_;rintro e w2 ⟨v,rfl,hO,hE2⟩;have HO:=Hh (own_baseU hO (show w.heap.size≤_ by simp));have hE3:=hE.trans hE2;clear hO hE2 hE hX;go_wp2_with fail
 go_ret
 exact⟨v,rfl,HO.out,hE3⟩
end Go.Proofs.YtiojjokfeknhcaaGreat
