/-
  Part 12 of what the law leans on.
-/
import Derived.Test.YtkkbfdencgdbhaaGreatDoorSA1
import Derived.Test.YtkkbfdencgdbhaaGreatDoorSA2
import Derived.Shelf.SlIter.Nil
import Derived.Shelf.SortM.Plain
import Derived.Shelf.SortM.SortNone
set_option linter.unusedVariables false
set_option linter.unusedSimpArgs false
set_option linter.unusedSectionVars false
namespace Go.Proofs.YtkkbfdencgdbhaaGreatDoor
open Go.RowKit Go.MapKept Go.Sort
section
variable{P:Program}{k:TypeId}{ν : Type}{vv : ν → Value}{w:World}{b:Nat}{L:List (ByteArray × ν)}
theorem own_of_map(h:MapAt strWay vv w b L)(hk:P.underlying k=some .string)(hsz:L.length≤maxLen)(hkeys:∀p∈L,p.1.size≤maxLen) :
 ∃D:DataW Unit,w.ownsMap P k (fun _=>some (.nil,[])) b L.length D∧(strKeys D).Perm (L.map (·.1.data.toList))∧Maps.size D=L.length:=by
 obtain⟨es,clk,hb,hs,hp⟩:=h
 have hl:es.size=L.length:=by have:=hp.length_eq;simpa using this
 have hkey:∀x∈es.toList,∃s:ByteArray,x.key=.string s∧s.size≤maxLen:=by
  intro x hx
  have:=hp.mem_iff.1 (List.mem_map.2 ⟨x,hx,rfl⟩)
  obtain⟨p,hpm,e⟩:=List.mem_map.1 this
  exact⟨p.1,(congrArg Prod.fst e).symm,hkeys p hpm⟩
 have hrd:∀x∈es.toList,∃s:ByteArray,x.key=.string s∧WideElems.rd (H:=Unit) P k (fun _=>some (.nil,[])) x=some (.string s.data.toList,.nil):=by
  intro x hx
  obtain⟨s,e,hsz⟩:=hkey x hx
  refine⟨s,e,?_⟩
  unfold WideElems.rd
  rw[e,WideMaps.keyOf_string_mk hk hsz]
  rfl
 refine⟨_,⟨es,clk,hb,⟨by omega,hs,fun x hx=>?_⟩,by omega,rfl⟩,?_,?_⟩
 ·obtain⟨s,_,hr⟩:=hrd x hx
  exact⟨_,hr⟩
 ·unfold strKeys
  refine((WideShapes.sorted_perm _).map _).trans ?_
  rw[List.map_map]
  have e1:es.toList.map ((fun p=>strOf p.1) ∘ WideElems.rg (H:=Unit) P k fun _=>some (.nil,[]))=(es.toList.map fun e=>(e.key,e.val)).map fun q=>(match q.1 with | .string s=>s.data.toList|_=>[]):=by
   rw[List.map_map]
   refine List.map_congr_left fun x hx=>?_
   obtain⟨s,e,hr⟩:=hrd x hx
   simp only[Function.comp,WideElems.rg,hr,Option.getD_some,strOf,e]
  rw[e1]
  refine(hp.map _).trans ?_
  rw[List.map_map]
  exact List.Perm.of_eq (List.map_congr_left fun p _=>rfl)
 ·rw[Maps.size_eq,(WideShapes.sorted_perm _).length_eq];simpa using hl
end
theorem mergeSort_rises{ν : Type}{L:List (ByteArray × ν)}(hr:Rises blt L){ss:List (List UInt8)}(hp:ss.Perm (L.map (·.1.data.toList))) :
 (ss.mergeSort fun x y=>decide (x≤y)).map encStr=L.map fun p=>Value.string p.1:=by
 have hs:(ss.mergeSort fun x y=>decide (x≤y))=L.map (·.1.data.toList):=by
  have h1:(ss.mergeSort fun x y=>decide (x≤y)).Pairwise (fun x y=>x≤y):=by
   have:=List.pairwise_mergeSort (le:=fun(x y:List UInt8)=>decide (x≤y)) (fun a b c h h'=>by
    simp only[decide_eq_true_eq]at *;exact List.le_trans h h') (fun a b=>by
    simp only[Bool.or_eq_true,decide_eq_true_eq];exact List.le_total a b) ss
   exact this.imp fun h=>by simpa using h
  have h2:(L.map (·.1.data.toList)).Pairwise (fun(x y:List UInt8)=>x≤y):=by
   refine List.pairwise_map.2 (hr.imp fun {a b} h=>?_)
   simp only[blt,decide_eq_true_eq]at h
   exact List.le_of_lt h
  exact List.Perm.eq_of_pairwise (le:=fun(x y:List UInt8)=>x≤y) (fun a b _ _ h h'=>List.le_antisymm h h') h1 h2 ((List.mergeSort_perm _ _).trans hp)
 rw[hs,List.map_map]
 refine List.map_congr_left fun p _=>?_
 simp[encStr]
end Go.Proofs.YtkkbfdencgdbhaaGreatDoor
