/-
  Part 52 of what the law leans on.
-/
import Derived.Test.YtkkbfdencgdbhaaGreatDoorSA1
import Derived.Test.YtkkbfdencgdbhaaGreatDoorSA4
import Derived.Test.YtkkbfdencgdbhaaGreatDoorRows
import Derived.WalkKit
import Derived.ProofKit
import Derived.OpenShut
import Derived.ShutString
import Derived.LaidMore
import Derived.Lib.LaidTab
import Derived.Stop.LaidErr
import Derived.Stop.Joined
import Derived.MakeChecks
set_option linter.unusedVariables false
set_option linter.unusedSimpArgs false
set_option linter.unusedSectionVars false
namespace Go.Proofs.YtkkbfdencgdbhaaGreatDoor
open Go.ChangeShapes Go.WideShapes Go.ChangeAt Go.RowKit
theorem own:ownKnob Tryz.prog.godebug=none:=by kernel_rfl
section
variable{H:Type}{enc:TypeId×Value→H}{P:Program}{W W':World}
theorem trodAll_stays(hl:laidOutB P=true)(hb:Below W.heap.size W W'):∀(ts:List TypeId) (vs:List Value) (ds:List (DataW H)) (p:List MemPlace),
 (∀t∈ts,P.readableRec t=true∧t<P.types.size)→(∀x∈p,x.block<W.heap.size) →
 DataW.TrodAll enc P W 0 (fun _=>true) true ts vs ds p→DataW.TrodAll enc P W' 0 (fun b=>decide (b<W.heap.size)) true ts vs ds p
 | [],vs,ds,p,_,_,h=>by
  obtain⟨rfl,rfl,rfl⟩:vs=[]∧ds=[]∧p=[]:=trodAll_nil h
  exact trodAll_mk0
 | t::ts,vs,ds,p,ht,hp,h=>by
  obtain⟨v,vs',d,ds',p0,q0,rfl,rfl,rfl,h0,r0⟩:=trodAll_cons h
  have h1:=ht t (List.mem_cons_self ..)
  exact trodAll_cons_mk (Below.trod hl h1.1 h1.2 h0 hb (fun x hx=>hp x (List.mem_append_left _ hx)))
   (trodAll_stays hl hb ts vs' ds' q0 (fun t h=>ht t (List.mem_cons_of_mem _ h)) (fun x hx=>hp x (List.mem_append_right _ hx)) r0)
theorem law_post{f:Func}{s:ChangeSpec}{args:Array Value}{ds:List (DataW H)}{before:List MemPlace}{T:TypeId}
 (hW:DataW.Whole enc P f.params.toList s.vars false W args.toList ds [] before) (hvars:s.vars=[])
 (hspec:s.fn H (ds++[]) = { results:=[.lit (.bool true)],args:=ds }) (hrt:f.resultTypes=#[T]) (hT:P.underlying T=some .bool)
 (hl:laidOutB P=true) (hpar:(f.params.toList.all fun t=>P.readableRec t&&decide (t<P.types.size))=true) (hb:Below W.heap.size W W') :
 s.post enc P f false true false false W args (.bool true) W':=by
 have hlt:∀p∈before,p.block<W.heap.size:=fun p hp=>hW.lt p hp
 have hpar':∀t∈f.params.toList,P.readableRec t=true∧t<P.types.size:=fun t h=>by
  have:=List.all_eq_true.1 hpar t h
  simpa using this
 have hW0:=hW
 obtain⟨p,q,hA,hV,rfl,_,_⟩:=hW
 rw[hvars]at hV
 obtain⟨_,rfl⟩:=trodVars_none hV
 have hA':=trodAll_stays hl hb _ _ _ _ hpar' (fun x hx=>hlt x (List.mem_append_left _ hx)) hA
 refine⟨ds,[],p++[],[],p,[],hW0,?_,?_,?_,hb.frame _,fun h=>by cases h⟩
 ·rw[hspec,hrt]
  exact trodAll_cons_mk (shut_bool hT _) trodAll_mk0
 ·rw[hspec];exact hA'
 ·rw[hspec,hvars];exact rfl
end
end Go.Proofs.YtkkbfdencgdbhaaGreatDoor
namespace Go.Proofs.YtkkbfdencgdbhaaGreatDoor
open Go.ChangeShapes Go.WideShapes Go.ChangeAt Go.RowKit
abbrev laidL:List (String×DataW Unit):=[("math/bits.deBruijn32tab",Rows.laid_math_bits_deBruijn32tab),("math/bits.deBruijn64tab",Rows.laid_math_bits_deBruijn64tab),("internal/strconv.uint64pow10",Rows.laid_internal_strconv_uint64pow10),("glacier/seal.steps",Rows.laid_glacier_seal_steps)]
theorem g_steps:Tryz.prog.globalNamed "glacier/seal.steps" = some 0:=by kernel_rfl
theorem tab_of_laid{W:World}(h:laidMetH Tryz.prog laidL W):Tab W:=by
 rw[MakeChecks.laidMetH_plain _ _ _ (by kernel_rfl)]at h
 have h4:laidMet Tryz.prog [("glacier/seal.steps",Lib.tabData .u32 (crcT.map fun x:Nat=>(x:Int)))] W:=h.tail.tail.tail
 have h5:=Lib.tabIs_of_head (P:=Tryz.prog) (t:=126) (e:=31) (n:=16) g_steps (by kernel_rfl) Tryz.underlying126 Tryz.underlying31 (by kernel_rfl) (by kernel_rfl) h4
 intro i hi
 have:=h5.cell g_steps i (by rw[List.length_map];exact hi)
 rw[this]
 congr 2
 rw[List.getD_eq_getElem?_getD,List.getD_eq_getElem?_getD,List.getElem?_map]
 cases crcT[i]? <;> rfl
theorem door_met(os:Os)(args:Array Value):laidMetH Tryz.prog laidL ((World.doorLaid Tryz.prog 400 os).forCall (fun _ _=>0) ⟨#[],args,[]⟩).memory :=
 laidMetH_of_parts3 (fuel:=8) (laidMet_of_run' 8 (by kernel_rfl) (by kernel_rfl)) (by kernel_rfl) (by kernel_rfl)
end Go.Proofs.YtkkbfdencgdbhaaGreatDoor
