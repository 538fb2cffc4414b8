/-
  SessionBack answers true for every input: a machine goes as bytes, and comes back; what comes of commands then is the same. No condition.
-/
import Derived.Test.YtimjipcplmnpbaaGreatS18
import Derived.SizedLaws
namespace Go.Proofs.YtimjipcplmnpbaaGreat.sessionBack
set_option maxRecDepth 100000
set_option maxHeartbeats 8000000
set_option linter.unusedVariables false
set_option linter.unusedSimpArgs false
set_option linter.unusedSectionVars false
open _root_.Go.Proofs.Tryz
open Go.ChangeShapes Go.WideShapes Go.ChangeAt Go.RowKit
open Go.ChangeMaps (open_string shut_string)
theorem lifted(os:Os)(started:os.Started)(H:Type)(enc:TypeId×Value→H) :
 ReturnsInHanded {} Tryz.checked os 8 .any (Rows.sessionBackSpec.pre6 enc prog Tryz.f8 Rows.sessionBackRow.domain false) (Rows.sessionBackSpec.post enc prog Tryz.f8 false true false false):=by
 refine returnsInHanded_of_change_sized (C:=Tryz.checked) own started (by kernel_rfl) func8
  (ChangeSpec.witness6 (enc:=enc) (C:=Tryz.checked) false ⟨#[],#[.slice none 0 0,.slice none 0 0],[]⟩ 8 (by kernel_rfl) (by kernel_rfl) (by kernel_rfl) (by kernel_rfl)) ?_
 intro W base args ds gs before hval0 hW _ hsz0 _;have hval:∀(j:Nat) t v,Tryz.f8.params[j]? = some t→args[j]? = some v→Value.okWide prog W .any base t v:=hval0;have hsz:(DataW.weightsEach prog (Tryz.f8.params.toList++Rows.sessionBackSpec.plain.varTypes prog) (ds++gs)).all (· ≤ reachBytes)=true:=hsz0;have hW':=hW;obtain⟨p,q,hA0,hV,rfl,_,_⟩:=hW;have hA:DataW.TrodAll enc prog W 0 (fun _=>true) true Tryz.f8.params.toList args.toList ds p:=hA0;rw[params8]at hA hval;obtain⟨v0,vs0,d0,ds0,p0,q0,hargs,rfl,rfl,h0,r0⟩:=trodAll_cons hA;obtain⟨v1,vs1,d1,ds1,p1,q1,rfl,rfl,rfl,h1,r1⟩:=trodAll_cons r0;obtain⟨rfl,rfl,rfl⟩:=trodAll_nil r1;obtain rfl:args=#[v0,v1]:=by cases args;simp_all
 obtain⟨rfl,rfl⟩:=trodVars_none hV;clear hA0 hval0;obtain⟨l0,hS0,hq0⟩:=open_cmds_s (hval 0 22 v0 rfl rfl) h0;have hd0:=hq0 fun n hn=>by have:=List.all_eq_true.1 hsz _ (DataW.weights_mem_each (j:=0) rfl rfl n hn);simpa using this
 obtain⟨l1,hS1,hq1⟩:=open_cmds_s (hval 1 22 v1 rfl rfl) h1;have hd1:=hq1 fun n hn=>by have:=List.all_eq_true.1 hsz _ (DataW.weights_mem_each (j:=1) rfl rfl n hn);simpa using this
 refine(back_law W l0 l1 v0 v1 hS0 hS1 hd0 hd1).mono fun e W' ⟨he,hg⟩=>?_
 subst he;exact⟨_,rfl,law_post (T:=4) hW' rfl rfl rfl underlying4 (by kernel_rfl) (by kernel_rfl) (Ext.below hg)⟩
theorem proved:Rows.SessionBackSaid :=
 OpenClaim.holds_of_wide 8 Tryz.f8 rfl rfl rfl rfl rfl rfl rfl ⟨rfl,rfl,rfl,rfl,rfl⟩ rfl rfl rfl rfl rfl (by kernel_rfl) func8 (by kernel_rfl)
  (of_decide_eq_true (by kernel_rfl)) (by unfold Func.isWrapper;first|(rw[if_pos (by decide +kernel)];kernel_rfl)|(rw[if_neg (by decide +kernel)];exact⟨rfl,rfl⟩))
  (fun os started H enc _=>lifted os started H enc)
end Go.Proofs.YtimjipcplmnpbaaGreat.sessionBack
