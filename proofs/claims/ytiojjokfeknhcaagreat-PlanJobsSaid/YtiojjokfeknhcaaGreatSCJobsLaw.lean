/-
  PlanJobs answers true for every input: the jobs are the document's, in order. No condition.
-/
import Derived.Test.YtiojjokfeknhcaaGreatSC1
import Derived.Test.YtiojjokfeknhcaaGreatSC21
import Derived.Test.YtiojjokfeknhcaaGreatSC24
namespace Go.Proofs.YtiojjokfeknhcaaGreat.planJobs
set_option maxRecDepth 100000
set_option maxHeartbeats 8000000
set_option linter.unusedVariables false
set_option linter.unusedSimpArgs false
set_option linter.unusedSectionVars false
open _root_.Go.Proofs.Tryz
open Go.ChangeShapes Go.WideShapes Go.ChangeAt Go.RowKit
open Go.ChangeMaps (open_string shut_string)
theorem lifted(os:Os)(started:os.Started)(H:Type)(enc:TypeId×Value→H) :
 ReturnsInHanded {} Tryz.checked os 3 .any (Rows.planJobsSpec.pre6 enc prog Tryz.f3 Rows.planJobsRow.domain false) (Rows.planJobsSpec.post enc prog Tryz.f3 false true false false):=by
 refine returnsInHanded_of_change (C:=Tryz.checked) own started (by kernel_rfl) func3
  (ChangeSpec.witness6 (enc:=enc) (C:=Tryz.checked) false ⟨#[],#[.slice none 0 0,.agg #[.slice none 0 0,.slice none 0 0,.slice none 0 0,.slice none 0 0,.slice none 0 0,.int .i64 0,.int .i64 0,.int .i64 0,.int .i64 0]],[]⟩ 8 (by kernel_rfl) (by kernel_rfl) (by kernel_rfl) (by kernel_rfl)) ?_
 intro W base args ds gs before hval0 hW _ _;have hval:∀(j:Nat) t v,Tryz.f3.params[j]? = some t→args[j]? = some v→Value.okWide prog W .any base t v:=hval0;have hW':=hW;obtain⟨p,q,hA0,hV,rfl,_,_⟩:=hW;have hA:DataW.TrodAll enc prog W 0 (fun _=>true) true Tryz.f3.params.toList args.toList ds p:=hA0;rw[params3]at hA hval;obtain⟨v0,vs0,d0,ds0,p0,q0,hargs,rfl,rfl,h0,r0⟩:=trodAll_cons hA;obtain⟨v1,vs1,d1,ds1,p1,q1,rfl,rfl,rfl,h1,r1⟩:=trodAll_cons r0;obtain⟨rfl,rfl,rfl⟩:=trodAll_nil r1;obtain rfl:args=#[v0,v1]:=by cases args;simp_all
 obtain⟨rfl,rfl⟩:=trodVars_none hV;clear hA0 hval0;obtain⟨l0,hS0⟩:=open_cmds (hval 0 22 v0 rfl rfl) h0;obtain⟨dv,vv,iv,ldv,lvv,dl,vl,il,ldl,lvl,cp,kp,pc,rs,rfl,e1,e2,e3,e4,e5⟩:=open_world (hval 1 27 v1 rfl rfl) h1;refine(pjobs_any W v0 dv vv iv ldv lvv l0 dl vl il ldl lvl cp kp pc rs hS0 e1 e2 e3 e4 e5).mono fun e W' ⟨he,hg⟩=>?_
 subst he;exact⟨_,rfl,law_post (T:=4) hW' rfl rfl rfl underlying4 (by kernel_rfl) (by kernel_rfl) (Ext.below hg)⟩
theorem proved:Rows.PlanJobsSaid :=
 OpenClaim.holds_of_wide 3 Tryz.f3 rfl rfl rfl rfl rfl rfl rfl ⟨rfl,rfl,rfl,rfl,rfl⟩ rfl rfl rfl rfl rfl (by kernel_rfl) func3 (by kernel_rfl)
  (of_decide_eq_true (by kernel_rfl)) (by unfold Func.isWrapper;first|(rw[if_pos (by decide +kernel)];kernel_rfl)|(rw[if_neg (by decide +kernel)];exact⟨rfl,rfl⟩))
  (fun os started H enc _=>lifted os started H enc)
end Go.Proofs.YtiojjokfeknhcaaGreat.planJobs
