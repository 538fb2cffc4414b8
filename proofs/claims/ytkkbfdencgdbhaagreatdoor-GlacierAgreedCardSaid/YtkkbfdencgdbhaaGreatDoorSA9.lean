/-
  Part 9 of what the law leans on.
-/
import Derived.Test.YtkkbfdencgdbhaaGreatDoorSA1
import Derived.Test.YtkkbfdencgdbhaaGreatDoorSA2
import Derived.Test.YtkkbfdencgdbhaaGreatDoorSA5
import Derived.Deep.MidRow
import Derived.BigQuiet
set_option linter.unusedVariables false
set_option linter.unusedSimpArgs false
set_option linter.unusedSectionVars false
namespace Go.Proofs.YtkkbfdencgdbhaaGreatDoor
open Go.RowKit Go.Sort
theorem results_one{P:Program}{fn:Func}{p:Tmp}{ty:TypeId}(h:fn.results=#[.cell p ty])(tmps:Array Value){b o:Nat}(ha:tmps.getD p undef=.pointer (some ⟨b,o,none⟩)){v:Value}{w:World}(hl:(loadVar ty ⟨b,o,none⟩).run P w=.ok v w) :
 (results fn tmps).run P w=.ok v w:=by
 unfold results
 rw[h]
 simp at ha
 simp[ha,asAddr,hl]
theorem Ext.setCells{w w':World}(h:Ext w w'){b:Nat}(hb:w.heap.size≤b):∀(vs:List Value) (o:Nat),Ext w (w'.setCells b o vs):=by
 intro vs
 induction vs generalizing w' with
 | nil=>intro o;exact h
 | cons v r ih =>
  intro o
  rw[World.setCells]
  exact ih (Chg.setCell (p:=⟨b,o,none⟩) h (.inr hb) v) (o+1)
theorem chg_setCells{w:World}{b:Nat} : ∀(vs:List Value) (o:Nat),Chg (· = b) w (w.setCells b o vs):=by
 have key:∀(vs:List Value) (o:Nat) (w':World),Chg (· = b) w w'→Chg (· = b) w (w'.setCells b o vs):=by
  intro vs
  induction vs with
  | nil=>intro o w' h;exact h
  | cons v r ih =>
   intro o w' h
   rw[World.setCells]
   exact ih (o+1) _ (Chg.setCell (p:=⟨b,o,none⟩) h (.inl rfl) v)
 exact fun vs o=>key vs o w (Chg.refl _ w)
theorem At.there{w:World}{g:Nat}{t:TypeId}{cs:Array Value}(h:At w g t cs):w.there g 0 cs.size:=fun j hj=>by
 rw[Nat.zero_add]
 refine⟨?_,h.frozen j⟩
 rw[h.cell j,Array.getElem?_eq_getElem hj];rfl
theorem At.range{w:World}{g:Nat}{t:TypeId}{cs:Array Value}(h:At w g t cs):w.rangeAt g 0 cs.toList:=fun j v hv=>by
 rw[Nat.zero_add,h.cell j]
 simpa using hv
theorem At.cells_sz{g:Nat}{t:TypeId}{m:Nat} : ∀(vs:List Value) (o:Nat) (w:World),(∃Z:Array Value,At w g t Z∧Z.size=m)→∃Z:Array Value,At (w.setCells g o vs) g t Z∧Z.size=m
 | [],_,_,h=>h
 | v::r,o,w,⟨Z,h,hz⟩=>by
  rw[World.setCells]
  exact At.cells_sz r (o+1) _ ⟨_,h.set o v,by simpa using hz⟩
theorem At.of_range{w:World}{g:Nat}{t:TypeId}{Z cs:Array Value}(h:At w g t Z)(hz:Z.size=cs.size)(hr:w.rangeAt g 0 cs.toList):At w g t cs:=by
 have e:Z=cs:=by
  apply Array.ext hz
  intro i h1 h2
  have h3:=hr i cs[i] (by rw[Array.getElem?_toList];exact Array.getElem?_eq_getElem h2)
  rw[Nat.zero_add,h.cell i,Array.getElem?_eq_getElem h1]at h3
  injection h3
 rw[←e];exact h
theorem At.cells_all{w:World}{g:Nat}{t:TypeId}{Z cs:Array Value}(h:At w g t Z)(hz:Z.size=cs.size):At (w.setCells g 0 cs.toList) g t cs:=by
 obtain⟨Z',h1,h2⟩:=At.cells_sz (m:=Z.size) cs.toList 0 w ⟨Z,h,rfl⟩
 exact At.of_range h1 (by rw[h2,hz]) (World.rangeAt_setCells_same w g 0 _ (by rw[Array.length_toList,←hz];exact h.there))
theorem Chg.setCells{S:Nat→Prop}{w w':World}(h:Chg S w w'){b:Nat}(hb:S b):∀(vs:List Value) (o:Nat),Chg S w (w'.setCells b o vs):=by
 intro vs
 induction vs generalizing w' with
 | nil=>intro o;exact h
 | cons v r ih =>
  intro o
  rw[World.setCells]
  exact ih (Chg.setCell (p:=⟨b,o,none⟩) h (.inl hb) v) (o+1)
section
variable{P:Program}{a:Act}{w:World}{o:Oper}
theorem exec_load_mid{ty:TypeId}{x:Operand}(ho:o.op=.load ty x){b off:Nat}(hx:a.eval x=.pointer (some ⟨b,off,none⟩)){cs:List Value}{d:TypeDesc}(hc:w.rangeAt b off cs)(hu:P.underlying ty=some d)(hd:d.isRow=true)(hi:(P.info? ty).map (·.size)=some cs.length) :
 (execOp a.eval o).run P w=.ok (.value (.agg cs.toArray)) w:=by
 unfold execOp
 simp only[ho,hx,Instr.loadAt,Instr.sureAddr,Sem.run_bind,Sem.run_pure,Result.andThen_ok,run_loadVar_mid w b off ty cs d hc hu hd hi]
theorem exec_store_mid{ty:TypeId}{x y:Operand}(ho:o.op=.store ty x y){b off:Nat}{cells:Array Value}(hx:a.eval x=.pointer (some ⟨b,off,none⟩))(hy:a.eval y=.agg cells)(ht:w.there b off cells.size)(hi:(P.info? ty).map (·.size)=some cells.size)(h1:cells.all (·.oneCell')=true) :
 (execOp a.eval o).run P w=.ok .skip (w.setCells b off cells.toList):=by
 unfold execOp
 simp only[ho,hx,hy,Instr.storeAt,Instr.sureAddr,Sem.run_bind,Sem.run_pure,Result.andThen_ok,run_storeVar_mid w b off ty cells ht hi h1]
end
section
variable{P:Program}{ops:Array Oper}{Q:Exit→Act→World→Prop}{a0:Act}{sp:List Sg}{G:(Nat→Value)→(Nat→Bool)→World→Prop}{j:Nat}{o:Oper}
theorem wanted_of{a:Act}{on t:Nat}{b b':Bool}(hg:o.guard=some (on,b))(ht:dstOf ops on=some t)(hv:a.tmps.getD t undef=.bool b'):Region.wanted o (yielded ops a.tmps)=(b' == b):=by
 unfold Region.wanted
 rw[hg]
 simp only
 unfold dstOf at ht
 have h1:a.tmps[t]? = some (.bool b'):=by
  rw[Array.getD_eq_getD_getElem?]at hv
  cases h2:a.tmps[t]? with
  | none=>rw[h2]at hv;cases hv
  | some u=>rw[h2]at hv;exact congrArg some hv
 unfold yielded
 rw[ht]
 simp only[Option.bind_some,h1]
 cases b <;> cases b' <;> rfl
theorem wpOp_value_on{a:Act}{w w':World}{x:Value}{K:Act→World→Prop}(ho:ops[j]? = some o)(hw:Region.wanted o (yielded ops a.tmps)=true)(h:(execOp a.eval o).run P w=.ok (.value x) w')(hK:K (a.put (dstOf ops j) x) w'):wpOp P ops Q j K a w:=by
 unfold wpOp
 rw[ho]
 simp only[hw,if_true]
 refine .inl ?_
 unfold Oper.wp
 rw[h]
 have:dstOf ops j=o.dst:=by unfold dstOf;rw[ho];rfl
 rw[this]at hK
 exact hK
theorem wpOp_calls_on{a:Act}{w w':World}{f:FuncId}{args:Array Value}{K:Act→World→Prop}(ho:ops[j]? = some o)(hw:Region.wanted o (yielded ops a.tmps)=true)(h:(execOp a.eval o).run P w=.ok (.enter f args) w')
 (hK:Calls P f args w' fun e w''=>∃x,e=.returned x∧K (a.put (dstOf ops j) x) w''):wpOp P ops Q j K a w:=by
 unfold wpOp
 rw[ho]
 simp only[hw,if_true]
 refine .inl ?_
 unfold Oper.wp
 rw[h]
 have hd:dstOf ops j=o.dst:=by unfold dstOf;rw[ho];rfl
 rw[hd]at hK
 refine Calls.mono hK ?_
 rintro e w'' ⟨x,rfl,hx⟩
 exact hx
theorem StIn.guard{γ : Nat→Value}{L:Nat→Bool}{v:Nat→Value}{a:Act}{w:World}(st:StIn ops a0 sp G j γ L v a w){on t:Nat}{b b':Bool}(hg:o.guard=some (on,b))(hn:needs ops j on=true)(ht:dstOf ops on=some t)(hv:sp.getD on .any=.val (.bool b')):Region.wanted o (yielded ops a.tmps)=(b' == b):=by
 refine wanted_of hg ht ?_
 rw[st.val on t ht hn]
 have:=st.φ on hn
 unfold sgφ at this
 rw[hv]at this
 exact this
theorem sg_val_on{x:Value}{on t:Nat}{b:Bool}(ho:ops[j]? = some o)(hg:o.guard=some (on,b))(hn:needs ops j on=true)(ht:dstOf ops on=some t)(hgv:sp.getD on .any=.val (.bool b))(hs:sp.getD j .any=.val x)(hG:∀γ L w,G γ L w→L j=false→G γ (fun i=>i == j||L i) w)
 (h:∀γ L v a w,StIn ops a0 sp G j γ L v a w→(execOp a.eval o).run P w=.ok (.value x) w):StepAt P ops Q a0 (sgφ sp) G j:=by
 intro γ L v a w hdown hLj hneed hGw hφ hval h0
 have st:=StIn.mk' hdown hLj hneed hGw hφ hval h0
 refine wpOp_value_on ho (by rw[st.guard hg hn ht hgv];cases b <;> rfl) (h γ L v a w st) ⟨x, γ,rfl,?_,fun d _ _ hh=>hh,hG γ L w hGw hLj⟩
 unfold sgφ
 rw[hs]
theorem sg_callv_on{x:Value}{f:FuncId}{on t:Nat}{b:Bool}(ho:ops[j]? = some o)(hg:o.guard=some (on,b))(hn:needs ops j on=true)(ht:dstOf ops on=some t)(hgv:sp.getD on .any=.val (.bool b))(hs:sp.getD j .any=.val x)
 (h:∀γ L v a w,StIn ops a0 sp G j γ L v a w→∃args,(execOp a.eval o).run P w=.ok (.enter f args) w∧Calls P f args w fun r w'=>r=.returned x∧G γ (fun i=>i == j||L i) w'):StepAt P ops Q a0 (sgφ sp) G j:=by
 intro γ L v a w hdown hLj hneed hGw hφ hval h0
 have st:=StIn.mk' hdown hLj hneed hGw hφ hval h0
 obtain⟨args,hrun,hcall⟩:=h γ L v a w st
 refine wpOp_calls_on ho (by rw[st.guard hg hn ht hgv];cases b <;> rfl) hrun (hcall.mono ?_)
 rintro r w' ⟨rfl,hG'⟩
 refine⟨x,rfl,x, γ,rfl,?_,fun d _ _ hh=>hh,hG'⟩
 unfold sgφ
 rw[hs]
end
end Go.Proofs.YtkkbfdencgdbhaaGreatDoor
