/-
  Part 29 of what the law leans on.
-/
import Derived.Test.YtkkbfdencgdbhaaGreatDoorSA2
import Derived.Test.YtkkbfdencgdbhaaGreatDoorSA18
import Derived.Test.YtkkbfdencgdbhaaGreatDoorSA28
set_option linter.unusedVariables false
set_option linter.unusedSimpArgs false
set_option linter.unusedSectionVars false
namespace Go.Proofs.YtkkbfdencgdbhaaGreatDoor
open Go.RowKit Go.Sort
theorem Cmd.In.ext{x:Cmd}{dv:Value}{w w':World}(h:x.In dv w)(he:Ext w w'):x.In dv w':=by
 obtain⟨h1,⟨h2,h3⟩,h4,h5⟩:=h
 exact⟨h1,⟨h2.ext he,h3⟩,h4,h5⟩
theorem cmds_some{w:World}{A:Option Addr}{n c k:Nat}{l:List (List Value)}(h:Sln w (.slice A n c) k l)(hl:l≠[]):∃b o,A=some ⟨b,o,none⟩:=by
 obtain⟨A',c',hv,hx⟩:=h
 simp only[Value.slice.injEq]at hv
 obtain⟨b,o,rfl,_⟩:=hx hl
 exact⟨b,o,hv.1⟩
theorem sln_get{w:World}{b o n c size:Nat}{xs:List (List Value)}(h:Sln w (.slice (some ⟨b,o,none⟩) n c) size xs){i:Nat}{row:List Value}(hi:xs[i]? = some row):∀j u,row[j]? = some u→w.cell? ⟨b,o+i * size+j,none⟩=some u:=by
 obtain⟨A,c',hv,hx⟩:=h
 have hne:xs≠[]:=fun e=>by subst e;simp at hi
 obtain⟨b',o',rfl,hc⟩:=hx hne
 simp only[Value.slice.injEq,Option.some.injEq,Addr.mk.injEq,and_true]at hv
 obtain⟨⟨rfl,rfl⟩,_,_⟩:=hv
 exact hc i _ hi
theorem crow_cells{w:World}{b o n c:Nat}{l:List CRow}(h:Sln w (.slice (some ⟨b,o,none⟩) n c) 11 (l.map crow)){i:Nat}{x:Cmd}{dv:Value}(hi:l[i]? = some (x,dv)) :
 w.cell? ⟨b,o+i * 11,none⟩=some (.int .i64 x.kind)∧w.cell? ⟨b,o+i * 11+1,none⟩=some (.int .i64 x.client)∧w.cell? ⟨b,o+i * 11+2,none⟩=some (.int .i64 x.seq)∧w.cell? ⟨b,o+i * 11+3,none⟩=some (.string x.name)∧w.cell? ⟨b,o+i * 11+4,none⟩=some (.int .u64 (x.blob:Int))∧w.cell? ⟨b,o+i * 11+5,none⟩=some (.int .i64 x.size)∧w.cell? ⟨b,o+i * 11+6,none⟩=some (.int .u32 (x.sum:Int))∧w.cell? ⟨b,o+i * 11+7,none⟩=some (dv)∧w.cell? ⟨b,o+i * 11+8,none⟩=some (.int .i64 x.pool)∧w.cell? ⟨b,o+i * 11+9,none⟩=some (.int .i64 x.vol)∧w.cell? ⟨b,o+i * 11+10,none⟩=some (.int .i64 x.at_):=by
 have hg:(l.map crow)[i]? = some (x.cells dv):=by rw[List.getElem?_map,hi];rfl
 have hc:=sln_get h hg
 exact⟨hc 0 _ rfl,hc 1 _ rfl,hc 2 _ rfl,hc 3 _ rfl,hc 4 _ rfl,hc 5 _ rfl,hc 6 _ rfl,hc 7 _ rfl,hc 8 _ rfl,hc 9 _ rfl,hc 10 _ rfl⟩
end Go.Proofs.YtkkbfdencgdbhaaGreatDoor
