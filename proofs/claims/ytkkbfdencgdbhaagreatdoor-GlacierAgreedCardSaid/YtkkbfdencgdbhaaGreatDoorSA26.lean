/-
  Part 26 of what the law leans on.
-/
import Derived.Test.YtkkbfdencgdbhaaGreatDoorSA2
import Derived.Test.YtkkbfdencgdbhaaGreatDoorSA16
import Derived.Test.YtkkbfdencgdbhaaGreatDoorSA23
import Derived.Test.YtkkbfdencgdbhaaGreatDoorSA25
set_option linter.unusedVariables false
set_option linter.unusedSimpArgs false
set_option linter.unusedSectionVars false
namespace Go.Proofs.YtkkbfdencgdbhaaGreatDoor
open Go.RowKit Go.Sort
theorem idsOf_asc{L:List Bl}(h:L.Pairwise fun a b=>a.id<b.id):(L.map fun b=>(b.id:Int)).Pairwise (· < ·):=List.pairwise_map.2 (h.imp fun h=>by omega)
theorem Rep.ids{C:Ct}{P:Pm}{n:Nat}(h:Rep C P)(hi:PInv n P):(P.L.map fun b=>(b.id:Int)).Perm (C.idx.map (·.1)):=by
 have:=((h.perm hi).map fun b:Bl=>(b.id:Int)).symm
 unfold Ct.idx
 rw[List.map_map]at this⊢
 exact this
end Go.Proofs.YtkkbfdencgdbhaaGreatDoor
namespace Go.Proofs.YtkkbfdencgdbhaaGreatDoor
open Go.RowKit Go.Sort
def CatIn(w:World)(B:Nat→Prop)(c mb mn:Nat)(P:Pm):Prop:=∃C,CtAt w B c mb mn C∧Rep C P
structure Kp (B:Nat→Prop) (w w':World):Prop where
 chg:Chg (fun k=>B k) w w'
 at_:∀g t cs,t≠137→t≠161→At w g t cs→At w' g t cs
section
variable{w w' w'':World}{B:Nat→Prop}{c mb mn:Nat}{P:Pm}
theorem Kp.of_S{C:Ct}(h:CtAt w B c mb mn C)(hC:Chg (C.S c mb mn) w w'):Kp B w w' :=
 ⟨hC.mono (fun k _ e=>S_lo h k e),fun _ _ _ h1 h2 hA=>hA.chg hC (S_not h hA h1.symm h2.symm)⟩
theorem CatIn.ext(h:CatIn w B c mb mn P)(he:Ext w w'):CatIn w' B c mb mn P:=by
 obtain⟨C,h1,h2⟩:=h
 exact⟨C,h1.ext he,h2⟩
theorem cnew_any(w:World):Calls Tryz.prog 29 #[] w fun e w'=>∃c mb mn,e=.returned (.pointer (some ⟨c,0,none⟩))∧CatIn w' (Hi w.heap.size) c mb mn Pm.empty∧Ext w w':=by
 refine(new_any w).mono ?_
 rintro e w' ⟨c,mb,mn,rfl,h1,h2⟩
 exact⟨c,mb,mn,rfl,⟨_,h1,Rep.empty⟩,h2⟩
def Came(B:Nat→Prop)(c mb mn:Nat)(R:Pm×Rs)(w:World)(e:Ending)(w':World):Prop :=
 ∃A cp,e=.returned (resV R.2.err R.2.blob R.2.size R.2.sum (.slice A R.2.names.length cp))∧w'.ownsRow 0 9 1 (.slice A R.2.names.length cp) R.2.names.length (R.2.names.map Value.string)∧CatIn w' B c mb mn R.1∧Kp B w w'
end
end Go.Proofs.YtkkbfdencgdbhaaGreatDoor
