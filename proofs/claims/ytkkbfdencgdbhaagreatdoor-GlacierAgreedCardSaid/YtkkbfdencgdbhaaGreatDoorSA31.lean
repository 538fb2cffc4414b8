/-
  Part 31 of what the law leans on.
-/
import Derived.Test.YtkkbfdencgdbhaaGreatDoorSA14
import Derived.Test.YtkkbfdencgdbhaaGreatDoorSA18
set_option linter.unusedVariables false
set_option linter.unusedSimpArgs false
set_option linter.unusedSectionVars false
namespace Go.Proofs.YtkkbfdencgdbhaaGreatDoor
open Go.RowKit
theorem wrap_u32n(x:Nat):IntKind.u32.wrap (x:Int)=(x:Int) % 4294967296:=by simp[IntKind.wrap,IntKind.bits,IntKind.signed]
theorem Dc.i_le(d:Dc)(most:Int)(h:0≤most):((d.i most).1:Int)≤most:=by
 unfold Dc.i
 split
 ·simpa using h
 ·omega
theorem Dc.s_len(d:Dc)(most:Int)(h:0≤most):((d.s most).1.length:Int)≤most:=by
 have:=d.i_le most h
 unfold Dc.s
 split
 ·split
  ·simpa using h
  ·simp only[List.length_take];omega
 ·simpa using h
theorem listLoop_len(each:Int):∀(n:Nat) (d:Dc) (l:List Int),(listLoop each n d).1=some l→l.length=n
 | 0,d,l,h=>by simp[listLoop]at h;rw[h];rfl
 | n+1,d,l,h=>by
  rw[listLoop]at h
  split at h
  ·have ih:=listLoop_len each n (d.i each).2
   generalize listLoop each n (d.i each).2=Z at h ih
   obtain⟨o,E⟩:=Z
   cases o with
   | none=>simp at h
   | some l' =>
    simp only[Option.some.injEq]at h
    rw[←h,List.length_cons,ih l' rfl]
  ·simp at h
theorem Dc.list_len(d:Dc)(most each:Int)(h:0≤most):((d.list most each).1.length:Int)≤most:=by
 have:=d.i_le most h
 unfold Dc.list
 simp only
 cases hl:(listLoop each (d.i most).1 (d.i most).2).1 with
 | none=>simpa using h
 | some l=>have:=listLoop_len each _ _ l hl;simp;omega
section
variable(w:World)(s:ByteArray)
set_option maxRecDepth 100000 in
set_option maxHeartbeats 4000000 in
theorem cmdread_any(hs:s.size≤140737488355328) :
 Calls Tryz.prog 30 #[.string s] w fun r w'=>∃dv,r=.returned (.tuple #[cmdVal (cread s.data.toList).1 dv,.int .i64 (cread s.data.toList).2])∧w'.ownsRow 0 3 1 dv (cread s.data.toList).1.disks.length ((cread s.data.toList).1.disks.map (Value.int .i64))∧Ext w w':=by
 generalize hfin:cread s.data.toList=F
 have HF:=Lib.hid hfin
 clear hfin
 go_enter Tryz.func30,Tryz.ntmps30
 go_wp2_with fail
 have hR:=At.new w 39 #[.int .i64 0,.int .i64 0,.int .i64 0,.string ⟨#[]⟩,.int .u64 0,.int .i64 0,.int .u32 0,.slice none 0 0,.int .i64 0,.int .i64 0,.int .i64 0]
 have X:=(Ext.refl w).alloc (.cells #[.int .i64 0,.int .i64 0,.int .i64 0,.string ⟨#[]⟩,.int .u64 0,.int .i64 0,.int .u32 0,.slice none 0 0,.int .i64 0,.int .i64 0,.int .i64 0] 39)
 have hsz:w.heap.size<(w.alloc (.cells #[.int .i64 0,.int .i64 0,.int .i64 0,.string ⟨#[]⟩,.int .u64 0,.int .i64 0,.int .u32 0,.slice none 0 0,.int .i64 0,.int .i64 0,.int .i64 0] 39)).heap.size:=by simp
 generalize w.alloc (.cells #[.int .i64 0,.int .i64 0,.int .i64 0,.string ⟨#[]⟩,.int .u64 0,.int .i64 0,.int .u32 0,.slice none 0 0,.int .i64 0,.int .i64 0,.int .i64 0] 39)=W0 at hR X hsz⊢
 obtain⟨br,hbr⟩:∃b,b=w.heap.size:=⟨_,rfl⟩
 rw[←hbr]at hR⊢
 have hbr0:w.heap.size≤br:=by omega
 have hbr1:=hR.lt
 clear hbr
 refine(from_any _ s hs).mono ?_
 rintro e wa ⟨bd,rfl,hbd,hD,hE0⟩
 replace hR:=hR.ext hE0
 have hdl:w.heap.size≤bd:=by omega
 have hnr:br≠bd:=by omega
 replace X:=X.trans hE0
 clear hE0
 go_wp2_with fail
 have hC:=At.new wa 39 #[.int .i64 0,.int .i64 0,.int .i64 0,.string ⟨#[]⟩,.int .u64 0,.int .i64 0,.int .u32 0,.slice none 0 0,.int .i64 0,.int .i64 0,.int .i64 0]
 replace hR:=hR.alloc (.cells #[.int .i64 0,.int .i64 0,.int .i64 0,.string ⟨#[]⟩,.int .u64 0,.int .i64 0,.int .u32 0,.slice none 0 0,.int .i64 0,.int .i64 0,.int .i64 0] 39)
 have hdlt:=hD.lt
 have hrlt:br<wa.heap.size:=by omega
 replace hD:=hD.alloc (.cells #[.int .i64 0,.int .i64 0,.int .i64 0,.string ⟨#[]⟩,.int .u64 0,.int .i64 0,.int .u32 0,.slice none 0 0,.int .i64 0,.int .i64 0,.int .i64 0] 39)
 have hcl:w.heap.size≤wa.heap.size:=X.size
 replace X:=X.alloc (.cells #[.int .i64 0,.int .i64 0,.int .i64 0,.string ⟨#[]⟩,.int .u64 0,.int .i64 0,.int .u32 0,.slice none 0 0,.int .i64 0,.int .i64 0,.int .i64 0] 39)
 generalize wa.alloc (.cells #[.int .i64 0,.int .i64 0,.int .i64 0,.string ⟨#[]⟩,.int .u64 0,.int .i64 0,.int .u32 0,.slice none 0 0,.int .i64 0,.int .i64 0,.int .i64 0] 39)=w0 at hR hC hD X⊢
 generalize wa.heap.size=bc at hC hdlt hrlt hcl⊢
 have hne:bc≠bd:=by omega
 have hrc:br≠bc:=by omega
 clear hsz hbd hdlt hrlt hbr1
 have con:=di_any w0 bd s (⟨s.data.toList,0⟩:Dc) hD 14 (by decide) (by decide)
 generalize hk:(⟨s.data.toList,0⟩:Dc).i 14=rk at con
 obtain⟨xk,d1⟩:=rk
 simp only at con
 have Hk:=Lib.hid hk
 clear hk
 refine con.mono ?_
 clear con
 rintro e w1 ⟨rfl,hT⟩
 replace hD:=hT.2
 replace hC:=hC.chg hT.1 (fun h=>hne h)
 replace hR:=hR.chg hT.1 (fun h=>hnr h)
 replace X:Ext w w1:=(X.chg_trans hT.1).mono (fun k hk h=>by have h':k=bd:=h;omega)
 clear hT
 have fz:=hC.frozen 0
 have cz:=hC.cell 0
 simp at cz
 go_wp2_with fail
 replace hC:At (w1.setCell ⟨bc,0,none⟩ (.int .i64 ((xk:Nat):Int))) bc 39 #[.int .i64 ((xk:Nat):Int),.int .i64 0,.int .i64 0,.string ⟨#[]⟩,.int .u64 0,.int .i64 0,.int .u32 0,.slice none 0 0,.int .i64 0,.int .i64 0,.int .i64 0]:=hC.set 0 _
 replace hD:DecAt (w1.setCell ⟨bc,0,none⟩ (.int .i64 ((xk:Nat):Int))) bd s d1:=hD.chg ((Chg.refl (· = bc) _).setCell (.inl rfl) _) (fun h=>hne (Eq.symm h))
 replace hR:At (w1.setCell ⟨bc,0,none⟩ (.int .i64 ((xk:Nat):Int))) br 39 #[.int .i64 0,.int .i64 0,.int .i64 0,.string ⟨#[]⟩,.int .u64 0,.int .i64 0,.int .u32 0,.slice none 0 0,.int .i64 0,.int .i64 0,.int .i64 0]:=hR.chg ((Chg.refl (· = bc) _).setCell (.inl rfl) _) (fun h=>hrc h)
 replace X:Ext w (w1.setCell ⟨bc,0,none⟩ (.int .i64 ((xk:Nat):Int))):=X.setCell hcl _
 clear fz cz
 generalize w1.setCell ⟨bc,0,none⟩ (.int .i64 ((xk:Nat):Int))=v1 at hC hD hR X  ⊢
 have con:=di_any v1 bd s d1 hD 1073741824 (by decide) (by decide)
 generalize hcl:d1.i 1073741824=rcl at con
 obtain⟨xcl,d2⟩:=rcl
 simp only at con
 have Hcl:=Lib.hid hcl
 clear hcl
 refine con.mono ?_
 clear con
 rintro e w2 ⟨rfl,hT⟩
 replace hD:=hT.2
 replace hC:=hC.chg hT.1 (fun h=>hne h)
 replace hR:=hR.chg hT.1 (fun h=>hnr h)
 replace X:Ext w w2:=(X.chg_trans hT.1).mono (fun k hk h=>by have h':k=bd:=h;omega)
 clear hT
 have fz:=hC.frozen 1
 have cz:=hC.cell 1
 simp at cz
 go_wp2_with fail
 replace hC:At (w2.setCell ⟨bc,1,none⟩ (.int .i64 ((xcl:Nat):Int))) bc 39 #[.int .i64 ((xk:Nat):Int),.int .i64 ((xcl:Nat):Int),.int .i64 0,.string ⟨#[]⟩,.int .u64 0,.int .i64 0,.int .u32 0,.slice none 0 0,.int .i64 0,.int .i64 0,.int .i64 0]:=hC.set 1 _
 replace hD:DecAt (w2.setCell ⟨bc,1,none⟩ (.int .i64 ((xcl:Nat):Int))) bd s d2:=hD.chg ((Chg.refl (· = bc) _).setCell (.inl rfl) _) (fun h=>hne (Eq.symm h))
 replace hR:At (w2.setCell ⟨bc,1,none⟩ (.int .i64 ((xcl:Nat):Int))) br 39 #[.int .i64 0,.int .i64 0,.int .i64 0,.string ⟨#[]⟩,.int .u64 0,.int .i64 0,.int .u32 0,.slice none 0 0,.int .i64 0,.int .i64 0,.int .i64 0]:=hR.chg ((Chg.refl (· = bc) _).setCell (.inl rfl) _) (fun h=>hrc h)
 replace X:Ext w (w2.setCell ⟨bc,1,none⟩ (.int .i64 ((xcl:Nat):Int))):=X.setCell hcl _
 clear fz cz
 generalize w2.setCell ⟨bc,1,none⟩ (.int .i64 ((xcl:Nat):Int))=v2 at hC hD hR X  ⊢
 have con:=di_any v2 bd s d2 hD 1073741824 (by decide) (by decide)
 generalize hsq:d2.i 1073741824=rsq at con
 obtain⟨xsq,d3⟩:=rsq
 simp only at con
 have Hsq:=Lib.hid hsq
 clear hsq
 refine con.mono ?_
 clear con
 rintro e w3 ⟨rfl,hT⟩
 replace hD:=hT.2
 replace hC:=hC.chg hT.1 (fun h=>hne h)
 replace hR:=hR.chg hT.1 (fun h=>hnr h)
 replace X:Ext w w3:=(X.chg_trans hT.1).mono (fun k hk h=>by have h':k=bd:=h;omega)
 clear hT
 have fz:=hC.frozen 2
 have cz:=hC.cell 2
 simp at cz
 go_wp2_with fail
 replace hC:At (w3.setCell ⟨bc,2,none⟩ (.int .i64 ((xsq:Nat):Int))) bc 39 #[.int .i64 ((xk:Nat):Int),.int .i64 ((xcl:Nat):Int),.int .i64 ((xsq:Nat):Int),.string ⟨#[]⟩,.int .u64 0,.int .i64 0,.int .u32 0,.slice none 0 0,.int .i64 0,.int .i64 0,.int .i64 0]:=hC.set 2 _
 replace hD:DecAt (w3.setCell ⟨bc,2,none⟩ (.int .i64 ((xsq:Nat):Int))) bd s d3:=hD.chg ((Chg.refl (· = bc) _).setCell (.inl rfl) _) (fun h=>hne (Eq.symm h))
 replace hR:At (w3.setCell ⟨bc,2,none⟩ (.int .i64 ((xsq:Nat):Int))) br 39 #[.int .i64 0,.int .i64 0,.int .i64 0,.string ⟨#[]⟩,.int .u64 0,.int .i64 0,.int .u32 0,.slice none 0 0,.int .i64 0,.int .i64 0,.int .i64 0]:=hR.chg ((Chg.refl (· = bc) _).setCell (.inl rfl) _) (fun h=>hrc h)
 replace X:Ext w (w3.setCell ⟨bc,2,none⟩ (.int .i64 ((xsq:Nat):Int))):=X.setCell hcl _
 clear fz cz
 generalize w3.setCell ⟨bc,2,none⟩ (.int .i64 ((xsq:Nat):Int))=v3 at hC hD hR X  ⊢
 have con:=ds_any v3 bd s d3 hD 32 (by decide) (by decide)
 have lnm:=Dc.s_len d3 32 (by decide)
 generalize hnm:d3.s 32=rnm at con lnm
 obtain⟨xnm,d4⟩:=rnm
 simp only at con lnm
 have Hnm:=Lib.hid hnm
 clear hnm
 refine con.mono ?_
 clear con
 rintro e w4 ⟨rfl,hT⟩
 replace hD:=hT.2
 replace hC:=hC.chg hT.1 (fun h=>hne h)
 replace hR:=hR.chg hT.1 (fun h=>hnr h)
 replace X:Ext w w4:=(X.chg_trans hT.1).mono (fun k hk h=>by have h':k=bd:=h;omega)
 clear hT
 have fz:=hC.frozen 3
 have cz:=hC.cell 3
 simp at cz
 go_wp2_with fail
 replace hC:At (w4.setCell ⟨bc,3,none⟩ (.string ⟨xnm.toArray⟩)) bc 39 #[.int .i64 ((xk:Nat):Int),.int .i64 ((xcl:Nat):Int),.int .i64 ((xsq:Nat):Int),.string ⟨xnm.toArray⟩,.int .u64 0,.int .i64 0,.int .u32 0,.slice none 0 0,.int .i64 0,.int .i64 0,.int .i64 0]:=hC.set 3 _
 replace hD:DecAt (w4.setCell ⟨bc,3,none⟩ (.string ⟨xnm.toArray⟩)) bd s d4:=hD.chg ((Chg.refl (· = bc) _).setCell (.inl rfl) _) (fun h=>hne (Eq.symm h))
 replace hR:At (w4.setCell ⟨bc,3,none⟩ (.string ⟨xnm.toArray⟩)) br 39 #[.int .i64 0,.int .i64 0,.int .i64 0,.string ⟨#[]⟩,.int .u64 0,.int .i64 0,.int .u32 0,.slice none 0 0,.int .i64 0,.int .i64 0,.int .i64 0]:=hR.chg ((Chg.refl (· = bc) _).setCell (.inl rfl) _) (fun h=>hrc h)
 replace X:Ext w (w4.setCell ⟨bc,3,none⟩ (.string ⟨xnm.toArray⟩)):=X.setCell hcl _
 clear fz cz
 generalize w4.setCell ⟨bc,3,none⟩ (.string ⟨xnm.toArray⟩)=v4 at hC hD hR X  ⊢
 have con:=du_any v4 bd s d4 hD
 have lbl:=Dc.u_lt d4
 generalize hbl:d4.u=rbl at con lbl
 obtain⟨xbl,d5⟩:=rbl
 simp only at con lbl
 have Hbl:=Lib.hid hbl
 clear hbl
 refine con.mono ?_
 clear con
 rintro e w5 ⟨rfl,hT⟩
 replace hD:=hT.2
 replace hC:=hC.chg hT.1 (fun h=>hne h)
 replace hR:=hR.chg hT.1 (fun h=>hnr h)
 replace X:Ext w w5:=(X.chg_trans hT.1).mono (fun k hk h=>by have h':k=bd:=h;omega)
 clear hT
 have fz:=hC.frozen 4
 have cz:=hC.cell 4
 simp at cz
 go_wp2_with fail
 replace hC:At (w5.setCell ⟨bc,4,none⟩ (.int .u64 ((xbl:Nat):Int))) bc 39 #[.int .i64 ((xk:Nat):Int),.int .i64 ((xcl:Nat):Int),.int .i64 ((xsq:Nat):Int),.string ⟨xnm.toArray⟩,.int .u64 ((xbl:Nat):Int),.int .i64 0,.int .u32 0,.slice none 0 0,.int .i64 0,.int .i64 0,.int .i64 0]:=hC.set 4 _
 replace hD:DecAt (w5.setCell ⟨bc,4,none⟩ (.int .u64 ((xbl:Nat):Int))) bd s d5:=hD.chg ((Chg.refl (· = bc) _).setCell (.inl rfl) _) (fun h=>hne (Eq.symm h))
 replace hR:At (w5.setCell ⟨bc,4,none⟩ (.int .u64 ((xbl:Nat):Int))) br 39 #[.int .i64 0,.int .i64 0,.int .i64 0,.string ⟨#[]⟩,.int .u64 0,.int .i64 0,.int .u32 0,.slice none 0 0,.int .i64 0,.int .i64 0,.int .i64 0]:=hR.chg ((Chg.refl (· = bc) _).setCell (.inl rfl) _) (fun h=>hrc h)
 replace X:Ext w (w5.setCell ⟨bc,4,none⟩ (.int .u64 ((xbl:Nat):Int))):=X.setCell hcl _
 clear fz cz
 generalize w5.setCell ⟨bc,4,none⟩ (.int .u64 ((xbl:Nat):Int))=v5 at hC hD hR X  ⊢
 have con:=di_any v5 bd s d5 hD 4000 (by decide) (by decide)
 generalize hsz:d5.i 4000=rsz at con
 obtain⟨xsz,d6⟩:=rsz
 simp only at con
 have Hsz:=Lib.hid hsz
 clear hsz
 refine con.mono ?_
 clear con
 rintro e w6 ⟨rfl,hT⟩
 replace hD:=hT.2
 replace hC:=hC.chg hT.1 (fun h=>hne h)
 replace hR:=hR.chg hT.1 (fun h=>hnr h)
 replace X:Ext w w6:=(X.chg_trans hT.1).mono (fun k hk h=>by have h':k=bd:=h;omega)
 clear hT
 have fz:=hC.frozen 5
 have cz:=hC.cell 5
 simp at cz
 go_wp2_with fail
 replace hC:At (w6.setCell ⟨bc,5,none⟩ (.int .i64 ((xsz:Nat):Int))) bc 39 #[.int .i64 ((xk:Nat):Int),.int .i64 ((xcl:Nat):Int),.int .i64 ((xsq:Nat):Int),.string ⟨xnm.toArray⟩,.int .u64 ((xbl:Nat):Int),.int .i64 ((xsz:Nat):Int),.int .u32 0,.slice none 0 0,.int .i64 0,.int .i64 0,.int .i64 0]:=hC.set 5 _
 replace hD:DecAt (w6.setCell ⟨bc,5,none⟩ (.int .i64 ((xsz:Nat):Int))) bd s d6:=hD.chg ((Chg.refl (· = bc) _).setCell (.inl rfl) _) (fun h=>hne (Eq.symm h))
 replace hR:At (w6.setCell ⟨bc,5,none⟩ (.int .i64 ((xsz:Nat):Int))) br 39 #[.int .i64 0,.int .i64 0,.int .i64 0,.string ⟨#[]⟩,.int .u64 0,.int .i64 0,.int .u32 0,.slice none 0 0,.int .i64 0,.int .i64 0,.int .i64 0]:=hR.chg ((Chg.refl (· = bc) _).setCell (.inl rfl) _) (fun h=>hrc h)
 replace X:Ext w (w6.setCell ⟨bc,5,none⟩ (.int .i64 ((xsz:Nat):Int))):=X.setCell hcl _
 clear fz cz
 generalize w6.setCell ⟨bc,5,none⟩ (.int .i64 ((xsz:Nat):Int))=v6 at hC hD hR X  ⊢
 have con:=du_any v6 bd s d6 hD
 have lsu:=Dc.u_lt d6
 generalize hsu:d6.u=rsu at con lsu
 obtain⟨xsu,d7⟩:=rsu
 simp only at con lsu
 have Hsu:=Lib.hid hsu
 clear hsu
 refine con.mono ?_
 clear con
 rintro e w7 ⟨rfl,hT⟩
 replace hD:=hT.2
 replace hC:=hC.chg hT.1 (fun h=>hne h)
 replace hR:=hR.chg hT.1 (fun h=>hnr h)
 replace X:Ext w w7:=(X.chg_trans hT.1).mono (fun k hk h=>by have h':k=bd:=h;omega)
 clear hT
 have fz:=hC.frozen 6
 have cz:=hC.cell 6
 simp at cz
 have hwr:=wrap_u32n xsu
 go_wp2_with fail
 clear hwr
 replace hC:At (w7.setCell ⟨bc,6,none⟩ (.int .u32 ((xsu:Int) % 4294967296))) bc 39 #[.int .i64 ((xk:Nat):Int),.int .i64 ((xcl:Nat):Int),.int .i64 ((xsq:Nat):Int),.string ⟨xnm.toArray⟩,.int .u64 ((xbl:Nat):Int),.int .i64 ((xsz:Nat):Int),.int .u32 ((xsu:Int) % 4294967296),.slice none 0 0,.int .i64 0,.int .i64 0,.int .i64 0]:=hC.set 6 _
 replace hD:DecAt (w7.setCell ⟨bc,6,none⟩ (.int .u32 ((xsu:Int) % 4294967296))) bd s d7:=hD.chg ((Chg.refl (· = bc) _).setCell (.inl rfl) _) (fun h=>hne (Eq.symm h))
 replace hR:At (w7.setCell ⟨bc,6,none⟩ (.int .u32 ((xsu:Int) % 4294967296))) br 39 #[.int .i64 0,.int .i64 0,.int .i64 0,.string ⟨#[]⟩,.int .u64 0,.int .i64 0,.int .u32 0,.slice none 0 0,.int .i64 0,.int .i64 0,.int .i64 0]:=hR.chg ((Chg.refl (· = bc) _).setCell (.inl rfl) _) (fun h=>hrc h)
 replace X:Ext w (w7.setCell ⟨bc,6,none⟩ (.int .u32 ((xsu:Int) % 4294967296))):=X.setCell hcl _
 clear fz cz
 generalize w7.setCell ⟨bc,6,none⟩ (.int .u32 ((xsu:Int) % 4294967296))=v7 at hC hD hR X  ⊢
 have con:=dlist_any v7 bd s d7 hD 6 5 (by decide) (by decide) (by decide) (by decide)
 have ldk:=Dc.list_len d7 6 5 (by decide)
 generalize hdk:d7.list 6 5=rdk at con ldk
 obtain⟨xdk,d8⟩:=rdk
 simp only at con ldk
 have Hdk:=Lib.hid hdk
 clear hdk
 have q1:=hC.lt
 have q2:=hD.lt
 have q3:=hR.lt
 refine con.mono ?_
 clear con
 rintro e w8 ⟨dv,rfl,hown,hnil,hT⟩
 replace hD:=hT.2
 replace hC:=hC.chg hT.1 (fun h=>hne h)
 replace hR:=hR.chg hT.1 (fun h=>hnr h)
 replace X:Ext w w8:=(X.chg_trans hT.1).mono (fun k hk h=>by have h':k=bd:=h;omega)
 have hS:=own_base0 hown
 have hap:∀k,some k=dv.ownBlock→k≠bc∧k≠bd∧k≠br:=fun k hk=>by
  have h1:=own_ge hown k hk
  omega
 clear hown hnil
 clear hT
 have fz:=hC.frozen 7
 have cz:=hC.cell 7
 simp at cz
 obtain⟨dA,dn,dc,rfl⟩:∃A n c,dv=.slice A n c:=by obtain⟨A,c,h⟩:=own_slc hS;exact⟨A,_,c,h⟩
 go_wp2_with fail
 replace hC:At (w8.setCell ⟨bc,7,none⟩ (.slice dA dn dc)) bc 39 #[.int .i64 ((xk:Nat):Int),.int .i64 ((xcl:Nat):Int),.int .i64 ((xsq:Nat):Int),.string ⟨xnm.toArray⟩,.int .u64 ((xbl:Nat):Int),.int .i64 ((xsz:Nat):Int),.int .u32 ((xsu:Int) % 4294967296),.slice dA dn dc,.int .i64 0,.int .i64 0,.int .i64 0]:=hC.set 7 _
 replace hD:DecAt (w8.setCell ⟨bc,7,none⟩ (.slice dA dn dc)) bd s d8:=hD.chg ((Chg.refl (· = bc) _).setCell (.inl rfl) _) (fun h=>hne (Eq.symm h))
 replace hR:At (w8.setCell ⟨bc,7,none⟩ (.slice dA dn dc)) br 39 #[.int .i64 0,.int .i64 0,.int .i64 0,.string ⟨#[]⟩,.int .u64 0,.int .i64 0,.int .u32 0,.slice none 0 0,.int .i64 0,.int .i64 0,.int .i64 0]:=hR.chg ((Chg.refl (· = bc) _).setCell (.inl rfl) _) (fun h=>hrc h)
 replace X:Ext w (w8.setCell ⟨bc,7,none⟩ (.slice dA dn dc)):=X.setCell hcl _
 replace hS:World.ownsRow (w8.setCell ⟨bc,7,none⟩ (.slice dA dn dc)) 0 3 1 (.slice dA dn dc) xdk.length (xdk.map (Value.int .i64)):=own_keep hS ((Chg.refl (· = bc) _).setCell (.inl rfl) _) (fun k hk h=>(hap k hk).1 h)
 clear fz cz
 generalize w8.setCell ⟨bc,7,none⟩ (.slice dA dn dc)=v8 at hC hD hR X hS⊢
 have con:=di_any v8 bd s d8 hD 1 (by decide) (by decide)
 generalize hpo:d8.i 1=rpo at con
 obtain⟨xpo,d9⟩:=rpo
 simp only at con
 have Hpo:=Lib.hid hpo
 clear hpo
 refine con.mono ?_
 clear con
 rintro e w9 ⟨rfl,hT⟩
 replace hD:=hT.2
 replace hC:=hC.chg hT.1 (fun h=>hne h)
 replace hR:=hR.chg hT.1 (fun h=>hnr h)
 replace X:Ext w w9:=(X.chg_trans hT.1).mono (fun k hk h=>by have h':k=bd:=h;omega)
 replace hS:=own_keep hS hT.1 (fun k hk h=>(hap k hk).2.1 h)
 clear hT
 have fz:=hC.frozen 8
 have cz:=hC.cell 8
 simp at cz
 go_wp2_with fail
 replace hC:At (w9.setCell ⟨bc,8,none⟩ (.int .i64 ((xpo:Nat):Int))) bc 39 #[.int .i64 ((xk:Nat):Int),.int .i64 ((xcl:Nat):Int),.int .i64 ((xsq:Nat):Int),.string ⟨xnm.toArray⟩,.int .u64 ((xbl:Nat):Int),.int .i64 ((xsz:Nat):Int),.int .u32 ((xsu:Int) % 4294967296),.slice dA dn dc,.int .i64 ((xpo:Nat):Int),.int .i64 0,.int .i64 0]:=hC.set 8 _
 replace hD:DecAt (w9.setCell ⟨bc,8,none⟩ (.int .i64 ((xpo:Nat):Int))) bd s d9:=hD.chg ((Chg.refl (· = bc) _).setCell (.inl rfl) _) (fun h=>hne (Eq.symm h))
 replace hR:At (w9.setCell ⟨bc,8,none⟩ (.int .i64 ((xpo:Nat):Int))) br 39 #[.int .i64 0,.int .i64 0,.int .i64 0,.string ⟨#[]⟩,.int .u64 0,.int .i64 0,.int .u32 0,.slice none 0 0,.int .i64 0,.int .i64 0,.int .i64 0]:=hR.chg ((Chg.refl (· = bc) _).setCell (.inl rfl) _) (fun h=>hrc h)
 replace X:Ext w (w9.setCell ⟨bc,8,none⟩ (.int .i64 ((xpo:Nat):Int))):=X.setCell hcl _
 replace hS:World.ownsRow (w9.setCell ⟨bc,8,none⟩ (.int .i64 ((xpo:Nat):Int))) 0 3 1 (.slice dA dn dc) xdk.length (xdk.map (Value.int .i64)):=own_keep hS ((Chg.refl (· = bc) _).setCell (.inl rfl) _) (fun k hk h=>(hap k hk).1 h)
 clear fz cz
 generalize w9.setCell ⟨bc,8,none⟩ (.int .i64 ((xpo:Nat):Int))=v9 at hC hD hR X hS⊢
 have con:=di_any v9 bd s d9 hD 11 (by decide) (by decide)
 generalize hvo:d9.i 11=rvo at con
 obtain⟨xvo,d10⟩:=rvo
 simp only at con
 have Hvo:=Lib.hid hvo
 clear hvo
 refine con.mono ?_
 clear con
 rintro e w10 ⟨rfl,hT⟩
 replace hD:=hT.2
 replace hC:=hC.chg hT.1 (fun h=>hne h)
 replace hR:=hR.chg hT.1 (fun h=>hnr h)
 replace X:Ext w w10:=(X.chg_trans hT.1).mono (fun k hk h=>by have h':k=bd:=h;omega)
 replace hS:=own_keep hS hT.1 (fun k hk h=>(hap k hk).2.1 h)
 clear hT
 have fz:=hC.frozen 9
 have cz:=hC.cell 9
 simp at cz
 go_wp2_with fail
 replace hC:At (w10.setCell ⟨bc,9,none⟩ (.int .i64 ((xvo:Nat):Int))) bc 39 #[.int .i64 ((xk:Nat):Int),.int .i64 ((xcl:Nat):Int),.int .i64 ((xsq:Nat):Int),.string ⟨xnm.toArray⟩,.int .u64 ((xbl:Nat):Int),.int .i64 ((xsz:Nat):Int),.int .u32 ((xsu:Int) % 4294967296),.slice dA dn dc,.int .i64 ((xpo:Nat):Int),.int .i64 ((xvo:Nat):Int),.int .i64 0]:=hC.set 9 _
 replace hD:DecAt (w10.setCell ⟨bc,9,none⟩ (.int .i64 ((xvo:Nat):Int))) bd s d10:=hD.chg ((Chg.refl (· = bc) _).setCell (.inl rfl) _) (fun h=>hne (Eq.symm h))
 replace hR:At (w10.setCell ⟨bc,9,none⟩ (.int .i64 ((xvo:Nat):Int))) br 39 #[.int .i64 0,.int .i64 0,.int .i64 0,.string ⟨#[]⟩,.int .u64 0,.int .i64 0,.int .u32 0,.slice none 0 0,.int .i64 0,.int .i64 0,.int .i64 0]:=hR.chg ((Chg.refl (· = bc) _).setCell (.inl rfl) _) (fun h=>hrc h)
 replace X:Ext w (w10.setCell ⟨bc,9,none⟩ (.int .i64 ((xvo:Nat):Int))):=X.setCell hcl _
 replace hS:World.ownsRow (w10.setCell ⟨bc,9,none⟩ (.int .i64 ((xvo:Nat):Int))) 0 3 1 (.slice dA dn dc) xdk.length (xdk.map (Value.int .i64)):=own_keep hS ((Chg.refl (· = bc) _).setCell (.inl rfl) _) (fun k hk h=>(hap k hk).1 h)
 clear fz cz
 generalize w10.setCell ⟨bc,9,none⟩ (.int .i64 ((xvo:Nat):Int))=v10 at hC hD hR X hS⊢
 have con:=di_any v10 bd s d10 hD 1073741824 (by decide) (by decide)
 generalize hat_:d10.i 1073741824=rat_ at con
 obtain⟨xat_,d11⟩:=rat_
 simp only at con
 have Hat_:=Lib.hid hat_
 clear hat_
 refine con.mono ?_
 clear con
 rintro e w11 ⟨rfl,hT⟩
 replace hD:=hT.2
 replace hC:=hC.chg hT.1 (fun h=>hne h)
 replace hR:=hR.chg hT.1 (fun h=>hnr h)
 replace X:Ext w w11:=(X.chg_trans hT.1).mono (fun k hk h=>by have h':k=bd:=h;omega)
 replace hS:=own_keep hS hT.1 (fun k hk h=>(hap k hk).2.1 h)
 clear hT
 have fz:=hC.frozen 10
 have cz:=hC.cell 10
 simp at cz
 have z0:=hC.cell 0
 simp at z0
 have z1:=hC.cell 1
 simp at z1
 have z2:=hC.cell 2
 simp at z2
 have z3:=hC.cell 3
 simp at z3
 have z4:=hC.cell 4
 simp at z4
 have z5:=hC.cell 5
 simp at z5
 have z6:=hC.cell 6
 simp at z6
 have z7:=hC.cell 7
 simp at z7
 have z8:=hC.cell 8
 simp at z8
 have z9:=hC.cell 9
 simp at z9
 have hraw:craw (⟨s.data.toList,0⟩:Dc)=((⟨(xk:Int),(xcl:Int),(xsq:Int),⟨xnm.toArray⟩,xbl,(xsz:Int),xsu % 4294967296,xdk,(xpo:Int),(xvo:Int),(xat_:Int)⟩:Cmd),xsu,d11):=by
  simp only[craw,Hk.out,Hcl.out,Hsq.out,Hnm.out,Hbl.out,Hsz.out,Hsu.out,Hdk.out,Hpo.out,Hvo.out,Hat_.out]
 by_cases hbig:4294967295<xsu
 ·have t0:decide ((4294967295:Int)<(xsu:Int))=true:=by simp;omega
  go_wp2_with fail
  replace hC:At (w11.setCell ⟨bc,10,none⟩ (.int .i64 ((xat_:Nat):Int))) bc 39 #[.int .i64 ((xk:Nat):Int),.int .i64 ((xcl:Nat):Int),.int .i64 ((xsq:Nat):Int),.string ⟨xnm.toArray⟩,.int .u64 ((xbl:Nat):Int),.int .i64 ((xsz:Nat):Int),.int .u32 ((xsu:Int) % 4294967296),.slice dA dn dc,.int .i64 ((xpo:Nat):Int),.int .i64 ((xvo:Nat):Int),.int .i64 ((xat_:Nat):Int)]:=hC.set 10 _
  replace hD:DecAt (w11.setCell ⟨bc,10,none⟩ (.int .i64 ((xat_:Nat):Int))) bd s d11:=hD.chg ((Chg.refl (· = bc) _).setCell (.inl rfl) _) (fun h=>hne (Eq.symm h))
  replace hR:At (w11.setCell ⟨bc,10,none⟩ (.int .i64 ((xat_:Nat):Int))) br 39 #[.int .i64 0,.int .i64 0,.int .i64 0,.string ⟨#[]⟩,.int .u64 0,.int .i64 0,.int .u32 0,.slice none 0 0,.int .i64 0,.int .i64 0,.int .i64 0]:=hR.chg ((Chg.refl (· = bc) _).setCell (.inl rfl) _) (fun h=>hrc h)
  replace X:Ext w (w11.setCell ⟨bc,10,none⟩ (.int .i64 ((xat_:Nat):Int))):=X.setCell hcl _
  replace hS:World.ownsRow (w11.setCell ⟨bc,10,none⟩ (.int .i64 ((xat_:Nat):Int))) 0 3 1 (.slice dA dn dc) xdk.length (xdk.map (Value.int .i64)):=own_keep hS ((Chg.refl (· = bc) _).setCell (.inl rfl) _) (fun k hk h=>(hap k hk).1 h)
  clear z0 z1 z2 z3 z4 z5 z6 z7 z8 z9
  generalize w11.setCell ⟨bc,10,none⟩ (.int .i64 ((xat_:Nat):Int))=v11 at hC hD hR X hS⊢
  have con:=dfail_any v11 bd s d11 hD 3 (by decide)
  refine con.mono ?_
  clear con
  rintro e wy ⟨rfl,hT⟩
  replace hC:=hC.chg hT.1 (fun h=>hne h)
  replace hR:=hR.chg hT.1 (fun h=>hnr h)
  replace X:Ext w wy:=(X.chg_trans hT.1).mono (fun k hk h=>by have h':k=bd:=h;omega)
  replace hS:=own_keep hS hT.1 (fun k hk h=>(hap k hk).2.1 h)
  replace hD:=hT.2
  clear hT
  go_wp2_with fail
  have con:=ddone_any wy bd s (d11.fail 3) hD
  have hce:cend ((⟨(xk:Int),(xcl:Int),(xsq:Int),⟨xnm.toArray⟩,xbl,(xsz:Int),xsu % 4294967296,xdk,(xpo:Int),(xvo:Int),(xat_:Int)⟩:Cmd),xsu,d11)=(d11.fail 3).done:=by unfold cend;rw[if_pos (by simp[hbig])]
  generalize (d11.fail 3).done=E at con hce
  have hcr:F=if E.err=0 then((⟨(xk:Int),(xcl:Int),(xsq:Int),⟨xnm.toArray⟩,xbl,(xsz:Int),xsu % 4294967296,xdk,(xpo:Int),(xvo:Int),(xat_:Int)⟩:Cmd),0)else(Cmd.zero,E.err):=by
   rw[←HF.out];unfold cread;rw[hraw,hce]
  clear hce hraw
  refine con.mono ?_
  clear con
  rintro e wz ⟨rfl,hT⟩
  replace hC:=hC.chg hT.1 (fun h=>hne h)
  replace hR:=hR.chg hT.1 (fun h=>hnr h)
  replace X:Ext w wz:=(X.chg_trans hT.1).mono (fun k hk h=>by have h':k=bd:=h;omega)
  replace hS:=own_keep hS hT.1 (fun k hk h=>(hap k hk).2.1 h)
  clear hT hD
  by_cases he:E.err=0
  ·rw[if_pos he]at hcr
   have t1:(E.err == 0)=true:=by simpa using he
   have t2:(E.err != 0)=false:=by simpa using he
   have HC:=Lib.hid hcr
   clear hcr he
   have y0:=hC.cell 0
   have y1:=hC.cell 1
   have y2:=hC.cell 2
   have y3:=hC.cell 3
   have y4:=hC.cell 4
   have y5:=hC.cell 5
   have y6:=hC.cell 6
   have y7:=hC.cell 7
   have y8:=hC.cell 8
   have y9:=hC.cell 9
   have y10:=hC.cell 10
   have u0:=hR.cell 0
   have u1:=hR.cell 1
   have u2:=hR.cell 2
   have u3:=hR.cell 3
   have u4:=hR.cell 4
   have u5:=hR.cell 5
   have u6:=hR.cell 6
   have u7:=hR.cell 7
   have u8:=hR.cell 8
   have u9:=hR.cell 9
   have u10:=hR.cell 10
   have f0:=hR.frozen 0
   have f1:=hR.frozen 1
   have f2:=hR.frozen 2
   have f3:=hR.frozen 3
   have f4:=hR.frozen 4
   have f5:=hR.frozen 5
   have f6:=hR.frozen 6
   have f7:=hR.frozen 7
   have f8:=hR.frozen 8
   have f9:=hR.frozen 9
   have f10:=hR.frozen 10
   simp at y0 u0 y1 u1 y2 u2 y3 u3 y4 u4 y5 u5 y6 u6 y7 u7 y8 u8 y9 u9 y10 u10
   go_wp2_with fail
   have hF:Chg (· = br) wz (setAll wz br 0 [.int .i64 ((xk:Nat):Int),.int .i64 ((xcl:Nat):Int),.int .i64 ((xsq:Nat):Int),.string ⟨xnm.toArray⟩,.int .u64 ((xbl:Nat):Int),.int .i64 ((xsz:Nat):Int),.int .u32 ((xsu:Int) % 4294967296),.slice dA dn dc,.int .i64 ((xpo:Nat):Int),.int .i64 ((xvo:Nat):Int),.int .i64 ((xat_:Nat):Int)]):=chg_setAll wz br _ 0 wz (Chg.refl _ _)
   have hA:At (setAll wz br 0 [.int .i64 ((xk:Nat):Int),.int .i64 ((xcl:Nat):Int),.int .i64 ((xsq:Nat):Int),.string ⟨xnm.toArray⟩,.int .u64 ((xbl:Nat):Int),.int .i64 ((xsz:Nat):Int),.int .u32 ((xsu:Int) % 4294967296),.slice dA dn dc,.int .i64 ((xpo:Nat):Int),.int .i64 ((xvo:Nat):Int),.int .i64 ((xat_:Nat):Int)]) br 39 #[.int .i64 ((xk:Nat):Int),.int .i64 ((xcl:Nat):Int),.int .i64 ((xsq:Nat):Int),.string ⟨xnm.toArray⟩,.int .u64 ((xbl:Nat):Int),.int .i64 ((xsz:Nat):Int),.int .u32 ((xsu:Int) % 4294967296),.slice dA dn dc,.int .i64 ((xpo:Nat):Int),.int .i64 ((xvo:Nat):Int),.int .i64 ((xat_:Nat):Int)]:=hR.setAll rfl
   have hw:(((((((((((wz).setCell ⟨br,0,none⟩ (.int .i64 ((xk:Nat):Int))).setCell ⟨br,1,none⟩ (.int .i64 ((xcl:Nat):Int))).setCell ⟨br,2,none⟩ (.int .i64 ((xsq:Nat):Int))).setCell ⟨br,3,none⟩ (.string ⟨xnm.toArray⟩)).setCell ⟨br,4,none⟩ (.int .u64 ((xbl:Nat):Int))).setCell ⟨br,5,none⟩ (.int .i64 ((xsz:Nat):Int))).setCell ⟨br,6,none⟩ (.int .u32 ((xsu:Int) % 4294967296))).setCell ⟨br,7,none⟩ (.slice dA dn dc)).setCell ⟨br,8,none⟩ (.int .i64 ((xpo:Nat):Int))).setCell ⟨br,9,none⟩ (.int .i64 ((xvo:Nat):Int))).setCell ⟨br,10,none⟩ (.int .i64 ((xat_:Nat):Int))=setAll wz br 0 [.int .i64 ((xk:Nat):Int),.int .i64 ((xcl:Nat):Int),.int .i64 ((xsq:Nat):Int),.string ⟨xnm.toArray⟩,.int .u64 ((xbl:Nat):Int),.int .i64 ((xsz:Nat):Int),.int .u32 ((xsu:Int) % 4294967296),.slice dA dn dc,.int .i64 ((xpo:Nat):Int),.int .i64 ((xvo:Nat):Int),.int .i64 ((xat_:Nat):Int)]:=rfl
   rw[hw]
   clear hw
   generalize setAll wz br 0 [.int .i64 ((xk:Nat):Int),.int .i64 ((xcl:Nat):Int),.int .i64 ((xsq:Nat):Int),.string ⟨xnm.toArray⟩,.int .u64 ((xbl:Nat):Int),.int .i64 ((xsz:Nat):Int),.int .u32 ((xsu:Int) % 4294967296),.slice dA dn dc,.int .i64 ((xpo:Nat):Int),.int .i64 ((xvo:Nat):Int),.int .i64 ((xat_:Nat):Int)]=wf at hF hA⊢
   clear y0 u0 f0 y1 u1 f1 y2 u2 f2 y3 u3 f3 y4 u4 f4 y5 u5 f5 y6 u6 f6 y7 u7 f7 y8 u8 f8 y9 u9 f9 y10 u10 f10
   have g0:=hA.cell 0
   have g1:=hA.cell 1
   have g2:=hA.cell 2
   have g3:=hA.cell 3
   have g4:=hA.cell 4
   have g5:=hA.cell 5
   have g6:=hA.cell 6
   have g7:=hA.cell 7
   have g8:=hA.cell 8
   have g9:=hA.cell 9
   have g10:=hA.cell 10
   simp at g0 g1 g2 g3 g4 g5 g6 g7 g8 g9 g10
   have hcm:cmdVal F.1 (.slice dA dn dc)=.agg #[.int .i64 ((xk:Nat):Int),.int .i64 ((xcl:Nat):Int),.int .i64 ((xsq:Nat):Int),.string ⟨xnm.toArray⟩,.int .u64 ((xbl:Nat):Int),.int .i64 ((xsz:Nat):Int),.int .u32 ((xsu:Int) % 4294967296),.slice dA dn dc,.int .i64 ((xpo:Nat):Int),.int .i64 ((xvo:Nat):Int),.int .i64 ((xat_:Nat):Int)]:=by rw[HC.out];simp[cmdVal]
   refine bodyPost_ret (v:=.tuple #[.agg #[.int .i64 ((xk:Nat):Int),.int .i64 ((xcl:Nat):Int),.int .i64 ((xsq:Nat):Int),.string ⟨xnm.toArray⟩,.int .u64 ((xbl:Nat):Int),.int .i64 ((xsz:Nat):Int),.int .u32 ((xsu:Int) % 4294967296),.slice dA dn dc,.int .i64 ((xpo:Nat):Int),.int .i64 ((xvo:Nat):Int),.int .i64 ((xat_:Nat):Int)],.int .i64 0]) (by simp[results,Tryz.results30,go_sem,g0,g1,g2,g3,g4,g5,g6,g7,g8,g9,g10]) rfl ⟨.slice dA dn dc,by rw[hcm,HC.out],?_,(X.chg_trans hF).mono (fun k hk h=>by have h':k=br:=h;omega)⟩
   rw[HC.out]
   exact own_keep hS hF (fun k hk h=>(hap k hk).2.2 h)
  ·rw[if_neg he]at hcr
   have t1:(E.err == 0)=false:=by simpa using he
   have t2:(E.err != 0)=true:=by simpa using he
   have HC:=Lib.hid hcr
   clear hcr he
   have y0:=hC.cell 0
   have y1:=hC.cell 1
   have y2:=hC.cell 2
   have y3:=hC.cell 3
   have y4:=hC.cell 4
   have y5:=hC.cell 5
   have y6:=hC.cell 6
   have y7:=hC.cell 7
   have y8:=hC.cell 8
   have y9:=hC.cell 9
   have y10:=hC.cell 10
   have u0:=hR.cell 0
   have u1:=hR.cell 1
   have u2:=hR.cell 2
   have u3:=hR.cell 3
   have u4:=hR.cell 4
   have u5:=hR.cell 5
   have u6:=hR.cell 6
   have u7:=hR.cell 7
   have u8:=hR.cell 8
   have u9:=hR.cell 9
   have u10:=hR.cell 10
   have f0:=hR.frozen 0
   have f1:=hR.frozen 1
   have f2:=hR.frozen 2
   have f3:=hR.frozen 3
   have f4:=hR.frozen 4
   have f5:=hR.frozen 5
   have f6:=hR.frozen 6
   have f7:=hR.frozen 7
   have f8:=hR.frozen 8
   have f9:=hR.frozen 9
   have f10:=hR.frozen 10
   simp at y0 u0 y1 u1 y2 u2 y3 u3 y4 u4 y5 u5 y6 u6 y7 u7 y8 u8 y9 u9 y10 u10
   go_wp2_with fail
   have hF:Chg (· = br) wz (setAll wz br 0 [.int .i64 0,.int .i64 0,.int .i64 0,.string ⟨#[]⟩,.int .u64 0,.int .i64 0,.int .u32 0,.slice none 0 0,.int .i64 0,.int .i64 0,.int .i64 0]):=chg_setAll wz br _ 0 wz (Chg.refl _ _)
   have hA:At (setAll wz br 0 [.int .i64 0,.int .i64 0,.int .i64 0,.string ⟨#[]⟩,.int .u64 0,.int .i64 0,.int .u32 0,.slice none 0 0,.int .i64 0,.int .i64 0,.int .i64 0]) br 39 #[.int .i64 0,.int .i64 0,.int .i64 0,.string ⟨#[]⟩,.int .u64 0,.int .i64 0,.int .u32 0,.slice none 0 0,.int .i64 0,.int .i64 0,.int .i64 0]:=hR.setAll rfl
   have hw:(((((((((((wz).setCell ⟨br,0,none⟩ (.int .i64 0)).setCell ⟨br,1,none⟩ (.int .i64 0)).setCell ⟨br,2,none⟩ (.int .i64 0)).setCell ⟨br,3,none⟩ (.string ⟨#[]⟩)).setCell ⟨br,4,none⟩ (.int .u64 0)).setCell ⟨br,5,none⟩ (.int .i64 0)).setCell ⟨br,6,none⟩ (.int .u32 0)).setCell ⟨br,7,none⟩ (.slice none 0 0)).setCell ⟨br,8,none⟩ (.int .i64 0)).setCell ⟨br,9,none⟩ (.int .i64 0)).setCell ⟨br,10,none⟩ (.int .i64 0)=setAll wz br 0 [.int .i64 0,.int .i64 0,.int .i64 0,.string ⟨#[]⟩,.int .u64 0,.int .i64 0,.int .u32 0,.slice none 0 0,.int .i64 0,.int .i64 0,.int .i64 0]:=rfl
   rw[hw]
   clear hw
   generalize setAll wz br 0 [.int .i64 0,.int .i64 0,.int .i64 0,.string ⟨#[]⟩,.int .u64 0,.int .i64 0,.int .u32 0,.slice none 0 0,.int .i64 0,.int .i64 0,.int .i64 0]=wf at hF hA⊢
   clear y0 u0 f0 y1 u1 f1 y2 u2 f2 y3 u3 f3 y4 u4 f4 y5 u5 f5 y6 u6 f6 y7 u7 f7 y8 u8 f8 y9 u9 f9 y10 u10 f10
   have g0:=hA.cell 0
   have g1:=hA.cell 1
   have g2:=hA.cell 2
   have g3:=hA.cell 3
   have g4:=hA.cell 4
   have g5:=hA.cell 5
   have g6:=hA.cell 6
   have g7:=hA.cell 7
   have g8:=hA.cell 8
   have g9:=hA.cell 9
   have g10:=hA.cell 10
   simp at g0 g1 g2 g3 g4 g5 g6 g7 g8 g9 g10
   have hcm:cmdVal F.1 (.slice none 0 0)=.agg #[.int .i64 0,.int .i64 0,.int .i64 0,.string ⟨#[]⟩,.int .u64 0,.int .i64 0,.int .u32 0,.slice none 0 0,.int .i64 0,.int .i64 0,.int .i64 0]:=by rw[HC.out];rfl
   refine bodyPost_ret (v:=.tuple #[.agg #[.int .i64 0,.int .i64 0,.int .i64 0,.string ⟨#[]⟩,.int .u64 0,.int .i64 0,.int .u32 0,.slice none 0 0,.int .i64 0,.int .i64 0,.int .i64 0],.int .i64 E.err]) (by simp[results,Tryz.results30,go_sem,g0,g1,g2,g3,g4,g5,g6,g7,g8,g9,g10]) rfl ⟨.slice none 0 0,by rw[hcm,HC.out],?_,(X.chg_trans hF).mono (fun k hk h=>by have h':k=br:=h;omega)⟩
   rw[HC.out]
   exact⟨rfl,.inl ⟨rfl,rfl⟩⟩
 ·have t0:decide ((4294967295:Int)<(xsu:Int))=false:=by simp;omega
  go_wp2_with fail
  replace hC:At (w11.setCell ⟨bc,10,none⟩ (.int .i64 ((xat_:Nat):Int))) bc 39 #[.int .i64 ((xk:Nat):Int),.int .i64 ((xcl:Nat):Int),.int .i64 ((xsq:Nat):Int),.string ⟨xnm.toArray⟩,.int .u64 ((xbl:Nat):Int),.int .i64 ((xsz:Nat):Int),.int .u32 ((xsu:Int) % 4294967296),.slice dA dn dc,.int .i64 ((xpo:Nat):Int),.int .i64 ((xvo:Nat):Int),.int .i64 ((xat_:Nat):Int)]:=hC.set 10 _
  replace hD:DecAt (w11.setCell ⟨bc,10,none⟩ (.int .i64 ((xat_:Nat):Int))) bd s d11:=hD.chg ((Chg.refl (· = bc) _).setCell (.inl rfl) _) (fun h=>hne (Eq.symm h))
  replace hR:At (w11.setCell ⟨bc,10,none⟩ (.int .i64 ((xat_:Nat):Int))) br 39 #[.int .i64 0,.int .i64 0,.int .i64 0,.string ⟨#[]⟩,.int .u64 0,.int .i64 0,.int .u32 0,.slice none 0 0,.int .i64 0,.int .i64 0,.int .i64 0]:=hR.chg ((Chg.refl (· = bc) _).setCell (.inl rfl) _) (fun h=>hrc h)
  replace X:Ext w (w11.setCell ⟨bc,10,none⟩ (.int .i64 ((xat_:Nat):Int))):=X.setCell hcl _
  replace hS:World.ownsRow (w11.setCell ⟨bc,10,none⟩ (.int .i64 ((xat_:Nat):Int))) 0 3 1 (.slice dA dn dc) xdk.length (xdk.map (Value.int .i64)):=own_keep hS ((Chg.refl (· = bc) _).setCell (.inl rfl) _) (fun k hk h=>(hap k hk).1 h)
  clear z0 z1 z2 z3 z4 z5 z6 z7 z8 z9
  generalize w11.setCell ⟨bc,10,none⟩ (.int .i64 ((xat_:Nat):Int))=v11 at hC hD hR X hS⊢
  have cg:=good_any v11 (⟨(xk:Int),(xcl:Int),(xsq:Int),⟨xnm.toArray⟩,xbl,(xsz:Int),xsu % 4294967296,xdk,(xpo:Int),(xvo:Int),(xat_:Int)⟩:Cmd) (.slice dA dn dc) (Sl.of_own hS) (by simp only;omega) (by show xnm.toArray.size≤_;simp;omega)
  unfold cmdVal at cg
  simp only at cg
  rw[show((xsu % 4294967296:Nat):Int)=(xsu:Int) % 4294967296 from by omega]at cg
  refine cg.mono ?_
  clear cg
  rintro e wg ⟨rfl,hEg⟩
  replace hC:=hC.ext hEg
  replace hD:DecAt wg bd s d11:=hD.chg hEg (fun h=>h)
  replace hR:=hR.ext hEg
  replace X:=X.trans hEg
  replace hS:=own_keep hS hEg (fun _ _ hh=>hh)
  clear hEg
  cases hgd:Cmd.good (⟨(xk:Int),(xcl:Int),(xsq:Int),⟨xnm.toArray⟩,xbl,(xsz:Int),xsu % 4294967296,xdk,(xpo:Int),(xvo:Int),(xat_:Int)⟩:Cmd)
  ·go_wp2_with fail
   have con:=dfail_any wg bd s d11 hD 3 (by decide)
   refine con.mono ?_
   clear con
   rintro e wy ⟨rfl,hT⟩
   replace hC:=hC.chg hT.1 (fun h=>hne h)
   replace hR:=hR.chg hT.1 (fun h=>hnr h)
   replace X:Ext w wy:=(X.chg_trans hT.1).mono (fun k hk h=>by have h':k=bd:=h;omega)
   replace hS:=own_keep hS hT.1 (fun k hk h=>(hap k hk).2.1 h)
   replace hD:=hT.2
   clear hT
   go_wp2_with fail
   have con:=ddone_any wy bd s (d11.fail 3) hD
   have hce:cend ((⟨(xk:Int),(xcl:Int),(xsq:Int),⟨xnm.toArray⟩,xbl,(xsz:Int),xsu % 4294967296,xdk,(xpo:Int),(xvo:Int),(xat_:Int)⟩:Cmd),xsu,d11)=(d11.fail 3).done:=by unfold cend;rw[if_pos (by simp only[hgd];simp)]
   generalize (d11.fail 3).done=E at con hce
   have hcr:F=if E.err=0 then((⟨(xk:Int),(xcl:Int),(xsq:Int),⟨xnm.toArray⟩,xbl,(xsz:Int),xsu % 4294967296,xdk,(xpo:Int),(xvo:Int),(xat_:Int)⟩:Cmd),0)else(Cmd.zero,E.err):=by
    rw[←HF.out];unfold cread;rw[hraw,hce]
   clear hce hraw
   refine con.mono ?_
   clear con
   rintro e wz ⟨rfl,hT⟩
   replace hC:=hC.chg hT.1 (fun h=>hne h)
   replace hR:=hR.chg hT.1 (fun h=>hnr h)
   replace X:Ext w wz:=(X.chg_trans hT.1).mono (fun k hk h=>by have h':k=bd:=h;omega)
   replace hS:=own_keep hS hT.1 (fun k hk h=>(hap k hk).2.1 h)
   clear hT hD
   by_cases he:E.err=0
   ·rw[if_pos he]at hcr
    have t1:(E.err == 0)=true:=by simpa using he
    have t2:(E.err != 0)=false:=by simpa using he
    have HC:=Lib.hid hcr
    clear hcr he
    have y0:=hC.cell 0
    have y1:=hC.cell 1
    have y2:=hC.cell 2
    have y3:=hC.cell 3
    have y4:=hC.cell 4
    have y5:=hC.cell 5
    have y6:=hC.cell 6
    have y7:=hC.cell 7
    have y8:=hC.cell 8
    have y9:=hC.cell 9
    have y10:=hC.cell 10
    have u0:=hR.cell 0
    have u1:=hR.cell 1
    have u2:=hR.cell 2
    have u3:=hR.cell 3
    have u4:=hR.cell 4
    have u5:=hR.cell 5
    have u6:=hR.cell 6
    have u7:=hR.cell 7
    have u8:=hR.cell 8
    have u9:=hR.cell 9
    have u10:=hR.cell 10
    have f0:=hR.frozen 0
    have f1:=hR.frozen 1
    have f2:=hR.frozen 2
    have f3:=hR.frozen 3
    have f4:=hR.frozen 4
    have f5:=hR.frozen 5
    have f6:=hR.frozen 6
    have f7:=hR.frozen 7
    have f8:=hR.frozen 8
    have f9:=hR.frozen 9
    have f10:=hR.frozen 10
    simp at y0 u0 y1 u1 y2 u2 y3 u3 y4 u4 y5 u5 y6 u6 y7 u7 y8 u8 y9 u9 y10 u10
    go_wp2_with fail
    have hF:Chg (· = br) wz (setAll wz br 0 [.int .i64 ((xk:Nat):Int),.int .i64 ((xcl:Nat):Int),.int .i64 ((xsq:Nat):Int),.string ⟨xnm.toArray⟩,.int .u64 ((xbl:Nat):Int),.int .i64 ((xsz:Nat):Int),.int .u32 ((xsu:Int) % 4294967296),.slice dA dn dc,.int .i64 ((xpo:Nat):Int),.int .i64 ((xvo:Nat):Int),.int .i64 ((xat_:Nat):Int)]):=chg_setAll wz br _ 0 wz (Chg.refl _ _)
    have hA:At (setAll wz br 0 [.int .i64 ((xk:Nat):Int),.int .i64 ((xcl:Nat):Int),.int .i64 ((xsq:Nat):Int),.string ⟨xnm.toArray⟩,.int .u64 ((xbl:Nat):Int),.int .i64 ((xsz:Nat):Int),.int .u32 ((xsu:Int) % 4294967296),.slice dA dn dc,.int .i64 ((xpo:Nat):Int),.int .i64 ((xvo:Nat):Int),.int .i64 ((xat_:Nat):Int)]) br 39 #[.int .i64 ((xk:Nat):Int),.int .i64 ((xcl:Nat):Int),.int .i64 ((xsq:Nat):Int),.string ⟨xnm.toArray⟩,.int .u64 ((xbl:Nat):Int),.int .i64 ((xsz:Nat):Int),.int .u32 ((xsu:Int) % 4294967296),.slice dA dn dc,.int .i64 ((xpo:Nat):Int),.int .i64 ((xvo:Nat):Int),.int .i64 ((xat_:Nat):Int)]:=hR.setAll rfl
    have hw:(((((((((((wz).setCell ⟨br,0,none⟩ (.int .i64 ((xk:Nat):Int))).setCell ⟨br,1,none⟩ (.int .i64 ((xcl:Nat):Int))).setCell ⟨br,2,none⟩ (.int .i64 ((xsq:Nat):Int))).setCell ⟨br,3,none⟩ (.string ⟨xnm.toArray⟩)).setCell ⟨br,4,none⟩ (.int .u64 ((xbl:Nat):Int))).setCell ⟨br,5,none⟩ (.int .i64 ((xsz:Nat):Int))).setCell ⟨br,6,none⟩ (.int .u32 ((xsu:Int) % 4294967296))).setCell ⟨br,7,none⟩ (.slice dA dn dc)).setCell ⟨br,8,none⟩ (.int .i64 ((xpo:Nat):Int))).setCell ⟨br,9,none⟩ (.int .i64 ((xvo:Nat):Int))).setCell ⟨br,10,none⟩ (.int .i64 ((xat_:Nat):Int))=setAll wz br 0 [.int .i64 ((xk:Nat):Int),.int .i64 ((xcl:Nat):Int),.int .i64 ((xsq:Nat):Int),.string ⟨xnm.toArray⟩,.int .u64 ((xbl:Nat):Int),.int .i64 ((xsz:Nat):Int),.int .u32 ((xsu:Int) % 4294967296),.slice dA dn dc,.int .i64 ((xpo:Nat):Int),.int .i64 ((xvo:Nat):Int),.int .i64 ((xat_:Nat):Int)]:=rfl
    rw[hw]
    clear hw
    generalize setAll wz br 0 [.int .i64 ((xk:Nat):Int),.int .i64 ((xcl:Nat):Int),.int .i64 ((xsq:Nat):Int),.string ⟨xnm.toArray⟩,.int .u64 ((xbl:Nat):Int),.int .i64 ((xsz:Nat):Int),.int .u32 ((xsu:Int) % 4294967296),.slice dA dn dc,.int .i64 ((xpo:Nat):Int),.int .i64 ((xvo:Nat):Int),.int .i64 ((xat_:Nat):Int)]=wf at hF hA⊢
    clear y0 u0 f0 y1 u1 f1 y2 u2 f2 y3 u3 f3 y4 u4 f4 y5 u5 f5 y6 u6 f6 y7 u7 f7 y8 u8 f8 y9 u9 f9 y10 u10 f10
    have g0:=hA.cell 0
    have g1:=hA.cell 1
    have g2:=hA.cell 2
    have g3:=hA.cell 3
    have g4:=hA.cell 4
    have g5:=hA.cell 5
    have g6:=hA.cell 6
    have g7:=hA.cell 7
    have g8:=hA.cell 8
    have g9:=hA.cell 9
    have g10:=hA.cell 10
    simp at g0 g1 g2 g3 g4 g5 g6 g7 g8 g9 g10
    have hcm:cmdVal F.1 (.slice dA dn dc)=.agg #[.int .i64 ((xk:Nat):Int),.int .i64 ((xcl:Nat):Int),.int .i64 ((xsq:Nat):Int),.string ⟨xnm.toArray⟩,.int .u64 ((xbl:Nat):Int),.int .i64 ((xsz:Nat):Int),.int .u32 ((xsu:Int) % 4294967296),.slice dA dn dc,.int .i64 ((xpo:Nat):Int),.int .i64 ((xvo:Nat):Int),.int .i64 ((xat_:Nat):Int)]:=by rw[HC.out];simp[cmdVal]
    refine bodyPost_ret (v:=.tuple #[.agg #[.int .i64 ((xk:Nat):Int),.int .i64 ((xcl:Nat):Int),.int .i64 ((xsq:Nat):Int),.string ⟨xnm.toArray⟩,.int .u64 ((xbl:Nat):Int),.int .i64 ((xsz:Nat):Int),.int .u32 ((xsu:Int) % 4294967296),.slice dA dn dc,.int .i64 ((xpo:Nat):Int),.int .i64 ((xvo:Nat):Int),.int .i64 ((xat_:Nat):Int)],.int .i64 0]) (by simp[results,Tryz.results30,go_sem,g0,g1,g2,g3,g4,g5,g6,g7,g8,g9,g10]) rfl ⟨.slice dA dn dc,by rw[hcm,HC.out],?_,(X.chg_trans hF).mono (fun k hk h=>by have h':k=br:=h;omega)⟩
    rw[HC.out]
    exact own_keep hS hF (fun k hk h=>(hap k hk).2.2 h)
   ·rw[if_neg he]at hcr
    have t1:(E.err == 0)=false:=by simpa using he
    have t2:(E.err != 0)=true:=by simpa using he
    have HC:=Lib.hid hcr
    clear hcr he
    have y0:=hC.cell 0
    have y1:=hC.cell 1
    have y2:=hC.cell 2
    have y3:=hC.cell 3
    have y4:=hC.cell 4
    have y5:=hC.cell 5
    have y6:=hC.cell 6
    have y7:=hC.cell 7
    have y8:=hC.cell 8
    have y9:=hC.cell 9
    have y10:=hC.cell 10
    have u0:=hR.cell 0
    have u1:=hR.cell 1
    have u2:=hR.cell 2
    have u3:=hR.cell 3
    have u4:=hR.cell 4
    have u5:=hR.cell 5
    have u6:=hR.cell 6
    have u7:=hR.cell 7
    have u8:=hR.cell 8
    have u9:=hR.cell 9
    have u10:=hR.cell 10
    have f0:=hR.frozen 0
    have f1:=hR.frozen 1
    have f2:=hR.frozen 2
    have f3:=hR.frozen 3
    have f4:=hR.frozen 4
    have f5:=hR.frozen 5
    have f6:=hR.frozen 6
    have f7:=hR.frozen 7
    have f8:=hR.frozen 8
    have f9:=hR.frozen 9
    have f10:=hR.frozen 10
    simp at y0 u0 y1 u1 y2 u2 y3 u3 y4 u4 y5 u5 y6 u6 y7 u7 y8 u8 y9 u9 y10 u10
    go_wp2_with fail
    have hF:Chg (· = br) wz (setAll wz br 0 [.int .i64 0,.int .i64 0,.int .i64 0,.string ⟨#[]⟩,.int .u64 0,.int .i64 0,.int .u32 0,.slice none 0 0,.int .i64 0,.int .i64 0,.int .i64 0]):=chg_setAll wz br _ 0 wz (Chg.refl _ _)
    have hA:At (setAll wz br 0 [.int .i64 0,.int .i64 0,.int .i64 0,.string ⟨#[]⟩,.int .u64 0,.int .i64 0,.int .u32 0,.slice none 0 0,.int .i64 0,.int .i64 0,.int .i64 0]) br 39 #[.int .i64 0,.int .i64 0,.int .i64 0,.string ⟨#[]⟩,.int .u64 0,.int .i64 0,.int .u32 0,.slice none 0 0,.int .i64 0,.int .i64 0,.int .i64 0]:=hR.setAll rfl
    have hw:(((((((((((wz).setCell ⟨br,0,none⟩ (.int .i64 0)).setCell ⟨br,1,none⟩ (.int .i64 0)).setCell ⟨br,2,none⟩ (.int .i64 0)).setCell ⟨br,3,none⟩ (.string ⟨#[]⟩)).setCell ⟨br,4,none⟩ (.int .u64 0)).setCell ⟨br,5,none⟩ (.int .i64 0)).setCell ⟨br,6,none⟩ (.int .u32 0)).setCell ⟨br,7,none⟩ (.slice none 0 0)).setCell ⟨br,8,none⟩ (.int .i64 0)).setCell ⟨br,9,none⟩ (.int .i64 0)).setCell ⟨br,10,none⟩ (.int .i64 0)=setAll wz br 0 [.int .i64 0,.int .i64 0,.int .i64 0,.string ⟨#[]⟩,.int .u64 0,.int .i64 0,.int .u32 0,.slice none 0 0,.int .i64 0,.int .i64 0,.int .i64 0]:=rfl
    rw[hw]
    clear hw
    generalize setAll wz br 0 [.int .i64 0,.int .i64 0,.int .i64 0,.string ⟨#[]⟩,.int .u64 0,.int .i64 0,.int .u32 0,.slice none 0 0,.int .i64 0,.int .i64 0,.int .i64 0]=wf at hF hA⊢
    clear y0 u0 f0 y1 u1 f1 y2 u2 f2 y3 u3 f3 y4 u4 f4 y5 u5 f5 y6 u6 f6 y7 u7 f7 y8 u8 f8 y9 u9 f9 y10 u10 f10
    have g0:=hA.cell 0
    have g1:=hA.cell 1
    have g2:=hA.cell 2
    have g3:=hA.cell 3
    have g4:=hA.cell 4
    have g5:=hA.cell 5
    have g6:=hA.cell 6
    have g7:=hA.cell 7
    have g8:=hA.cell 8
    have g9:=hA.cell 9
    have g10:=hA.cell 10
    simp at g0 g1 g2 g3 g4 g5 g6 g7 g8 g9 g10
    have hcm:cmdVal F.1 (.slice none 0 0)=.agg #[.int .i64 0,.int .i64 0,.int .i64 0,.string ⟨#[]⟩,.int .u64 0,.int .i64 0,.int .u32 0,.slice none 0 0,.int .i64 0,.int .i64 0,.int .i64 0]:=by rw[HC.out];rfl
    refine bodyPost_ret (v:=.tuple #[.agg #[.int .i64 0,.int .i64 0,.int .i64 0,.string ⟨#[]⟩,.int .u64 0,.int .i64 0,.int .u32 0,.slice none 0 0,.int .i64 0,.int .i64 0,.int .i64 0],.int .i64 E.err]) (by simp[results,Tryz.results30,go_sem,g0,g1,g2,g3,g4,g5,g6,g7,g8,g9,g10]) rfl ⟨.slice none 0 0,by rw[hcm,HC.out],?_,(X.chg_trans hF).mono (fun k hk h=>by have h':k=br:=h;omega)⟩
    rw[HC.out]
    exact⟨rfl,.inl ⟨rfl,rfl⟩⟩
  ·go_wp2_with fail
   have con:=ddone_any wg bd s (d11) hD
   have hce:cend ((⟨(xk:Int),(xcl:Int),(xsq:Int),⟨xnm.toArray⟩,xbl,(xsz:Int),xsu % 4294967296,xdk,(xpo:Int),(xvo:Int),(xat_:Int)⟩:Cmd),xsu,d11)=(d11).done:=by unfold cend;rw[if_neg (by simp only[hgd];simp;omega)]
   generalize (d11).done=E at con hce
   have hcr:F=if E.err=0 then((⟨(xk:Int),(xcl:Int),(xsq:Int),⟨xnm.toArray⟩,xbl,(xsz:Int),xsu % 4294967296,xdk,(xpo:Int),(xvo:Int),(xat_:Int)⟩:Cmd),0)else(Cmd.zero,E.err):=by
    rw[←HF.out];unfold cread;rw[hraw,hce]
   clear hce hraw
   refine con.mono ?_
   clear con
   rintro e wz ⟨rfl,hT⟩
   replace hC:=hC.chg hT.1 (fun h=>hne h)
   replace hR:=hR.chg hT.1 (fun h=>hnr h)
   replace X:Ext w wz:=(X.chg_trans hT.1).mono (fun k hk h=>by have h':k=bd:=h;omega)
   replace hS:=own_keep hS hT.1 (fun k hk h=>(hap k hk).2.1 h)
   clear hT hD
   by_cases he:E.err=0
   ·rw[if_pos he]at hcr
    have t1:(E.err == 0)=true:=by simpa using he
    have t2:(E.err != 0)=false:=by simpa using he
    have HC:=Lib.hid hcr
    clear hcr he
    have y0:=hC.cell 0
    have y1:=hC.cell 1
    have y2:=hC.cell 2
    have y3:=hC.cell 3
    have y4:=hC.cell 4
    have y5:=hC.cell 5
    have y6:=hC.cell 6
    have y7:=hC.cell 7
    have y8:=hC.cell 8
    have y9:=hC.cell 9
    have y10:=hC.cell 10
    have u0:=hR.cell 0
    have u1:=hR.cell 1
    have u2:=hR.cell 2
    have u3:=hR.cell 3
    have u4:=hR.cell 4
    have u5:=hR.cell 5
    have u6:=hR.cell 6
    have u7:=hR.cell 7
    have u8:=hR.cell 8
    have u9:=hR.cell 9
    have u10:=hR.cell 10
    have f0:=hR.frozen 0
    have f1:=hR.frozen 1
    have f2:=hR.frozen 2
    have f3:=hR.frozen 3
    have f4:=hR.frozen 4
    have f5:=hR.frozen 5
    have f6:=hR.frozen 6
    have f7:=hR.frozen 7
    have f8:=hR.frozen 8
    have f9:=hR.frozen 9
    have f10:=hR.frozen 10
    simp at y0 u0 y1 u1 y2 u2 y3 u3 y4 u4 y5 u5 y6 u6 y7 u7 y8 u8 y9 u9 y10 u10
    go_wp2_with fail
    have hF:Chg (· = br) wz (setAll wz br 0 [.int .i64 ((xk:Nat):Int),.int .i64 ((xcl:Nat):Int),.int .i64 ((xsq:Nat):Int),.string ⟨xnm.toArray⟩,.int .u64 ((xbl:Nat):Int),.int .i64 ((xsz:Nat):Int),.int .u32 ((xsu:Int) % 4294967296),.slice dA dn dc,.int .i64 ((xpo:Nat):Int),.int .i64 ((xvo:Nat):Int),.int .i64 ((xat_:Nat):Int)]):=chg_setAll wz br _ 0 wz (Chg.refl _ _)
    have hA:At (setAll wz br 0 [.int .i64 ((xk:Nat):Int),.int .i64 ((xcl:Nat):Int),.int .i64 ((xsq:Nat):Int),.string ⟨xnm.toArray⟩,.int .u64 ((xbl:Nat):Int),.int .i64 ((xsz:Nat):Int),.int .u32 ((xsu:Int) % 4294967296),.slice dA dn dc,.int .i64 ((xpo:Nat):Int),.int .i64 ((xvo:Nat):Int),.int .i64 ((xat_:Nat):Int)]) br 39 #[.int .i64 ((xk:Nat):Int),.int .i64 ((xcl:Nat):Int),.int .i64 ((xsq:Nat):Int),.string ⟨xnm.toArray⟩,.int .u64 ((xbl:Nat):Int),.int .i64 ((xsz:Nat):Int),.int .u32 ((xsu:Int) % 4294967296),.slice dA dn dc,.int .i64 ((xpo:Nat):Int),.int .i64 ((xvo:Nat):Int),.int .i64 ((xat_:Nat):Int)]:=hR.setAll rfl
    have hw:(((((((((((wz).setCell ⟨br,0,none⟩ (.int .i64 ((xk:Nat):Int))).setCell ⟨br,1,none⟩ (.int .i64 ((xcl:Nat):Int))).setCell ⟨br,2,none⟩ (.int .i64 ((xsq:Nat):Int))).setCell ⟨br,3,none⟩ (.string ⟨xnm.toArray⟩)).setCell ⟨br,4,none⟩ (.int .u64 ((xbl:Nat):Int))).setCell ⟨br,5,none⟩ (.int .i64 ((xsz:Nat):Int))).setCell ⟨br,6,none⟩ (.int .u32 ((xsu:Int) % 4294967296))).setCell ⟨br,7,none⟩ (.slice dA dn dc)).setCell ⟨br,8,none⟩ (.int .i64 ((xpo:Nat):Int))).setCell ⟨br,9,none⟩ (.int .i64 ((xvo:Nat):Int))).setCell ⟨br,10,none⟩ (.int .i64 ((xat_:Nat):Int))=setAll wz br 0 [.int .i64 ((xk:Nat):Int),.int .i64 ((xcl:Nat):Int),.int .i64 ((xsq:Nat):Int),.string ⟨xnm.toArray⟩,.int .u64 ((xbl:Nat):Int),.int .i64 ((xsz:Nat):Int),.int .u32 ((xsu:Int) % 4294967296),.slice dA dn dc,.int .i64 ((xpo:Nat):Int),.int .i64 ((xvo:Nat):Int),.int .i64 ((xat_:Nat):Int)]:=rfl
    rw[hw]
    clear hw
    generalize setAll wz br 0 [.int .i64 ((xk:Nat):Int),.int .i64 ((xcl:Nat):Int),.int .i64 ((xsq:Nat):Int),.string ⟨xnm.toArray⟩,.int .u64 ((xbl:Nat):Int),.int .i64 ((xsz:Nat):Int),.int .u32 ((xsu:Int) % 4294967296),.slice dA dn dc,.int .i64 ((xpo:Nat):Int),.int .i64 ((xvo:Nat):Int),.int .i64 ((xat_:Nat):Int)]=wf at hF hA⊢
    clear y0 u0 f0 y1 u1 f1 y2 u2 f2 y3 u3 f3 y4 u4 f4 y5 u5 f5 y6 u6 f6 y7 u7 f7 y8 u8 f8 y9 u9 f9 y10 u10 f10
    have g0:=hA.cell 0
    have g1:=hA.cell 1
    have g2:=hA.cell 2
    have g3:=hA.cell 3
    have g4:=hA.cell 4
    have g5:=hA.cell 5
    have g6:=hA.cell 6
    have g7:=hA.cell 7
    have g8:=hA.cell 8
    have g9:=hA.cell 9
    have g10:=hA.cell 10
    simp at g0 g1 g2 g3 g4 g5 g6 g7 g8 g9 g10
    have hcm:cmdVal F.1 (.slice dA dn dc)=.agg #[.int .i64 ((xk:Nat):Int),.int .i64 ((xcl:Nat):Int),.int .i64 ((xsq:Nat):Int),.string ⟨xnm.toArray⟩,.int .u64 ((xbl:Nat):Int),.int .i64 ((xsz:Nat):Int),.int .u32 ((xsu:Int) % 4294967296),.slice dA dn dc,.int .i64 ((xpo:Nat):Int),.int .i64 ((xvo:Nat):Int),.int .i64 ((xat_:Nat):Int)]:=by rw[HC.out];simp[cmdVal]
    refine bodyPost_ret (v:=.tuple #[.agg #[.int .i64 ((xk:Nat):Int),.int .i64 ((xcl:Nat):Int),.int .i64 ((xsq:Nat):Int),.string ⟨xnm.toArray⟩,.int .u64 ((xbl:Nat):Int),.int .i64 ((xsz:Nat):Int),.int .u32 ((xsu:Int) % 4294967296),.slice dA dn dc,.int .i64 ((xpo:Nat):Int),.int .i64 ((xvo:Nat):Int),.int .i64 ((xat_:Nat):Int)],.int .i64 0]) (by simp[results,Tryz.results30,go_sem,g0,g1,g2,g3,g4,g5,g6,g7,g8,g9,g10]) rfl ⟨.slice dA dn dc,by rw[hcm,HC.out],?_,(X.chg_trans hF).mono (fun k hk h=>by have h':k=br:=h;omega)⟩
    rw[HC.out]
    exact own_keep hS hF (fun k hk h=>(hap k hk).2.2 h)
   ·rw[if_neg he]at hcr
    have t1:(E.err == 0)=false:=by simpa using he
    have t2:(E.err != 0)=true:=by simpa using he
    have HC:=Lib.hid hcr
    clear hcr he
    have y0:=hC.cell 0
    have y1:=hC.cell 1
    have y2:=hC.cell 2
    have y3:=hC.cell 3
    have y4:=hC.cell 4
    have y5:=hC.cell 5
    have y6:=hC.cell 6
    have y7:=hC.cell 7
    have y8:=hC.cell 8
    have y9:=hC.cell 9
    have y10:=hC.cell 10
    have u0:=hR.cell 0
    have u1:=hR.cell 1
    have u2:=hR.cell 2
    have u3:=hR.cell 3
    have u4:=hR.cell 4
    have u5:=hR.cell 5
    have u6:=hR.cell 6
    have u7:=hR.cell 7
    have u8:=hR.cell 8
    have u9:=hR.cell 9
    have u10:=hR.cell 10
    have f0:=hR.frozen 0
    have f1:=hR.frozen 1
    have f2:=hR.frozen 2
    have f3:=hR.frozen 3
    have f4:=hR.frozen 4
    have f5:=hR.frozen 5
    have f6:=hR.frozen 6
    have f7:=hR.frozen 7
    have f8:=hR.frozen 8
    have f9:=hR.frozen 9
    have f10:=hR.frozen 10
    simp at y0 u0 y1 u1 y2 u2 y3 u3 y4 u4 y5 u5 y6 u6 y7 u7 y8 u8 y9 u9 y10 u10
    go_wp2_with fail
    have hF:Chg (· = br) wz (setAll wz br 0 [.int .i64 0,.int .i64 0,.int .i64 0,.string ⟨#[]⟩,.int .u64 0,.int .i64 0,.int .u32 0,.slice none 0 0,.int .i64 0,.int .i64 0,.int .i64 0]):=chg_setAll wz br _ 0 wz (Chg.refl _ _)
    have hA:At (setAll wz br 0 [.int .i64 0,.int .i64 0,.int .i64 0,.string ⟨#[]⟩,.int .u64 0,.int .i64 0,.int .u32 0,.slice none 0 0,.int .i64 0,.int .i64 0,.int .i64 0]) br 39 #[.int .i64 0,.int .i64 0,.int .i64 0,.string ⟨#[]⟩,.int .u64 0,.int .i64 0,.int .u32 0,.slice none 0 0,.int .i64 0,.int .i64 0,.int .i64 0]:=hR.setAll rfl
    have hw:(((((((((((wz).setCell ⟨br,0,none⟩ (.int .i64 0)).setCell ⟨br,1,none⟩ (.int .i64 0)).setCell ⟨br,2,none⟩ (.int .i64 0)).setCell ⟨br,3,none⟩ (.string ⟨#[]⟩)).setCell ⟨br,4,none⟩ (.int .u64 0)).setCell ⟨br,5,none⟩ (.int .i64 0)).setCell ⟨br,6,none⟩ (.int .u32 0)).setCell ⟨br,7,none⟩ (.slice none 0 0)).setCell ⟨br,8,none⟩ (.int .i64 0)).setCell ⟨br,9,none⟩ (.int .i64 0)).setCell ⟨br,10,none⟩ (.int .i64 0)=setAll wz br 0 [.int .i64 0,.int .i64 0,.int .i64 0,.string ⟨#[]⟩,.int .u64 0,.int .i64 0,.int .u32 0,.slice none 0 0,.int .i64 0,.int .i64 0,.int .i64 0]:=rfl
    rw[hw]
    clear hw
    generalize setAll wz br 0 [.int .i64 0,.int .i64 0,.int .i64 0,.string ⟨#[]⟩,.int .u64 0,.int .i64 0,.int .u32 0,.slice none 0 0,.int .i64 0,.int .i64 0,.int .i64 0]=wf at hF hA⊢
    clear y0 u0 f0 y1 u1 f1 y2 u2 f2 y3 u3 f3 y4 u4 f4 y5 u5 f5 y6 u6 f6 y7 u7 f7 y8 u8 f8 y9 u9 f9 y10 u10 f10
    have g0:=hA.cell 0
    have g1:=hA.cell 1
    have g2:=hA.cell 2
    have g3:=hA.cell 3
    have g4:=hA.cell 4
    have g5:=hA.cell 5
    have g6:=hA.cell 6
    have g7:=hA.cell 7
    have g8:=hA.cell 8
    have g9:=hA.cell 9
    have g10:=hA.cell 10
    simp at g0 g1 g2 g3 g4 g5 g6 g7 g8 g9 g10
    have hcm:cmdVal F.1 (.slice none 0 0)=.agg #[.int .i64 0,.int .i64 0,.int .i64 0,.string ⟨#[]⟩,.int .u64 0,.int .i64 0,.int .u32 0,.slice none 0 0,.int .i64 0,.int .i64 0,.int .i64 0]:=by rw[HC.out];rfl
    refine bodyPost_ret (v:=.tuple #[.agg #[.int .i64 0,.int .i64 0,.int .i64 0,.string ⟨#[]⟩,.int .u64 0,.int .i64 0,.int .u32 0,.slice none 0 0,.int .i64 0,.int .i64 0,.int .i64 0],.int .i64 E.err]) (by simp[results,Tryz.results30,go_sem,g0,g1,g2,g3,g4,g5,g6,g7,g8,g9,g10]) rfl ⟨.slice none 0 0,by rw[hcm,HC.out],?_,(X.chg_trans hF).mono (fun k hk h=>by have h':k=br:=h;omega)⟩
    rw[HC.out]
    exact⟨rfl,.inl ⟨rfl,rfl⟩⟩
end
end Go.Proofs.YtkkbfdencgdbhaaGreatDoor
