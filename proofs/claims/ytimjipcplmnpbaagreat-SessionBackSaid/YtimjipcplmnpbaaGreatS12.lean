/-
  Part 12 of what the law leans on.
-/
import Derived.Test.YtimjipcplmnpbaaGreatS2
import Derived.Test.YtimjipcplmnpbaaGreatS7
import Derived.Test.YtimjipcplmnpbaaGreatS11
namespace Go.Proofs.YtimjipcplmnpbaaGreat
set_option maxRecDepth 100000
set_option maxHeartbeats 8000000
set_option linter.unusedVariables false
set_option linter.unusedSimpArgs false
set_option linter.unusedSectionVars false
open _root_.Go.Proofs.Tryz
open Go.RowKit
theorem wrap_u32n(x:Nat):IntKind.u32.wrap (x:Int)=(x:Int) % 4294967296:=by simp[IntKind.wrap,IntKind.bits,IntKind.signed]
theorem Dc.i_le(d:Dc)(most:Int)(h:0≤most):((d.i most).1:Int)≤most:=by
 unfold Dc.i;split
 ·simpa using h
 ·omega
theorem Dc.s_len(d:Dc)(most:Int)(h:0≤most):((d.s most).1.length:Int)≤most:=by
 have:=d.i_le most h
 unfold Dc.s;split
 ·split
  ·simpa using h
  ·simp only[List.length_take];omega
 ·simpa using h
theorem qJO(each:Int):∀(n:Nat) (d:Dc) (l:List Int),(qQt each n d).1=some l→l.length=n
 | 0,d,l,h=>by simp[qQt]at h;rw[h];rfl
 | n+1,d,l,h=>by
  rw[qQt]at h
  split at h
  ·have ih:=qJO each n (d.i each).2;generalize qQt each n (d.i each).2=Z at h ih;obtain⟨o,E⟩:=Z;cases o with
   | none=>simp at h
   | some l' =>
    simp only[Option.some.injEq]at h;rw[←h,List.length_cons,ih l' rfl]
  ·simp at h
theorem Dc.list_len(d:Dc)(most each:Int)(h:0≤most):((d.list most each).1.length:Int)≤most:=by
 have:=d.i_le most h
 unfold Dc.list;simp only;cases hl:(qQt each (d.i most).1 (d.i most).2).1 with
 | none=>simpa using h
 | some l=>have:=qJO each _ _ l hl;simp;omega
section
variable(w:World)(s:ByteArray)
theorem cmdread_any(hs:s.size≤140737488355328) :
 Calls prog 14 #[.string s] w fun r w'=>∃dv,r=.returned (.tuple #[qQd (qQ2 s.data.toList).1 dv,.int .i64 (qQ2 s.data.toList).2])∧w'.ownsRow 0 3 1 dv (qQ2 s.data.toList).1.disks.length ((qQ2 s.data.toList).1.disks.map (Value.int .i64))∧Ext w w':=by
 generalize hfin:qQ2 s.data.toList=F;have HF:=Hh hfin;clear hfin
 go_enter func14,ntmps14
 go_wp2_with fail
 have hR:=At.new w 32 #[.int .i64 0,.int .i64 0,.int .i64 0,.string ⟨#[]⟩,.int .u64 0,.int .i64 0,.int .u32 0,.slice none 0 0,.int .i64 0,.int .i64 0,.int .i64 0];have X:=(Er w).alloc (.cells #[.int .i64 0,.int .i64 0,.int .i64 0,.string ⟨#[]⟩,.int .u64 0,.int .i64 0,.int .u32 0,.slice none 0 0,.int .i64 0,.int .i64 0,.int .i64 0] 32);have hsz:w.heap.size<(w.alloc (.cells #[.int .i64 0,.int .i64 0,.int .i64 0,.string ⟨#[]⟩,.int .u64 0,.int .i64 0,.int .u32 0,.slice none 0 0,.int .i64 0,.int .i64 0,.int .i64 0] 32)).heap.size:=by simp
 generalize w.alloc (.cells #[.int .i64 0,.int .i64 0,.int .i64 0,.string ⟨#[]⟩,.int .u64 0,.int .i64 0,.int .u32 0,.slice none 0 0,.int .i64 0,.int .i64 0,.int .i64 0] 32)=W0 at hR X hsz⊢;obtain⟨br,hbr⟩:∃b,b=w.heap.size:=⟨_,rfl⟩;rw[←hbr]at hR⊢;have hbr0:w.heap.size≤br:=by omega
 have hbr1:=hR.lt;clear hbr;refine(from_any _ s hs).mono ?_
 rintro e wa ⟨bd,rfl,hbd,hD,hE0⟩;replace hR:=hR.ext hE0;have hdl:w.heap.size≤bd:=by omega
 have hnr:br≠bd:=by omega
 replace X:=X.trans hE0;clear hE0;go_wp2_with fail
 have hC:=At.new wa 32 #[.int .i64 0,.int .i64 0,.int .i64 0,.string ⟨#[]⟩,.int .u64 0,.int .i64 0,.int .u32 0,.slice none 0 0,.int .i64 0,.int .i64 0,.int .i64 0];replace hR:=hR.alloc (.cells #[.int .i64 0,.int .i64 0,.int .i64 0,.string ⟨#[]⟩,.int .u64 0,.int .i64 0,.int .u32 0,.slice none 0 0,.int .i64 0,.int .i64 0,.int .i64 0] 32);have hdlt:=hD.lt;have hrlt:br<wa.heap.size:=by omega
 replace hD:=hD.alloc (.cells #[.int .i64 0,.int .i64 0,.int .i64 0,.string ⟨#[]⟩,.int .u64 0,.int .i64 0,.int .u32 0,.slice none 0 0,.int .i64 0,.int .i64 0,.int .i64 0] 32);have hcl:w.heap.size≤wa.heap.size:=X.size;replace X:=X.alloc (.cells #[.int .i64 0,.int .i64 0,.int .i64 0,.string ⟨#[]⟩,.int .u64 0,.int .i64 0,.int .u32 0,.slice none 0 0,.int .i64 0,.int .i64 0,.int .i64 0] 32);generalize wa.alloc (.cells #[.int .i64 0,.int .i64 0,.int .i64 0,.string ⟨#[]⟩,.int .u64 0,.int .i64 0,.int .u32 0,.slice none 0 0,.int .i64 0,.int .i64 0,.int .i64 0] 32)=w0 at hR hC hD X⊢;generalize wa.heap.size=bc at hC hdlt hrlt hcl⊢;have hne:bc≠bd:=by omega
 have hrc:br≠bc:=by omega
 clear hsz hbd hdlt hrlt hbr1;have con:=qZk w0 bd s (⟨s.data.toList,0⟩:Dc) hD 14 (by decide) (by decide);generalize hk:(⟨s.data.toList,0⟩:Dc).i 14=rk at con;obtain⟨xk,d1⟩:=rk;simp only at con;have Hk:=Hh hk;clear hk;refine con.mono ?_;clear con;rintro e w1 ⟨rfl,hT⟩;replace hD:=hT.2;replace hC:=hC.chg hT.1 (fun h=>hne h);replace hR:=hR.chg hT.1 (fun h=>hnr h);replace X:Ext w w1:=(X.chg_trans hT.1).mono (fun k hk h=>by have h':k=bd:=h;omega);clear hT;have fz:=hC.frozen 0;have cz:=hC.cell 0;simp at cz;go_wp2_with fail
 replace hC:At (w1.setCell ⟨bc,0,none⟩ (.int .i64 ((xk:Nat):Int))) bc 32 #[.int .i64 ((xk:Nat):Int),.int .i64 0,.int .i64 0,.string ⟨#[]⟩,.int .u64 0,.int .i64 0,.int .u32 0,.slice none 0 0,.int .i64 0,.int .i64 0,.int .i64 0]:=hC.set 0 _;replace hD:qQM (w1.setCell ⟨bc,0,none⟩ (.int .i64 ((xk:Nat):Int))) bd s d1:=hD.chg ((Chg.refl (· = bc) _).setCell (.inl rfl) _) (fun h=>hne (Eq.symm h));replace hR:At (w1.setCell ⟨bc,0,none⟩ (.int .i64 ((xk:Nat):Int))) br 32 #[.int .i64 0,.int .i64 0,.int .i64 0,.string ⟨#[]⟩,.int .u64 0,.int .i64 0,.int .u32 0,.slice none 0 0,.int .i64 0,.int .i64 0,.int .i64 0]:=hR.chg ((Chg.refl (· = bc) _).setCell (.inl rfl) _) (fun h=>hrc h);replace X:Ext w (w1.setCell ⟨bc,0,none⟩ (.int .i64 ((xk:Nat):Int))):=X.setCell hcl _;clear fz cz;generalize w1.setCell ⟨bc,0,none⟩ (.int .i64 ((xk:Nat):Int))=v1 at hC hD hR X  ⊢;have con:=qZk v1 bd s d1 hD 1073741824 (by decide) (by decide);generalize hcl:d1.i 1073741824=rcl at con;obtain⟨xcl,d2⟩:=rcl;simp only at con;have Hcl:=Hh hcl;clear hcl;refine con.mono ?_;clear con;rintro e w2 ⟨rfl,hT⟩;replace hD:=hT.2;replace hC:=hC.chg hT.1 (fun h=>hne h);replace hR:=hR.chg hT.1 (fun h=>hnr h);replace X:Ext w w2:=(X.chg_trans hT.1).mono (fun k hk h=>by have h':k=bd:=h;omega);clear hT;have fz:=hC.frozen 1;have cz:=hC.cell 1;simp at cz;go_wp2_with fail
 replace hC:At (w2.setCell ⟨bc,1,none⟩ (.int .i64 ((xcl:Nat):Int))) bc 32 #[.int .i64 ((xk:Nat):Int),.int .i64 ((xcl:Nat):Int),.int .i64 0,.string ⟨#[]⟩,.int .u64 0,.int .i64 0,.int .u32 0,.slice none 0 0,.int .i64 0,.int .i64 0,.int .i64 0]:=hC.set 1 _;replace hD:qQM (w2.setCell ⟨bc,1,none⟩ (.int .i64 ((xcl:Nat):Int))) bd s d2:=hD.chg ((Chg.refl (· = bc) _).setCell (.inl rfl) _) (fun h=>hne (Eq.symm h));replace hR:At (w2.setCell ⟨bc,1,none⟩ (.int .i64 ((xcl:Nat):Int))) br 32 #[.int .i64 0,.int .i64 0,.int .i64 0,.string ⟨#[]⟩,.int .u64 0,.int .i64 0,.int .u32 0,.slice none 0 0,.int .i64 0,.int .i64 0,.int .i64 0]:=hR.chg ((Chg.refl (· = bc) _).setCell (.inl rfl) _) (fun h=>hrc h);replace X:Ext w (w2.setCell ⟨bc,1,none⟩ (.int .i64 ((xcl:Nat):Int))):=X.setCell hcl _;clear fz cz;generalize w2.setCell ⟨bc,1,none⟩ (.int .i64 ((xcl:Nat):Int))=v2 at hC hD hR X  ⊢;have con:=qZk v2 bd s d2 hD 1073741824 (by decide) (by decide);generalize hsq:d2.i 1073741824=rsq at con;obtain⟨xsq,d3⟩:=rsq;simp only at con;have Hsq:=Hh hsq;clear hsq;refine con.mono ?_;clear con;rintro e w3 ⟨rfl,hT⟩;replace hD:=hT.2;replace hC:=hC.chg hT.1 (fun h=>hne h);replace hR:=hR.chg hT.1 (fun h=>hnr h);replace X:Ext w w3:=(X.chg_trans hT.1).mono (fun k hk h=>by have h':k=bd:=h;omega);clear hT;have fz:=hC.frozen 2;have cz:=hC.cell 2;simp at cz;go_wp2_with fail
 replace hC:At (w3.setCell ⟨bc,2,none⟩ (.int .i64 ((xsq:Nat):Int))) bc 32 #[.int .i64 ((xk:Nat):Int),.int .i64 ((xcl:Nat):Int),.int .i64 ((xsq:Nat):Int),.string ⟨#[]⟩,.int .u64 0,.int .i64 0,.int .u32 0,.slice none 0 0,.int .i64 0,.int .i64 0,.int .i64 0]:=hC.set 2 _;replace hD:qQM (w3.setCell ⟨bc,2,none⟩ (.int .i64 ((xsq:Nat):Int))) bd s d3:=hD.chg ((Chg.refl (· = bc) _).setCell (.inl rfl) _) (fun h=>hne (Eq.symm h));replace hR:At (w3.setCell ⟨bc,2,none⟩ (.int .i64 ((xsq:Nat):Int))) br 32 #[.int .i64 0,.int .i64 0,.int .i64 0,.string ⟨#[]⟩,.int .u64 0,.int .i64 0,.int .u32 0,.slice none 0 0,.int .i64 0,.int .i64 0,.int .i64 0]:=hR.chg ((Chg.refl (· = bc) _).setCell (.inl rfl) _) (fun h=>hrc h);replace X:Ext w (w3.setCell ⟨bc,2,none⟩ (.int .i64 ((xsq:Nat):Int))):=X.setCell hcl _;clear fz cz;generalize w3.setCell ⟨bc,2,none⟩ (.int .i64 ((xsq:Nat):Int))=v3 at hC hD hR X  ⊢;have con:=ds_any v3 bd s d3 hD 32 (by decide) (by decide);have lnm:=Dc.s_len d3 32 (by decide);generalize hnm:d3.s 32=rnm at con lnm;obtain⟨xnm,d4⟩:=rnm;simp only at con lnm;have Hnm:=Hh hnm;clear hnm;refine con.mono ?_;clear con;rintro e w4 ⟨rfl,hT⟩;replace hD:=hT.2;replace hC:=hC.chg hT.1 (fun h=>hne h);replace hR:=hR.chg hT.1 (fun h=>hnr h);replace X:Ext w w4:=(X.chg_trans hT.1).mono (fun k hk h=>by have h':k=bd:=h;omega);clear hT;have fz:=hC.frozen 3;have cz:=hC.cell 3;simp at cz;go_wp2_with fail
 replace hC:At (w4.setCell ⟨bc,3,none⟩ (.string ⟨xnm.toArray⟩)) bc 32 #[.int .i64 ((xk:Nat):Int),.int .i64 ((xcl:Nat):Int),.int .i64 ((xsq:Nat):Int),.string ⟨xnm.toArray⟩,.int .u64 0,.int .i64 0,.int .u32 0,.slice none 0 0,.int .i64 0,.int .i64 0,.int .i64 0]:=hC.set 3 _;replace hD:qQM (w4.setCell ⟨bc,3,none⟩ (.string ⟨xnm.toArray⟩)) bd s d4:=hD.chg ((Chg.refl (· = bc) _).setCell (.inl rfl) _) (fun h=>hne (Eq.symm h));replace hR:At (w4.setCell ⟨bc,3,none⟩ (.string ⟨xnm.toArray⟩)) br 32 #[.int .i64 0,.int .i64 0,.int .i64 0,.string ⟨#[]⟩,.int .u64 0,.int .i64 0,.int .u32 0,.slice none 0 0,.int .i64 0,.int .i64 0,.int .i64 0]:=hR.chg ((Chg.refl (· = bc) _).setCell (.inl rfl) _) (fun h=>hrc h);replace X:Ext w (w4.setCell ⟨bc,3,none⟩ (.string ⟨xnm.toArray⟩)):=X.setCell hcl _;clear fz cz;generalize w4.setCell ⟨bc,3,none⟩ (.string ⟨xnm.toArray⟩)=v4 at hC hD hR X  ⊢;have con:=du_any v4 bd s d4 hD;have lbl:=Dc.u_lt d4;generalize hbl:d4.u=rbl at con lbl;obtain⟨xbl,d5⟩:=rbl;simp only at con lbl;have Hbl:=Hh hbl;clear hbl;refine con.mono ?_;clear con;rintro e w5 ⟨rfl,hT⟩;replace hD:=hT.2;replace hC:=hC.chg hT.1 (fun h=>hne h);replace hR:=hR.chg hT.1 (fun h=>hnr h);replace X:Ext w w5:=(X.chg_trans hT.1).mono (fun k hk h=>by have h':k=bd:=h;omega);clear hT;have fz:=hC.frozen 4;have cz:=hC.cell 4;simp at cz;go_wp2_with fail
 replace hC:At (w5.setCell ⟨bc,4,none⟩ (.int .u64 ((xbl:Nat):Int))) bc 32 #[.int .i64 ((xk:Nat):Int),.int .i64 ((xcl:Nat):Int),.int .i64 ((xsq:Nat):Int),.string ⟨xnm.toArray⟩,.int .u64 ((xbl:Nat):Int),.int .i64 0,.int .u32 0,.slice none 0 0,.int .i64 0,.int .i64 0,.int .i64 0]:=hC.set 4 _;replace hD:qQM (w5.setCell ⟨bc,4,none⟩ (.int .u64 ((xbl:Nat):Int))) bd s d5:=hD.chg ((Chg.refl (· = bc) _).setCell (.inl rfl) _) (fun h=>hne (Eq.symm h));replace hR:At (w5.setCell ⟨bc,4,none⟩ (.int .u64 ((xbl:Nat):Int))) br 32 #[.int .i64 0,.int .i64 0,.int .i64 0,.string ⟨#[]⟩,.int .u64 0,.int .i64 0,.int .u32 0,.slice none 0 0,.int .i64 0,.int .i64 0,.int .i64 0]:=hR.chg ((Chg.refl (· = bc) _).setCell (.inl rfl) _) (fun h=>hrc h);replace X:Ext w (w5.setCell ⟨bc,4,none⟩ (.int .u64 ((xbl:Nat):Int))):=X.setCell hcl _;clear fz cz;generalize w5.setCell ⟨bc,4,none⟩ (.int .u64 ((xbl:Nat):Int))=v5 at hC hD hR X  ⊢;have con:=qZk v5 bd s d5 hD 4000 (by decide) (by decide);generalize hsz:d5.i 4000=rsz at con;obtain⟨xsz,d6⟩:=rsz;simp only at con;have Hsz:=Hh hsz;clear hsz;refine con.mono ?_;clear con;rintro e w6 ⟨rfl,hT⟩;replace hD:=hT.2;replace hC:=hC.chg hT.1 (fun h=>hne h);replace hR:=hR.chg hT.1 (fun h=>hnr h);replace X:Ext w w6:=(X.chg_trans hT.1).mono (fun k hk h=>by have h':k=bd:=h;omega);clear hT;have fz:=hC.frozen 5;have cz:=hC.cell 5;simp at cz;go_wp2_with fail
 replace hC:At (w6.setCell ⟨bc,5,none⟩ (.int .i64 ((xsz:Nat):Int))) bc 32 #[.int .i64 ((xk:Nat):Int),.int .i64 ((xcl:Nat):Int),.int .i64 ((xsq:Nat):Int),.string ⟨xnm.toArray⟩,.int .u64 ((xbl:Nat):Int),.int .i64 ((xsz:Nat):Int),.int .u32 0,.slice none 0 0,.int .i64 0,.int .i64 0,.int .i64 0]:=hC.set 5 _;replace hD:qQM (w6.setCell ⟨bc,5,none⟩ (.int .i64 ((xsz:Nat):Int))) bd s d6:=hD.chg ((Chg.refl (· = bc) _).setCell (.inl rfl) _) (fun h=>hne (Eq.symm h));replace hR:At (w6.setCell ⟨bc,5,none⟩ (.int .i64 ((xsz:Nat):Int))) br 32 #[.int .i64 0,.int .i64 0,.int .i64 0,.string ⟨#[]⟩,.int .u64 0,.int .i64 0,.int .u32 0,.slice none 0 0,.int .i64 0,.int .i64 0,.int .i64 0]:=hR.chg ((Chg.refl (· = bc) _).setCell (.inl rfl) _) (fun h=>hrc h);replace X:Ext w (w6.setCell ⟨bc,5,none⟩ (.int .i64 ((xsz:Nat):Int))):=X.setCell hcl _;clear fz cz;generalize w6.setCell ⟨bc,5,none⟩ (.int .i64 ((xsz:Nat):Int))=v6 at hC hD hR X  ⊢;have con:=du_any v6 bd s d6 hD;have lsu:=Dc.u_lt d6;generalize hsu:d6.u=rsu at con lsu;obtain⟨xsu,d7⟩:=rsu;simp only at con lsu;have Hsu:=Hh hsu;clear hsu;refine con.mono ?_;clear con;rintro e w7 ⟨rfl,hT⟩;replace hD:=hT.2;replace hC:=hC.chg hT.1 (fun h=>hne h);replace hR:=hR.chg hT.1 (fun h=>hnr h);replace X:Ext w w7:=(X.chg_trans hT.1).mono (fun k hk h=>by have h':k=bd:=h;omega);clear hT;have fz:=hC.frozen 6;have cz:=hC.cell 6;simp at cz;have hwr:=wrap_u32n xsu;go_wp2_with fail
 clear hwr;replace hC:At (w7.setCell ⟨bc,6,none⟩ (.int .u32 ((xsu:Int) % 4294967296))) bc 32 #[.int .i64 ((xk:Nat):Int),.int .i64 ((xcl:Nat):Int),.int .i64 ((xsq:Nat):Int),.string ⟨xnm.toArray⟩,.int .u64 ((xbl:Nat):Int),.int .i64 ((xsz:Nat):Int),.int .u32 ((xsu:Int) % 4294967296),.slice none 0 0,.int .i64 0,.int .i64 0,.int .i64 0]:=hC.set 6 _;replace hD:qQM (w7.setCell ⟨bc,6,none⟩ (.int .u32 ((xsu:Int) % 4294967296))) bd s d7:=hD.chg ((Chg.refl (· = bc) _).setCell (.inl rfl) _) (fun h=>hne (Eq.symm h));replace hR:At (w7.setCell ⟨bc,6,none⟩ (.int .u32 ((xsu:Int) % 4294967296))) br 32 #[.int .i64 0,.int .i64 0,.int .i64 0,.string ⟨#[]⟩,.int .u64 0,.int .i64 0,.int .u32 0,.slice none 0 0,.int .i64 0,.int .i64 0,.int .i64 0]:=hR.chg ((Chg.refl (· = bc) _).setCell (.inl rfl) _) (fun h=>hrc h);replace X:Ext w (w7.setCell ⟨bc,6,none⟩ (.int .u32 ((xsu:Int) % 4294967296))):=X.setCell hcl _;clear fz cz;generalize w7.setCell ⟨bc,6,none⟩ (.int .u32 ((xsu:Int) % 4294967296))=v7 at hC hD hR X  ⊢;have con:=dlist_any v7 bd s d7 hD 6 5 (by decide) (by decide) (by decide) (by decide);have ldk:=Dc.list_len d7 6 5 (by decide);generalize hdk:d7.list 6 5=rdk at con ldk;obtain⟨xdk,d8⟩:=rdk;simp only at con ldk;have Hdk:=Hh hdk;clear hdk;have q1:=hC.lt;have q2:=hD.lt;have q3:=hR.lt;refine con.mono ?_;clear con;rintro e w8 ⟨dv,rfl,hown,hnil,hT⟩;replace hD:=hT.2;replace hC:=hC.chg hT.1 (fun h=>hne h);replace hR:=hR.chg hT.1 (fun h=>hnr h);replace X:Ext w w8:=(X.chg_trans hT.1).mono (fun k hk h=>by have h':k=bd:=h;omega);have hS:=qQR hown
 have hap:∀k,some k=dv.ownBlock→k≠bc∧k≠bd∧k≠br:=fun k hk=>by
  have h1:=qJD hown k hk;omega
 clear hown hnil;clear hT;have fz:=hC.frozen 7;have cz:=hC.cell 7;simp at cz;obtain⟨dA,dn,dc,rfl⟩:∃A n c,dv=.slice A n c:=by obtain⟨A,c,h⟩:=qQc hS;exact⟨A,_,c,h⟩
 go_wp2_with fail
 replace hC:At (w8.setCell ⟨bc,7,none⟩ (.slice dA dn dc)) bc 32 #[.int .i64 ((xk:Nat):Int),.int .i64 ((xcl:Nat):Int),.int .i64 ((xsq:Nat):Int),.string ⟨xnm.toArray⟩,.int .u64 ((xbl:Nat):Int),.int .i64 ((xsz:Nat):Int),.int .u32 ((xsu:Int) % 4294967296),.slice dA dn dc,.int .i64 0,.int .i64 0,.int .i64 0]:=hC.set 7 _;replace hD:qQM (w8.setCell ⟨bc,7,none⟩ (.slice dA dn dc)) bd s d8:=hD.chg ((Chg.refl (· = bc) _).setCell (.inl rfl) _) (fun h=>hne (Eq.symm h));replace hR:At (w8.setCell ⟨bc,7,none⟩ (.slice dA dn dc)) br 32 #[.int .i64 0,.int .i64 0,.int .i64 0,.string ⟨#[]⟩,.int .u64 0,.int .i64 0,.int .u32 0,.slice none 0 0,.int .i64 0,.int .i64 0,.int .i64 0]:=hR.chg ((Chg.refl (· = bc) _).setCell (.inl rfl) _) (fun h=>hrc h);replace X:Ext w (w8.setCell ⟨bc,7,none⟩ (.slice dA dn dc)):=X.setCell hcl _;replace hS:World.ownsRow (w8.setCell ⟨bc,7,none⟩ (.slice dA dn dc)) 0 3 1 (.slice dA dn dc) xdk.length (xdk.map (Value.int .i64)):=qQa hS ((Chg.refl (· = bc) _).setCell (.inl rfl) _) (fun k hk h=>(hap k hk).1 h);clear fz cz;generalize w8.setCell ⟨bc,7,none⟩ (.slice dA dn dc)=v8 at hC hD hR X hS⊢;have con:=qZk v8 bd s d8 hD 1 (by decide) (by decide);generalize hpo:d8.i 1=rpo at con;obtain⟨xpo,d9⟩:=rpo;simp only at con;have Hpo:=Hh hpo;clear hpo;refine con.mono ?_;clear con;rintro e w9 ⟨rfl,hT⟩;replace hD:=hT.2;replace hC:=hC.chg hT.1 (fun h=>hne h);replace hR:=hR.chg hT.1 (fun h=>hnr h);replace X:Ext w w9:=(X.chg_trans hT.1).mono (fun k hk h=>by have h':k=bd:=h;omega);replace hS:=qQa hS hT.1 (fun k hk h=>(hap k hk).2.1 h);clear hT;have fz:=hC.frozen 8;have cz:=hC.cell 8;simp at cz;go_wp2_with fail
 replace hC:At (w9.setCell ⟨bc,8,none⟩ (.int .i64 ((xpo:Nat):Int))) bc 32 #[.int .i64 ((xk:Nat):Int),.int .i64 ((xcl:Nat):Int),.int .i64 ((xsq:Nat):Int),.string ⟨xnm.toArray⟩,.int .u64 ((xbl:Nat):Int),.int .i64 ((xsz:Nat):Int),.int .u32 ((xsu:Int) % 4294967296),.slice dA dn dc,.int .i64 ((xpo:Nat):Int),.int .i64 0,.int .i64 0]:=hC.set 8 _;replace hD:qQM (w9.setCell ⟨bc,8,none⟩ (.int .i64 ((xpo:Nat):Int))) bd s d9:=hD.chg ((Chg.refl (· = bc) _).setCell (.inl rfl) _) (fun h=>hne (Eq.symm h));replace hR:At (w9.setCell ⟨bc,8,none⟩ (.int .i64 ((xpo:Nat):Int))) br 32 #[.int .i64 0,.int .i64 0,.int .i64 0,.string ⟨#[]⟩,.int .u64 0,.int .i64 0,.int .u32 0,.slice none 0 0,.int .i64 0,.int .i64 0,.int .i64 0]:=hR.chg ((Chg.refl (· = bc) _).setCell (.inl rfl) _) (fun h=>hrc h);replace X:Ext w (w9.setCell ⟨bc,8,none⟩ (.int .i64 ((xpo:Nat):Int))):=X.setCell hcl _;replace hS:World.ownsRow (w9.setCell ⟨bc,8,none⟩ (.int .i64 ((xpo:Nat):Int))) 0 3 1 (.slice dA dn dc) xdk.length (xdk.map (Value.int .i64)):=qQa hS ((Chg.refl (· = bc) _).setCell (.inl rfl) _) (fun k hk h=>(hap k hk).1 h);clear fz cz;generalize w9.setCell ⟨bc,8,none⟩ (.int .i64 ((xpo:Nat):Int))=v9 at hC hD hR X hS⊢;have con:=qZk v9 bd s d9 hD 11 (by decide) (by decide);generalize hvo:d9.i 11=rvo at con;obtain⟨xvo,d10⟩:=rvo;simp only at con;have Hvo:=Hh hvo;clear hvo;refine con.mono ?_;clear con;rintro e w10 ⟨rfl,hT⟩;replace hD:=hT.2;replace hC:=hC.chg hT.1 (fun h=>hne h);replace hR:=hR.chg hT.1 (fun h=>hnr h);replace X:Ext w w10:=(X.chg_trans hT.1).mono (fun k hk h=>by have h':k=bd:=h;omega);replace hS:=qQa hS hT.1 (fun k hk h=>(hap k hk).2.1 h);clear hT;have fz:=hC.frozen 9;have cz:=hC.cell 9;simp at cz;go_wp2_with fail
 replace hC:At (w10.setCell ⟨bc,9,none⟩ (.int .i64 ((xvo:Nat):Int))) bc 32 #[.int .i64 ((xk:Nat):Int),.int .i64 ((xcl:Nat):Int),.int .i64 ((xsq:Nat):Int),.string ⟨xnm.toArray⟩,.int .u64 ((xbl:Nat):Int),.int .i64 ((xsz:Nat):Int),.int .u32 ((xsu:Int) % 4294967296),.slice dA dn dc,.int .i64 ((xpo:Nat):Int),.int .i64 ((xvo:Nat):Int),.int .i64 0]:=hC.set 9 _;replace hD:qQM (w10.setCell ⟨bc,9,none⟩ (.int .i64 ((xvo:Nat):Int))) bd s d10:=hD.chg ((Chg.refl (· = bc) _).setCell (.inl rfl) _) (fun h=>hne (Eq.symm h));replace hR:At (w10.setCell ⟨bc,9,none⟩ (.int .i64 ((xvo:Nat):Int))) br 32 #[.int .i64 0,.int .i64 0,.int .i64 0,.string ⟨#[]⟩,.int .u64 0,.int .i64 0,.int .u32 0,.slice none 0 0,.int .i64 0,.int .i64 0,.int .i64 0]:=hR.chg ((Chg.refl (· = bc) _).setCell (.inl rfl) _) (fun h=>hrc h);replace X:Ext w (w10.setCell ⟨bc,9,none⟩ (.int .i64 ((xvo:Nat):Int))):=X.setCell hcl _;replace hS:World.ownsRow (w10.setCell ⟨bc,9,none⟩ (.int .i64 ((xvo:Nat):Int))) 0 3 1 (.slice dA dn dc) xdk.length (xdk.map (Value.int .i64)):=qQa hS ((Chg.refl (· = bc) _).setCell (.inl rfl) _) (fun k hk h=>(hap k hk).1 h);clear fz cz;generalize w10.setCell ⟨bc,9,none⟩ (.int .i64 ((xvo:Nat):Int))=v10 at hC hD hR X hS⊢;have con:=qZk v10 bd s d10 hD 1073741824 (by decide) (by decide);generalize hat_:d10.i 1073741824=rat_ at con;obtain⟨xat_,d11⟩:=rat_;simp only at con;have Hat_:=Hh hat_;clear hat_;refine con.mono ?_;clear con;rintro e w11 ⟨rfl,hT⟩;replace hD:=hT.2;replace hC:=hC.chg hT.1 (fun h=>hne h);replace hR:=hR.chg hT.1 (fun h=>hnr h);replace X:Ext w w11:=(X.chg_trans hT.1).mono (fun k hk h=>by have h':k=bd:=h;omega);replace hS:=qQa hS hT.1 (fun k hk h=>(hap k hk).2.1 h);clear hT;have fz:=hC.frozen 10;have cz:=hC.cell 10;simp at cz;have z0:=hC.cell 0;simp at z0;have z1:=hC.cell 1;simp at z1;have z2:=hC.cell 2;simp at z2;have z3:=hC.cell 3;simp at z3;have z4:=hC.cell 4;simp at z4;have z5:=hC.cell 5;simp at z5;have z6:=hC.cell 6;simp at z6;have z7:=hC.cell 7;simp at z7;have z8:=hC.cell 8;simp at z8;have z9:=hC.cell 9;simp at z9
 have hraw:craw (⟨s.data.toList,0⟩:Dc)=((⟨(xk:Int),(xcl:Int),(xsq:Int),⟨xnm.toArray⟩,xbl,(xsz:Int),xsu % 4294967296,xdk,(xpo:Int),(xvo:Int),(xat_:Int)⟩:Cmd),xsu,d11):=by
  simp only[craw,Hk.out,Hcl.out,Hsq.out,Hnm.out,Hbl.out,Hsz.out,Hsu.out,Hdk.out,Hpo.out,Hvo.out,Hat_.out]
 by_cases hbig:4294967295<xsu
 ·have t0:decide ((4294967295:Int)<(xsu:Int))=true:=by simp;omega
  go_wp2_with fail
  replace hC:At (w11.setCell ⟨bc,10,none⟩ (.int .i64 ((xat_:Nat):Int))) bc 32 #[.int .i64 ((xk:Nat):Int),.int .i64 ((xcl:Nat):Int),.int .i64 ((xsq:Nat):Int),.string ⟨xnm.toArray⟩,.int .u64 ((xbl:Nat):Int),.int .i64 ((xsz:Nat):Int),.int .u32 ((xsu:Int) % 4294967296),.slice dA dn dc,.int .i64 ((xpo:Nat):Int),.int .i64 ((xvo:Nat):Int),.int .i64 ((xat_:Nat):Int)]:=hC.set 10 _;replace hD:qQM (w11.setCell ⟨bc,10,none⟩ (.int .i64 ((xat_:Nat):Int))) bd s d11:=hD.chg ((Chg.refl (· = bc) _).setCell (.inl rfl) _) (fun h=>hne (Eq.symm h));replace hR:At (w11.setCell ⟨bc,10,none⟩ (.int .i64 ((xat_:Nat):Int))) br 32 #[.int .i64 0,.int .i64 0,.int .i64 0,.string ⟨#[]⟩,.int .u64 0,.int .i64 0,.int .u32 0,.slice none 0 0,.int .i64 0,.int .i64 0,.int .i64 0]:=hR.chg ((Chg.refl (· = bc) _).setCell (.inl rfl) _) (fun h=>hrc h);replace X:Ext w (w11.setCell ⟨bc,10,none⟩ (.int .i64 ((xat_:Nat):Int))):=X.setCell hcl _;replace hS:World.ownsRow (w11.setCell ⟨bc,10,none⟩ (.int .i64 ((xat_:Nat):Int))) 0 3 1 (.slice dA dn dc) xdk.length (xdk.map (Value.int .i64)):=qQa hS ((Chg.refl (· = bc) _).setCell (.inl rfl) _) (fun k hk h=>(hap k hk).1 h);clear z0 z1 z2 z3 z4 z5 z6 z7 z8 z9;generalize w11.setCell ⟨bc,10,none⟩ (.int .i64 ((xat_:Nat):Int))=v11 at hC hD hR X hS⊢;have con:=qQ7 v11 bd s d11 hD 3 (by decide);refine con.mono ?_;clear con;rintro e wy ⟨rfl,hT⟩;replace hC:=hC.chg hT.1 (fun h=>hne h);replace hR:=hR.chg hT.1 (fun h=>hnr h);replace X:Ext w wy:=(X.chg_trans hT.1).mono (fun k hk h=>by have h':k=bd:=h;omega);replace hS:=qQa hS hT.1 (fun k hk h=>(hap k hk).2.1 h);replace hD:=hT.2;clear hT;go_wp2_with fail
  have con:=qXP wy bd s (d11.fail 3) hD;have hce:cend ((⟨(xk:Int),(xcl:Int),(xsq:Int),⟨xnm.toArray⟩,xbl,(xsz:Int),xsu % 4294967296,xdk,(xpo:Int),(xvo:Int),(xat_:Int)⟩:Cmd),xsu,d11)=(d11.fail 3).done:=by unfold cend;rw[if_pos (by simp[hbig])]
  generalize (d11.fail 3).done=E at con hce
  have hcr:F=if E.err=0 then((⟨(xk:Int),(xcl:Int),(xsq:Int),⟨xnm.toArray⟩,xbl,(xsz:Int),xsu % 4294967296,xdk,(xpo:Int),(xvo:Int),(xat_:Int)⟩:Cmd),0)else(Cmd.zero,E.err):=by
   rw[←HF.out];unfold qQ2;rw[hraw,hce]
  clear hce hraw;refine con.mono ?_;clear con;rintro e wz ⟨rfl,hT⟩;replace hC:=hC.chg hT.1 (fun h=>hne h);replace hR:=hR.chg hT.1 (fun h=>hnr h);replace X:Ext w wz:=(X.chg_trans hT.1).mono (fun k hk h=>by have h':k=bd:=h;omega);replace hS:=qQa hS hT.1 (fun k hk h=>(hap k hk).2.1 h);clear hT hD
  by_cases he:E.err=0
  ·rw[if_pos he]at hcr;have t1:(E.err == 0)=true:=by simpa using he
   have t2:(E.err != 0)=false:=by simpa using he
   have HC:=Hh hcr;clear hcr he;have y0:=hC.cell 0;have y1:=hC.cell 1;have y2:=hC.cell 2;have y3:=hC.cell 3;have y4:=hC.cell 4;have y5:=hC.cell 5;have y6:=hC.cell 6;have y7:=hC.cell 7;have y8:=hC.cell 8;have y9:=hC.cell 9;have y10:=hC.cell 10;have u0:=hR.cell 0;have u1:=hR.cell 1;have u2:=hR.cell 2;have u3:=hR.cell 3;have u4:=hR.cell 4;have u5:=hR.cell 5;have u6:=hR.cell 6;have u7:=hR.cell 7;have u8:=hR.cell 8;have u9:=hR.cell 9;have u10:=hR.cell 10;have f0:=hR.frozen 0;have f1:=hR.frozen 1;have f2:=hR.frozen 2;have f3:=hR.frozen 3;have f4:=hR.frozen 4;have f5:=hR.frozen 5;have f6:=hR.frozen 6;have f7:=hR.frozen 7;have f8:=hR.frozen 8;have f9:=hR.frozen 9;have f10:=hR.frozen 10;simp at y0 u0 y1 u1 y2 u2 y3 u3 y4 u4 y5 u5 y6 u6 y7 u7 y8 u8 y9 u9 y10 u10;go_wp2_with fail
   have hF:Chg (· = br) wz (qQ0 wz br 0 [.int .i64 ((xk:Nat):Int),.int .i64 ((xcl:Nat):Int),.int .i64 ((xsq:Nat):Int),.string ⟨xnm.toArray⟩,.int .u64 ((xbl:Nat):Int),.int .i64 ((xsz:Nat):Int),.int .u32 ((xsu:Int) % 4294967296),.slice dA dn dc,.int .i64 ((xpo:Nat):Int),.int .i64 ((xvo:Nat):Int),.int .i64 ((xat_:Nat):Int)]):=qZF wz br _ 0 wz (Chg.refl _ _);have hA:At (qQ0 wz br 0 [.int .i64 ((xk:Nat):Int),.int .i64 ((xcl:Nat):Int),.int .i64 ((xsq:Nat):Int),.string ⟨xnm.toArray⟩,.int .u64 ((xbl:Nat):Int),.int .i64 ((xsz:Nat):Int),.int .u32 ((xsu:Int) % 4294967296),.slice dA dn dc,.int .i64 ((xpo:Nat):Int),.int .i64 ((xvo:Nat):Int),.int .i64 ((xat_:Nat):Int)]) br 32 #[.int .i64 ((xk:Nat):Int),.int .i64 ((xcl:Nat):Int),.int .i64 ((xsq:Nat):Int),.string ⟨xnm.toArray⟩,.int .u64 ((xbl:Nat):Int),.int .i64 ((xsz:Nat):Int),.int .u32 ((xsu:Int) % 4294967296),.slice dA dn dc,.int .i64 ((xpo:Nat):Int),.int .i64 ((xvo:Nat):Int),.int .i64 ((xat_:Nat):Int)]:=hR.setAll rfl;have hw:(((((((((((wz).setCell ⟨br,0,none⟩ (.int .i64 ((xk:Nat):Int))).setCell ⟨br,1,none⟩ (.int .i64 ((xcl:Nat):Int))).setCell ⟨br,2,none⟩ (.int .i64 ((xsq:Nat):Int))).setCell ⟨br,3,none⟩ (.string ⟨xnm.toArray⟩)).setCell ⟨br,4,none⟩ (.int .u64 ((xbl:Nat):Int))).setCell ⟨br,5,none⟩ (.int .i64 ((xsz:Nat):Int))).setCell ⟨br,6,none⟩ (.int .u32 ((xsu:Int) % 4294967296))).setCell ⟨br,7,none⟩ (.slice dA dn dc)).setCell ⟨br,8,none⟩ (.int .i64 ((xpo:Nat):Int))).setCell ⟨br,9,none⟩ (.int .i64 ((xvo:Nat):Int))).setCell ⟨br,10,none⟩ (.int .i64 ((xat_:Nat):Int))=qQ0 wz br 0 [.int .i64 ((xk:Nat):Int),.int .i64 ((xcl:Nat):Int),.int .i64 ((xsq:Nat):Int),.string ⟨xnm.toArray⟩,.int .u64 ((xbl:Nat):Int),.int .i64 ((xsz:Nat):Int),.int .u32 ((xsu:Int) % 4294967296),.slice dA dn dc,.int .i64 ((xpo:Nat):Int),.int .i64 ((xvo:Nat):Int),.int .i64 ((xat_:Nat):Int)]:=rfl;rw[hw];clear hw;generalize qQ0 wz br 0 [.int .i64 ((xk:Nat):Int),.int .i64 ((xcl:Nat):Int),.int .i64 ((xsq:Nat):Int),.string ⟨xnm.toArray⟩,.int .u64 ((xbl:Nat):Int),.int .i64 ((xsz:Nat):Int),.int .u32 ((xsu:Int) % 4294967296),.slice dA dn dc,.int .i64 ((xpo:Nat):Int),.int .i64 ((xvo:Nat):Int),.int .i64 ((xat_:Nat):Int)]=wf at hF hA⊢;clear y0 u0 f0 y1 u1 f1 y2 u2 f2 y3 u3 f3 y4 u4 f4 y5 u5 f5 y6 u6 f6 y7 u7 f7 y8 u8 f8 y9 u9 f9 y10 u10 f10;have g0:=hA.cell 0;have g1:=hA.cell 1;have g2:=hA.cell 2;have g3:=hA.cell 3;have g4:=hA.cell 4;have g5:=hA.cell 5;have g6:=hA.cell 6;have g7:=hA.cell 7;have g8:=hA.cell 8;have g9:=hA.cell 9;have g10:=hA.cell 10;simp at g0 g1 g2 g3 g4 g5 g6 g7 g8 g9 g10;have hcm:qQd F.1 (.slice dA dn dc)=.agg #[.int .i64 ((xk:Nat):Int),.int .i64 ((xcl:Nat):Int),.int .i64 ((xsq:Nat):Int),.string ⟨xnm.toArray⟩,.int .u64 ((xbl:Nat):Int),.int .i64 ((xsz:Nat):Int),.int .u32 ((xsu:Int) % 4294967296),.slice dA dn dc,.int .i64 ((xpo:Nat):Int),.int .i64 ((xvo:Nat):Int),.int .i64 ((xat_:Nat):Int)]:=by rw[HC.out];simp[qQd]
   refine bodyPost_ret (v:=.tuple #[.agg #[.int .i64 ((xk:Nat):Int),.int .i64 ((xcl:Nat):Int),.int .i64 ((xsq:Nat):Int),.string ⟨xnm.toArray⟩,.int .u64 ((xbl:Nat):Int),.int .i64 ((xsz:Nat):Int),.int .u32 ((xsu:Int) % 4294967296),.slice dA dn dc,.int .i64 ((xpo:Nat):Int),.int .i64 ((xvo:Nat):Int),.int .i64 ((xat_:Nat):Int)],.int .i64 0]) (by simp[results,results14,go_sem,g0,g1,g2,g3,g4,g5,g6,g7,g8,g9,g10]) rfl ⟨.slice dA dn dc,by rw[hcm,HC.out],?_,(X.chg_trans hF).mono (fun k hk h=>by have h':k=br:=h;omega)⟩;rw[HC.out];exact qQa hS hF (fun k hk h=>(hap k hk).2.2 h)
  ·rw[if_neg he]at hcr;have t1:(E.err == 0)=false:=by simpa using he
   have t2:(E.err != 0)=true:=by simpa using he
   have HC:=Hh hcr;clear hcr he;have y0:=hC.cell 0;have y1:=hC.cell 1;have y2:=hC.cell 2;have y3:=hC.cell 3;have y4:=hC.cell 4;have y5:=hC.cell 5;have y6:=hC.cell 6;have y7:=hC.cell 7;have y8:=hC.cell 8;have y9:=hC.cell 9;have y10:=hC.cell 10;have u0:=hR.cell 0;have u1:=hR.cell 1;have u2:=hR.cell 2;have u3:=hR.cell 3;have u4:=hR.cell 4;have u5:=hR.cell 5;have u6:=hR.cell 6;have u7:=hR.cell 7;have u8:=hR.cell 8;have u9:=hR.cell 9;have u10:=hR.cell 10;have f0:=hR.frozen 0;have f1:=hR.frozen 1;have f2:=hR.frozen 2;have f3:=hR.frozen 3;have f4:=hR.frozen 4;have f5:=hR.frozen 5;have f6:=hR.frozen 6;have f7:=hR.frozen 7;have f8:=hR.frozen 8;have f9:=hR.frozen 9;have f10:=hR.frozen 10;simp at y0 u0 y1 u1 y2 u2 y3 u3 y4 u4 y5 u5 y6 u6 y7 u7 y8 u8 y9 u9 y10 u10;go_wp2_with fail
   have hF:Chg (· = br) wz (qQ0 wz br 0 [.int .i64 0,.int .i64 0,.int .i64 0,.string ⟨#[]⟩,.int .u64 0,.int .i64 0,.int .u32 0,.slice none 0 0,.int .i64 0,.int .i64 0,.int .i64 0]):=qZF wz br _ 0 wz (Chg.refl _ _);have hA:At (qQ0 wz br 0 [.int .i64 0,.int .i64 0,.int .i64 0,.string ⟨#[]⟩,.int .u64 0,.int .i64 0,.int .u32 0,.slice none 0 0,.int .i64 0,.int .i64 0,.int .i64 0]) br 32 #[.int .i64 0,.int .i64 0,.int .i64 0,.string ⟨#[]⟩,.int .u64 0,.int .i64 0,.int .u32 0,.slice none 0 0,.int .i64 0,.int .i64 0,.int .i64 0]:=hR.setAll rfl;have hw:(((((((((((wz).setCell ⟨br,0,none⟩ (.int .i64 0)).setCell ⟨br,1,none⟩ (.int .i64 0)).setCell ⟨br,2,none⟩ (.int .i64 0)).setCell ⟨br,3,none⟩ (.string ⟨#[]⟩)).setCell ⟨br,4,none⟩ (.int .u64 0)).setCell ⟨br,5,none⟩ (.int .i64 0)).setCell ⟨br,6,none⟩ (.int .u32 0)).setCell ⟨br,7,none⟩ (.slice none 0 0)).setCell ⟨br,8,none⟩ (.int .i64 0)).setCell ⟨br,9,none⟩ (.int .i64 0)).setCell ⟨br,10,none⟩ (.int .i64 0)=qQ0 wz br 0 [.int .i64 0,.int .i64 0,.int .i64 0,.string ⟨#[]⟩,.int .u64 0,.int .i64 0,.int .u32 0,.slice none 0 0,.int .i64 0,.int .i64 0,.int .i64 0]:=rfl;rw[hw];clear hw;generalize qQ0 wz br 0 [.int .i64 0,.int .i64 0,.int .i64 0,.string ⟨#[]⟩,.int .u64 0,.int .i64 0,.int .u32 0,.slice none 0 0,.int .i64 0,.int .i64 0,.int .i64 0]=wf at hF hA⊢;clear y0 u0 f0 y1 u1 f1 y2 u2 f2 y3 u3 f3 y4 u4 f4 y5 u5 f5 y6 u6 f6 y7 u7 f7 y8 u8 f8 y9 u9 f9 y10 u10 f10;have g0:=hA.cell 0;have g1:=hA.cell 1;have g2:=hA.cell 2;have g3:=hA.cell 3;have g4:=hA.cell 4;have g5:=hA.cell 5;have g6:=hA.cell 6;have g7:=hA.cell 7;have g8:=hA.cell 8;have g9:=hA.cell 9;have g10:=hA.cell 10;simp at g0 g1 g2 g3 g4 g5 g6 g7 g8 g9 g10;have hcm:qQd F.1 (.slice none 0 0)=.agg #[.int .i64 0,.int .i64 0,.int .i64 0,.string ⟨#[]⟩,.int .u64 0,.int .i64 0,.int .u32 0,.slice none 0 0,.int .i64 0,.int .i64 0,.int .i64 0]:=by rw[HC.out];rfl
   refine bodyPost_ret (v:=.tuple #[.agg #[.int .i64 0,.int .i64 0,.int .i64 0,.string ⟨#[]⟩,.int .u64 0,.int .i64 0,.int .u32 0,.slice none 0 0,.int .i64 0,.int .i64 0,.int .i64 0],.int .i64 E.err]) (by simp[results,results14,go_sem,g0,g1,g2,g3,g4,g5,g6,g7,g8,g9,g10]) rfl ⟨.slice none 0 0,by rw[hcm,HC.out],?_,(X.chg_trans hF).mono (fun k hk h=>by have h':k=br:=h;omega)⟩;rw[HC.out];exact⟨rfl,.inl ⟨rfl,rfl⟩⟩
 ·have t0:decide ((4294967295:Int)<(xsu:Int))=false:=by simp;omega
  go_wp2_with fail
  replace hC:At (w11.setCell ⟨bc,10,none⟩ (.int .i64 ((xat_:Nat):Int))) bc 32 #[.int .i64 ((xk:Nat):Int),.int .i64 ((xcl:Nat):Int),.int .i64 ((xsq:Nat):Int),.string ⟨xnm.toArray⟩,.int .u64 ((xbl:Nat):Int),.int .i64 ((xsz:Nat):Int),.int .u32 ((xsu:Int) % 4294967296),.slice dA dn dc,.int .i64 ((xpo:Nat):Int),.int .i64 ((xvo:Nat):Int),.int .i64 ((xat_:Nat):Int)]:=hC.set 10 _;replace hD:qQM (w11.setCell ⟨bc,10,none⟩ (.int .i64 ((xat_:Nat):Int))) bd s d11:=hD.chg ((Chg.refl (· = bc) _).setCell (.inl rfl) _) (fun h=>hne (Eq.symm h));replace hR:At (w11.setCell ⟨bc,10,none⟩ (.int .i64 ((xat_:Nat):Int))) br 32 #[.int .i64 0,.int .i64 0,.int .i64 0,.string ⟨#[]⟩,.int .u64 0,.int .i64 0,.int .u32 0,.slice none 0 0,.int .i64 0,.int .i64 0,.int .i64 0]:=hR.chg ((Chg.refl (· = bc) _).setCell (.inl rfl) _) (fun h=>hrc h);replace X:Ext w (w11.setCell ⟨bc,10,none⟩ (.int .i64 ((xat_:Nat):Int))):=X.setCell hcl _;replace hS:World.ownsRow (w11.setCell ⟨bc,10,none⟩ (.int .i64 ((xat_:Nat):Int))) 0 3 1 (.slice dA dn dc) xdk.length (xdk.map (Value.int .i64)):=qQa hS ((Chg.refl (· = bc) _).setCell (.inl rfl) _) (fun k hk h=>(hap k hk).1 h);clear z0 z1 z2 z3 z4 z5 z6 z7 z8 z9;generalize w11.setCell ⟨bc,10,none⟩ (.int .i64 ((xat_:Nat):Int))=v11 at hC hD hR X hS⊢;have cg:=qZL v11 (⟨(xk:Int),(xcl:Int),(xsq:Int),⟨xnm.toArray⟩,xbl,(xsz:Int),xsu % 4294967296,xdk,(xpo:Int),(xvo:Int),(xat_:Int)⟩:Cmd) (.slice dA dn dc) (Sl.of_own hS) (by simp only;omega) (by show xnm.toArray.size≤_;simp;omega);unfold qQd at cg;simp only at cg;rw[show((xsu % 4294967296:Nat):Int)=(xsu:Int) % 4294967296 from by omega]at cg;refine cg.mono ?_;clear cg;rintro e wg ⟨rfl,hEg⟩;replace hC:=hC.ext hEg;replace hD:qQM wg bd s d11:=hD.chg hEg (fun h=>h);replace hR:=hR.ext hEg;replace X:=X.trans hEg;replace hS:=own_kx hS hEg;clear hEg;cases hgd:Cmd.good (⟨(xk:Int),(xcl:Int),(xsq:Int),⟨xnm.toArray⟩,xbl,(xsz:Int),xsu % 4294967296,xdk,(xpo:Int),(xvo:Int),(xat_:Int)⟩:Cmd)
  ·go_wp2_with fail
   have con:=qQ7 wg bd s d11 hD 3 (by decide);refine con.mono ?_;clear con;rintro e wy ⟨rfl,hT⟩;replace hC:=hC.chg hT.1 (fun h=>hne h);replace hR:=hR.chg hT.1 (fun h=>hnr h);replace X:Ext w wy:=(X.chg_trans hT.1).mono (fun k hk h=>by have h':k=bd:=h;omega);replace hS:=qQa hS hT.1 (fun k hk h=>(hap k hk).2.1 h);replace hD:=hT.2;clear hT;go_wp2_with fail
   have con:=qXP wy bd s (d11.fail 3) hD;have hce:cend ((⟨(xk:Int),(xcl:Int),(xsq:Int),⟨xnm.toArray⟩,xbl,(xsz:Int),xsu % 4294967296,xdk,(xpo:Int),(xvo:Int),(xat_:Int)⟩:Cmd),xsu,d11)=(d11.fail 3).done:=by unfold cend;rw[if_pos (by simp only[hgd];simp)]
   generalize (d11.fail 3).done=E at con hce
   have hcr:F=if E.err=0 then((⟨(xk:Int),(xcl:Int),(xsq:Int),⟨xnm.toArray⟩,xbl,(xsz:Int),xsu % 4294967296,xdk,(xpo:Int),(xvo:Int),(xat_:Int)⟩:Cmd),0)else(Cmd.zero,E.err):=by
    rw[←HF.out];unfold qQ2;rw[hraw,hce]
   clear hce hraw;refine con.mono ?_;clear con;rintro e wz ⟨rfl,hT⟩;replace hC:=hC.chg hT.1 (fun h=>hne h);replace hR:=hR.chg hT.1 (fun h=>hnr h);replace X:Ext w wz:=(X.chg_trans hT.1).mono (fun k hk h=>by have h':k=bd:=h;omega);replace hS:=qQa hS hT.1 (fun k hk h=>(hap k hk).2.1 h);clear hT hD
   by_cases he:E.err=0
   ·rw[if_pos he]at hcr;have t1:(E.err == 0)=true:=by simpa using he
    have t2:(E.err != 0)=false:=by simpa using he
    have HC:=Hh hcr;clear hcr he;have y0:=hC.cell 0;have y1:=hC.cell 1;have y2:=hC.cell 2;have y3:=hC.cell 3;have y4:=hC.cell 4;have y5:=hC.cell 5;have y6:=hC.cell 6;have y7:=hC.cell 7;have y8:=hC.cell 8;have y9:=hC.cell 9;have y10:=hC.cell 10;have u0:=hR.cell 0;have u1:=hR.cell 1;have u2:=hR.cell 2;have u3:=hR.cell 3;have u4:=hR.cell 4;have u5:=hR.cell 5;have u6:=hR.cell 6;have u7:=hR.cell 7;have u8:=hR.cell 8;have u9:=hR.cell 9;have u10:=hR.cell 10;have f0:=hR.frozen 0;have f1:=hR.frozen 1;have f2:=hR.frozen 2;have f3:=hR.frozen 3;have f4:=hR.frozen 4;have f5:=hR.frozen 5;have f6:=hR.frozen 6;have f7:=hR.frozen 7;have f8:=hR.frozen 8;have f9:=hR.frozen 9;have f10:=hR.frozen 10;simp at y0 u0 y1 u1 y2 u2 y3 u3 y4 u4 y5 u5 y6 u6 y7 u7 y8 u8 y9 u9 y10 u10;go_wp2_with fail
    have hF:Chg (· = br) wz (qQ0 wz br 0 [.int .i64 ((xk:Nat):Int),.int .i64 ((xcl:Nat):Int),.int .i64 ((xsq:Nat):Int),.string ⟨xnm.toArray⟩,.int .u64 ((xbl:Nat):Int),.int .i64 ((xsz:Nat):Int),.int .u32 ((xsu:Int) % 4294967296),.slice dA dn dc,.int .i64 ((xpo:Nat):Int),.int .i64 ((xvo:Nat):Int),.int .i64 ((xat_:Nat):Int)]):=qZF wz br _ 0 wz (Chg.refl _ _);have hA:At (qQ0 wz br 0 [.int .i64 ((xk:Nat):Int),.int .i64 ((xcl:Nat):Int),.int .i64 ((xsq:Nat):Int),.string ⟨xnm.toArray⟩,.int .u64 ((xbl:Nat):Int),.int .i64 ((xsz:Nat):Int),.int .u32 ((xsu:Int) % 4294967296),.slice dA dn dc,.int .i64 ((xpo:Nat):Int),.int .i64 ((xvo:Nat):Int),.int .i64 ((xat_:Nat):Int)]) br 32 #[.int .i64 ((xk:Nat):Int),.int .i64 ((xcl:Nat):Int),.int .i64 ((xsq:Nat):Int),.string ⟨xnm.toArray⟩,.int .u64 ((xbl:Nat):Int),.int .i64 ((xsz:Nat):Int),.int .u32 ((xsu:Int) % 4294967296),.slice dA dn dc,.int .i64 ((xpo:Nat):Int),.int .i64 ((xvo:Nat):Int),.int .i64 ((xat_:Nat):Int)]:=hR.setAll rfl;have hw:(((((((((((wz).setCell ⟨br,0,none⟩ (.int .i64 ((xk:Nat):Int))).setCell ⟨br,1,none⟩ (.int .i64 ((xcl:Nat):Int))).setCell ⟨br,2,none⟩ (.int .i64 ((xsq:Nat):Int))).setCell ⟨br,3,none⟩ (.string ⟨xnm.toArray⟩)).setCell ⟨br,4,none⟩ (.int .u64 ((xbl:Nat):Int))).setCell ⟨br,5,none⟩ (.int .i64 ((xsz:Nat):Int))).setCell ⟨br,6,none⟩ (.int .u32 ((xsu:Int) % 4294967296))).setCell ⟨br,7,none⟩ (.slice dA dn dc)).setCell ⟨br,8,none⟩ (.int .i64 ((xpo:Nat):Int))).setCell ⟨br,9,none⟩ (.int .i64 ((xvo:Nat):Int))).setCell ⟨br,10,none⟩ (.int .i64 ((xat_:Nat):Int))=qQ0 wz br 0 [.int .i64 ((xk:Nat):Int),.int .i64 ((xcl:Nat):Int),.int .i64 ((xsq:Nat):Int),.string ⟨xnm.toArray⟩,.int .u64 ((xbl:Nat):Int),.int .i64 ((xsz:Nat):Int),.int .u32 ((xsu:Int) % 4294967296),.slice dA dn dc,.int .i64 ((xpo:Nat):Int),.int .i64 ((xvo:Nat):Int),.int .i64 ((xat_:Nat):Int)]:=rfl;rw[hw];clear hw;generalize qQ0 wz br 0 [.int .i64 ((xk:Nat):Int),.int .i64 ((xcl:Nat):Int),.int .i64 ((xsq:Nat):Int),.string ⟨xnm.toArray⟩,.int .u64 ((xbl:Nat):Int),.int .i64 ((xsz:Nat):Int),.int .u32 ((xsu:Int) % 4294967296),.slice dA dn dc,.int .i64 ((xpo:Nat):Int),.int .i64 ((xvo:Nat):Int),.int .i64 ((xat_:Nat):Int)]=wf at hF hA⊢;clear y0 u0 f0 y1 u1 f1 y2 u2 f2 y3 u3 f3 y4 u4 f4 y5 u5 f5 y6 u6 f6 y7 u7 f7 y8 u8 f8 y9 u9 f9 y10 u10 f10;have g0:=hA.cell 0;have g1:=hA.cell 1;have g2:=hA.cell 2;have g3:=hA.cell 3;have g4:=hA.cell 4;have g5:=hA.cell 5;have g6:=hA.cell 6;have g7:=hA.cell 7;have g8:=hA.cell 8;have g9:=hA.cell 9;have g10:=hA.cell 10;simp at g0 g1 g2 g3 g4 g5 g6 g7 g8 g9 g10;have hcm:qQd F.1 (.slice dA dn dc)=.agg #[.int .i64 ((xk:Nat):Int),.int .i64 ((xcl:Nat):Int),.int .i64 ((xsq:Nat):Int),.string ⟨xnm.toArray⟩,.int .u64 ((xbl:Nat):Int),.int .i64 ((xsz:Nat):Int),.int .u32 ((xsu:Int) % 4294967296),.slice dA dn dc,.int .i64 ((xpo:Nat):Int),.int .i64 ((xvo:Nat):Int),.int .i64 ((xat_:Nat):Int)]:=by rw[HC.out];simp[qQd]
    refine bodyPost_ret (v:=.tuple #[.agg #[.int .i64 ((xk:Nat):Int),.int .i64 ((xcl:Nat):Int),.int .i64 ((xsq:Nat):Int),.string ⟨xnm.toArray⟩,.int .u64 ((xbl:Nat):Int),.int .i64 ((xsz:Nat):Int),.int .u32 ((xsu:Int) % 4294967296),.slice dA dn dc,.int .i64 ((xpo:Nat):Int),.int .i64 ((xvo:Nat):Int),.int .i64 ((xat_:Nat):Int)],.int .i64 0]) (by simp[results,results14,go_sem,g0,g1,g2,g3,g4,g5,g6,g7,g8,g9,g10]) rfl ⟨.slice dA dn dc,by rw[hcm,HC.out],?_,(X.chg_trans hF).mono (fun k hk h=>by have h':k=br:=h;omega)⟩;rw[HC.out];exact qQa hS hF (fun k hk h=>(hap k hk).2.2 h)
   ·rw[if_neg he]at hcr;have t1:(E.err == 0)=false:=by simpa using he
    have t2:(E.err != 0)=true:=by simpa using he
    have HC:=Hh hcr;clear hcr he;have y0:=hC.cell 0;have y1:=hC.cell 1;have y2:=hC.cell 2;have y3:=hC.cell 3;have y4:=hC.cell 4;have y5:=hC.cell 5;have y6:=hC.cell 6;have y7:=hC.cell 7;have y8:=hC.cell 8;have y9:=hC.cell 9;have y10:=hC.cell 10;have u0:=hR.cell 0;have u1:=hR.cell 1;have u2:=hR.cell 2;have u3:=hR.cell 3;have u4:=hR.cell 4;have u5:=hR.cell 5;have u6:=hR.cell 6;have u7:=hR.cell 7;have u8:=hR.cell 8;have u9:=hR.cell 9;have u10:=hR.cell 10;have f0:=hR.frozen 0;have f1:=hR.frozen 1;have f2:=hR.frozen 2;have f3:=hR.frozen 3;have f4:=hR.frozen 4;have f5:=hR.frozen 5;have f6:=hR.frozen 6;have f7:=hR.frozen 7;have f8:=hR.frozen 8;have f9:=hR.frozen 9;have f10:=hR.frozen 10;simp at y0 u0 y1 u1 y2 u2 y3 u3 y4 u4 y5 u5 y6 u6 y7 u7 y8 u8 y9 u9 y10 u10;go_wp2_with fail
    have hF:Chg (· = br) wz (qQ0 wz br 0 [.int .i64 0,.int .i64 0,.int .i64 0,.string ⟨#[]⟩,.int .u64 0,.int .i64 0,.int .u32 0,.slice none 0 0,.int .i64 0,.int .i64 0,.int .i64 0]):=qZF wz br _ 0 wz (Chg.refl _ _);have hA:At (qQ0 wz br 0 [.int .i64 0,.int .i64 0,.int .i64 0,.string ⟨#[]⟩,.int .u64 0,.int .i64 0,.int .u32 0,.slice none 0 0,.int .i64 0,.int .i64 0,.int .i64 0]) br 32 #[.int .i64 0,.int .i64 0,.int .i64 0,.string ⟨#[]⟩,.int .u64 0,.int .i64 0,.int .u32 0,.slice none 0 0,.int .i64 0,.int .i64 0,.int .i64 0]:=hR.setAll rfl;have hw:(((((((((((wz).setCell ⟨br,0,none⟩ (.int .i64 0)).setCell ⟨br,1,none⟩ (.int .i64 0)).setCell ⟨br,2,none⟩ (.int .i64 0)).setCell ⟨br,3,none⟩ (.string ⟨#[]⟩)).setCell ⟨br,4,none⟩ (.int .u64 0)).setCell ⟨br,5,none⟩ (.int .i64 0)).setCell ⟨br,6,none⟩ (.int .u32 0)).setCell ⟨br,7,none⟩ (.slice none 0 0)).setCell ⟨br,8,none⟩ (.int .i64 0)).setCell ⟨br,9,none⟩ (.int .i64 0)).setCell ⟨br,10,none⟩ (.int .i64 0)=qQ0 wz br 0 [.int .i64 0,.int .i64 0,.int .i64 0,.string ⟨#[]⟩,.int .u64 0,.int .i64 0,.int .u32 0,.slice none 0 0,.int .i64 0,.int .i64 0,.int .i64 0]:=rfl;rw[hw];clear hw;generalize qQ0 wz br 0 [.int .i64 0,.int .i64 0,.int .i64 0,.string ⟨#[]⟩,.int .u64 0,.int .i64 0,.int .u32 0,.slice none 0 0,.int .i64 0,.int .i64 0,.int .i64 0]=wf at hF hA⊢;clear y0 u0 f0 y1 u1 f1 y2 u2 f2 y3 u3 f3 y4 u4 f4 y5 u5 f5 y6 u6 f6 y7 u7 f7 y8 u8 f8 y9 u9 f9 y10 u10 f10;have g0:=hA.cell 0;have g1:=hA.cell 1;have g2:=hA.cell 2;have g3:=hA.cell 3;have g4:=hA.cell 4;have g5:=hA.cell 5;have g6:=hA.cell 6;have g7:=hA.cell 7;have g8:=hA.cell 8;have g9:=hA.cell 9;have g10:=hA.cell 10;simp at g0 g1 g2 g3 g4 g5 g6 g7 g8 g9 g10;have hcm:qQd F.1 (.slice none 0 0)=.agg #[.int .i64 0,.int .i64 0,.int .i64 0,.string ⟨#[]⟩,.int .u64 0,.int .i64 0,.int .u32 0,.slice none 0 0,.int .i64 0,.int .i64 0,.int .i64 0]:=by rw[HC.out];rfl
    refine bodyPost_ret (v:=.tuple #[.agg #[.int .i64 0,.int .i64 0,.int .i64 0,.string ⟨#[]⟩,.int .u64 0,.int .i64 0,.int .u32 0,.slice none 0 0,.int .i64 0,.int .i64 0,.int .i64 0],.int .i64 E.err]) (by simp[results,results14,go_sem,g0,g1,g2,g3,g4,g5,g6,g7,g8,g9,g10]) rfl ⟨.slice none 0 0,by rw[hcm,HC.out],?_,(X.chg_trans hF).mono (fun k hk h=>by have h':k=br:=h;omega)⟩;rw[HC.out];exact⟨rfl,.inl ⟨rfl,rfl⟩⟩
  ·go_wp2_with fail
   have con:=qXP wg bd s (d11) hD;have hce:cend ((⟨(xk:Int),(xcl:Int),(xsq:Int),⟨xnm.toArray⟩,xbl,(xsz:Int),xsu % 4294967296,xdk,(xpo:Int),(xvo:Int),(xat_:Int)⟩:Cmd),xsu,d11)=(d11).done:=by unfold cend;rw[if_neg (by simp only[hgd];simp;omega)]
   generalize (d11).done=E at con hce
   have hcr:F=if E.err=0 then((⟨(xk:Int),(xcl:Int),(xsq:Int),⟨xnm.toArray⟩,xbl,(xsz:Int),xsu % 4294967296,xdk,(xpo:Int),(xvo:Int),(xat_:Int)⟩:Cmd),0)else(Cmd.zero,E.err):=by
    rw[←HF.out];unfold qQ2;rw[hraw,hce]
   clear hce hraw;refine con.mono ?_;clear con;rintro e wz ⟨rfl,hT⟩;replace hC:=hC.chg hT.1 (fun h=>hne h);replace hR:=hR.chg hT.1 (fun h=>hnr h);replace X:Ext w wz:=(X.chg_trans hT.1).mono (fun k hk h=>by have h':k=bd:=h;omega);replace hS:=qQa hS hT.1 (fun k hk h=>(hap k hk).2.1 h);clear hT hD
   by_cases he:E.err=0
   ·rw[if_pos he]at hcr;have t1:(E.err == 0)=true:=by simpa using he
    have t2:(E.err != 0)=false:=by simpa using he
    have HC:=Hh hcr;clear hcr he;have y0:=hC.cell 0;have y1:=hC.cell 1;have y2:=hC.cell 2;have y3:=hC.cell 3;have y4:=hC.cell 4;have y5:=hC.cell 5;have y6:=hC.cell 6;have y7:=hC.cell 7;have y8:=hC.cell 8;have y9:=hC.cell 9;have y10:=hC.cell 10;have u0:=hR.cell 0;have u1:=hR.cell 1;have u2:=hR.cell 2;have u3:=hR.cell 3;have u4:=hR.cell 4;have u5:=hR.cell 5;have u6:=hR.cell 6;have u7:=hR.cell 7;have u8:=hR.cell 8;have u9:=hR.cell 9;have u10:=hR.cell 10;have f0:=hR.frozen 0;have f1:=hR.frozen 1;have f2:=hR.frozen 2;have f3:=hR.frozen 3;have f4:=hR.frozen 4;have f5:=hR.frozen 5;have f6:=hR.frozen 6;have f7:=hR.frozen 7;have f8:=hR.frozen 8;have f9:=hR.frozen 9;have f10:=hR.frozen 10;simp at y0 u0 y1 u1 y2 u2 y3 u3 y4 u4 y5 u5 y6 u6 y7 u7 y8 u8 y9 u9 y10 u10;go_wp2_with fail
    have hF:Chg (· = br) wz (qQ0 wz br 0 [.int .i64 ((xk:Nat):Int),.int .i64 ((xcl:Nat):Int),.int .i64 ((xsq:Nat):Int),.string ⟨xnm.toArray⟩,.int .u64 ((xbl:Nat):Int),.int .i64 ((xsz:Nat):Int),.int .u32 ((xsu:Int) % 4294967296),.slice dA dn dc,.int .i64 ((xpo:Nat):Int),.int .i64 ((xvo:Nat):Int),.int .i64 ((xat_:Nat):Int)]):=qZF wz br _ 0 wz (Chg.refl _ _);have hA:At (qQ0 wz br 0 [.int .i64 ((xk:Nat):Int),.int .i64 ((xcl:Nat):Int),.int .i64 ((xsq:Nat):Int),.string ⟨xnm.toArray⟩,.int .u64 ((xbl:Nat):Int),.int .i64 ((xsz:Nat):Int),.int .u32 ((xsu:Int) % 4294967296),.slice dA dn dc,.int .i64 ((xpo:Nat):Int),.int .i64 ((xvo:Nat):Int),.int .i64 ((xat_:Nat):Int)]) br 32 #[.int .i64 ((xk:Nat):Int),.int .i64 ((xcl:Nat):Int),.int .i64 ((xsq:Nat):Int),.string ⟨xnm.toArray⟩,.int .u64 ((xbl:Nat):Int),.int .i64 ((xsz:Nat):Int),.int .u32 ((xsu:Int) % 4294967296),.slice dA dn dc,.int .i64 ((xpo:Nat):Int),.int .i64 ((xvo:Nat):Int),.int .i64 ((xat_:Nat):Int)]:=hR.setAll rfl;have hw:(((((((((((wz).setCell ⟨br,0,none⟩ (.int .i64 ((xk:Nat):Int))).setCell ⟨br,1,none⟩ (.int .i64 ((xcl:Nat):Int))).setCell ⟨br,2,none⟩ (.int .i64 ((xsq:Nat):Int))).setCell ⟨br,3,none⟩ (.string ⟨xnm.toArray⟩)).setCell ⟨br,4,none⟩ (.int .u64 ((xbl:Nat):Int))).setCell ⟨br,5,none⟩ (.int .i64 ((xsz:Nat):Int))).setCell ⟨br,6,none⟩ (.int .u32 ((xsu:Int) % 4294967296))).setCell ⟨br,7,none⟩ (.slice dA dn dc)).setCell ⟨br,8,none⟩ (.int .i64 ((xpo:Nat):Int))).setCell ⟨br,9,none⟩ (.int .i64 ((xvo:Nat):Int))).setCell ⟨br,10,none⟩ (.int .i64 ((xat_:Nat):Int))=qQ0 wz br 0 [.int .i64 ((xk:Nat):Int),.int .i64 ((xcl:Nat):Int),.int .i64 ((xsq:Nat):Int),.string ⟨xnm.toArray⟩,.int .u64 ((xbl:Nat):Int),.int .i64 ((xsz:Nat):Int),.int .u32 ((xsu:Int) % 4294967296),.slice dA dn dc,.int .i64 ((xpo:Nat):Int),.int .i64 ((xvo:Nat):Int),.int .i64 ((xat_:Nat):Int)]:=rfl;rw[hw];clear hw;generalize qQ0 wz br 0 [.int .i64 ((xk:Nat):Int),.int .i64 ((xcl:Nat):Int),.int .i64 ((xsq:Nat):Int),.string ⟨xnm.toArray⟩,.int .u64 ((xbl:Nat):Int),.int .i64 ((xsz:Nat):Int),.int .u32 ((xsu:Int) % 4294967296),.slice dA dn dc,.int .i64 ((xpo:Nat):Int),.int .i64 ((xvo:Nat):Int),.int .i64 ((xat_:Nat):Int)]=wf at hF hA⊢;clear y0 u0 f0 y1 u1 f1 y2 u2 f2 y3 u3 f3 y4 u4 f4 y5 u5 f5 y6 u6 f6 y7 u7 f7 y8 u8 f8 y9 u9 f9 y10 u10 f10;have g0:=hA.cell 0;have g1:=hA.cell 1;have g2:=hA.cell 2;have g3:=hA.cell 3;have g4:=hA.cell 4;have g5:=hA.cell 5;have g6:=hA.cell 6;have g7:=hA.cell 7;have g8:=hA.cell 8;have g9:=hA.cell 9;have g10:=hA.cell 10;simp at g0 g1 g2 g3 g4 g5 g6 g7 g8 g9 g10;have hcm:qQd F.1 (.slice dA dn dc)=.agg #[.int .i64 ((xk:Nat):Int),.int .i64 ((xcl:Nat):Int),.int .i64 ((xsq:Nat):Int),.string ⟨xnm.toArray⟩,.int .u64 ((xbl:Nat):Int),.int .i64 ((xsz:Nat):Int),.int .u32 ((xsu:Int) % 4294967296),.slice dA dn dc,.int .i64 ((xpo:Nat):Int),.int .i64 ((xvo:Nat):Int),.int .i64 ((xat_:Nat):Int)]:=by rw[HC.out];simp[qQd]
    refine bodyPost_ret (v:=.tuple #[.agg #[.int .i64 ((xk:Nat):Int),.int .i64 ((xcl:Nat):Int),.int .i64 ((xsq:Nat):Int),.string ⟨xnm.toArray⟩,.int .u64 ((xbl:Nat):Int),.int .i64 ((xsz:Nat):Int),.int .u32 ((xsu:Int) % 4294967296),.slice dA dn dc,.int .i64 ((xpo:Nat):Int),.int .i64 ((xvo:Nat):Int),.int .i64 ((xat_:Nat):Int)],.int .i64 0]) (by simp[results,results14,go_sem,g0,g1,g2,g3,g4,g5,g6,g7,g8,g9,g10]) rfl ⟨.slice dA dn dc,by rw[hcm,HC.out],?_,(X.chg_trans hF).mono (fun k hk h=>by have h':k=br:=h;omega)⟩;rw[HC.out];exact qQa hS hF (fun k hk h=>(hap k hk).2.2 h)
   ·rw[if_neg he]at hcr;have t1:(E.err == 0)=false:=by simpa using he
    have t2:(E.err != 0)=true:=by simpa using he
    have HC:=Hh hcr;clear hcr he;have y0:=hC.cell 0;have y1:=hC.cell 1;have y2:=hC.cell 2;have y3:=hC.cell 3;have y4:=hC.cell 4;have y5:=hC.cell 5;have y6:=hC.cell 6;have y7:=hC.cell 7;have y8:=hC.cell 8;have y9:=hC.cell 9;have y10:=hC.cell 10;have u0:=hR.cell 0;have u1:=hR.cell 1;have u2:=hR.cell 2;have u3:=hR.cell 3;have u4:=hR.cell 4;have u5:=hR.cell 5;have u6:=hR.cell 6;have u7:=hR.cell 7;have u8:=hR.cell 8;have u9:=hR.cell 9;have u10:=hR.cell 10;have f0:=hR.frozen 0;have f1:=hR.frozen 1;have f2:=hR.frozen 2;have f3:=hR.frozen 3;have f4:=hR.frozen 4;have f5:=hR.frozen 5;have f6:=hR.frozen 6;have f7:=hR.frozen 7;have f8:=hR.frozen 8;have f9:=hR.frozen 9;have f10:=hR.frozen 10;simp at y0 u0 y1 u1 y2 u2 y3 u3 y4 u4 y5 u5 y6 u6 y7 u7 y8 u8 y9 u9 y10 u10;go_wp2_with fail
    have hF:Chg (· = br) wz (qQ0 wz br 0 [.int .i64 0,.int .i64 0,.int .i64 0,.string ⟨#[]⟩,.int .u64 0,.int .i64 0,.int .u32 0,.slice none 0 0,.int .i64 0,.int .i64 0,.int .i64 0]):=qZF wz br _ 0 wz (Chg.refl _ _);have hA:At (qQ0 wz br 0 [.int .i64 0,.int .i64 0,.int .i64 0,.string ⟨#[]⟩,.int .u64 0,.int .i64 0,.int .u32 0,.slice none 0 0,.int .i64 0,.int .i64 0,.int .i64 0]) br 32 #[.int .i64 0,.int .i64 0,.int .i64 0,.string ⟨#[]⟩,.int .u64 0,.int .i64 0,.int .u32 0,.slice none 0 0,.int .i64 0,.int .i64 0,.int .i64 0]:=hR.setAll rfl;have hw:(((((((((((wz).setCell ⟨br,0,none⟩ (.int .i64 0)).setCell ⟨br,1,none⟩ (.int .i64 0)).setCell ⟨br,2,none⟩ (.int .i64 0)).setCell ⟨br,3,none⟩ (.string ⟨#[]⟩)).setCell ⟨br,4,none⟩ (.int .u64 0)).setCell ⟨br,5,none⟩ (.int .i64 0)).setCell ⟨br,6,none⟩ (.int .u32 0)).setCell ⟨br,7,none⟩ (.slice none 0 0)).setCell ⟨br,8,none⟩ (.int .i64 0)).setCell ⟨br,9,none⟩ (.int .i64 0)).setCell ⟨br,10,none⟩ (.int .i64 0)=qQ0 wz br 0 [.int .i64 0,.int .i64 0,.int .i64 0,.string ⟨#[]⟩,.int .u64 0,.int .i64 0,.int .u32 0,.slice none 0 0,.int .i64 0,.int .i64 0,.int .i64 0]:=rfl;rw[hw];clear hw;generalize qQ0 wz br 0 [.int .i64 0,.int .i64 0,.int .i64 0,.string ⟨#[]⟩,.int .u64 0,.int .i64 0,.int .u32 0,.slice none 0 0,.int .i64 0,.int .i64 0,.int .i64 0]=wf at hF hA⊢;clear y0 u0 f0 y1 u1 f1 y2 u2 f2 y3 u3 f3 y4 u4 f4 y5 u5 f5 y6 u6 f6 y7 u7 f7 y8 u8 f8 y9 u9 f9 y10 u10 f10;have g0:=hA.cell 0;have g1:=hA.cell 1;have g2:=hA.cell 2;have g3:=hA.cell 3;have g4:=hA.cell 4;have g5:=hA.cell 5;have g6:=hA.cell 6;have g7:=hA.cell 7;have g8:=hA.cell 8;have g9:=hA.cell 9;have g10:=hA.cell 10;simp at g0 g1 g2 g3 g4 g5 g6 g7 g8 g9 g10;have hcm:qQd F.1 (.slice none 0 0)=.agg #[.int .i64 0,.int .i64 0,.int .i64 0,.string ⟨#[]⟩,.int .u64 0,.int .i64 0,.int .u32 0,.slice none 0 0,.int .i64 0,.int .i64 0,.int .i64 0]:=by rw[HC.out];rfl
    refine bodyPost_ret (v:=.tuple #[.agg #[.int .i64 0,.int .i64 0,.int .i64 0,.string ⟨#[]⟩,.int .u64 0,.int .i64 0,.int .u32 0,.slice none 0 0,.int .i64 0,.int .i64 0,.int .i64 0],.int .i64 E.err]) (by simp[results,results14,go_sem,g0,g1,g2,g3,g4,g5,g6,g7,g8,g9,g10]) rfl ⟨.slice none 0 0,by rw[hcm,HC.out],?_,(X.chg_trans hF).mono (fun k hk h=>by have h':k=br:=h;omega)⟩;rw[HC.out];exact⟨rfl,.inl ⟨rfl,rfl⟩⟩
end
open Go.RowKit Go.Sort
theorem ri_bad{d dn:Dc}{v:Nat}{m:Int}(hm:0≤m)(h:d.u=(v,dn))(h0:dn.err=0)(hb:m<(v:Int)):d.i m=(0,⟨dn.rest,11⟩):=by
 unfold Dc.i;rw[h];simp only;rw[if_pos (by omega)];unfold Dc.fail;rw[if_pos h0]
theorem ri_err{d dn:Dc}{v:Nat}{m:Int}(h:d.u=(v,dn))(h0:dn.err≠0)(hm:0≤m)(hv:v=0):d.i m=(0,dn):=by
 unfold Dc.i;rw[h];simp only;subst hv;rw[if_neg (by omega)]
theorem ri_fine{d dn:Dc}{v:Nat}{m:Int}(hm:0≤m)(h:d.u=(v,dn))(hb:¬ m<(v:Int)):d.i m=(v,dn):=by
 unfold Dc.i;rw[h];simp only;rw[if_neg (by omega)]
theorem ul_zero:∀(s:List UInt8) (b:Bool) (v:Nat),(qZO b v s).2.err≠0→(qZO b v s).1=0
 | [],_,_,_=>rfl
 | c::r,b,v,h=>by
  unfold qZO at h⊢;split
  ·rfl
  ·rename_i h1
   rw[if_neg h1]at h;split
   ·rename_i h2
    rw[if_pos h2]at h;exact absurd rfl h
   ·rename_i h2
    rw[if_neg h2]at h;exact ul_zero r _ _ h
theorem u_zero{d:Dc}(h:d.u.2.err≠0):d.u.1=0:=by
 unfold Dc.u at h⊢;split
 ·rename_i h1
  rw[if_pos h1]at h;exact ul_zero _ _ _ h
 ·rfl
theorem qXh(w:World)(d:Dc)(hl:d.rest.length≤1000000000)(m:Int)(hm:0≤m)(hm2:m≤9223372036854775807) :
 Calls prog 80 #[cur d,.int .i64 m] w fun e w'=>e=.returned (.tuple #[cur (d.i m).2,.int .i64 ((d.i m).1:Int)])∧Ext w w':=by
 have hmm:max m 0=m:=by omega
 have HCALL:=fun W=>show Calls prog 82 #[.agg #[.string ⟨d.rest.toArray⟩,.int .i64 d.err]] W fun e w'=>e=.returned (.tuple #[.agg #[.string ⟨d.u.2.rest.toArray⟩,.int .i64 d.u.2.err],.int .u64 (d.u.1:Int)])∧Ext W w' from rtu_any W d hl
 have HV:=Hh (u_lt64 d);unfold cur curA
 go_enter func80,ntmps80
 have hX:=(At.new w 157 #[.string ⟨d.rest.toArray⟩,.int .i64 d.err]).alloc (.cells #[.string ⟨#[]⟩,.int .i64 0] 157);have hQ:=At.new (w.alloc (.cells #[.string ⟨d.rest.toArray⟩,.int .i64 d.err] 157)) 157 #[.string ⟨#[]⟩,.int .i64 0];rw[show(w.alloc (.cells #[.string ⟨d.rest.toArray⟩,.int .i64 d.err] 157)).heap.size=w.heap.size+1 by simp]at hQ;have hE0:=((Er w).alloc (.cells #[.string ⟨d.rest.toArray⟩,.int .i64 d.err] 157)).alloc (.cells #[.string ⟨#[]⟩,.int .i64 0] 157)
 go_upto_region 1 with fail
 obtain⟨x,hx⟩:∃x,w.heap.size=x:=⟨_,rfl⟩;rw[hx]at hX hQ⊢;have hxw:w.heap.size≤x:=by omega
 clear hx;generalize (w.alloc _).alloc _=W at hX hQ hE0⊢;have x0:=hX.cell 0;have x1:=hX.cell 1;simp at x0 x1;have HC:=Hh (HCALL W);clear HCALL;go_wp2_with fail
 refine HC.out.mono ?_;rintro e w1 ⟨rfl,hE1⟩;have hQ1:=hQ.ext hE1;have hEx:=hE0.trans hE1;clear hX hQ hE0 hE1 x0 x1 HC;obtain⟨nx,hnx⟩:∃nx,d.u=nx:=⟨_,rfl⟩;have HNX:=Hh hnx;have HZ:=Hh (fun(h:d.u.2.err≠0)=>u_zero h);rw[hnx]at HZ HV⊢;clear hnx;obtain⟨v,dn⟩:=nx;simp only at HZ HV⊢;have hY:=At.new w1 157 #[.string ⟨dn.rest.toArray⟩,.int .i64 dn.err];have hEy:=(Er w1).alloc (.cells #[.string ⟨dn.rest.toArray⟩,.int .i64 dn.err] 157)
 go_upto_region 2 with fail
 have hQ:=hQ1.ext hEy;have hE:=hEx.trans hEy;have hne2:x+1≠w1.heap.size:=fun e=>by have:=hQ1.lt;omega
 have hyw:w.heap.size≤w1.heap.size:=hEx.size;generalize w1.alloc _=W1 at hQ hE hY⊢;obtain⟨y,hy⟩:∃y,w1.heap.size=y:=⟨_,rfl⟩;rw[hy]at hY hne2 hyw⊢;clear hQ1 hEx hEy hy;obtain⟨e0,he0⟩:∃b:Bool,(dn.err == 0)=b:=⟨_,rfl⟩;obtain⟨fk,hfk⟩:∃fk:Bool,fk=(e0&&decide (m<(v:Int))):=⟨_,rfl⟩;have HFK:=Hh (And.intro he0 hfk);obtain⟨wo,hwo⟩:∃wo:World,wo=W1:=⟨_,rfl⟩;have y1:=hY.cell 1;simp at y1;have HJ:=Hh (And.intro hQ (And.intro hE hY));clear hQ hE hY
 go_cut [26]from 13 to 26 (fun tv wx=>tv=.bool fk∧wx=wo)
 case first =>
  clear HJ HNX HFK HZ;cases e0
  ·obtain rfl:fk=false:=by rw[hfk];rfl
   clear hfk;go_wp2_with fail
   go_meet
   case rel=>exact⟨by first|rfl|(simp;done)|(simp;omega),hwo.symm⟩
  ·by_cases hb:9223372036854775807<v
   ·obtain rfl:fk=true:=by rw[hfk];simp;omega
    clear hfk;go_wp2_with fail
    go_meet
    case rel=>exact⟨by first|rfl|(simp;done)|(simp;omega),hwo.symm⟩
   ·have hw1:IntKind.i64.wrap (v:Int)=(v:Int):=Go.IntWalk.i64_in _ (by omega)
    by_cases hb2:m<(v:Int)
    ·obtain rfl:fk=true:=by rw[hfk];simp;omega
     clear hfk;go_wp2_with fail
     go_meet
     case rel=>exact⟨by first|rfl|(simp;done)|(simp;omega),hwo.symm⟩
    ·obtain rfl:fk=false:=by rw[hfk];simp;omega
     clear hfk;go_wp2_with fail
     go_meet
     case rel=>exact⟨by first|rfl|(simp;done)|(simp;omega),hwo.symm⟩
 case rest =>
  obtain⟨rfl,hwc⟩:=hcut;subst hwc;subst hwo;obtain⟨hQ,hE,hY⟩:=HJ.out;clear HJ;have y0:=hY.cell 0;have y1:=hY.cell 1;have g1:=hY.frozen 1;simp at y0 y1;clear he0 hfk;cases fk
  ·by_cases hz:dn.err=0
   ·have hb:(dn.err != 0)=false:=by simp[hz]
    have hu:d.i m=(v,dn):=ri_fine hm HNX.out (by
     obtain⟨a0,a1⟩:=HFK.out;rw[←a0,hz]at a1;simp at a1;omega)
    have hv:(v:Int)≤9223372036854775807:=by
     obtain⟨a0,a1⟩:=HFK.out;rw[←a0,hz]at a1;simp at a1;omega
    have hw1:IntKind.i64.wrap (v:Int)=(v:Int):=Go.IntWalk.i64_in _ (by omega);have HU:=Hh hu;clear hu hz;have q0:=hQ.cell 0;have q1:=hQ.cell 1;have f0:=hQ.frozen 0;have f1:=hQ.frozen 1;simp at q0 q1;go_wp2_with fail
    have hC:=qZf hQ (.string ⟨dn.rest.toArray⟩) (.int .i64 dn.err);have hEz:=qZg hE (show w.heap.size≤x+1 by omega) (.string ⟨dn.rest.toArray⟩) (.int .i64 dn.err);refine bodyPost_ret (v:=.tuple #[.agg #[.string ⟨dn.rest.toArray⟩,.int .i64 dn.err],.int .i64 (v:Int)]) (qQA results80 _ rfl (qZc hC)) rfl ⟨?_,hEz⟩;rw[HU.out]
   ·have hb:(dn.err != 0)=true:=by simp[hz]
    have hu:=ri_err HNX.out hz hm (HZ.out hz);have HU:=Hh hu;clear hu hz;have q0:=hQ.cell 0;have q1:=hQ.cell 1;have f0:=hQ.frozen 0;have f1:=hQ.frozen 1;simp at q0 q1;go_wp2_with fail
    have hC:=qZf hQ (.string ⟨dn.rest.toArray⟩) (.int .i64 dn.err);have hEz:=qZg hE (show w.heap.size≤x+1 by omega) (.string ⟨dn.rest.toArray⟩) (.int .i64 dn.err);refine bodyPost_ret (v:=.tuple #[.agg #[.string ⟨dn.rest.toArray⟩,.int .i64 dn.err],.int .i64 0]) (qQA results80 _ rfl (qZc hC)) rfl ⟨?_,hEz⟩;rw[HU.out];rfl
  ·have hbb:dn.err=0∧m<(v:Int):=by
    obtain⟨a0,a1⟩:=HFK.out;rw[←a0]at a1;simpa using a1.symm
   have hu:=ri_bad hm HNX.out hbb.1 hbb.2;have HU:=Hh hu;clear hu hbb;have hY2:=hY.set 1 (.int .i64 11)
   go_upto_region 4 with fail
   have hchY:Chg (· = y) wc (wc.setCell ⟨y,1,none⟩ (.int .i64 11)):=Chg.setCell (S:=(· = y)) (p:=⟨y,1,none⟩) (Er wc).chg (.inl rfl) _;have hQ2:=hQ.chg hchY hne2;have hE2:=hE.setCell (p:=⟨y,1,none⟩) (show w.heap.size≤y by omega) (.int .i64 11);generalize wc.setCell ⟨y,1,none⟩ (.int .i64 11)=W2 at hQ2 hE2 hY2⊢;clear hQ hE hY hchY y0 y1 g1;have y0:=hY2.cell 0;have y1:=hY2.cell 1;simp at y0 y1;have q0:=hQ2.cell 0;have q1:=hQ2.cell 1;have f0:=hQ2.frozen 0;have f1:=hQ2.frozen 1;simp at q0 q1;go_wp2_with fail
   have hC:=qZf hQ2 (.string ⟨dn.rest.toArray⟩) (.int .i64 11);have hEz:=qZg hE2 (show w.heap.size≤x+1 by omega) (.string ⟨dn.rest.toArray⟩) (.int .i64 11);refine bodyPost_ret (v:=.tuple #[.agg #[.string ⟨dn.rest.toArray⟩,.int .i64 11],.int .i64 0]) (qQA results80 _ rfl (qZc hC)) rfl ⟨?_,hEz⟩;rw[HU.out];rfl
theorem rs_err{d dn:Dc}{v:Nat}{m:Int}(h:d.i m=(v,dn))(h0:dn.err≠0):d.s m=([],dn):=by
 unfold Dc.s;rw[h,if_neg h0]
theorem rs_bad{d dn:Dc}{v:Nat}{m:Int}(h:d.i m=(v,dn))(h0:dn.err=0)(hb:dn.rest.length<v):d.s m=([],⟨dn.rest,2⟩):=by
 unfold Dc.s;rw[h,if_pos h0,if_pos hb]
theorem rs_fine{d dn:Dc}{v:Nat}{m:Int}(h:d.i m=(v,dn))(h0:dn.err=0)(hb:v≤dn.rest.length):d.s m=(dn.rest.take v,⟨dn.rest.drop v,0⟩):=by
 unfold Dc.s;rw[h,if_pos h0,if_neg (by show ¬ dn.rest.length<v;omega)];simp only;rw[h0]
theorem ext_drop(r:List UInt8)(n:Nat):(⟨r.toArray⟩:ByteArray).extract n r.length=⟨(r.drop n).toArray⟩:=ByteArray.ext (by simp;rw[List.take_of_length_le (by simp)])
theorem ext_take(r:List UInt8)(n:Nat):(⟨r.toArray⟩:ByteArray).extract 0 n=⟨(r.take n).toArray⟩:=ByteArray.ext (by simp)
theorem u_len(d:Dc):d.u.2.rest.length≤d.rest.length:=by
 have key:∀(s:List UInt8) (b:Bool) (v:Nat),(qZO b v s).2.rest.length≤s.length:=by
  intro s
  induction s with
  | nil=>intro b v;exact Nat.le_refl _
  | cons c r ih =>
   intro b v;unfold qZO;split
   ·simp
   ·split
    ·simp
    ·exact Nat.le_trans (ih _ _) (by simp)
 unfold Dc.u;split
 ·exact key _ _ _
 ·exact Nat.le_refl _
theorem fail_len(d:Dc)(x:Int):(d.fail x).rest=d.rest:=by
 unfold Dc.fail
 split <;> rfl
theorem qJm(d:Dc)(m:Int):(d.i m).2.rest.length≤d.rest.length:=by
 unfold Dc.i;split
 ·simp only;rw[fail_len];exact u_len d
 ·exact u_len d
theorem rts_any(w:World)(d:Dc)(hl:d.rest.length≤1000000000)(m:Int)(hm:0≤m)(hm2:m≤9223372036854775807) :
 Calls prog 81 #[cur d,.int .i64 m] w fun e w'=>e=.returned (.tuple #[cur (d.s m).2,.string ⟨(d.s m).1.toArray⟩])∧Ext w w':=by
 have HCALL:=fun W=>show Calls prog 80 #[.agg #[.string ⟨d.rest.toArray⟩,.int .i64 d.err],.int .i64 m] W fun e w'=>e=.returned (.tuple #[.agg #[.string ⟨(d.i m).2.rest.toArray⟩,.int .i64 (d.i m).2.err],.int .i64 ((d.i m).1:Int)])∧Ext W w' from qXh W d hl m hm hm2
 have hlen:=qJm d m;unfold cur curA
 go_enter func81,ntmps81
 have hX:=(At.new w 157 #[.string ⟨d.rest.toArray⟩,.int .i64 d.err]).alloc (.cells #[.string ⟨#[]⟩,.int .i64 0] 157);have hQ:=At.new (w.alloc (.cells #[.string ⟨d.rest.toArray⟩,.int .i64 d.err] 157)) 157 #[.string ⟨#[]⟩,.int .i64 0];rw[show(w.alloc (.cells #[.string ⟨d.rest.toArray⟩,.int .i64 d.err] 157)).heap.size=w.heap.size+1 by simp]at hQ;have hE0:=((Er w).alloc (.cells #[.string ⟨d.rest.toArray⟩,.int .i64 d.err] 157)).alloc (.cells #[.string ⟨#[]⟩,.int .i64 0] 157)
 go_upto_region 1 with fail
 obtain⟨x,hx⟩:∃x,w.heap.size=x:=⟨_,rfl⟩;rw[hx]at hX hQ⊢;have hxw:w.heap.size≤x:=by omega
 clear hx;generalize (w.alloc _).alloc _=W at hX hQ hE0⊢;have x0:=hX.cell 0;have x1:=hX.cell 1;simp at x0 x1;have HC:=Hh (HCALL W);clear HCALL;go_wp2_with fail
 refine HC.out.mono ?_;rintro e w1 ⟨rfl,hE1⟩;have hQ1:=hQ.ext hE1;have hEx:=hE0.trans hE1;clear hX hQ hE0 hE1 x0 x1 HC;obtain⟨nx,hnx⟩:∃nx,d.i m=nx:=⟨_,rfl⟩;have HNX:=Hh hnx;rw[hnx]at hlen⊢;clear hnx;obtain⟨v,dn⟩:=nx;simp only at hlen⊢;have hY:=At.new w1 157 #[.string ⟨dn.rest.toArray⟩,.int .i64 dn.err];have hEy:=(Er w1).alloc (.cells #[.string ⟨dn.rest.toArray⟩,.int .i64 dn.err] 157)
 go_upto_region 2 with fail
 have hQ:=hQ1.ext hEy;have hE:=hEx.trans hEy;have hne2:x+1≠w1.heap.size:=fun e=>by have:=hQ1.lt;omega
 have hyw:w.heap.size≤w1.heap.size:=hEx.size;generalize w1.alloc _=W1 at hQ hE hY⊢;obtain⟨y,hy⟩:∃y,w1.heap.size=y:=⟨_,rfl⟩;rw[hy]at hY hne2 hyw⊢;clear hQ1 hEx hEy hy;obtain⟨e0,he0⟩:∃b:Bool,(dn.err == 0)=b:=⟨_,rfl⟩;obtain⟨fk,hfk⟩:∃fk:Bool,fk=(e0&&decide (dn.rest.length<v)):=⟨_,rfl⟩;have HFK:=Hh (And.intro he0 hfk);obtain⟨wo,hwo⟩:∃wo:World,wo=W1:=⟨_,rfl⟩;have y0:=hY.cell 0;have y1:=hY.cell 1;simp at y0 y1;have HJ:=Hh (And.intro hQ (And.intro hE hY));clear hQ hE hY
 go_cut [23]from 14 to 23 (fun tv wx=>tv=.bool fk∧wx=wo)
 case first =>
  clear HJ HNX HFK;cases e0
  ·obtain rfl:fk=false:=by rw[hfk];rfl
   clear hfk;go_wp2_with fail
   go_meet
   case rel=>exact⟨by first|rfl|(simp;done)|(simp;omega),hwo.symm⟩
  ·by_cases hb:dn.rest.length<v
   ·obtain rfl:fk=true:=by rw[hfk];simp;omega
    clear hfk;go_wp2_with fail
    go_meet
    case rel=>exact⟨by first|rfl|(simp;done)|(simp;omega),hwo.symm⟩
   ·obtain rfl:fk=false:=by rw[hfk];simp;omega
    clear hfk;go_wp2_with fail
    go_meet
    case rel=>exact⟨by first|rfl|(simp;done)|(simp;omega),hwo.symm⟩
 case rest =>
  obtain⟨rfl,hwc⟩:=hcut;subst hwc;subst hwo;obtain⟨hQ,hE,hY⟩:=HJ.out;clear HJ;have y0:=hY.cell 0;have y1:=hY.cell 1;have g1:=hY.frozen 1;simp at y0 y1;clear he0 hfk;cases fk
  ·by_cases hz:dn.err=0
   ·have hb:(dn.err != 0)=false:=by simp[hz]
    have hv:v≤dn.rest.length:=by
     obtain⟨a0,a1⟩:=HFK.out;rw[←a0,hz]at a1;simp at a1;omega
    have HU:=Hh (rs_fine HNX.out hz hv);clear hz
    go_upto_region 6 with fail
    have q0:=hQ.cell 0;have q1:=hQ.cell 1;have f0:=hQ.frozen 0;have f1:=hQ.frozen 1;simp at q0 q1
    go_region
    rw[ext_drop,ext_take];go_wp2_with fail
    have hC:=(qZf hQ (.string ⟨(dn.rest.drop v).toArray⟩) (.int .i64 0)).drew;have hEz:=(qZg hE (show w.heap.size≤x+1 by omega) (.string ⟨(dn.rest.drop v).toArray⟩) (.int .i64 0)).drew;refine bodyPost_ret (v:=.tuple #[.agg #[.string ⟨(dn.rest.drop v).toArray⟩,.int .i64 0],.string ⟨(dn.rest.take v).toArray⟩]) (qQA results81 _ rfl (qZc hC)) rfl ⟨?_,hEz⟩;rw[HU.out]
   ·have hb:(dn.err != 0)=true:=by simp[hz]
    have hu:=rs_err HNX.out hz;have HU:=Hh hu;clear hu hz;have q0:=hQ.cell 0;have q1:=hQ.cell 1;have f0:=hQ.frozen 0;have f1:=hQ.frozen 1;simp at q0 q1;go_wp2_with fail
    have hC:=qZf hQ (.string ⟨dn.rest.toArray⟩) (.int .i64 dn.err);have hEz:=qZg hE (show w.heap.size≤x+1 by omega) (.string ⟨dn.rest.toArray⟩) (.int .i64 dn.err);refine bodyPost_ret (v:=.tuple #[.agg #[.string ⟨dn.rest.toArray⟩,.int .i64 dn.err],.string ⟨#[]⟩]) (qQA results81 _ rfl (qZc hC)) rfl ⟨?_,hEz⟩;rw[HU.out]
  ·have hbb:dn.err=0∧dn.rest.length<v:=by
    obtain⟨a0,a1⟩:=HFK.out;rw[←a0]at a1;simpa using a1.symm
   have hu:=rs_bad HNX.out hbb.1 hbb.2;have HU:=Hh hu;clear hu hbb;have hY2:=hY.set 1 (.int .i64 2)
   go_upto_region 4 with fail
   have hchY:Chg (· = y) wc (wc.setCell ⟨y,1,none⟩ (.int .i64 2)):=Chg.setCell (S:=(· = y)) (p:=⟨y,1,none⟩) (Er wc).chg (.inl rfl) _;have hQ2:=hQ.chg hchY hne2;have hE2:=hE.setCell (p:=⟨y,1,none⟩) (show w.heap.size≤y by omega) (.int .i64 2);generalize wc.setCell ⟨y,1,none⟩ (.int .i64 2)=W2 at hQ2 hE2 hY2⊢;clear hQ hE hY hchY y0 y1 g1;have y0:=hY2.cell 0;have y1:=hY2.cell 1;simp at y0 y1;have q0:=hQ2.cell 0;have q1:=hQ2.cell 1;have f0:=hQ2.frozen 0;have f1:=hQ2.frozen 1;simp at q0 q1;go_wp2_with fail
   have hC:=qZf hQ2 (.string ⟨dn.rest.toArray⟩) (.int .i64 2);have hEz:=qZg hE2 (show w.heap.size≤x+1 by omega) (.string ⟨dn.rest.toArray⟩) (.int .i64 2);refine bodyPost_ret (v:=.tuple #[.agg #[.string ⟨dn.rest.toArray⟩,.int .i64 2],.string ⟨#[]⟩]) (qQA results81 _ rfl (qZc hC)) rfl ⟨?_,hEz⟩;rw[HU.out]
theorem rdone_any(w:World)(d:Dc):Calls prog 85 #[cur d] w fun e w'=>e=.returned (cur d.done)∧Ext w w':=by
 have HF:=Hh (fun W=>show Calls prog 113 #[.agg #[.string ⟨d.rest.toArray⟩,.int .i64 d.err],.int .i64 3] W fun e w'=>e=.returned (.agg #[.string ⟨(d.fail 3).rest.toArray⟩,.int .i64 (d.fail 3).err])∧Ext W w' from rfail_any W d 3);unfold cur curA
 by_cases hr:d.rest=[]
 ·have hd:d.done=d:=by unfold Dc.done;rw[if_pos hr]
  rw[hd];have he:d.rest.isEmpty=true:=by rw[hr];rfl
  clear hr hd
  go_enter func85,ntmps85
  go_wp2_with fail
  exact bodyPost_ret (v:=.agg #[.string ⟨d.rest.toArray⟩,.int .i64 d.err]) (by simp[results,results85,go_sem]) rfl ⟨rfl,((Er w).alloc _).alloc _⟩
 ·have hd:d.done=d.fail 3:=by unfold Dc.done;rw[if_neg hr]
  rw[hd]
  have he:d.rest.isEmpty=false:=by cases h:d.rest with
   | nil=>exact absurd h hr
   | cons c r=>rfl
  clear hr hd;generalize d.fail 3=dn at HF⊢
  go_enter func85,ntmps85
  have hX:=(At.new w 157 #[.string ⟨d.rest.toArray⟩,.int .i64 d.err]).alloc (.cells #[.string ⟨#[]⟩,.int .i64 0] 157);have hQ:=At.new (w.alloc (.cells #[.string ⟨d.rest.toArray⟩,.int .i64 d.err] 157)) 157 #[.string ⟨#[]⟩,.int .i64 0];rw[show(w.alloc (.cells #[.string ⟨d.rest.toArray⟩,.int .i64 d.err] 157)).heap.size=w.heap.size+1 by simp]at hQ;have hE0:=((Er w).alloc (.cells #[.string ⟨d.rest.toArray⟩,.int .i64 d.err] 157)).alloc (.cells #[.string ⟨#[]⟩,.int .i64 0] 157)
  go_upto_region 1 with fail
  obtain⟨x,hx⟩:∃x,w.heap.size=x:=⟨_,rfl⟩;rw[hx]at hX hQ⊢;have hxw:w.heap.size≤x:=by omega
  clear hx;generalize (w.alloc _).alloc _=W at hX hQ hE0⊢;have x0:=hX.cell 0;have x1:=hX.cell 1;simp at x0 x1;go_wp2_with fail
  refine(HF.out _).mono ?_
  rintro e w1 ⟨rfl,hE1⟩;have hX1:=hX.ext hE1;have hQ1:=hQ.ext hE1;have hEx:=hE0.trans hE1;clear hX hQ hE0 hE1 x0 x1 HF;have x0:=hX1.cell 0;have x1:=hX1.cell 1;have p0:=hX1.frozen 0;have p1:=hX1.frozen 1;simp at x0 x1
  go_upto_region 3 with fail
  have hX2:=qZf hX1 (.string ⟨dn.rest.toArray⟩) (.int .i64 dn.err);have hQ2:=(hQ1.far (p:=⟨x,0,none⟩) (show x+1≠x by omega) (.string ⟨dn.rest.toArray⟩)).far (p:=⟨x,1,none⟩) (show x+1≠x by omega) (.int .i64 dn.err);have hE2:=qZg hEx (show w.heap.size≤x by omega) (.string ⟨dn.rest.toArray⟩) (.int .i64 dn.err);generalize World.setCell (w1.setCell _ _) _ _=W2 at hX2 hQ2 hE2⊢;clear x0 x1 p0 p1 hX1 hQ1 hEx;have x0:=hX2.cell 0;have x1:=hX2.cell 1;simp at x0 x1;have q0:=hQ2.cell 0;have q1:=hQ2.cell 1;have f0:=hQ2.frozen 0;have f1:=hQ2.frozen 1;simp at q0 q1;go_wp2_with fail
  have hC:=qZf hQ2 (.string ⟨dn.rest.toArray⟩) (.int .i64 dn.err);have hEz:=qZg hE2 (show w.heap.size≤x+1 by omega) (.string ⟨dn.rest.toArray⟩) (.int .i64 dn.err);refine bodyPost_ret (v:=.agg #[.string ⟨dn.rest.toArray⟩,.int .i64 dn.err]) (qQJ results85 _ rfl (qZc hC)) rfl ⟨rfl,hEz⟩
theorem s_lenR(d:Dc)(m:Int):(d.s m).2.rest.length≤d.rest.length:=by
 have:=qJm d m
 unfold Dc.s;split
 ·split
  ·exact this
  ·simp only[List.length_drop];omega
 ·exact this
theorem i_zero{d:Dc}{m:Int}(h:(d.i m).2.err≠0):(d.i m).1=0:=by
 unfold Dc.i at h⊢;split
 ·rfl
 ·rename_i h1
  rw[if_neg h1]at h;exact u_zero h
def accL(L:List Int)(r:Option (List Int)×Dc):Option (List Int)×Dc:=match r with
 | (none,e)=>(none,e)
 | (some l,e)=>(some (L++l),e)
theorem accL_nil(r:Option (List Int)×Dc):accL [] r=r:=by
 obtain⟨o,e⟩:=r;cases o <;> rfl
theorem accL_snoc(L:List Int)(x:Int)(r:Option (List Int)×Dc):accL L (match r with|(none,e)=>(none,e)|(some l,e)=>(some (x::l),e))=accL (L++[x]) r:=by
 obtain⟨o,e⟩:=r;cases o with
 | none=>rfl
 | some l=>unfold accL;simp
def LsAt(k:Int)(R:Option (List Int)×Dc)(n:Nat)(L:List Int)(d:Dc):Prop:=(d.err=0∧accL L (qQt k n d)=R)∨(d.err≠0∧R.2=d∧R.1.getD []=[])
theorem LsAt.step{k:Int}{R:Option (List Int)×Dc}{n:Nat}{L:List Int}{d:Dc}(h:LsAt k R (n+1) L d)(h0:d.err=0):LsAt k R n (L++[((d.i k).1:Int)]) (d.i k).2:=by
 rcases h with⟨_,h⟩|⟨h,_⟩
 ·rw[qQt]at h
  by_cases he:(d.i k).2.err=0
  ·rw[if_pos he]at h;exact .inl ⟨he,by rw[←h];exact(accL_snoc L _ _).symm⟩
  ·rw[if_neg he]at h;refine .inr ⟨he,?_,?_⟩
   ·rw[←h];rfl
   ·rw[←h];rfl
 ·exact absurd h0 h
theorem int_infoR:(prog.info? 3).map (fun i=>(i.zero,i.size,i.bytes))=some (some (.int .i64 0),1,8):=by kernel_rfl
theorem rtl_any(w:World)(d:Dc)(hl:d.rest.length≤1000000000)(m:Int)(hm:0≤m)(hm2:m≤1000000)(k:Int)(hk:0≤k)(hk2:k≤9223372036854775807) :
 Calls prog 83 #[cur d,.int .i64 m,.int .i64 k] w fun e w'=>∃v,e=.returned (.tuple #[cur (d.list m k).2,v])∧w'.ownsRow 0 3 1 v (d.list m k).1.length ((d.list m k).1.map (Value.int .i64))∧Ext w w':=by
 have HCALL:=fun W=>show Calls prog 80 #[.agg #[.string ⟨d.rest.toArray⟩,.int .i64 d.err],.int .i64 m] W fun e w'=>e=.returned (.tuple #[.agg #[.string ⟨(d.i m).2.rest.toArray⟩,.int .i64 (d.i m).2.err],.int .i64 ((d.i m).1:Int)])∧Ext W w' from qXh W d hl m hm (by omega)
 have hlen:=qJm d m;have hle:=Dc.i_le d m hm;have HI0:=Hh (fun h=>i_zero (d:=d) (m:=m) h);unfold cur curA
 go_enter func83,ntmps83
 have hX:=(At.new w 157 #[.string ⟨d.rest.toArray⟩,.int .i64 d.err]).alloc (.cells #[.string ⟨#[]⟩,.int .i64 0] 157);have hQ:=At.new (w.alloc (.cells #[.string ⟨d.rest.toArray⟩,.int .i64 d.err] 157)) 157 #[.string ⟨#[]⟩,.int .i64 0];rw[show(w.alloc (.cells #[.string ⟨d.rest.toArray⟩,.int .i64 d.err] 157)).heap.size=w.heap.size+1 by simp]at hQ;have hE0:=((Er w).alloc (.cells #[.string ⟨d.rest.toArray⟩,.int .i64 d.err] 157)).alloc (.cells #[.string ⟨#[]⟩,.int .i64 0] 157)
 go_upto_region 1 with fail
 obtain⟨x,hx⟩:∃x,w.heap.size=x:=⟨_,rfl⟩;rw[hx]at hX hQ⊢;have hxw:w.heap.size≤x:=by omega
 clear hx;generalize (w.alloc _).alloc _=W at hX hQ hE0⊢;have x0:=hX.cell 0;have x1:=hX.cell 1;simp at x0 x1;have HC:=Hh (HCALL W);clear HCALL;go_wp2_with fail
 refine HC.out.mono ?_;rintro e w1 ⟨rfl,hE1⟩;have hQ1:=hQ.ext hE1;have hEx:=hE0.trans hE1;clear hX hQ hE0 hE1 x0 x1 HC;obtain⟨nx,hnx⟩:∃nx,d.i m=nx:=⟨_,rfl⟩;have HNX:=Hh hnx;rw[hnx]at hlen hle⊢;clear hnx;obtain⟨N,dn⟩:=nx;simp only at hlen hle⊢;have hY:=At.new w1 157 #[.string ⟨dn.rest.toArray⟩,.int .i64 dn.err];have hEy:=(Er w1).alloc (.cells #[.string ⟨dn.rest.toArray⟩,.int .i64 dn.err] 157)
 go_upto_region 2 with fail
 have hQ:=hQ1.ext hEy;have hE:=hEx.trans hEy;have hne2:x+1≠w1.heap.size:=fun e=>by have:=hQ1.lt;omega
 have hyw:w.heap.size≤w1.heap.size:=hEx.size;generalize w1.alloc _=W1 at hQ hE hY⊢;obtain⟨y,hy⟩:∃y,w1.heap.size=y:=⟨_,rfl⟩;rw[hy]at hY hne2 hyw⊢;clear hQ1 hEx hEy hy;obtain⟨R,hR⟩:∃R,qQt k N dn=R:=⟨_,rfl⟩
 have hL:d.list m k=(R.1.getD [],R.2):=by
  unfold Dc.list;rw[HNX.out];simp only;rw[hR]
 have HL:=Hh hL
 have hB:LsAt k R (N - 0) [] dn:=by
  by_cases he:dn.err=0
  ·exact .inl ⟨he,by rw[accL_nil];exact hR⟩
  ·have h0:=HI0.out;rw[HNX.out]at h0;have h1:N=0:=h0 he;subst h1;rw[←hR];exact .inr ⟨he,rfl,rfl⟩
 have HB0:=Hh hB;clear hR hL hB;have hE1:=(Er W1).alloc (.cells #[] 3);have hO1:(W1.alloc (.cells #[] 3)).ownsRow w.heap.size 3 1 (.slice (some ⟨W1.heap.size,0,none⟩) 0 0) 0 []:=qXn (hE.size)
 go_upto_region 3 with fail
 replace hQ:=hQ.ext hE1;replace hY:=hY.ext hE1;replace hE:=hE.trans hE1;generalize W1.alloc _=W2 at hQ hY hE hO1⊢;generalize Value.slice (some ⟨W1.heap.size,0,none⟩) 0 0=ov0 at hO1⊢;clear hE1;go_wp2_with fail
 go_loopw [10,11] (fun ov kv wr=>∃(j:Nat) (L:List Int) (d':Dc),kv=.int .i64 (j:Int)∧j≤N∧L.length=j∧Hid (LsAt k R (N - j) L d')∧d'.rest.length≤d.rest.length∧wr.ownsRow w.heap.size 3 1 ov j (L.map (Value.int .i64))∧At wr y 157 #[.string ⟨d'.rest.toArray⟩,.int .i64 d'.err]∧At wr (x+1) 157 #[.string ⟨#[]⟩,.int .i64 0]∧Ext w wr) (fun _ kv _=>N - (intOf kv).toNat)
 case atStart=>exact⟨0,[],dn,rfl,Nat.zero_le _,rfl,HB0,hlen,hO1,hY,hQ,hE⟩
 case round =>
  clear hO1 hY hQ hE hlen;obtain⟨j,L,d',rfl,hjN,hLj,HB,hlen,hO,hY,hQ,hE⟩:=hrel;obtain⟨e0,he0⟩:∃b:Bool,(d'.err == 0)=b:=⟨_,rfl⟩;obtain⟨fk,hfk⟩:∃fk:Bool,fk=(decide (j<N)&&e0):=⟨_,rfl⟩;have HFK:=Hh (And.intro he0 hfk);obtain⟨wo,hwo⟩:∃wo:World,wo=wr:=⟨_,rfl⟩;have y1:=hY.cell 1;simp at y1;have HJ:=Hh (And.intro hQ (And.intro hE (And.intro hY hO)));clear hQ hE hY hO
  go_upto_region 4 with fail
  go_cut [28]from 21 to 28 (fun tv wx=>tv=.bool fk∧wx=wo)
  case first =>
   clear HJ HFK HNX HB HL HI0
   by_cases h1:j<N
   ·obtain rfl:fk=e0:=by rw[hfk];simp[h1]
    clear hfk;go_wp2_with fail
    go_meet
    case rel=>exact⟨by first|rfl|(simp;done)|(simp[he0]),hwo.symm⟩
   ·obtain rfl:fk=false:=by rw[hfk];simp;omega
    clear hfk;go_wp2_with fail
    go_meet
    case rel=>exact⟨by first|rfl|(simp;done)|(simp;omega),hwo.symm⟩
  case rest =>
   obtain⟨rfl,hwc⟩:=hcut;subst hwc;subst hwo;obtain⟨hQ,hE,hY,hO⟩:=HJ.out;clear HJ he0 hfk;have y0:=hY.cell 0;have y1:=hY.cell 1;simp at y0 y1;cases fk
   ·by_cases hz:d'.err=0
    ·have hjj:j=N:=by
      obtain⟨a0,a1⟩:=HFK.out;rw[←a0,hz]at a1;simp at a1;omega
     have hR:d.list m k=(L,d'):=by
      rw[HL.out];have h1:=HB.out;rw[hjj,Nat.sub_self]at h1;rcases h1 with⟨_,h1⟩|⟨h1,_⟩
      ·rw[←h1];simp[qQt,accL]
      ·exact absurd hz h1
     have hb:(d'.err != 0)=false:=by simp[hz]
     have HU:=Hh hR;clear hR hz hjj;have q0:=hQ.cell 0;have q1:=hQ.cell 1;have f0:=hQ.frozen 0;have f1:=hQ.frozen 1;simp at q0 q1;go_wp2_with fail
     have hC:=qZf hQ (.string ⟨d'.rest.toArray⟩) (.int .i64 d'.err);have hEz:=qZg hE (show w.heap.size≤x+1 by omega) (.string ⟨d'.rest.toArray⟩) (.int .i64 d'.err);have hch:Chg (· = x+1) wc ((wc.setCell ⟨x+1,0,none⟩ (.string ⟨d'.rest.toArray⟩)).setCell ⟨x+1,1,none⟩ (.int .i64 d'.err)):=Chg.setCell (S:=(· = x+1)) (p:=⟨x+1,1,none⟩) (Chg.setCell (S:=(· = x+1)) (p:=⟨x+1,0,none⟩) (Er wc).chg (.inl rfl) _) (.inl rfl) _;have hOz:=qQR (qQa hO hch (fun b hb e=>qQb hO hQ (by decide) b hb e));refine bodyPost_ret (v:=.tuple #[.agg #[.string ⟨d'.rest.toArray⟩,.int .i64 d'.err],u10]) (qQA results83 _ rfl (qZc hC)) rfl ⟨u10,?_,?_,hEz⟩
     ·rw[HU.out]
     ·rw[HU.out];rw[←hLj]at hOz;exact hOz
    ·have hR:d.list m k=([],d'):=by
      rw[HL.out];rcases HB.out with⟨h1,_⟩|⟨_,h2,h3⟩
      ·exact absurd h1 hz
      ·rw[h2,h3]
     have hb:(d'.err != 0)=true:=by simp[hz]
     have HU:=Hh hR;clear hR hz;have q0:=hQ.cell 0;have q1:=hQ.cell 1;have f0:=hQ.frozen 0;have f1:=hQ.frozen 1;simp at q0 q1;go_wp2_with fail
     have hC:=qZf hQ (.string ⟨d'.rest.toArray⟩) (.int .i64 d'.err);have hEz:=qZg hE (show w.heap.size≤x+1 by omega) (.string ⟨d'.rest.toArray⟩) (.int .i64 d'.err);refine bodyPost_ret (v:=.tuple #[.agg #[.string ⟨d'.rest.toArray⟩,.int .i64 d'.err],.slice none 0 0]) (qQA results83 _ rfl (qZc hC)) rfl ⟨.slice none 0 0,?_,?_,hEz⟩
     ·rw[HU.out]
     ·rw[HU.out];exact qQx _ _ _
   ·have hbb:d'.err=0∧j<N:=by
     obtain⟨a0,a1⟩:=HFK.out;rw[←a0]at a1
     have:=a1.symm
     simp at this;exact⟨this.2,this.1⟩
    obtain⟨n,hn⟩:∃n,N - j=n+1:=⟨N - j - 1,by omega⟩;have hB:=HB.out;rw[hn]at hB;have hB2:=hB.step hbb.1;have hlt:=hbb.2;have hln:=qJm d' k;have HC:=Hh (show Calls prog 80 #[.agg #[.string ⟨d'.rest.toArray⟩,.int .i64 d'.err],.int .i64 k] wc fun e w'=>e=.returned (.tuple #[.agg #[.string ⟨(d'.i k).2.rest.toArray⟩,.int .i64 (d'.i k).2.err],.int .i64 ((d'.i k).1:Int)])∧Ext wc w' from qXh wc d' (by omega) k hk hk2);obtain⟨nx,hnx⟩:∃nx,d'.i k=nx:=⟨_,rfl⟩;rw[hnx]at hB2 HC hln;obtain⟨v,d2⟩:=nx;simp only at hB2 HC hln;have HB2:=Hh hB2;have HN:=Hh hn;clear hB hB2 hbb hnx hn HB;go_wp2_with fail
    refine HC.out.mono ?_;rintro e w1 ⟨rfl,hE1⟩;have hQ1:=hQ.ext hE1;have hY1:=hY.ext hE1;have hO1:=own_kx hO hE1;have hEx:=hE.trans hE1;clear hQ hY hO hE hE1 y0 y1 HC;have hZ:=At.new w1 157 #[.string ⟨d2.rest.toArray⟩,.int .i64 d2.err];have hEy:=(Er w1).alloc (.cells #[.string ⟨d2.rest.toArray⟩,.int .i64 d2.err] 157)
    go_upto_region 7 with fail
    have hQ:=hQ1.ext hEy;have hY:=hY1.ext hEy;have hO:=own_kx hO1 hEy;have hE:=hEx.trans hEy;generalize w1.alloc _=W3 at hQ hY hO hE hZ⊢;generalize w1.heap.size=z at hZ⊢;clear hQ1 hY1 hO1 hEx hEy;have z0:=hZ.cell 0;have z1:=hZ.cell 1;have y0:=hY.cell 0;have y1:=hY.cell 1;have g0:=hY.frozen 0;have g1:=hY.frozen 1;simp at y0 y1 z0 z1
    go_upto_region 8 with fail
    have hY2:=qZf hY (.string ⟨d2.rest.toArray⟩) (.int .i64 d2.err);have hch:Chg (· = y) W3 ((W3.setCell ⟨y,0,none⟩ (.string ⟨d2.rest.toArray⟩)).setCell ⟨y,1,none⟩ (.int .i64 d2.err)):=Chg.setCell (S:=(· = y)) (p:=⟨y,1,none⟩) (Chg.setCell (S:=(· = y)) (p:=⟨y,0,none⟩) (Er W3).chg (.inl rfl) _) (.inl rfl) _;have hQ2:=hQ.chg hch hne2;have hO2:=qQa hO hch (fun b hb e=>qQb hO hY (by decide) b hb e);have hE2:=qZg hE hyw (.string ⟨d2.rest.toArray⟩) (.int .i64 d2.err);generalize World.setCell (W3.setCell _ _) _ _=W4 at hY2 hQ2 hO2 hE2⊢;clear hQ hY hO hE hZ hch y0 y1 z0 z1 g0 g1;have hsz:w.heap.size≤W4.heap.size:=hE2.size
    go_wp2_with (at_builtin;refine qZ6 _ hO2 27 underlying27 int_infoR rfl rfl (by decide) (by decide) rfl (by omega) hsz rfl _ _ rfl rfl rfl ?_)
    intro v9 w9 hO9 hC9 _;have hY9:=hY2.chg hC9 (fun e=>qQb hO2 hY2 (by decide) y e rfl);have hQ9:=hQ2.chg hC9 (fun e=>qQb hO2 hQ2 (by decide) (x+1) e rfl);have hE9:Ext w w9:=hE2.chg_trans hC9 |>.mono (fun b hb e=>by have:=(hO2.lt b e.symm).1;omega)
    clear hY2 hQ2 hO2 hC9 hE2;go_wp2_with fail
    go_roundw
    case rel=>exact⟨j+1,L++[(v:Int)],d2,by go_num,by omega,by simp[hLj],Hh (by rw[show N - (j+1)=n by have:=HN.out;omega];exact HB2.out),by omega,by simpa using hO9,hY9,hQ9,hE9⟩
    case measure=>simp[intOf];omega
open Go.RowKit Go.Sort
theorem qZ1:(prog.info? 117).map (·.size)=some 11:=by kernel_rfl
theorem dec_suv(n:Nat):decide (4294967295<(n:Int))=decide (4294967295<n):=decide_eq_decide.2 (by omega)
theorem qXa(a:Act)(v:Value):a.put none v=a:=rfl
def zcmd:Array Value:=#[.int .i64 0,.int .i64 0,.int .i64 0,.string ⟨#[]⟩,.int .u64 0,.int .i64 0,.int .u32 0,.slice none 0 0,.int .i64 0,.int .i64 0,.int .i64 0]
structure Rdst (w0 w:World) (x y:Nat) (d:Dc) (cs:Array Value):Prop where
 r:At w x 117 zcmd
 c:At w (x+1) 117 cs
 cu:At w y 157 #[.string ⟨d.rest.toArray⟩,.int .i64 d.err]
 ext:Ext w0 w
 new:w0.heap.size≤x∧x+1<y
section
variable{w0 w w':World}{x y:Nat}{d dn:Dc}{cs:Array Value}
theorem Rdst.on(h:Rdst w0 w x y d cs)(hE:Ext w w'):Rdst w0 w' x y d cs:=⟨h.r.ext hE,h.c.ext hE,h.cu.ext hE,h.ext.trans hE,h.new⟩
theorem Rdst.set(h:Rdst w0 w x y d cs)(dn:Dc):Rdst w0 ((w.setCell ⟨y,0,none⟩ (.string ⟨dn.rest.toArray⟩)).setCell ⟨y,1,none⟩ (.int .i64 dn.err)) x y dn cs:=by
 have hn:=h.new;refine⟨(h.r.far (p:=⟨y,0,none⟩) (show x≠y by omega) _).far (p:=⟨y,1,none⟩) (show x≠y by omega) _,(h.c.far (p:=⟨y,0,none⟩) (show x+1≠y by omega) _).far (p:=⟨y,1,none⟩) (show x+1≠y by omega) _,qZf h.cu _ _,qZg h.ext (by omega) _ _,hn⟩
theorem Rdst.setC(h:Rdst w0 w x y d cs)(cs':Array Value)(h1:cs.size=11)(h2:cs'.size=11):Rdst w0 (w.setCells (x+1) 0 cs'.toList) x y d cs':=by
 have hn:=h.new;have hch:Chg (· = x+1) w (w.setCells (x+1) 0 cs'.toList):=qQg _ _;exact⟨h.r.chg hch (by omega),At.cells_all h.c (by rw[h1,h2]),h.cu.chg hch (by omega),h.ext.setCells (by omega) _ _,hn⟩
end
theorem cmd_load{w:World}{q:Nat}{cs:Array Value}(h:At w q 117 cs)(hs:cs.size=11):(loadVar 117 ⟨q,0,none⟩).run prog w=.ok (.agg cs) w:=by
 have:=run_loadVar_mid (P:=prog) w q 0 117 cs.toList _ h.range underlying117 rfl (by rw[Array.length_toList,hs];exact qZ1)
 simpa using this
theorem craw_all{s:List UInt8}{k cl sq:Nat×Dc}{nm:List UInt8×Dc}{bl sz su:Nat×Dc}{dk:List Int×Dc}{po vo at_:Nat×Dc}(h1:(⟨s,0⟩:Dc).i 14=k)(h2:k.2.i 1073741824=cl)(h3:cl.2.i 1073741824=sq)(h4:sq.2.s 32=nm)(h5:nm.2.u=bl)(h6:bl.2.i 4000=sz)(h7:sz.2.u=su)(h8:su.2.list 6 5=dk)(h9:dk.2.i 1=po)(h10:po.2.i 11=vo)(h11:vo.2.i 1073741824=at_) :
 craw ⟨s,0⟩=(⟨k.1,cl.1,sq.1,⟨nm.1.toArray⟩,bl.1,sz.1,su.1 % 4294967296,dk.1,po.1,vo.1,at_.1⟩,su.1,at_.2):=by
 subst h1 h2 h3 h4 h5 h6 h7 h8 h9 h10 h11;rfl
theorem cur_own{w:World}{q:Nat}{a b:Value}{base:Nat}{e:TypeId}{size:Nat}{v:Value}{n:Nat}{xs:List Value}(ho:w.ownsRow base e size v n xs)(h:At w q 157 #[a,b])(c d:Value)(hne:e≠157:=by decide):((w.setCell ⟨q,0,none⟩ c).setCell ⟨q,1,none⟩ d).ownsRow base e size v n xs:=by
 have hch:Chg (· = q) w ((w.setCell ⟨q,0,none⟩ c).setCell ⟨q,1,none⟩ d):=Chg.setCell (S:=(· = q)) (p:=⟨q,1,none⟩) (Chg.setCell (S:=(· = q)) (p:=⟨q,0,none⟩) (Er w).chg (.inl rfl) _) (.inl rfl) _;exact qQa ho hch (fun b hb e=>qQb ho h hne b hb e)
def R12Out(w:World)(s:List UInt8)(e:Ending)(w':World):Prop :=
 ∃A c,e=.returned (.tuple #[qQd (qQ2 s).1 (.slice A (qQ2 s).1.disks.length c),.int .i64 (qQ2 s).2])∧w'.ownsRow 0 3 1 (.slice A (qQ2 s).1.disks.length c) (qQ2 s).1.disks.length ((qQ2 s).1.disks.map (Value.int .i64))∧Ext w w'
theorem dlist_len(d:Dc)(m k:Int):(d.list m k).2.rest.length≤d.rest.length:=by
 have key:∀(n:Nat) (d:Dc),(qQt k n d).2.rest.length≤d.rest.length:=by
  intro n
  induction n with
  | zero=>intro d;exact Nat.le_refl _
  | succ n ih =>
   intro d;rw[listLoop_snd];split
   ·exact Nat.le_trans (ih _) (qJm d k)
   ·exact qJm d k
 unfold Dc.list;exact Nat.le_trans (key _ _) (qJm d m)
theorem rread_any(w:World)(s:ByteArray)(hs:s.size≤1000000):Calls prog 53 #[.string s] w (R12Out w s.data.toList):=by
 have hl0:s.data.toList.length≤1000000:=by simpa using hs
 have hs2:(⟨s.data.toList.toArray⟩:ByteArray)=s:=by simp
 go_enter func53,ntmps53
 have hR:=(At.new w 117 zcmd).alloc (.cells zcmd 117);have hC:=At.new (w.alloc (.cells zcmd 117)) 117 zcmd;rw[show(w.alloc (.cells zcmd 117)).heap.size=w.heap.size+1 by simp]at hC;have hE0:=((Er w).alloc (.cells zcmd 117)).alloc (.cells zcmd 117);have HZC:=Hh (show zcmd=#[.int .i64 0,.int .i64 0,.int .i64 0,.string ⟨#[]⟩,.int .u64 0,.int .i64 0,.int .u32 0,.slice none 0 0,.int .i64 0,.int .i64 0,.int .i64 0]from rfl);unfold zcmd at hR hC hE0
 go_upto_region 2 with fail
 obtain⟨x,hx⟩:∃x,w.heap.size=x:=⟨_,rfl⟩;rw[hx]at hR hC⊢;have hxw:w.heap.size≤x:=by omega
 clear hx;have hcw:=hC.lt;generalize (w.alloc _).alloc _=W at hR hC hE0 hcw⊢
 have HC:=Hh (show Calls prog 80 #[.agg #[.string s,.int .i64 0],.int .i64 14] W fun e w'=>e=.returned (.tuple #[.agg #[.string ⟨((⟨s.data.toList,0⟩:Dc).i 14).2.rest.toArray⟩,.int .i64 ((⟨s.data.toList,0⟩:Dc).i 14).2.err],.int .i64 (((⟨s.data.toList,0⟩:Dc).i 14).1:Int)])∧Ext W w' from by
  have:=qXh W ⟨s.data.toList,0⟩ (by show s.data.toList.length≤_;omega) 14 (by decide) (by decide)
  unfold cur curA at this;simp only at this;rw[hs2]at this;exact this)
 have hln:=qJm ⟨s.data.toList,0⟩ 14;obtain⟨k,hk⟩:∃k,(⟨s.data.toList,0⟩:Dc).i 14=k:=⟨_,rfl⟩;rw[hk]at HC hln;have H1:=Hh hk;simp only at hln;clear hs2 hk;obtain⟨kv,d1⟩:=k;simp only at HC hln;go_wp2_with fail
 refine HC.out.mono ?_;rintro e w1 ⟨rfl,hE1⟩;have hs1:=hE1.size;have hY:=At.new w1 157 #[.string ⟨d1.rest.toArray⟩,.int .i64 d1.err];have hEy:=(Er w1).alloc (.cells #[.string ⟨d1.rest.toArray⟩,.int .i64 d1.err] 157);have h0:Rdst w (w1.alloc (.cells #[.string ⟨d1.rest.toArray⟩,.int .i64 d1.err] 157)) x w1.heap.size d1 #[.int .i64 0,.int .i64 0,.int .i64 0,.string ⟨#[]⟩,.int .u64 0,.int .i64 0,.int .u32 0,.slice none 0 0,.int .i64 0,.int .i64 0,.int .i64 0]:=⟨(hR.ext hE1).ext hEy,(hC.ext hE1).ext hEy,hY,(hE0.trans hE1).trans hEy,⟨hxw,by omega⟩⟩;clear hR hC hE0 hE1 hY hEy HC
 go_upto_region 3 with fail
 obtain⟨y,hy⟩:∃y,w1.heap.size=y:=⟨_,rfl⟩;rw[hy]at h0⊢;clear hy;generalize w1.alloc _=W1 at h0⊢;have hl1:d1.rest.length≤1000000:=by omega
 clear hln hl0;have HC:=Hh (show Calls prog 80 #[.agg #[.string ⟨d1.rest.toArray⟩,.int .i64 d1.err],.int .i64 1073741824] W1 fun e w'=>e=.returned (.tuple #[.agg #[.string ⟨(d1.i 1073741824).2.rest.toArray⟩,.int .i64 (d1.i 1073741824).2.err],.int .i64 ((d1.i 1073741824).1:Int)])∧Ext W1 w' from qXh W1 d1 (by omega) 1073741824 (by decide) (by decide));have hln:=qJm d1 1073741824;obtain⟨q,hq⟩:∃q,d1.i 1073741824=q:=⟨_,rfl⟩;rw[hq]at HC hln;have H2:=Hh hq;obtain⟨clv,d2⟩:=q;simp only at HC hln;clear hq;have y0:=h0.cu.cell 0;have y1:=h0.cu.cell 1;simp at y0 y1;go_wp2_with fail
 refine HC.out.mono ?_;rintro e w1 ⟨rfl,hE1⟩;have h1:=h0.on hE1;clear HC h0 hE1 y0 y1;have y0:=h1.cu.cell 0;have y1:=h1.cu.cell 1;have g0:=h1.cu.frozen 0;have g1:=h1.cu.frozen 1;simp at y0 y1
 go_upto_region 4 with fail
 have h0:=h1.set d2;generalize World.setCell (w1.setCell _ _) _ _=W2 at h0⊢;clear h1 y0 y1 g0 g1;have hl2:d2.rest.length≤1000000:=by omega
 clear hln hl1;have HC:=Hh (show Calls prog 80 #[.agg #[.string ⟨d2.rest.toArray⟩,.int .i64 d2.err],.int .i64 1073741824] W2 fun e w'=>e=.returned (.tuple #[.agg #[.string ⟨(d2.i 1073741824).2.rest.toArray⟩,.int .i64 (d2.i 1073741824).2.err],.int .i64 ((d2.i 1073741824).1:Int)])∧Ext W2 w' from qXh W2 d2 (by omega) 1073741824 (by decide) (by decide));have hln:=qJm d2 1073741824;obtain⟨q,hq⟩:∃q,d2.i 1073741824=q:=⟨_,rfl⟩;rw[hq]at HC hln;have H3:=Hh hq;obtain⟨sqv,d3⟩:=q;simp only at HC hln;clear hq;have y0:=h0.cu.cell 0;have y1:=h0.cu.cell 1;simp at y0 y1;go_wp2_with fail
 refine HC.out.mono ?_;rintro e w1 ⟨rfl,hE1⟩;have h1:=h0.on hE1;clear HC h0 hE1 y0 y1;have y0:=h1.cu.cell 0;have y1:=h1.cu.cell 1;have g0:=h1.cu.frozen 0;have g1:=h1.cu.frozen 1;simp at y0 y1
 go_upto_region 5 with fail
 have h0:=h1.set d3;generalize World.setCell (w1.setCell _ _) _ _=W3 at h0⊢;clear h1 y0 y1 g0 g1;have hl3:d3.rest.length≤1000000:=by omega
 clear hln hl2;have HC:=Hh (show Calls prog 81 #[.agg #[.string ⟨d3.rest.toArray⟩,.int .i64 d3.err],.int .i64 32] W3 fun e w'=>e=.returned (.tuple #[.agg #[.string ⟨(d3.s 32).2.rest.toArray⟩,.int .i64 (d3.s 32).2.err],.string ⟨(d3.s 32).1.toArray⟩])∧Ext W3 w' from rts_any W3 d3 (by omega) 32 (by decide) (by decide));have hln:=s_lenR d3 32;have hnl:=Dc.s_len d3 32 (by decide);obtain⟨q,hq⟩:∃q,d3.s 32=q:=⟨_,rfl⟩;rw[hq]at HC hln hnl;have H4:=Hh hq;obtain⟨nmv,d4⟩:=q;simp only at HC hln hnl;clear hq;have y0:=h0.cu.cell 0;have y1:=h0.cu.cell 1;simp at y0 y1;go_wp2_with fail
 refine HC.out.mono ?_;rintro e w1 ⟨rfl,hE1⟩;have h1:=h0.on hE1;clear HC h0 hE1 y0 y1;have y0:=h1.cu.cell 0;have y1:=h1.cu.cell 1;have g0:=h1.cu.frozen 0;have g1:=h1.cu.frozen 1;simp at y0 y1
 go_upto_region 6 with fail
 have h0:=h1.set d4;generalize World.setCell (w1.setCell _ _) _ _=W4 at h0⊢;clear h1 y0 y1 g0 g1;have hl4:d4.rest.length≤1000000:=by omega
 clear hln hl3;have HC:=Hh (show Calls prog 82 #[.agg #[.string ⟨d4.rest.toArray⟩,.int .i64 d4.err]] W4 fun e w'=>e=.returned (.tuple #[.agg #[.string ⟨(d4.u).2.rest.toArray⟩,.int .i64 (d4.u).2.err],.int .u64 ((d4.u).1:Int)])∧Ext W4 w' from rtu_any W4 d4 (by omega));have hln:=u_len d4;obtain⟨q,hq⟩:∃q,d4.u=q:=⟨_,rfl⟩;rw[hq]at HC hln;have H5:=Hh hq;obtain⟨blv,d5⟩:=q;simp only at HC hln;clear hq;have y0:=h0.cu.cell 0;have y1:=h0.cu.cell 1;simp at y0 y1;go_wp2_with fail
 refine HC.out.mono ?_;rintro e w1 ⟨rfl,hE1⟩;have h1:=h0.on hE1;clear HC h0 hE1 y0 y1;have y0:=h1.cu.cell 0;have y1:=h1.cu.cell 1;have g0:=h1.cu.frozen 0;have g1:=h1.cu.frozen 1;simp at y0 y1
 go_upto_region 7 with fail
 have h0:=h1.set d5;generalize World.setCell (w1.setCell _ _) _ _=W5 at h0⊢;clear h1 y0 y1 g0 g1;have hl5:d5.rest.length≤1000000:=by omega
 clear hln hl4;have HC:=Hh (show Calls prog 80 #[.agg #[.string ⟨d5.rest.toArray⟩,.int .i64 d5.err],.int .i64 4000] W5 fun e w'=>e=.returned (.tuple #[.agg #[.string ⟨(d5.i 4000).2.rest.toArray⟩,.int .i64 (d5.i 4000).2.err],.int .i64 ((d5.i 4000).1:Int)])∧Ext W5 w' from qXh W5 d5 (by omega) 4000 (by decide) (by decide));have hln:=qJm d5 4000;obtain⟨q,hq⟩:∃q,d5.i 4000=q:=⟨_,rfl⟩;rw[hq]at HC hln;have H6:=Hh hq;obtain⟨szv,d6⟩:=q;simp only at HC hln;clear hq;have y0:=h0.cu.cell 0;have y1:=h0.cu.cell 1;simp at y0 y1;go_wp2_with fail
 refine HC.out.mono ?_;rintro e w1 ⟨rfl,hE1⟩;have h1:=h0.on hE1;clear HC h0 hE1 y0 y1;have y0:=h1.cu.cell 0;have y1:=h1.cu.cell 1;have g0:=h1.cu.frozen 0;have g1:=h1.cu.frozen 1;simp at y0 y1
 go_upto_region 8 with fail
 have h0:=h1.set d6;generalize World.setCell (w1.setCell _ _) _ _=W6 at h0⊢;clear h1 y0 y1 g0 g1;have hl6:d6.rest.length≤1000000:=by omega
 clear hln hl5;have HC:=Hh (show Calls prog 82 #[.agg #[.string ⟨d6.rest.toArray⟩,.int .i64 d6.err]] W6 fun e w'=>e=.returned (.tuple #[.agg #[.string ⟨(d6.u).2.rest.toArray⟩,.int .i64 (d6.u).2.err],.int .u64 ((d6.u).1:Int)])∧Ext W6 w' from rtu_any W6 d6 (by omega));have hln:=u_len d6;have hsu:=u_lt64 d6;obtain⟨q,hq⟩:∃q,d6.u=q:=⟨_,rfl⟩;rw[hq]at HC hln hsu;have H7:=Hh hq;obtain⟨suv,d7⟩:=q;simp only at HC hln hsu;clear hq;have y0:=h0.cu.cell 0;have y1:=h0.cu.cell 1;simp at y0 y1;go_wp2_with fail
 refine HC.out.mono ?_;rintro e w1 ⟨rfl,hE1⟩;have h1:=h0.on hE1;clear HC h0 hE1 y0 y1;have y0:=h1.cu.cell 0;have y1:=h1.cu.cell 1;have g0:=h1.cu.frozen 0;have g1:=h1.cu.frozen 1;simp at y0 y1
 go_upto_region 9 with fail
 have h0:=h1.set d7;generalize World.setCell (w1.setCell _ _) _ _=W7 at h0⊢;clear h1 y0 y1 g0 g1;have hl7:d7.rest.length≤1000000:=by omega
 clear hln hl6;have HC:=Hh (show Calls prog 83 #[.agg #[.string ⟨d7.rest.toArray⟩,.int .i64 d7.err],.int .i64 6,.int .i64 5] W7 fun e w'=>∃v,e=.returned (.tuple #[.agg #[.string ⟨(d7.list 6 5).2.rest.toArray⟩,.int .i64 (d7.list 6 5).2.err],v])∧w'.ownsRow 0 3 1 v (d7.list 6 5).1.length ((d7.list 6 5).1.map (Value.int .i64))∧Ext W7 w' from rtl_any W7 d7 (by omega) 6 (by decide) (by decide) 5 (by decide) (by decide));have hln:=dlist_len d7 6 5;have hdl:=Dc.list_len d7 6 5 (by decide);obtain⟨q,hq⟩:∃q,d7.list 6 5=q:=⟨_,rfl⟩;rw[hq]at HC hln hdl;have H8:=Hh hq;obtain⟨dkv,d8⟩:=q;simp only at HC hln hdl;clear hq;have y0:=h0.cu.cell 0;have y1:=h0.cu.cell 1;simp at y0 y1;go_wp2_with fail
 refine HC.out.mono ?_;rintro e w1 ⟨dv,rfl,hOd,hE1⟩;obtain⟨A,dc,rfl⟩:=qQc hOd;have h1:=h0.on hE1;clear HC h0 hE1 y0 y1;have y0:=h1.cu.cell 0;have y1:=h1.cu.cell 1;have g0:=h1.cu.frozen 0;have g1:=h1.cu.frozen 1;simp at y0 y1
 go_upto_region 10 with fail
 have h0:=h1.set d8;replace hOd:=cur_own hOd h1.cu (.string ⟨d8.rest.toArray⟩) (.int .i64 d8.err);generalize World.setCell (w1.setCell _ _) _ _=W8 at h0 hOd⊢;clear h1 y0 y1 g0 g1;have hl8:d8.rest.length≤1000000:=by omega
 clear hln hl7;have HC:=Hh (show Calls prog 80 #[.agg #[.string ⟨d8.rest.toArray⟩,.int .i64 d8.err],.int .i64 1] W8 fun e w'=>e=.returned (.tuple #[.agg #[.string ⟨(d8.i 1).2.rest.toArray⟩,.int .i64 (d8.i 1).2.err],.int .i64 ((d8.i 1).1:Int)])∧Ext W8 w' from qXh W8 d8 (by omega) 1 (by decide) (by decide));have hln:=qJm d8 1;obtain⟨q,hq⟩:∃q,d8.i 1=q:=⟨_,rfl⟩;rw[hq]at HC hln;have H9:=Hh hq;obtain⟨pov,d9⟩:=q;simp only at HC hln;clear hq;have y0:=h0.cu.cell 0;have y1:=h0.cu.cell 1;simp at y0 y1;go_wp2_with fail
 refine HC.out.mono ?_;rintro e w1 ⟨rfl,hE1⟩;have h1:=h0.on hE1;replace hOd:=own_kx hOd hE1;clear HC h0 hE1 y0 y1;have y0:=h1.cu.cell 0;have y1:=h1.cu.cell 1;have g0:=h1.cu.frozen 0;have g1:=h1.cu.frozen 1;simp at y0 y1
 go_upto_region 11 with fail
 have h0:=h1.set d9;replace hOd:=cur_own hOd h1.cu (.string ⟨d9.rest.toArray⟩) (.int .i64 d9.err);generalize World.setCell (w1.setCell _ _) _ _=W9 at h0 hOd⊢;clear h1 y0 y1 g0 g1;have hl9:d9.rest.length≤1000000:=by omega
 clear hln hl8;have HC:=Hh (show Calls prog 80 #[.agg #[.string ⟨d9.rest.toArray⟩,.int .i64 d9.err],.int .i64 11] W9 fun e w'=>e=.returned (.tuple #[.agg #[.string ⟨(d9.i 11).2.rest.toArray⟩,.int .i64 (d9.i 11).2.err],.int .i64 ((d9.i 11).1:Int)])∧Ext W9 w' from qXh W9 d9 (by omega) 11 (by decide) (by decide));have hln:=qJm d9 11;obtain⟨q,hq⟩:∃q,d9.i 11=q:=⟨_,rfl⟩;rw[hq]at HC hln;have H10:=Hh hq;obtain⟨vov,d10⟩:=q;simp only at HC hln;clear hq;have y0:=h0.cu.cell 0;have y1:=h0.cu.cell 1;simp at y0 y1;go_wp2_with fail
 refine HC.out.mono ?_;rintro e w1 ⟨rfl,hE1⟩;have h1:=h0.on hE1;replace hOd:=own_kx hOd hE1;clear HC h0 hE1 y0 y1;have y0:=h1.cu.cell 0;have y1:=h1.cu.cell 1;have g0:=h1.cu.frozen 0;have g1:=h1.cu.frozen 1;simp at y0 y1
 go_upto_region 12 with fail
 have h0:=h1.set d10;replace hOd:=cur_own hOd h1.cu (.string ⟨d10.rest.toArray⟩) (.int .i64 d10.err);generalize World.setCell (w1.setCell _ _) _ _=W10 at h0 hOd⊢;clear h1 y0 y1 g0 g1;have hl10:d10.rest.length≤1000000:=by omega
 clear hln hl9;have HC:=Hh (show Calls prog 80 #[.agg #[.string ⟨d10.rest.toArray⟩,.int .i64 d10.err],.int .i64 1073741824] W10 fun e w'=>e=.returned (.tuple #[.agg #[.string ⟨(d10.i 1073741824).2.rest.toArray⟩,.int .i64 (d10.i 1073741824).2.err],.int .i64 ((d10.i 1073741824).1:Int)])∧Ext W10 w' from qXh W10 d10 (by omega) 1073741824 (by decide) (by decide));have hln:=qJm d10 1073741824;obtain⟨q,hq⟩:∃q,d10.i 1073741824=q:=⟨_,rfl⟩;rw[hq]at HC hln;have H11:=Hh hq;obtain⟨at_v,d11⟩:=q;simp only at HC hln;clear hq;have y0:=h0.cu.cell 0;have y1:=h0.cu.cell 1;simp at y0 y1;go_wp2_with fail
 refine HC.out.mono ?_;rintro e w1 ⟨rfl,hE1⟩;have h1:=h0.on hE1;replace hOd:=own_kx hOd hE1;clear HC h0 hE1 y0 y1;have y0:=h1.cu.cell 0;have y1:=h1.cu.cell 1;have g0:=h1.cu.frozen 0;have g1:=h1.cu.frozen 1;simp at y0 y1
 go_upto_region 13 with fail
 have h0:=h1.set d11;replace hOd:=cur_own hOd h1.cu (.string ⟨d11.rest.toArray⟩) (.int .i64 d11.err);generalize World.setCell (w1.setCell _ _) _ _=W11 at h0 hOd⊢;clear h1 y0 y1 g0 g1;have hl11:d11.rest.length≤1000000:=by omega
 clear hln hl10;have hl12:=hl11;obtain⟨CX,hCX⟩:∃CX:Cmd,CX=⟨(kv:Int),(clv:Int),(sqv:Int),⟨nmv.toArray⟩,blv,(szv:Int),suv % 4294967296,dkv,(pov:Int),(vov:Int),(at_v:Int)⟩:=⟨_,rfl⟩;have HCX:Hid (qQd CX (.slice A dkv.length dc)=.agg #[.int .i64 (kv:Int),.int .i64 (clv:Int),.int .i64 (sqv:Int),.string ⟨nmv.toArray⟩,.int .u64 (blv:Int),.int .i64 (szv:Int),.int .u32 ((suv % 4294967296:Nat):Int),.slice A dkv.length dc,.int .i64 (pov:Int),.int .i64 (vov:Int),.int .i64 (at_v:Int)]):=Hh (by rw[hCX];rfl);have HRAW:Hid (craw ⟨s.data.toList,0⟩=(CX,suv,d11)):=Hh (by rw[craw_all H1.out H2.out H3.out H4.out H5.out H6.out H7.out H8.out H9.out H10.out H11.out,hCX]);have HDK:Hid (CX.disks=dkv∧CX.name.size≤32):=Hh ⟨by rw[hCX],by rw[hCX];show nmv.toArray.size≤32;rw[List.size_toArray];omega⟩;clear hCX H1 H2 H3 H4 H5 H6 H7 H8 H9 H10 H11;have HTC:Hid (W11.there (x+1) 0 11):=Hh h0.c.there
 go_upto_region 14 with(refine wpList_store_mid rfl 117 _ _ rfl (x+1) 0 #[.int .i64 (kv:Int),.int .i64 (clv:Int),.int .i64 (sqv:Int),.string ⟨nmv.toArray⟩,.int .u64 (blv:Int),.int .i64 (szv:Int),.int .u32 ((suv % 4294967296:Nat):Int),.slice A dkv.length dc,.int .i64 (pov:Int),.int .i64 (vov:Int),.int .i64 (at_v:Int)] rfl rfl HTC.out qZ1 (by simp[Value.oneCell']) ?_)
 have hO1:=qQa hOd (qQg (w:=W11) (b:=x+1) (#[.int .i64 (kv:Int),.int .i64 (clv:Int),.int .i64 (sqv:Int),.string ⟨nmv.toArray⟩,.int .u64 (blv:Int),.int .i64 (szv:Int),.int .u32 ((suv % 4294967296:Nat):Int),.slice A dkv.length dc,.int .i64 (pov:Int),.int .i64 (vov:Int),.int .i64 (at_v:Int)]:Array Value).toList 0) (fun b hb e=>qQb hOd h0.c (by decide) b hb e);have h1:=h0.setC #[.int .i64 (kv:Int),.int .i64 (clv:Int),.int .i64 (sqv:Int),.string ⟨nmv.toArray⟩,.int .u64 (blv:Int),.int .i64 (szv:Int),.int .u32 ((suv % 4294967296:Nat):Int),.slice A dkv.length dc,.int .i64 (pov:Int),.int .i64 (vov:Int),.int .i64 (at_v:Int)] rfl rfl;generalize World.setCells _ _ _ _=W12 at h1 hO1⊢;rw[qXa];clear h0 hOd HTC;obtain⟨e0,he0⟩:∃b:Bool,(d11.err == 0)=b:=⟨_,rfl⟩;obtain⟨e1,he1⟩:∃b:Bool,decide (4294967295<(suv:Int))=b:=⟨_,rfl⟩;obtain⟨g,hg⟩:∃b:Bool,CX.good=b:=⟨_,rfl⟩;obtain⟨fk,hfk⟩:∃fk:Bool,fk=(e0&&(e1 || !g)):=⟨_,rfl⟩;have HFK:=Hh (And.intro he0 (And.intro he1 (And.intro hg hfk)))
 have HG:=Hh (show Calls prog 84 #[.agg #[.int .i64 (kv:Int),.int .i64 (clv:Int),.int .i64 (sqv:Int),.string ⟨nmv.toArray⟩,.int .u64 (blv:Int),.int .i64 (szv:Int),.int .u32 ((suv % 4294967296:Nat):Int),.slice A dkv.length dc,.int .i64 (pov:Int),.int .i64 (vov:Int),.int .i64 (at_v:Int)]] W12 fun e w'=>e=.returned (.bool g)∧Ext W12 w' from by
  rw[←HCX.out,←hg];refine qZ0 W12 CX _ ?_ ?_ ?_
  ·rw[HDK.out.1];exact Sl.of_own hO1
  ·rw[HDK.out.1];omega
  ·have:=HDK.out.2;omega)
 have HJ:=Hh (And.intro h1 hO1);have HRC:=Hh h1.c.range;have y1:=h1.cu.cell 1;simp at y1;clear h1 hO1 hg
 go_cut [98]from 87 to 98 (fun tv wx=>tv=.bool fk∧Ext W12 wx)
 case first =>
  clear HJ HFK HCX HRAW HDK;cases e0
  ·obtain rfl:fk=false:=by rw[hfk];rfl
   clear hfk;go_wp2_with fail
   go_meet
   case rel=>exact⟨rfl,Er _⟩
  ·cases e1
   ·obtain rfl:fk = !g:=by rw[hfk];simp
    clear hfk
    go_wp2_with (refine qXf rfl 117 _ rfl (x+1) 0 rfl _ _ HRC.out underlying117 rfl qZ1 ?_)
    refine HG.out.mono ?_;rintro e w1 ⟨rfl,hE1⟩;cases g
    ·go_wp2_with fail
     go_meet
     case rel=>exact⟨rfl,hE1⟩
    ·go_wp2_with fail
     go_meet
     case rel=>exact⟨rfl,hE1⟩
   ·obtain rfl:fk=true:=by rw[hfk];simp
    clear hfk;go_wp2_with fail
    go_meet
    case rel=>exact⟨rfl,Er _⟩
 case rest =>
 obtain⟨rfl,hE12⟩:=hcut;obtain⟨h1,hO1⟩:=HJ.out;have h0:=h1.on hE12;have hO:=own_kx hO1 hE12;clear HJ HG HRC h1 hO1 hE12 y1 he0 he1 hfk;obtain⟨dz,hdz⟩:∃dz:Dc,(if(decide (4294967295<suv) || !CX.good)=true then d11.fail 3 else d11)=dz:=⟨_,rfl⟩;have HDZ:=Hh hdz;have y1:=h0.cu.cell 1;have g1:=h0.cu.frozen 1;simp at y1
 go_upto_if 98 with fail
 go_cut []from 98 to 99 (fun wx=>Rdst w wx x y dz #[.int .i64 (kv:Int),.int .i64 (clv:Int),.int .i64 (sqv:Int),.string ⟨nmv.toArray⟩,.int .u64 (blv:Int),.int .i64 (szv:Int),.int .u32 ((suv % 4294967296:Nat):Int),.slice A dkv.length dc,.int .i64 (pov:Int),.int .i64 (vov:Int),.int .i64 (at_v:Int)]∧wx.ownsRow 0 3 1 (.slice A dkv.length dc) dkv.length (dkv.map (Value.int .i64)))
 case first =>
  cases fk
  ·have e:d11=dz:=by
    obtain⟨a0,a1,a2,a3⟩:=HFK.out;rw[←hdz];split
    ·rename_i hc
     have hne:d11.err≠0:=fun e=>by
      rw[←a0,←a1,←a2,e]at a3;have hc2:(decide (4294967295<(suv:Int)) || !CX.good)=true:=by rw[dec_suv];exact hc
      rw[hc2]at a3;exact absurd a3 (by decide)
     rw[Dc.fail_stays hne]
    ·rfl
   clear hdz;subst e;go_wp2_with fail
   go_meet
   case rel=>exact⟨h0,hO⟩
  ·have e:d11.fail 3=dz∧d11.err=0:=by
    obtain⟨a0,a1,a2,a3⟩:=HFK.out;rw[←a0,←a1,←a2]at a3;have a4:=a3.symm;rw[Bool.and_eq_true]at a4;refine⟨?_,by simpa using a4.1⟩
    rw[←hdz,if_pos];have a5:=a4.2;rw[dec_suv]at a5;exact a5
   have ez:dz=⟨d11.rest,3⟩:=by
    rw[←e.1];unfold Dc.fail;rw[if_pos e.2]
   clear hdz e;subst ez
   have h2:Rdst w (wc.setCell ⟨y,1,none⟩ (.int .i64 3)) x y ⟨d11.rest,3⟩ #[.int .i64 (kv:Int),.int .i64 (clv:Int),.int .i64 (sqv:Int),.string ⟨nmv.toArray⟩,.int .u64 (blv:Int),.int .i64 (szv:Int),.int .u32 ((suv % 4294967296:Nat):Int),.slice A dkv.length dc,.int .i64 (pov:Int),.int .i64 (vov:Int),.int .i64 (at_v:Int)]:=by
    have hn:=h0.new;exact⟨h0.r.far (p:=⟨y,1,none⟩) (show x≠y by omega) _,h0.c.far (p:=⟨y,1,none⟩) (show x+1≠y by omega) _,h0.cu.set 1 _,h0.ext.setCell (p:=⟨y,1,none⟩) (show w.heap.size≤y by omega) _,hn⟩
   have hO2:=qQa hO (Chg.setCell (S:=(· = y)) (p:=⟨y,1,none⟩) (Er wc).chg (.inl rfl) (.int .i64 3)) (fun b hb e=>qQb hO h0.cu (by decide) b hb e);go_wp2_with fail
   go_meet
   case rel=>exact⟨h2,hO2⟩
 case rest =>
 obtain⟨h0,hO⟩:=hcut;clear hdz;have y0:=h0.cu.cell 0;have y1:=h0.cu.cell 1;simp at y0 y1;have HC:=Hh (show Calls prog 85 #[.agg #[.string ⟨dz.rest.toArray⟩,.int .i64 dz.err]] wc fun e w'=>e=.returned (.agg #[.string ⟨dz.done.rest.toArray⟩,.int .i64 dz.done.err])∧Ext wc w' from rdone_any wc dz);obtain⟨d12,hd12⟩:∃d12,dz.done=d12:=⟨_,rfl⟩;rw[hd12]at HC
 have HEND:Hid (cend (craw ⟨s.data.toList,0⟩)=d12):=Hh (by
  rw[HRAW.out,←hd12,←HDZ.out];rfl)
 clear hd12;go_wp2_with fail
 refine HC.out.mono ?_;rintro e w1 ⟨rfl,hE1⟩;have h1:=h0.on hE1;have hO1:=own_kx hO hE1;clear HC h0 hO hE1 y0 y1;have y0:=h1.cu.cell 0;have y1:=h1.cu.cell 1;have g0:=h1.cu.frozen 0;have g1:=h1.cu.frozen 1;simp at y0 y1
 go_upto_region 17 with fail
 have h0:=h1.set d12;have hO:=cur_own hO1 h1.cu (.string ⟨d12.rest.toArray⟩) (.int .i64 d12.err);generalize World.setCell (w1.setCell _ _) _ _=W13 at h0 hO⊢;clear h1 hO1 y0 y1 g0 g1;have y1:=h0.cu.cell 1;simp at y1;have hxn:=h0.new
 by_cases he:d12.err=0
 ·have heb:(d12.err != 0)=false:=by simp[he]
  have hcr:qQ2 s.data.toList=(CX,0):=by
   unfold qQ2;rw[HEND.out,if_pos he,HRAW.out]
  have HCR:=Hh hcr;clear hcr he;have HRC:=Hh h0.c.range;have HTR:Hid (W13.there x 0 11):=Hh h0.r.there;have hZ:=At.cells_all h0.r (cs:=#[.int .i64 (kv:Int),.int .i64 (clv:Int),.int .i64 (sqv:Int),.string ⟨nmv.toArray⟩,.int .u64 (blv:Int),.int .i64 (szv:Int),.int .u32 ((suv % 4294967296:Nat):Int),.slice A dkv.length dc,.int .i64 (pov:Int),.int .i64 (vov:Int),.int .i64 (at_v:Int)]) rfl;have HLD:=Hh (cmd_load hZ rfl)
  have HF:Hid (R12Out w s.data.toList (.returned (.tuple #[.agg #[.int .i64 (kv:Int),.int .i64 (clv:Int),.int .i64 (sqv:Int),.string ⟨nmv.toArray⟩,.int .u64 (blv:Int),.int .i64 (szv:Int),.int .u32 ((suv % 4294967296:Nat):Int),.slice A dkv.length dc,.int .i64 (pov:Int),.int .i64 (vov:Int),.int .i64 (at_v:Int)],.int .i64 0])) (W13.setCells x 0 (#[.int .i64 (kv:Int),.int .i64 (clv:Int),.int .i64 (sqv:Int),.string ⟨nmv.toArray⟩,.int .u64 (blv:Int),.int .i64 (szv:Int),.int .u32 ((suv % 4294967296:Nat):Int),.slice A dkv.length dc,.int .i64 (pov:Int),.int .i64 (vov:Int),.int .i64 (at_v:Int)]:Array Value).toList)):=Hh (by
   unfold R12Out;rw[HCR.out];simp only;rw[HDK.out.1];exact⟨A,dc,by rw[HCX.out],qQa hO (qQg _ _) (fun b hb e=>qQb hO h0.r (by decide) b hb e),h0.ext.setCells (by omega) _ _⟩)
  clear hO hZ h0
  go_upto_region 19 with fail
  go_wp2_with (first|(refine wpList_load_mid rfl 117 _ rfl (x+1) 0 rfl _ _ HRC.out underlying117 rfl qZ1 ?_)|(refine wpList_store_mid rfl 117 _ _ rfl x 0 #[.int .i64 (kv:Int),.int .i64 (clv:Int),.int .i64 (sqv:Int),.string ⟨nmv.toArray⟩,.int .u64 (blv:Int),.int .i64 (szv:Int),.int .u32 ((suv % 4294967296:Nat):Int),.slice A dkv.length dc,.int .i64 (pov:Int),.int .i64 (vov:Int),.int .i64 (at_v:Int)] rfl rfl HTR.out qZ1 (by simp[Value.oneCell']) ?_))
  refine bodyPost_ret (v:=.tuple #[.agg #[.int .i64 (kv:Int),.int .i64 (clv:Int),.int .i64 (sqv:Int),.string ⟨nmv.toArray⟩,.int .u64 (blv:Int),.int .i64 (szv:Int),.int .u32 ((suv % 4294967296:Nat):Int),.slice A dkv.length dc,.int .i64 (pov:Int),.int .i64 (vov:Int),.int .i64 (at_v:Int)],.int .i64 0]) (qQA results53 _ rfl HLD.out) rfl ?_;exact HF.out
 ·have heb:(d12.err != 0)=true:=by simp[he]
  have hcr:qQ2 s.data.toList=(Cmd.zero,d12.err):=by
   unfold qQ2;rw[HEND.out,if_neg he]
  have HCR:=Hh hcr;clear hcr he;have hr:=h0.r;rw[HZC.out]at hr;have hz:At (((((((((((((W13).setCell ⟨x,0,none⟩ (.int .i64 0)).setCell ⟨x,1,none⟩ (.int .i64 0)).setCell ⟨x,2,none⟩ (.int .i64 0)).setCell ⟨x,3,none⟩ (.string ⟨#[]⟩)).setCell ⟨x,4,none⟩ (.int .u64 0)).setCell ⟨x,5,none⟩ (.int .i64 0)).setCell ⟨x,6,none⟩ (.int .u32 0)).setCell ⟨x,7,none⟩ (.slice none 0 0)).setCell ⟨x,8,none⟩ (.int .i64 0)).setCell ⟨x,9,none⟩ (.int .i64 0)).setCell ⟨x,10,none⟩ (.int .i64 0)).drew) x 117 #[.int .i64 0,.int .i64 0,.int .i64 0,.string ⟨#[]⟩,.int .u64 0,.int .i64 0,.int .u32 0,.slice none 0 0,.int .i64 0,.int .i64 0,.int .i64 0]:=((((((((((((hr).set 0 (.int .i64 0)).set 1 (.int .i64 0)).set 2 (.int .i64 0)).set 3 (.string ⟨#[]⟩)).set 4 (.int .u64 0)).set 5 (.int .i64 0)).set 6 (.int .u32 0)).set 7 (.slice none 0 0)).set 8 (.int .i64 0)).set 9 (.int .i64 0)).set 10 (.int .i64 0)).drew;have hzE:Ext w (((((((((((((W13).setCell ⟨x,0,none⟩ (.int .i64 0)).setCell ⟨x,1,none⟩ (.int .i64 0)).setCell ⟨x,2,none⟩ (.int .i64 0)).setCell ⟨x,3,none⟩ (.string ⟨#[]⟩)).setCell ⟨x,4,none⟩ (.int .u64 0)).setCell ⟨x,5,none⟩ (.int .i64 0)).setCell ⟨x,6,none⟩ (.int .u32 0)).setCell ⟨x,7,none⟩ (.slice none 0 0)).setCell ⟨x,8,none⟩ (.int .i64 0)).setCell ⟨x,9,none⟩ (.int .i64 0)).setCell ⟨x,10,none⟩ (.int .i64 0)).drew):=((((((((((((h0.ext).setCell (p:=⟨x,0,none⟩) (show w.heap.size≤x by omega) (.int .i64 0)).setCell (p:=⟨x,1,none⟩) (show w.heap.size≤x by omega) (.int .i64 0)).setCell (p:=⟨x,2,none⟩) (show w.heap.size≤x by omega) (.int .i64 0)).setCell (p:=⟨x,3,none⟩) (show w.heap.size≤x by omega) (.string ⟨#[]⟩)).setCell (p:=⟨x,4,none⟩) (show w.heap.size≤x by omega) (.int .u64 0)).setCell (p:=⟨x,5,none⟩) (show w.heap.size≤x by omega) (.int .i64 0)).setCell (p:=⟨x,6,none⟩) (show w.heap.size≤x by omega) (.int .u32 0)).setCell (p:=⟨x,7,none⟩) (show w.heap.size≤x by omega) (.slice none 0 0)).setCell (p:=⟨x,8,none⟩) (show w.heap.size≤x by omega) (.int .i64 0)).setCell (p:=⟨x,9,none⟩) (show w.heap.size≤x by omega) (.int .i64 0)).setCell (p:=⟨x,10,none⟩) (show w.heap.size≤x by omega) (.int .i64 0)).drew;have HLD:=Hh (cmd_load hz rfl)
  have HF:Hid (R12Out w s.data.toList (.returned (.tuple #[.agg #[.int .i64 0,.int .i64 0,.int .i64 0,.string ⟨#[]⟩,.int .u64 0,.int .i64 0,.int .u32 0,.slice none 0 0,.int .i64 0,.int .i64 0,.int .i64 0],.int .i64 d12.err])) (((((((((((((W13).setCell ⟨x,0,none⟩ (.int .i64 0)).setCell ⟨x,1,none⟩ (.int .i64 0)).setCell ⟨x,2,none⟩ (.int .i64 0)).setCell ⟨x,3,none⟩ (.string ⟨#[]⟩)).setCell ⟨x,4,none⟩ (.int .u64 0)).setCell ⟨x,5,none⟩ (.int .i64 0)).setCell ⟨x,6,none⟩ (.int .u32 0)).setCell ⟨x,7,none⟩ (.slice none 0 0)).setCell ⟨x,8,none⟩ (.int .i64 0)).setCell ⟨x,9,none⟩ (.int .i64 0)).setCell ⟨x,10,none⟩ (.int .i64 0)).drew)):=Hh (by
   unfold R12Out;rw[HCR.out];exact⟨none,0,rfl,qQx _ _ _,hzE⟩)
  have c0:=hr.cell 0;have f0:=hr.frozen 0;have c1:=hr.cell 1;have f1:=hr.frozen 1;have c2:=hr.cell 2;have f2:=hr.frozen 2;have c3:=hr.cell 3;have f3:=hr.frozen 3;have c4:=hr.cell 4;have f4:=hr.frozen 4;have c5:=hr.cell 5;have f5:=hr.frozen 5;have c6:=hr.cell 6;have f6:=hr.frozen 6;have c7:=hr.cell 7;have f7:=hr.frozen 7;have c8:=hr.cell 8;have f8:=hr.frozen 8;have c9:=hr.cell 9;have f9:=hr.frozen 9;have c10:=hr.cell 10;have f10:=hr.frozen 10;simp at c0 c1 c2 c3 c4 c5 c6 c7 c8 c9 c10;clear hO h0 hz hzE hr
  go_upto_region 18 with fail
  go_region
  go_wp2_with fail
  refine bodyPost_ret (v:=.tuple #[.agg #[.int .i64 0,.int .i64 0,.int .i64 0,.string ⟨#[]⟩,.int .u64 0,.int .i64 0,.int .u32 0,.slice none 0 0,.int .i64 0,.int .i64 0,.int .i64 0],.int .i64 d12.err]) (qQA results53 _ rfl HLD.out) rfl ?_;exact HF.out
end Go.Proofs.YtimjipcplmnpbaaGreat
