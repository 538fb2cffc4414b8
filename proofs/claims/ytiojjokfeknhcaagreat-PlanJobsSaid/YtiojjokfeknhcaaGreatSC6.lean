/-
  Part 6 of what the law leans on.
-/
import Derived.Test.YtiojjokfeknhcaaGreatSC1
import Derived.Test.YtiojjokfeknhcaaGreatSC2
import Derived.Test.YtiojjokfeknhcaaGreatSC3
import Derived.Test.YtiojjokfeknhcaaGreatSC4
import Derived.Test.YtiojjokfeknhcaaGreatSC5
import Derived.Test.YtiojjokfeknhcaaGreatChecked
import Derived.BigQuiet
import Derived.WalkSpells
import Derived.WalkLawsBesides
import Derived.ProofKit
import Derived.OpenShut
import Derived.SliceStrings
import Derived.Deep.Slices
import Derived.SizedLaws
import Derived.Deep.LoopGhost
import Derived.Laws.BitsAllLaws
import Derived.Laws.AppendOwn
import Derived.Deep.RegionLaw
import Derived.Lib.AppendStr
import Derived.Laws.IdiomStrings
import Derived.Laws.BytesArg
import Derived.Deep.MidRow
namespace Go.Proofs.YtiojjokfeknhcaaGreat
set_option maxRecDepth 100000
set_option maxHeartbeats 8000000
set_option linter.unusedVariables false
set_option linter.unusedSimpArgs false
set_option linter.unusedSectionVars false
open _root_.Go.Proofs.Tryz
open Go.RowKit Go.Sort
theorem idsOf_asc{L:List Bl}(h:L.Pairwise fun a b=>a.id<b.id):(L.map fun b=>(b.id:Int)).Pairwise (· < ·):=List.pairwise_map.2 (h.imp fun h=>by omega)
theorem Rep.ids{C:Ct}{P:Pm}{n:Nat}(h:Rep C P)(hi:PInv n P):(P.L.map fun b=>(b.id:Int)).Perm (C.idx.map (·.1)):=by
 have:=((h.perm hi).map fun b:Bl=>(b.id:Int)).symm
 unfold Ct.idx;rw[List.map_map]at this⊢;exact this
theorem own_own_ne{w:World}{b1 b2:Nat}{e1 e2:TypeId}{s1 s2:Nat}{v1 v2:Value}{n1 n2:Nat}{x1 x2:List Value}(h1:w.ownsRow b1 e1 s1 v1 n1 x1)(h2:w.ownsRow b2 e2 s2 v2 n2 x2)(hne:e1≠e2):∀k,some k=v1.ownBlock→¬ some k=v2.ownBlock:=by
 intro k hk hk2;rcases h2.2 with⟨rfl,_⟩|⟨g,cap,cur,rfl,_,hg,_⟩
 ·cases hk2
 ·have e:k=g:=by injection hk2
  subst e;have hA:At w k e2 cur:=hg;exact qQf h1 hA hne k hk rfl
def qZY(p:Bl×Value):List Value:=(blCells p.1 p.2).toList
theorem bl_info:(prog.info? 63).map (fun i=>(i.zero,i.size,i.bytes))=some (some (.agg blZero),13,128):=by kernel_rfl
def qXl(w:World)(v:Value)(L:List Bl):Prop:=∃DV:List (Bl×Value),DV.map (·.1)=L∧w.ownsRow 0 63 13 v L.length ((DV.map qZY).flatten)∧∀p∈DV,w.ownsRow 0 3 1 p.2 p.1.disks.length (p.1.disks.map (Value.int .i64))
theorem blobs_any(w:World)(B:Nat→Prop)(c mb mn:Nat)(C:Ct)(P:Pm)(n:Nat)(h:CtAt w B c mb mn C)(hR:Rep C P)(hi:PInv n P)(hn:n<50) :
 Calls prog 11 #[.pointer (some ⟨c,0,none⟩)] w fun e w'=>∃v,e=.returned v∧qXl w' v P.L∧Ext w w':=by
 obtain⟨c0,c1⟩:=h.c0;have hlen:=h.bm.len (P:=prog) qXa
 have hil:C.idx.length=P.L.length:=by
  have:=(hR.ids hi).length_eq
  simpa using this.symm
 rw[hil]at hlen;have hpl:P.L.length<50:=by have:=hi.len;omega
 obtain⟨i0,hi0,hz0,hz1,hz2⟩:=info_parts bl_info
 have hmk:(Instr.makeSlice 52 (.int .i64 0) (.int .i64 (P.L.length:Int))).run prog w=.ok (.slice (some ⟨w.heap.size,0,none⟩) 0 P.L.length) (w.alloc (.cells (madeCells (Value.agg blZero).cells (P.L.length * 13)) 63)):=by
  have:=run_make (P:=prog) w 52 63 i0 (.agg blZero) underlying52 hi0 hz0 .i64 .i64 0 (P.L.length:Int) (by omega) (by omega) (by rw[hz2];omega) (by omega)
  rw[hz1]at this;exact this
 clear i0 hi0 hz0 hz1 hz2;have hOW:(w.alloc (.cells (madeCells (Value.agg blZero).cells (P.L.length * 13)) 63)).ownsRow w.heap.size 63 13 (.slice (some ⟨w.heap.size,0,none⟩) 0 P.L.length) 0 []:=World.ownsRow_made w _ _ (Nat.le_refl _) (by unfold maxLen;omega) (by rw[size_madeCells]);have hE0:=(Er w).alloc (.cells (madeCells (Value.agg blZero).cells (P.L.length * 13)) 63);generalize w.alloc (.cells (madeCells (Value.agg blZero).cells (P.L.length * 13)) 63)=W0 at *;have HID:=Hh (ids_any W0 B c mb mn C (h.ext hE0) (P.L.map fun b=>(b.id:Int)) (idsOf_asc hi.asc) (hR.ids hi) (by simpa using hpl));rw[List.length_map]at HID;have HPL:=Hh hpl;have HI:=Hh (show _∧_ from⟨hR,hi⟩);clear hil hpl hR hi
 go_enter func11,ntmps11
 go_wp2_with fail
 refine HID.out.mono ?_;rintro e W1 ⟨iv,rfl,hOI,hE1⟩;have hO1:=own_kx hOW hE1;have hE01:=hE0.trans hE1;obtain⟨iA,ic,rfl⟩:=qQa hOI;clear HID hmk hlen hOW hE0 hE1;go_wp2_with fail
 go_loopw [3,15] (fun ov kv wr=>∃(k:Nat) (DV:List (Bl×Value)),k≤P.L.length∧kv=.int .i64 (k:Int)∧DV.map (·.1)=P.L.take k∧wr.ownsRow w.heap.size 63 13 ov k ((DV.map qZY).flatten) ∧
  Hid (∀p∈DV,wr.ownsRow 0 3 1 p.2 p.1.disks.length (p.1.disks.map (Value.int .i64)))∧wr.ownsRow W0.heap.size 47 1 (.slice iA P.L.length ic) P.L.length ((P.L.map fun b=>(b.id:Int)).map (Value.int .u64))∧Ext w wr) (fun _ kv _=>P.L.length - (intOf kv).toNat)
 case atStart=>exact⟨0,[],Nat.zero_le _,rfl,rfl,hO1,Hh (fun p hp=>by cases hp),hOI,hE01⟩
 case round =>
  obtain⟨k,DV,hk,rfl,hDV,hO,HDK,hIk,hEw⟩:=hrel;have HDV:=Hh hDV;clear hDV hO1 hOI hE01
  by_cases hlt:k<P.L.length
  ·obtain⟨b,hb⟩:∃b,P.L[k]? = some b:=⟨_,List.getElem?_eq_getElem hlt⟩;obtain⟨hR,hi⟩:=HI.out;have hbm:=List.mem_of_getElem? hb;obtain⟨r,hr,hrb,hf⟩:=row_of hR hi hbm;have hCk:=h.ext hEw;have hlk:=hCk.look b.id;rw[hf]at hlk;simp only[ptrO]at hlk;obtain⟨c0,c1⟩:=hCk.c0
   have hdl:r.b.disks.length≤17592186043904:=by
    rw[hrb]
    have:=qZl (hi.bl b hbm).rises
    omega
   have HOWN:=Hh (own_any wr r.g r.b r.dv (hCk.bl r hr).1 (hCk.bl r hr).2 hdl);rw[hrb]at HOWN
   have hic:∃ib,iA=some ⟨ib,0,none⟩:=by
    rcases hIk.2 with⟨e,h0⟩|⟨g,cap,cur,e,_⟩
    ·omega
    ·injection e with e1 _ _;exact⟨g,e1⟩
   obtain⟨ib,rfl⟩:=hic;have i1:=hIk.cellAt k (by omega);rw[List.getElem?_map,List.getElem?_map,hb]at i1;simp only[Option.map_some]at i1;have HB:=Hh hb;obtain⟨oA,oc,rfl⟩:=qQa hO;clear hR hi hbm hf hr hrb hdl hb c1;go_wp2_with fail
   refine HOWN.out.mono ?_;rintro e W4 ⟨dv',rfl,hOd,hE2⟩;obtain⟨dA,dc,rfl⟩:=qQa hOd;have hO3:=own_kx hO hE2;have hE3:=hEw.trans hE2;have hsz3:=hE3.size;have hI3:=own_kx hIk hE2
   have HD3:Hid (∀p∈DV++[(b,.slice dA b.disks.length dc)],W4.ownsRow 0 3 1 p.2 p.1.disks.length (p.1.disks.map (Value.int .i64))):=Hh (fun p hp=>by
    rcases List.mem_append.1 hp with hp|hp
    ·exact own_kx (HDK.out p hp) hE2
    ·rw[List.mem_singleton]at hp;subst hp;exact hOd)
   clear HOWN hO hEw hE2 hOd HDK hCk hlk i1 c0 hIk
   go_wp2_with (at_builtin;refine qQp _ hO3 52 underlying52 bl_info rfl rfl (by decide) (by decide) rfl (by have:=HPL.out;omega) hsz3 rfl _ _ rfl rfl rfl ?_)
   intro v1 w4 hO4 hC4;have hE4:Ext w w4:=Chg.own_ext hE3 hC4 hO3 (Nat.le_refl _);have hI4:=qQb hI3 hC4 (own_own_ne hI3 hO3 (by decide));have HD4:Hid (∀p∈DV++[(b,.slice dA b.disks.length dc)],w4.ownsRow 0 3 1 p.2 p.1.disks.length (p.1.disks.map (Value.int .i64))):=Hh (fun p hp=>qQb (HD3.out p hp) hC4 (own_own_ne (HD3.out p hp) hO3 (by decide)))
   have HDV4:Hid ((DV++[((b,Value.slice dA b.disks.length dc):Bl×Value)]).map (fun p:Bl×Value=>p.1)=P.L.take (k+1)):=Hh (by
    rw[List.map_append,HDV.out,List.take_add_one,HB.out];rfl)
   clear hC4 hE3 hI3 HD3 hO3 HDV;have hk50:k<50:=by have:=HPL.out;omega
   obtain⟨vA,vc,rfl⟩:=qQa hO4;go_wp2_with fail
   go_roundw
   case rel=>exact⟨k+1,DV++[(b,.slice dA b.disks.length dc)],by omega,by go_num,HDV4.out,by rw[List.map_append,List.flatten_append];simpa[qZY]using hO4,HD4,hI4,hE4⟩
   case measure=>simp[intOf];omega
  ·obtain rfl:k=P.L.length:=by omega
   clear c0 c1;obtain⟨oA,oc,rfl⟩:=qQa hO;have HF:Hid (qXl wr (.slice oA P.L.length oc) P.L):=Hh ⟨DV,by rw[HDV.out,List.take_of_length_le (Nat.le_refl _)],qQ8 hO,HDK.out⟩;clear hO HDK HDV;go_wp2_with fail
   go_ret
   exact⟨_,rfl,HF.out,hEw⟩
open Go.RowKit Go.Sort
def qZC(w:World)(B:Nat→Prop)(c mb mn:Nat)(P:Pm):Prop:=∃C,CtAt w B c mb mn C∧Rep C P
structure Kp (B:Nat→Prop) (w w':World):Prop where
 chg:Chg (fun k=>B k) w w'
 at_:∀g t cs,t≠96→t≠63→At w g t cs→At w' g t cs
section
variable{w w' w'':World}{B:Nat→Prop}{c mb mn:Nat}{P:Pm}
theorem Kp.of_ext(h:Ext w w'):Kp B w w':=⟨h.chg,fun _ _ _ _ _ hA=>hA.ext h⟩
theorem Kp.trans(h:Kp B w w')(h':Kp B w' w''):Kp B w w'':=⟨h.chg.trans h'.chg (fun _ _ e=>e),fun g t cs h1 h2 hA=>h'.at_ g t cs h1 h2 (h.at_ g t cs h1 h2 hA)⟩
theorem Kp.of_S{C:Ct}(h:CtAt w B c mb mn C)(hC:Chg (C.S c mb mn) w w'):Kp B w w' :=
 ⟨hC.mono (fun k _ e=>S_lo h k e),fun _ _ _ h1 h2 hA=>hA.chg hC (S_not h hA h1.symm h2.symm)⟩
theorem Kp.own{base:Nat}{e:TypeId}{size:Nat}{v:Value}{n:Nat}{xs:List Value}(h:Kp B w w')(ho:w.ownsRow base e size v n xs)(h1:e≠96)(h2:e≠63):w'.ownsRow base e size v n xs:=by
 refine⟨ho.1,?_⟩
 rcases ho.2 with hn|⟨g,cap,cur,hv,hb,hg,rest⟩
 ·exact .inl hn
 ·exact .inr ⟨g,cap,cur,hv,hb,h.at_ g e cur h1 h2 hg,rest⟩
theorem Kp.ext{w0:World}(h0:Ext w0 w)(h:Kp B w w')(hB:∀k,B k→w0.heap.size≤k):Ext w0 w':=h0.chg_trans h.chg |>.mono (fun k hk e=>by have e':B k:=e;have:=hB k e';omega)
theorem qZC.ext(h:qZC w B c mb mn P)(he:Ext w w'):qZC w' B c mb mn P:=by
 obtain⟨C,h1,h2⟩:=h;exact⟨C,h1.ext he,h2⟩
theorem cnew_any(w:World):Calls prog 15 #[] w fun e w'=>∃c mb mn,e=.returned (.pointer (some ⟨c,0,none⟩))∧qZC w' (Hi w.heap.size) c mb mn Pm.empty∧Ext w w':=by
 refine(new_any w).mono ?_
 rintro e w' ⟨c,mb,mn,rfl,h1,h2⟩;exact⟨c,mb,mn,rfl,⟨_,h1,Rep.empty⟩,h2⟩
def Came(B:Nat→Prop)(c mb mn:Nat)(R:Pm×Rs)(w:World)(e:Ending)(w':World):Prop :=
 ∃A cp,e=.returned (qXq R.2.err R.2.blob R.2.size R.2.sum (.slice A R.2.names.length cp))∧w'.ownsRow 0 9 1 (.slice A R.2.names.length cp) R.2.names.length (R.2.names.map Value.string)∧qZC w' B c mb mn R.1∧Kp B w w'
theorem capply_any{n:Nat}(h:qZC w B c mb mn P)(hi:PInv n P)(hn:n≤1000000)(x:Cmd)(dv:Value)(hS:w.ownsRow 0 3 1 dv x.disks.length (x.disks.map (Value.int .i64)))(hdl:x.disks.length≤17592186043904)(hnl:x.name.size≤9223372036854775807)(hx:x.Wf) :
 Calls prog 16 #[.pointer (some ⟨c,0,none⟩),qQd x dv] w (Came B c mb mn (P.app x) w):=by
 obtain⟨C,hC,hR⟩:=h;refine(app_any w B c mb mn C P n hC hR hi hn x dv hS hdl hnl hx).mono ?_
 rintro e w' ⟨nv,rfl,hON,C',h1,h2,h3⟩;obtain⟨A,cp,rfl⟩:=qQa hON;exact⟨A,cp,rfl,hON,⟨C',h1,h2⟩,Kp.of_S hC h3⟩
theorem capply_lit{n:Nat}{P':Pm}{err:Int}{blob:Nat}{size:Int}{sum:Nat}{args:Value}(bI sI:Int)(h:qZC w B c mb mn P)(hi:PInv n P)(hn:n≤1000000)(x:Cmd)(dv:Value)(hS:w.ownsRow 0 3 1 dv x.disks.length (x.disks.map (Value.int .i64)))(hx:x.Wf)(hdl:x.disks.length≤6)(hnl:x.name.size≤100)
 (ha:args=qQd x dv) (hr:P.app x=(P',⟨err,blob,size,sum,[]⟩)) (hbI:(blob:Int)=bI) (hsI:(sum:Int)=sI) :
 Calls prog 16 #[.pointer (some ⟨c,0,none⟩),args] w fun e w'=>∃A cp,e=.returned (.agg #[.int .i64 err,.int .u64 bI,.int .i64 size,.int .u32 sI,.slice A 0 cp])∧qZC w' B c mb mn P'∧Kp B w w':=by
 subst ha hbI hsI;refine(capply_any h hi hn x dv hS (by omega) (by omega) hx).mono ?_
 rintro e w' ⟨A,cp,rfl,hON,h1,h2⟩;rw[hr]at h1⊢;exact⟨A,cp,rfl,h1,h2⟩
theorem cblobs_any{n:Nat}(h:qZC w B c mb mn P)(hi:PInv n P)(hn:n<50) :
 Calls prog 11 #[.pointer (some ⟨c,0,none⟩)] w fun e w'=>∃A cp,e=.returned (.slice A P.L.length cp)∧qXl w' (.slice A P.L.length cp) P.L∧Ext w w':=by
 obtain⟨C,hC,hR⟩:=h;refine(blobs_any w B c mb mn C P n hC hR hi hn).mono ?_
 rintro e w' ⟨v,rfl,hB,hE⟩;obtain⟨DV,h1,h2,h3⟩:=hB;obtain⟨A,cp,rfl⟩:=qQa h2;exact⟨A,cp,rfl,⟨DV,h1,h2,h3⟩,hE⟩
end
open Go.RowKit
def cut(s:ByteArray)(n:Nat):ByteArray:=if n<s.size then s.extract 0 n else s
theorem cut_size(s:ByteArray)(n:Nat):(cut s n).size≤n:=by
 unfold cut;split
 ·simp only[ByteArray.size_extract];omega
 ·omega
theorem cut_any(s:ByteArray)(n:Nat)(w:World)(_hs:s.size≤maxLen)(hn:n≤1000000):Calls prog 78 #[.string s,.int .i64 n] w fun e w'=>e=.returned (.string (cut s n))∧w'=w:=by
 unfold maxLen at _hs
 by_cases h:n<s.size
 ·have e:cut s n=s.extract 0 n:=if_pos h
  go_enter func78,ntmps78
  go_wp2_with fail
  go_ret
  rw[e];exact⟨rfl,rfl⟩
 ·have e:cut s n=s:=if_neg h
  go_enter func78,ntmps78
  go_wp2_with fail
  go_ret
  rw[e];exact⟨rfl,rfl⟩
open Go.ChangeShapes Go.WideShapes Go.ChangeAt Go.RowKit
def SlC(w:World)(v:Value)(xs:List Value):Prop:=Sl w v xs∧∃A c,v=.slice A xs.length c∧xs.length≤c∧c≤maxLen
section
variable{H:Type}{enc:TypeId×Value→H}{P:Program}{W:World}
end
open Go.ChangeShapes Go.WideShapes Go.ChangeAt Go.RowKit
theorem qJq{H:Type}{enc:TypeId×Value→H}{P:Program}{W:World}{k:Nat}{t e:TypeId}{v:Value}{y:DataW H×List MemPlace}(ht:P.underlying t=some (.slice e))(he:P.underlying e=some (.int .i64))(hc:P.cellsOf e=1)
 (h:DataW.trod enc P W 0 (fun _=>true) true k t [v]=some y) :
 ∃zs:List Int,SlC W v (zs.map (Value.int .i64))∧(∀x∈zs, -9223372036854775808≤x∧x≤9223372036854775807)∧zs.length≤maxLen∧((∀n∈y.1.weights P t,n≤reachBytes)→zs.length * P.bytesOf e≤reachBytes):=by
 rcases open_ints ht he hc h with⟨hcs,_⟩|⟨a,len,cap,zs,hcs,_,hl,hm,hz,hxy,hcell,hwz⟩
 ·simp only[List.cons.injEq,and_true]at hcs;rw[hcs];exact⟨[],⟨Sl.nil _ _,_,_,rfl,Nat.le_refl _,Nat.zero_le _⟩,by simp,Nat.zero_le _,fun _=>by simp⟩
 ·simp only[List.cons.injEq,and_true]at hcs;rw[hcs];simp only[if_true]at hz;have hll:(zs.take len).length=len:=by rw[List.length_take];omega
  refine⟨zs.take len,⟨⟨some a,cap,by rw[List.length_map,hll],fun hne=>?_⟩,some a,cap,by rw[List.length_map,hll],by rw[List.length_map,hll];omega,by omega⟩,fun x hx=>bounds_i64 (hwz x (List.mem_of_mem_take hx)),by omega,fun hw=>?_⟩
  rotate_left
  ·have h1:=hw ((lits .i64 (zs.take len) (H:=H)).length * P.bytesOf e+(lits .i64 (zs.drop len) (H:=H)).length * P.bytesOf e) (by rw[hxy];simp[DataW.weights,ht,Nat.add_mul]);have h2:(zs.take len).length * P.bytesOf e≤(lits .i64 (zs.take len) (H:=H)).length * P.bytesOf e:=by simp[lits]
   omega
  have hpos:0<zs.length:=by
   rcases Nat.eq_zero_or_pos zs.length with h0|h0
   ·exact absurd (by rw[List.eq_nil_of_length_eq_zero h0];simp) hne
   ·exact h0
  obtain⟨b,off,rfl,hat⟩:=ints_at hcell hpos;refine⟨b,off,rfl,fun i x hi=>?_⟩
  rw[List.getElem?_map,List.getElem?_take]at hi
  split at hi
  ·rename_i hlt
   have:=hat i (by omega)
   rw[this]
   have hg:zs[i]? = some (zs.getD i 0):=by
    rw[List.getD_eq_getElem?_getD,List.getElem?_eq_getElem (by omega)];rfl
   rw[hg]at hi;simpa using hi
  ·simp at hi
def Cmd.cells(c:Cmd)(dv:Value):List Value:=[.int .i64 c.kind,.int .i64 c.client,.int .i64 c.seq,.string c.name,.int .u64 (c.blob:Int),.int .i64 c.size,.int .u32 (c.sum:Int),dv,.int .i64 c.pool,.int .i64 c.vol,.int .i64 c.at_]
structure Cmd.In (c:Cmd) (dv:Value) (W:World):Prop where
 wf:c.Wf
 sl:SlC W dv (c.disks.map (Value.int .i64))
 nm:c.name.size≤maxLen
 dl:c.disks.length≤maxLen
theorem one_cmd{H:Type}{enc:TypeId×Value→H}{W:World}{n:Nat}{cs:List Value}{x:DataW H×List MemPlace}
 (h:DataW.trod enc prog W 0 (fun _=>true) true n 76 cs=some x):∃(c:Cmd) (dv:Value),cs=c.cells dv∧c.In dv W∧((∀n∈x.1.weights prog 76,n≤reachBytes)→c.disks.length≤17592186043904):=by
 obtain⟨xs,k,_,hx,hl,hxl,hf⟩:=DataW.trod_struct underlying76 h;rw[show prog.cellsOf 76=11 by kernel_rfl]at hl
 match cs,hl with
 | [v0,v1,v2,v3,v4,v5,v6,v7,v8,v9,v10],_ =>
  have get:∀i:Nat,i<11→∃y,xs[i]? = some y:=fun i hi=>⟨xs[i]'(by rw[hxl];exact hi),List.getElem?_eq_getElem _⟩
  obtain⟨y0,g0⟩:=get 0 (by omega);obtain⟨y1,g1⟩:=get 1 (by omega);obtain⟨y2,g2⟩:=get 2 (by omega);obtain⟨y3,g3⟩:=get 3 (by omega);obtain⟨y4,g4⟩:=get 4 (by omega);obtain⟨y5,g5⟩:=get 5 (by omega);obtain⟨y6,g6⟩:=get 6 (by omega);obtain⟨y7,g7⟩:=get 7 (by omega);obtain⟨y8,g8⟩:=get 8 (by omega);obtain⟨y9,g9⟩:=get 9 (by omega);obtain⟨y10,g10⟩:=get 10 (by omega);generalize hfs:(#[_,_,_,_,_,_,_,_,_,_,_]:Array Field)=fs at hf hxl
  have key:∀(i t o:Nat),(∃f,fs[i]? = some f∧f.type=t∧f.offset=o)→prog.cellsOf t=1→DataW.trod enc prog W 0 (fun _=>true) true k t (([v0,v1,v2,v3,v4,v5,v6,v7,v8,v9,v10].drop o).take 1)=xs[i]? := by
   rintro i t o ⟨f,hi,rfl,rfl⟩ hc;rw[←hc];exact hf i f hi
  subst hfs;have f0:DataW.trod enc prog W 0 (fun _=>true) true k 3 [v0]=some y0:=(key 0 3 0 ⟨_,rfl,rfl,rfl⟩ (by kernel_rfl)).trans g0;have f1:DataW.trod enc prog W 0 (fun _=>true) true k 3 [v1]=some y1:=(key 1 3 1 ⟨_,rfl,rfl,rfl⟩ (by kernel_rfl)).trans g1;have f2:DataW.trod enc prog W 0 (fun _=>true) true k 3 [v2]=some y2:=(key 2 3 2 ⟨_,rfl,rfl,rfl⟩ (by kernel_rfl)).trans g2;have f3:DataW.trod enc prog W 0 (fun _=>true) true k 9 [v3]=some y3:=(key 3 9 3 ⟨_,rfl,rfl,rfl⟩ (by kernel_rfl)).trans g3;have f4:DataW.trod enc prog W 0 (fun _=>true) true k 47 [v4]=some y4:=(key 4 47 4 ⟨_,rfl,rfl,rfl⟩ (by kernel_rfl)).trans g4;have f5:DataW.trod enc prog W 0 (fun _=>true) true k 3 [v5]=some y5:=(key 5 3 5 ⟨_,rfl,rfl,rfl⟩ (by kernel_rfl)).trans g5;have f6:DataW.trod enc prog W 0 (fun _=>true) true k 58 [v6]=some y6:=(key 6 58 6 ⟨_,rfl,rfl,rfl⟩ (by kernel_rfl)).trans g6;have f7:DataW.trod enc prog W 0 (fun _=>true) true k 24 [v7]=some y7:=(key 7 24 7 ⟨_,rfl,rfl,rfl⟩ (by kernel_rfl)).trans g7;have f8:DataW.trod enc prog W 0 (fun _=>true) true k 3 [v8]=some y8:=(key 8 3 8 ⟨_,rfl,rfl,rfl⟩ (by kernel_rfl)).trans g8;have f9:DataW.trod enc prog W 0 (fun _=>true) true k 3 [v9]=some y9:=(key 9 3 9 ⟨_,rfl,rfl,rfl⟩ (by kernel_rfl)).trans g9;have f10:DataW.trod enc prog W 0 (fun _=>true) true k 3 [v10]=some y10:=(key 10 3 10 ⟨_,rfl,rfl,rfl⟩ (by kernel_rfl)).trans g10;obtain⟨a0,e0,_,w0⟩:=DataW.trod_int underlying3 f0;obtain⟨a1,e1,_,w1⟩:=DataW.trod_int underlying3 f1;obtain⟨a2,e2,_,w2⟩:=DataW.trod_int underlying3 f2;obtain⟨a3,e3,_,w3⟩:=DataW.trod_string underlying9 f3;obtain⟨a4,e4,_,w4⟩:=DataW.trod_int underlying47 f4;obtain⟨a5,e5,_,w5⟩:=DataW.trod_int underlying3 f5;obtain⟨a6,e6,_,w6⟩:=DataW.trod_int underlying58 f6;obtain⟨zs,hz1,hz2,hz3,hz4⟩:=qJq underlying24 underlying3 (by kernel_rfl) f7;obtain⟨a8,e8,_,w8⟩:=DataW.trod_int underlying3 f8;obtain⟨a9,e9,_,w9⟩:=DataW.trod_int underlying3 f9;obtain⟨a10,e10,_,w10⟩:=DataW.trod_int underlying3 f10;simp only[List.cons.injEq,and_true]at e0 e1 e2 e3 e4 e5 e6 e8 e9 e10;subst e0 e1 e2 e3 e4 e5 e6 e8 e9 e10;have b4:=bounds_u64 w4;have b6:=bounds_u32 w6;obtain⟨n4,rfl⟩:=Int.eq_ofNat_of_zero_le b4.1;obtain⟨n6,rfl⟩:=Int.eq_ofNat_of_zero_le b6.1;refine⟨⟨a0,a1,a2,a3,n4,a5,n6,zs,a8,a9,a10⟩,v7,rfl,⟨⟨bounds_i64 w0,bounds_i64 w1,bounds_i64 w2,by simp only;omega,bounds_i64 w5,by simp only;omega,bounds_i64 w8,bounds_i64 w9,bounds_i64 w10,hz2⟩,hz1,w3,hz3⟩,fun hw=>?_⟩
  have h8:prog.bytesOf 3=8:=by kernel_rfl
  have h9:=hz4 fun n hn=>hw n (by
   rw[hx];simp only[DataW.weights,underlying76];exact DataW.weights_mem_each (j:=7) (t:=24) (d:=y7.1) rfl (by rw[List.getElem?_map,g7];rfl) n hn)
  rw[h8]at h9;simp only[reachBytes]at h9;simp only;omega
open Go.ChangeShapes Go.WideShapes Go.ChangeAt Go.RowKit
abbrev CRow:=Cmd×Value
def crow(x:CRow):List Value:=x.1.cells x.2
structure CmdsIn (W:World) (l:List CRow) (v:Value):Prop where
 ops:Sln W v 11 (l.map crow)
 cap:∃A c,v=.slice A l.length c∧l.length≤c∧c≤maxLen
 row:∀x∈l,x.1.In x.2 W
 len:l.length≤maxLen
theorem open_cmds{H:Type}{enc:TypeId×Value→H}{W:World}{r:Reach}{b0:Nat}{v:Value}{d:DataW H}{p:List MemPlace}
 (hv:Value.okWide prog W r b0 22 v) (h:DataW.Trod enc prog W 0 (fun _=>true) true 22 v d p) :
 ∃l:List CRow,CmdsIn W l v:=by
 obtain⟨a0,len0,cap0,rfl⟩:=okWide_slice underlying22 hv;obtain⟨fuel,hf⟩:=h;rcases Go.Deep.open_slice underlying22 hf with⟨hcs,_⟩|⟨a,len,cap,m,n,D,Pl,hcs,_,hl,hm,hmm,_,hx⟩
 ·simp only[Value.cells,List.cons.injEq,and_true]at hcs;rw[hcs];exact⟨[],⟨⟨none,0,rfl,fun h=>absurd rfl h⟩,⟨none,0,rfl,Nat.le_refl _,Nat.zero_le _⟩,by simp,Nat.zero_le _⟩⟩
 ·simp only[Value.cells,List.cons.injEq,and_true]at hcs;rw[hcs];have hlm:len≤m:=by rw[hmm];split <;> omega
  have each:∀i,i<len→∃x:CRow,(∀(j:Nat) (u:Value),(crow x)[j]? = some u→W.cell? (a.add (i * 11+j))=some u)∧x.1.In x.2 W:=fun i hi=>by
   obtain⟨cs',h1,h2⟩:=hx i (by omega);rw[show prog.cellsOf 76=11 by kernel_rfl]at h1;obtain⟨_,hlen,hcell⟩:=World.cells?_some h1;obtain⟨x,dv,rfl,hok,_⟩:=one_cmd h2;refine⟨(x,dv),fun j u hj=>?_,hok⟩
   have hj7:j<11:=by
    have:=(List.getElem?_eq_some_iff.1 hj).1
    exact this
   have:=hcell j hj7
   rw[Go.Deep.add_add]at this;rw[this];exact hj
  haveI:Inhabited CRow:=⟨(⟨0,0,0,⟨#[]⟩,0,0,0,[],0,0,0⟩,.bool true)⟩
  obtain⟨f,hfx⟩:=Go.Deep.choose_lt each;refine⟨(List.range len).map f,⟨some a,cap,by simp,fun hne=>?_⟩,⟨some a,cap,by simp,by simp;omega,by omega⟩,?_,by simp;omega⟩
  ·have hpos:0<len:=by
    rcases Nat.eq_zero_or_pos len with h0|h0
    ·subst h0;exact absurd rfl hne
    ·exact h0
   obtain⟨b,off,spot⟩:=a
   have hspot:spot=none:=by
    have:=(hfx 0 hpos).1 0 _ rfl
    simpa[Addr.add]using World.cell?_spot this
   subst hspot;refine⟨b,off,rfl,fun i row hi j u hj=>?_⟩
   rw[List.map_map,List.getElem?_map]at hi
   by_cases hlt:i<len
   ·rw[List.getElem?_range hlt]at hi;simp only[Option.map_some,Option.some.injEq,Function.comp_apply]at hi;subst hi
    have:=(hfx i hlt).1 j u hj
    rw[Go.WideShapes.add_plain]at this;rw[Nat.add_assoc];exact this
   ·rw[List.getElem?_eq_none (by simpa using hlt)]at hi;cases hi
  ·intro x hx;obtain⟨i,hi,rfl⟩:=List.mem_map.1 hx;exact(hfx i (List.mem_range.1 hi)).2
open Go.RowKit Go.Sort
theorem Cmd.In.ext{x:Cmd}{dv:Value}{w w':World}(h:x.In dv w)(he:Ext w w'):x.In dv w':=by
 obtain⟨h1,⟨h2,h3⟩,h4,h5⟩:=h;exact⟨h1,⟨h2.ext he,h3⟩,h4,h5⟩
theorem qQQ{w:World}{A:Option Addr}{n c k:Nat}{l:List (List Value)}(h:Sln w (.slice A n c) k l)(hl:l≠[]):∃b o,A=some ⟨b,o,none⟩:=by
 obtain⟨A',c',hv,hx⟩:=h;simp only[Value.slice.injEq]at hv;obtain⟨b,o,rfl,_⟩:=hx hl;exact⟨b,o,hv.1⟩
theorem sln_get{w:World}{b o n c size:Nat}{xs:List (List Value)}(h:Sln w (.slice (some ⟨b,o,none⟩) n c) size xs){i:Nat}{row:List Value}(hi:xs[i]? = some row):∀j u,row[j]? = some u→w.cell? ⟨b,o+i * size+j,none⟩=some u:=by
 obtain⟨A,c',hv,hx⟩:=h;have hne:xs≠[]:=fun e=>by subst e;simp at hi
 obtain⟨b',o',rfl,hc⟩:=hx hne;simp only[Value.slice.injEq,Option.some.injEq,Addr.mk.injEq,and_true]at hv;obtain⟨⟨rfl,rfl⟩,_,_⟩:=hv;exact hc i _ hi
open Go.RowKit Go.Sort
open Go.RowKit Go.Sort
section
variable{w:World}{B:Nat→Prop}{c mb mn:Nat}{P:Pm}
theorem clive_any{n:Nat}(h:qZC w B c mb mn P)(hi:PInv n P)(hn:n≤1000000)(v:Nat)(hv:v<12) :
 Calls prog 14 #[.pointer (some ⟨c,0,none⟩),.int .i64 v] w fun e w'=>e=.returned (.tuple #[.int .i64 (((P.L.filter (onV v)).length:Nat):Int),.int .i64 (qQE (P.L.filter (onV v)))])∧Ext w w':=by
 obtain⟨C,hC,hR⟩:=h;have hp:=hR.perm hi;have hl:=hp.length_eq;rw[List.length_map]at hl;have hlen:=hi.len;have hpins:∀r∈C.rows,0≤r.b.pins∧r.b.pins≤n:=fun r hr=>(hi.bl r.b (hp.mem_iff.1 (List.mem_map.2 ⟨r,hr,rfl⟩))).pins
 have hv2:=hR.onVol hi v;have e1:(onR v C.rows).length=(P.L.filter (onV v)).length:=hv2.length_eq;have e2:qQE (onR v C.rows)=qQE (P.L.filter (onV v)):=pinsOf_perm hv2;have hL:=liveR_any w B c mb mn C hC v hv n hn (by omega) hpins;rw[e1,e2]at hL;exact hL
theorem cvol_any(h:qZC w B c mb mn P)(v:Nat)(hv:v<12) :
 Calls prog 20 #[.pointer (some ⟨c,0,none⟩),.int .i64 v] w fun e w'=>e=.returned (vlAgg (P.vol v))∧Ext w w':=by
 obtain⟨C,hC,hR⟩:=h;have e:=vol_any w B c mb mn C hC v hv;rw[hR.vols]at e;exact e
end
theorem bl_rows{w:World}{v:Value}{L:List Bl}(h:qXl w v L):∃DV:List (Bl×Value),DV.map (·.1)=L∧Sln w v 13 (DV.map qZY)∧∀p∈DV,w.ownsRow 0 3 1 p.2 p.1.disks.length (p.1.disks.map (Value.int .i64)):=by
 obtain⟨DV,h1,h2,h3⟩:=h;refine⟨DV,h1,Sln.of_own h2 ?_ (by rw[←h1];simp),h3⟩
 intro r hr;obtain⟨p,_,rfl⟩:=List.mem_map.1 hr;rfl
theorem qQV{w:World}{b o n c:Nat}{l:List (Bl×Value)}(h:Sln w (.slice (some ⟨b,o,none⟩) n c) 13 (l.map qZY)){i:Nat}{x:Bl}{dv:Value}(hi:l[i]? = some (x,dv)) :
 w.cell? ⟨b,o+i * 13,none⟩=some (.int .u64 (x.id:Int))∧w.cell? ⟨b,o+i * 13+1,none⟩=some (.string x.name)∧w.cell? ⟨b,o+i * 13+2,none⟩=some (.int .i64 x.size)∧w.cell? ⟨b,o+i * 13+3,none⟩=some (.int .u32 (x.sum:Int))∧w.cell? ⟨b,o+i * 13+4,none⟩=some (dv)∧w.cell? ⟨b,o+i * 13+5,none⟩=some (.bool x.a.there)∧w.cell? ⟨b,o+i * 13+6,none⟩=some (.int .i64 x.a.vol)∧w.cell? ⟨b,o+i * 13+7,none⟩=some (.int .i64 x.a.at_)∧w.cell? ⟨b,o+i * 13+8,none⟩=some (.bool x.b.there)∧w.cell? ⟨b,o+i * 13+9,none⟩=some (.int .i64 x.b.vol)∧w.cell? ⟨b,o+i * 13+10,none⟩=some (.int .i64 x.b.at_)∧w.cell? ⟨b,o+i * 13+11,none⟩=some (.int .i64 x.pins)∧w.cell? ⟨b,o+i * 13+12,none⟩=some (.bool x.dead):=by
 have hg:(l.map qZY)[i]? = some (qZY (x,dv)):=by rw[List.getElem?_map,hi];rfl
 have hc:=sln_get h hg;exact⟨hc 0 _ rfl,hc 1 _ rfl,hc 2 _ rfl,hc 3 _ rfl,hc 4 _ rfl,hc 5 _ rfl,hc 6 _ rfl,hc 7 _ rfl,hc 8 _ rfl,hc 9 _ rfl,hc 10 _ rfl,hc 11 _ rfl,hc 12 _ rfl⟩
open Go.RowKit
section
variable{w w' w1:World}{base e:Nat}{bs:List UInt8}{v:Value}{xs:List Value}
end
section
variable{w w' w1:World}{base e:Nat}{v:Value}{xs:List Value}
theorem own_slice{n:Nat}{e:TypeId}(h:w.ownsRow base e 1 v n xs):∃A m c,v=.slice A m c:=by
 rcases h.2 with⟨rfl,_⟩|⟨g,cap,cur,rfl,_⟩ <;> exact⟨_,_,_,rfl⟩
end
section
variable(w:World)(base e:Nat)(bs:List UInt8)
end
open Go.RowKit
section
variable(w:World)(base e:Nat)(bs:List UInt8)
end
open Go.RowKit
inductive Sp
 | val (v:Value)
 | ptr
 | sl (xs:List Value)
 | any
section
variable{P:Program}{ops:Array Oper}{Q:Exit→Act→World→Prop}{a0:Act}{sp:List Sp}{E0:Option Nat}{items:List (Nat×List UInt8)}{pre:List UInt8}{live:(Nat→Bool)→Bool}{W0:World}{base:Nat}{j:Nat}{o:Oper}
end
open Go.RowKit
section
variable(w:World)(base e:Nat)(bs:List UInt8)
end
open Go.RowKit Go.Sort
open Go.RowKit Go.Sort
section
variable{w w':World}{base:Nat}
theorem qJt{b0:Nat}{t:TypeId}{v:Value}{n:Nat}{xs:List Value}(h:w.ownsRow b0 t 1 v n xs):Sl w v xs:=by
 have hl:xs.length=n:=by have:=h.1;omega
 obtain⟨A,m,c,rfl⟩:=own_slice h;rcases h.2 with⟨e,e2⟩|⟨g,cap,cur,e,_⟩
 ·injection e with e1 e3 e4;subst e1 e3 e4
  have:xs=[]:=List.eq_nil_of_length_eq_zero (by omega)
  subst this;exact⟨_,_,rfl,fun hne=>absurd rfl hne⟩
 ·injection e with e1 e3 e4;subst e1 e3 e4;exact⟨_,_,by rw[hl],fun _=>⟨g,0,rfl,fun i x hi=>by rw[Nat.zero_add];have:=h.cells (g:=g) rfl i x hi;rw[Go.WideShapes.add_plain,Nat.zero_add]at this;exact this⟩⟩
end
theorem twelve{α : Type}{V:List α}(h:V.length=12):∃a0 a1 a2 a3 a4 a5 a6 a7 a8 a9 a10 a11,V=[a0,a1,a2,a3,a4,a5,a6,a7,a8,a9,a10,a11]:=by
 match V,h with
 | [a0,a1,a2,a3,a4,a5,a6,a7,a8,a9,a10,a11],_=>exact⟨a0,a1,a2,a3,a4,a5,a6,a7,a8,a9,a10,a11,rfl⟩
open Go.RowKit Go.Sort
structure RfRows (w:World) (lv:Value) (DV:List (Bl×Value)):Prop where
 own:w.ownsRow 0 89 13 lv DV.length ((DV.map qZY).flatten)
 dks:∀p∈DV,w.ownsRow 0 3 1 p.2 p.1.disks.length (p.1.disks.map (Value.int .i64))
def qQj(lv:Value)(V:List Vl):Array Value:=(lv::(V.map qQK).flatten).toArray
def qQZ(w:World)(v:Value)(P:Pm):Prop:=∃lv DV,v=.agg (qQj lv P.vols)∧DV.map (·.1)=P.L∧RfRows w lv DV
section
variable{w w':World}{lv v:Value}{DV:List (Bl×Value)}{P:Pm}
theorem RfRows.ext(h:RfRows w lv DV)(hE:Ext w w'):RfRows w' lv DV:=⟨own_kx h.own hE,fun p hp=>own_kx (h.dks p hp) hE⟩
theorem RfRows.kp{B:Nat→Prop}(h:RfRows w lv DV)(hE:Kp B w w'):RfRows w' lv DV:=⟨hE.own h.own (by decide) (by decide),fun p hp=>hE.own (h.dks p hp) (by decide) (by decide)⟩
theorem qQZ.ext(h:qQZ w v P)(hE:Ext w w'):qQZ w' v P:=by
 obtain⟨lv,DV,h1,h2,h3⟩:=h;exact⟨lv,DV,h1,h2,h3.ext hE⟩
theorem qQZ.kp{B:Nat→Prop}(h:qQZ w v P)(hE:Kp B w w'):qQZ w' v P:=by
 obtain⟨lv,DV,h1,h2,h3⟩:=h;exact⟨lv,DV,h1,h2,h3.kp hE⟩
theorem RfRows.sln(h:RfRows w lv DV):Sln w lv 13 (DV.map qZY):=Sln.of_own h.own (fun r hr=>by obtain⟨p,_,rfl⟩:=List.mem_map.1 hr;rfl) (by simp)
end
def qXA(id:Nat):List Bl→Nat→Int
 | [],_ => -1
 | b::r,k=>if b.id=id then(k:Int)else qXA id r (k+1)
def qXr(n:ByteArray):List Bl→Nat→Int
 | [],_ => -1
 | b::r,k=>if liveB n b=true then(k:Int)else qXr n r (k+1)
theorem rfFind_cons(id:Nat)(b:Bl)(r:List Bl)(k:Nat):qXA id (b::r) k=if b.id=id then(k:Int)else qXA id r (k+1):=rfl
theorem rfName_cons(n:ByteArray)(b:Bl)(r:List Bl)(k:Nat):qXr n (b::r) k=if liveB n b=true then(k:Int)else qXr n r (k+1):=rfl
theorem rfFind_nil(id k:Nat):qXA id [] k = -1:=rfl
theorem rfName_nil(n:ByteArray)(k:Nat):qXr n [] k = -1:=rfl
theorem drop_some{α : Type}{l:List α}{k:Nat}{x : α}(h:l[k]? = some x):l.drop k=x::l.drop (k+1):=by
 obtain⟨h1,h2⟩:=List.getElem?_eq_some_iff.1 h;rw[List.drop_eq_getElem_cons h1,h2]
theorem rfind_any(w:World)(v:Value)(P:Pm)(h:qQZ w v P)(id:Nat)(hl:P.L.length≤1000000) :
 Calls prog 81 #[v,.int .u64 (id:Int)] w fun e w'=>e=.returned (.int .i64 (qXA id P.L 0))∧Ext w w':=by
 obtain⟨lv,DV,rfl,hDV,hR⟩:=h;have hlen:DV.length=P.L.length:=by rw[←hDV,List.length_map]
 obtain⟨A,c,rfl⟩:=qQa hR.own;have HX:Hid (qQj (.slice A DV.length c) P.vols=(.slice A DV.length c::(P.vols.map qQK).flatten).toArray):=Hh rfl;generalize hX:qQj (.slice A DV.length c) P.vols=X at HX⊢;clear hX;have hX0:X[0]? = some (.slice A DV.length c):=by rw[HX.out];rfl
 have hl2:DV.length≤1000000:=by omega
 have HDV:=Hh hDV;have HDD:=Hh hR.dks;clear hDV hl hlen
 go_enter func81,ntmps81
 have hB:=At.new w 35 X;have hE:=(Er w).alloc (.cells X 35)
 go_upto_region 1 with fail
 generalize w.heap.size=xb at hB⊢;generalize w.alloc (.cells X 35)=W at hB hE⊢;have c0:=hB.cell 0;rw[hX0]at c0;have hS:=hR.sln.ext hE;clear hB hR hX0;go_wp2_with fail
 clear c0
 go_loopw [10] (fun kv wr=>∃k:Nat,kv=.int .i64 (k:Int)∧k≤DV.length∧qXA id P.L 0=qXA id (P.L.drop k) k∧Sln wr (.slice A DV.length c) 13 (DV.map qZY)∧Ext w wr) (fun kv _=>DV.length - (intOf kv).toNat)
 case atStart=>exact⟨0,rfl,Nat.zero_le _,rfl,hS,hE⟩
 case round =>
  clear hS hE;obtain⟨k,rfl,hk,hpl,hS,hE⟩:=hrel
  by_cases hlt:k<DV.length
  ·obtain⟨⟨b,dv⟩,hb⟩:∃q,DV[k]? = some q:=⟨_,List.getElem?_eq_getElem hlt⟩;have hbL:P.L[k]? = some b:=by rw[←HDV.out,List.getElem?_map,hb];rfl
   rw[drop_some hbL]at hpl;rw[rfFind_cons]at hpl;have HPL:=Hh hpl;obtain⟨dA,dc,rfl⟩:∃A c,dv=.slice A b.disks.length c:=qQa (HDD.out _ (List.mem_of_getElem? hb))
   obtain⟨rb,ro,rfl⟩:=qQQ hS (fun e=>by
    have h0:=List.map_eq_nil_iff.1 e;rw[h0]at hb;simp at hb)
   obtain⟨r0,r1,r2,r3,r4,r5,r6,r7,r8,r9,r10,r11,r12⟩:=qQV hS hb;have hYb:=At.new wr 89 (blCells b (.slice dA b.disks.length dc));have hEb:=(Er wr).alloc (.cells (blCells b (.slice dA b.disks.length dc)) 89);clear hpl hbL hb
   go_upto_region 4 with fail
   clear r0 r1 r2 r3 r4 r5 r6 r7 r8 r9 r10 r11 r12;generalize wr.heap.size=yb at hYb⊢;generalize wr.alloc (.cells (blCells b (.slice dA b.disks.length dc)) 89)=W1 at hYb hEb⊢;have d0:=hYb.cell 0;simp at d0;have hS1:=hS.ext hEb;have hE1:=hE.trans hEb;clear hYb hS hE hEb
   by_cases hx:b.id=id
   ·rw[if_pos hx]at HPL
    skip
    go_wp2_with fail
    go_ret
    exact⟨by rw[HPL.out];rfl,hE1⟩
   ·rw[if_neg hx]at HPL
    skip
    go_wp2_with fail
    go_roundw
    case rel=>exact⟨k+1,by go_num,by omega,HPL.out,hS1,hE1⟩
    case measure=>simp[intOf];omega
  ·obtain rfl:k=DV.length:=by omega
   have hd:P.L.drop DV.length=[]:=by rw[←HDV.out];simp
   rw[hd]at hpl;rw[rfFind_nil]at hpl;clear hS;go_wp2_with fail
   go_ret
   exact⟨by rw[hpl];rfl,hE⟩
theorem qXH(w:World)(v:Value)(P:Pm)(h:qQZ w v P)(m:ByteArray)(hl:P.L.length≤1000000) :
 Calls prog 109 #[v,.string m] w fun e w'=>e=.returned (.int .i64 (qXr m P.L 0))∧Ext w w':=by
 obtain⟨lv,DV,rfl,hDV,hR⟩:=h;have hlen:DV.length=P.L.length:=by rw[←hDV,List.length_map]
 obtain⟨A,c,rfl⟩:=qQa hR.own;have HX:Hid (qQj (.slice A DV.length c) P.vols=(.slice A DV.length c::(P.vols.map qQK).flatten).toArray):=Hh rfl;generalize hX:qQj (.slice A DV.length c) P.vols=X at HX⊢;clear hX;have hX0:X[0]? = some (.slice A DV.length c):=by rw[HX.out];rfl
 have hl2:DV.length≤1000000:=by omega
 have HDV:=Hh hDV;have HDD:=Hh hR.dks;clear hDV hl hlen
 go_enter func109,ntmps109
 have hB:=At.new w 35 X;have hE:=(Er w).alloc (.cells X 35)
 go_upto_region 1 with fail
 generalize w.heap.size=xb at hB⊢;generalize w.alloc (.cells X 35)=W at hB hE⊢;have c0:=hB.cell 0;rw[hX0]at c0;have hS:=hR.sln.ext hE;clear hB hR hX0;go_wp2_with fail
 clear c0
 go_loopw [10] (fun kv wr=>∃k:Nat,kv=.int .i64 (k:Int)∧k≤DV.length∧qXr m P.L 0=qXr m (P.L.drop k) k∧Sln wr (.slice A DV.length c) 13 (DV.map qZY)∧Ext w wr) (fun kv _=>DV.length - (intOf kv).toNat)
 case atStart=>exact⟨0,rfl,Nat.zero_le _,rfl,hS,hE⟩
 case round =>
  clear hS hE;obtain⟨k,rfl,hk,hpl,hS,hE⟩:=hrel
  by_cases hlt:k<DV.length
  ·obtain⟨⟨b,dv⟩,hb⟩:∃q,DV[k]? = some q:=⟨_,List.getElem?_eq_getElem hlt⟩;have hbL:P.L[k]? = some b:=by rw[←HDV.out,List.getElem?_map,hb];rfl
   rw[drop_some hbL]at hpl;rw[rfName_cons]at hpl;have HPL:=Hh hpl;obtain⟨dA,dc,rfl⟩:∃A c,dv=.slice A b.disks.length c:=qQa (HDD.out _ (List.mem_of_getElem? hb))
   obtain⟨rb,ro,rfl⟩:=qQQ hS (fun e=>by
    have h0:=List.map_eq_nil_iff.1 e;rw[h0]at hb;simp at hb)
   obtain⟨r0,r1,r2,r3,r4,r5,r6,r7,r8,r9,r10,r11,r12⟩:=qQV hS hb;have hYb:=At.new wr 89 (blCells b (.slice dA b.disks.length dc));have hEb:=(Er wr).alloc (.cells (blCells b (.slice dA b.disks.length dc)) 89);clear hpl hbL hb
   go_upto_region 4 with fail
   clear r0 r1 r2 r3 r4 r5 r6 r7 r8 r9 r10 r11 r12;generalize wr.heap.size=yb at hYb⊢;generalize wr.alloc (.cells (blCells b (.slice dA b.disks.length dc)) 89)=W1 at hYb hEb⊢;have d1:=hYb.cell 1;have d12:=hYb.cell 12;simp at d1 d12;have hS1:=hS.ext hEb;have hE1:=hE.trans hEb;clear hYb hS hE hEb
   by_cases hx:liveB m b=true
   ·rw[if_pos hx]at HPL;obtain⟨hx1,hx2⟩:=qZX.1 hx;rw[hx1]at d12;rw[hx2]at d1;clear hx hx1 hx2;go_wp2_with fail
    go_ret
    exact⟨by rw[HPL.out];rfl,hE1⟩
   ·rw[if_neg hx]at HPL;rcases Bool.eq_false_or_eq_true b.dead with hd|hd
    ·rw[hd]at d12;clear hx hd;go_wp2_with fail
     go_roundw
     case rel=>exact⟨k+1,by go_num,by omega,HPL.out,hS1,hE1⟩
     case measure=>simp[intOf];omega
    ·rw[hd]at d12
     have hne:(b.name.toList == m.toList)=false:=by
      rw[beq_eq_false_iff_ne];exact fun e=>hx (qZX.2 ⟨hd,qZS.1 e⟩)
     clear hx hd;go_wp2_with fail
     go_roundw
     case rel=>exact⟨k+1,by go_num,by omega,HPL.out,hS1,hE1⟩
     case measure=>simp[intOf];omega
  ·obtain rfl:k=DV.length:=by omega
   have hd:P.L.drop DV.length=[]:=by rw[←HDV.out];simp
   rw[hd]at hpl;rw[rfName_nil]at hpl;clear hS;go_wp2_with fail
   go_ret
   exact⟨by rw[hpl];rfl,hE⟩
open Go.RowKit Go.Sort
theorem qXS{P:Program}{fn:Func}{p:Tmp}{ty:TypeId}(h:fn.results=#[.cell p ty])(tmps:Array Value){b o:Nat}(ha:tmps.getD p undef=.pointer (some ⟨b,o,none⟩)){v:Value}{w:World}(hl:(loadVar ty ⟨b,o,none⟩).run P w=.ok v w) :
 (results fn tmps).run P w=.ok v w:=by
 unfold results;rw[h];simp at ha;simp[ha,asAddr,hl]
theorem qQs{P:Program}{fn:Func}{p q:Tmp}{ty ty2:TypeId}(h:fn.results=#[.cell p ty,.cell q ty2])(tmps:Array Value){b o b2 o2:Nat}(ha:tmps.getD p undef=.pointer (some ⟨b,o,none⟩))(ha2:tmps.getD q undef=.pointer (some ⟨b2,o2,none⟩)){v v2:Value}{w:World}
 (hl:(loadVar ty ⟨b,o,none⟩).run P w=.ok v w) (hl2:(loadVar ty2 ⟨b2,o2,none⟩).run P w=.ok v2 w):(results fn tmps).run P w=.ok (.tuple #[v,v2]) w:=by
 unfold results;rw[h];simp at ha ha2;simp[ha,ha2,asAddr,hl,hl2]
theorem Ext.setCells{w w':World}(h:Ext w w'){b:Nat}(hb:w.heap.size≤b):∀(vs:List Value) (o:Nat),Ext w (w'.setCells b o vs):=by
 intro vs
 induction vs generalizing w' with
 | nil=>intro o;exact h
 | cons v r ih =>
  intro o;rw[World.setCells];exact ih (Chg.setCell (p:=⟨b,o,none⟩) h (.inr hb) v) (o+1)
theorem qQq{w:World}{b:Nat} : ∀(vs:List Value) (o:Nat),Chg (· = b) w (w.setCells b o vs):=by
 have key:∀(vs:List Value) (o:Nat) (w':World),Chg (· = b) w w'→Chg (· = b) w (w'.setCells b o vs):=by
  intro vs
  induction vs with
  | nil=>intro o w' h;exact h
  | cons v r ih =>
   intro o w' h;rw[World.setCells];exact ih (o+1) _ (Chg.setCell (p:=⟨b,o,none⟩) h (.inl rfl) v)
 exact fun vs o=>key vs o w (Chg.refl _ w)
theorem At.there{w:World}{g:Nat}{t:TypeId}{cs:Array Value}(h:At w g t cs):w.there g 0 cs.size:=fun j hj=>by
 rw[Nat.zero_add];refine⟨?_,h.frozen j⟩
 rw[h.cell j,Array.getElem?_eq_getElem hj];rfl
theorem At.range{w:World}{g:Nat}{t:TypeId}{cs:Array Value}(h:At w g t cs):w.rangeAt g 0 cs.toList:=fun j v hv=>by
 rw[Nat.zero_add,h.cell j];simpa using hv
theorem At.cells_sz{g:Nat}{t:TypeId}{m:Nat} : ∀(vs:List Value) (o:Nat) (w:World),(∃Z:Array Value,At w g t Z∧Z.size=m)→∃Z:Array Value,At (w.setCells g o vs) g t Z∧Z.size=m
 | [],_,_,h=>h
 | v::r,o,w,⟨Z,h,hz⟩=>by
  rw[World.setCells];exact At.cells_sz r (o+1) _ ⟨_,h.set o v,by simpa using hz⟩
theorem At.of_range{w:World}{g:Nat}{t:TypeId}{Z cs:Array Value}(h:At w g t Z)(hz:Z.size=cs.size)(hr:w.rangeAt g 0 cs.toList):At w g t cs:=by
 have e:Z=cs:=by
  apply Array.ext hz
  intro i h1 h2;have h3:=hr i cs[i] (by rw[Array.getElem?_toList];exact Array.getElem?_eq_getElem h2);rw[Nat.zero_add,h.cell i,Array.getElem?_eq_getElem h1]at h3;injection h3
 rw[←e];exact h
theorem results_ct{P:Program}{fn:Func}{p q:Tmp}{ty:TypeId}(h:fn.results=#[.cell p ty,.tmp q])(tmps:Array Value){b o:Nat}(ha:tmps.getD p undef=.pointer (some ⟨b,o,none⟩)){v:Value}{w:World}
 (hl:(loadVar ty ⟨b,o,none⟩).run P w=.ok v w):(results fn tmps).run P w=.ok (.tuple #[v,tmps.getD q undef]) w:=by
 unfold results;rw[h];simp at ha;simp[ha,asAddr,hl]
theorem At.cells_all{w:World}{g:Nat}{t:TypeId}{Z cs:Array Value}(h:At w g t Z)(hz:Z.size=cs.size):At (w.setCells g 0 cs.toList) g t cs:=by
 obtain⟨Z',h1,h2⟩:=At.cells_sz (m:=Z.size) cs.toList 0 w ⟨Z,h,rfl⟩;exact At.of_range h1 (by rw[h2,hz]) (World.rangeAt_setCells_same w g 0 _ (by rw[Array.length_toList,←hz];exact h.there))
theorem Chg.setCells{S:Nat→Prop}{w w':World}(h:Chg S w w'){b:Nat}(hb:S b):∀(vs:List Value) (o:Nat),Chg S w (w'.setCells b o vs):=by
 intro vs
 induction vs generalizing w' with
 | nil=>intro o;exact h
 | cons v r ih =>
  intro o;rw[World.setCells];exact ih (Chg.setCell (p:=⟨b,o,none⟩) h (.inl hb) v) (o+1)
section
variable{P:Program}{a:Act}{w:World}{o:Oper}
theorem qQi{ty:TypeId}{x:Operand}(ho:o.op=.load ty x){b off:Nat}(hx:a.eval x=.pointer (some ⟨b,off,none⟩)){cs:List Value}{d:TypeDesc}(hc:w.rangeAt b off cs)(hu:P.underlying ty=some d)(hd:d.isRow=true)(hi:(P.info? ty).map (·.size)=some cs.length) :
 (execOp a.eval o).run P w=.ok (.value (.agg cs.toArray)) w:=by
 unfold execOp;simp only[ho,hx,Instr.loadAt,Instr.sureAddr,Sem.run_bind,Sem.run_pure,Result.andThen_ok,run_loadVar_mid w b off ty cs d hc hu hd hi]
theorem qQr{ty:TypeId}{x y:Operand}(ho:o.op=.store ty x y){b off:Nat}{cells:Array Value}(hx:a.eval x=.pointer (some ⟨b,off,none⟩))(hy:a.eval y=.agg cells)(ht:w.there b off cells.size)(hi:(P.info? ty).map (·.size)=some cells.size)(h1:cells.all (·.oneCell')=true) :
 (execOp a.eval o).run P w=.ok .skip (w.setCells b off cells.toList):=by
 unfold execOp;simp only[ho,hx,hy,Instr.storeAt,Instr.sureAddr,Sem.run_bind,Sem.run_pure,Result.andThen_ok,run_storeVar_mid w b off ty cells ht hi h1]
end
section
variable{P:Program}{ops:Array Oper}{Q:Exit→Act→World→Prop}{a0:Act}{sp:List Sg}{G:(Nat→Value)→(Nat→Bool)→World→Prop}{j:Nat}{o:Oper}
theorem wanted_of{a:Act}{on t:Nat}{b b':Bool}(hg:o.guard=some (on,b))(ht:qQH ops on=some t)(hv:a.tmps.getD t undef=.bool b'):Region.wanted o (yielded ops a.tmps)=(b' == b):=by
 unfold Region.wanted;rw[hg];simp only;unfold qQH at ht
 have h1:a.tmps[t]? = some (.bool b'):=by
  rw[Array.getD_eq_getD_getElem?]at hv;cases h2:a.tmps[t]? with
  | none=>rw[h2]at hv;cases hv
  | some u=>rw[h2]at hv;exact congrArg some hv
 unfold yielded;rw[ht];simp only[Option.bind_some,h1];cases b <;> cases b' <;> rfl
theorem wpOp_value_on{a:Act}{w w':World}{x:Value}{K:Act→World→Prop}(ho:ops[j]? = some o)(hw:Region.wanted o (yielded ops a.tmps)=true)(h:(execOp a.eval o).run P w=.ok (.value x) w')(hK:K (a.put (qQH ops j) x) w'):wpOp P ops Q j K a w:=by
 unfold wpOp;rw[ho];simp only[hw,if_true];refine .inl ?_;unfold Oper.wp;rw[h]
 have:qQH ops j=o.dst:=by unfold qQH;rw[ho];rfl
 rw[this]at hK;exact hK
theorem wpOp_calls_on{a:Act}{w w':World}{f:FuncId}{args:Array Value}{K:Act→World→Prop}(ho:ops[j]? = some o)(hw:Region.wanted o (yielded ops a.tmps)=true)(h:(execOp a.eval o).run P w=.ok (.enter f args) w')
 (hK:Calls P f args w' fun e w''=>∃x,e=.returned x∧K (a.put (qQH ops j) x) w''):wpOp P ops Q j K a w:=by
 unfold wpOp;rw[ho];simp only[hw,if_true];refine .inl ?_;unfold Oper.wp;rw[h];have hd:qQH ops j=o.dst:=by unfold qQH;rw[ho];rfl
 rw[hd]at hK;refine Calls.mono hK ?_;rintro e w'' ⟨x,rfl,hx⟩;exact hx
theorem StIn.guard{γ : Nat→Value}{L:Nat→Bool}{v:Nat→Value}{a:Act}{w:World}(st:StIn ops a0 sp G j γ L v a w){on t:Nat}{b b':Bool}(hg:o.guard=some (on,b))(hn:qZ1 ops j on=true)(ht:qQH ops on=some t)(hv:sp.getD on .any=.val (.bool b')):Region.wanted o (yielded ops a.tmps)=(b' == b):=by
 refine wanted_of hg ht ?_;rw[st.val on t ht hn]
 have:=st.φ on hn
 unfold sgφ at this;rw[hv]at this;exact this
theorem qQL{x:Value}{on t:Nat}{b:Bool}(ho:ops[j]? = some o)(hg:o.guard=some (on,b))(hn:qZ1 ops j on=true)(ht:qQH ops on=some t)(hgv:sp.getD on .any=.val (.bool b))(hs:sp.getD j .any=.val x)(hG:∀γ L w,G γ L w→L j=false→G γ (fun i=>i == j||L i) w)
 (h:∀γ L v a w,StIn ops a0 sp G j γ L v a w→(execOp a.eval o).run P w=.ok (.value x) w):qXb P ops Q a0 (sgφ sp) G j:=by
 intro γ L v a w hdown hLj hneed hGw hφ hval h0;have st:=StIn.mk' hdown hLj hneed hGw hφ hval h0;refine wpOp_value_on ho (by rw[st.guard hg hn ht hgv];cases b <;> rfl) (h γ L v a w st) ⟨x, γ,rfl,?_,fun d _ _ hh=>hh,hG γ L w hGw hLj⟩;unfold sgφ;rw[hs]
theorem sg_callv_on{x:Value}{f:FuncId}{on t:Nat}{b:Bool}(ho:ops[j]? = some o)(hg:o.guard=some (on,b))(hn:qZ1 ops j on=true)(ht:qQH ops on=some t)(hgv:sp.getD on .any=.val (.bool b))(hs:sp.getD j .any=.val x)
 (h:∀γ L v a w,StIn ops a0 sp G j γ L v a w→∃args,(execOp a.eval o).run P w=.ok (.enter f args) w∧Calls P f args w fun r w'=>r=.returned x∧G γ (fun i=>i == j||L i) w'):qXb P ops Q a0 (sgφ sp) G j:=by
 intro γ L v a w hdown hLj hneed hGw hφ hval h0;have st:=StIn.mk' hdown hLj hneed hGw hφ hval h0;obtain⟨args,hrun,hcall⟩:=h γ L v a w st;refine wpOp_calls_on ho (by rw[st.guard hg hn ht hgv];cases b <;> rfl) hrun (hcall.mono ?_);rintro r w' ⟨rfl,hG'⟩;refine⟨x,rfl,x, γ,rfl,?_,fun d _ _ hh=>hh,hG'⟩
 unfold sgφ;rw[hs]
end
theorem qQm{Pr:Program}{ops:Array Oper}{rest:List Oper}{op:Oper}{a:Act}{w:World}{Q:Exit→Act→World→Prop}(hw:Region.wanted op (yielded ops a.tmps)=true)(ty:TypeId)(x:Operand)(ho:op.op=.load ty x)
 (b o:Nat) (hx:a.eval x=.pointer (some ⟨b,o,none⟩)) (cs:List Value) (d:TypeDesc) (hc:w.rangeAt b o cs)
 (hu:Pr.underlying ty=some d) (hd:d.isRow=true) (hi:(Pr.info? ty).map (·.size)=some cs.length)
 (h:wpList Pr ops Q rest (a.put op.dst (.agg cs.toArray)) w):wpList Pr ops Q (op::rest) a w :=
 BigFrame.wpList_want hw fun _ hK=>wp_load_mid ty x ho b o hx cs d hc hu hd hi (hK _ _ h)
end Go.Proofs.YtiojjokfeknhcaaGreat
