/-
  Part 6 of what the law leans on.
-/
import Derived.Test.YtimjipcplmnpbaaGreatS1
import Derived.Test.YtimjipcplmnpbaaGreatS2
import Derived.Test.YtimjipcplmnpbaaGreatS3
import Derived.Test.YtimjipcplmnpbaaGreatS4
import Derived.Test.YtimjipcplmnpbaaGreatS5
import Derived.Test.YtimjipcplmnpbaaGreatChecked
import Derived.BigQuiet
import Derived.WalkSpells
import Derived.WalkLawsBesides
import Derived.ProofKit
import Derived.OpenShut
import Derived.SliceStrings
import Derived.Deep.Slices
import Derived.SizedLaws
import Derived.Deep.LoopGhost
import Derived.Laws.BitsAllLaws
import Derived.Laws.AppendOwn
import Derived.Deep.RegionLaw
import Derived.Lib.AppendStr
import Derived.Laws.IdiomStrings
import Derived.Laws.BytesArg
import Derived.Deep.MidRow
namespace Go.Proofs.YtimjipcplmnpbaaGreat
set_option maxRecDepth 100000
set_option maxHeartbeats 8000000
set_option linter.unusedVariables false
set_option linter.unusedSimpArgs false
set_option linter.unusedSectionVars false
open _root_.Go.Proofs.Tryz
open Go.RowKit Go.Sort
theorem idsOf_asc{L:List Bl}(h:L.Pairwise fun a b=>a.id<b.id):(L.map fun b=>(b.id:Int)).Pairwise (· < ·):=List.pairwise_map.2 (h.imp fun h=>by omega)
theorem Rep.ids{C:Ct}{P:Pm}{n:Nat}(h:Rep C P)(hi:PInv n P):(P.L.map fun b=>(b.id:Int)).Perm (C.idx.map (·.1)):=by
 have:=((h.perm hi).map fun b:Bl=>(b.id:Int)).symm
 unfold Ct.idx;rw[List.map_map]at this⊢;exact this
theorem own_own_ne{w:World}{b1 b2:Nat}{e1 e2:TypeId}{s1 s2:Nat}{v1 v2:Value}{n1 n2:Nat}{x1 x2:List Value}(h1:w.ownsRow b1 e1 s1 v1 n1 x1)(h2:w.ownsRow b2 e2 s2 v2 n2 x2)(hne:e1≠e2):∀k,some k=v1.ownBlock→¬ some k=v2.ownBlock:=by
 intro k hk hk2;rcases h2.2 with⟨rfl,_⟩|⟨g,cap,cur,rfl,_,hg,_⟩
 ·cases hk2
 ·have e:k=g:=by injection hk2
  subst e;have hA:At w k e2 cur:=hg;exact qQb h1 hA hne k hk rfl
def qZ5(p:Bl×Value):List Value:=(blCells p.1 p.2).toList
theorem bl_info:(prog.info? 108).map (fun i=>(i.zero,i.size,i.bytes))=some (some (.agg blZero),13,128):=by kernel_rfl
def BlobsIn(w:World)(v:Value)(L:List Bl):Prop:=∃DV:List (Bl×Value),DV.map (·.1)=L∧w.ownsRow 0 108 13 v L.length ((DV.map qZ5).flatten)∧∀p∈DV,w.ownsRow 0 3 1 p.2 p.1.disks.length (p.1.disks.map (Value.int .i64))
theorem blobs_any(w:World)(B:Nat→Prop)(c mb mn:Nat)(C:Ct)(P:Pm)(n:Nat)(h:CtAt w B c mb mn C)(hR:Rep C P)(hi:PInv n P)(hn:n<50) :
 Calls prog 29 #[.pointer (some ⟨c,0,none⟩)] w fun e w'=>∃v,e=.returned v∧BlobsIn w' v P.L∧Ext w w':=by
 obtain⟨c0,c1⟩:=h.c0;have hlen:=h.bm.len (P:=prog) qZX
 have hil:C.idx.length=P.L.length:=by
  have:=(hR.ids hi).length_eq
  simpa using this.symm
 rw[hil]at hlen;have hpl:P.L.length<50:=by have:=hi.len;omega
 obtain⟨i0,hi0,hz0,hz1,hz2⟩:=info_parts bl_info
 have hmk:(Instr.makeSlice 73 (.int .i64 0) (.int .i64 (P.L.length:Int))).run prog w=.ok (.slice (some ⟨w.heap.size,0,none⟩) 0 P.L.length) (w.alloc (.cells (madeCells (Value.agg blZero).cells (P.L.length * 13)) 108)):=by
  have:=run_make (P:=prog) w 73 108 i0 (.agg blZero) underlying73 hi0 hz0 .i64 .i64 0 (P.L.length:Int) (by omega) (by omega) (by rw[hz2];omega) (by omega)
  rw[hz1]at this;exact this
 clear i0 hi0 hz0 hz1 hz2;have hOW:(w.alloc (.cells (madeCells (Value.agg blZero).cells (P.L.length * 13)) 108)).ownsRow w.heap.size 108 13 (.slice (some ⟨w.heap.size,0,none⟩) 0 P.L.length) 0 []:=World.ownsRow_made w _ _ (Nat.le_refl _) (by unfold maxLen;omega) (by rw[size_madeCells]);have hE0:=(Er w).alloc (.cells (madeCells (Value.agg blZero).cells (P.L.length * 13)) 108);generalize w.alloc (.cells (madeCells (Value.agg blZero).cells (P.L.length * 13)) 108)=W0 at *;have HID:=Hh (ids_any W0 B c mb mn C (h.ext hE0) (P.L.map fun b=>(b.id:Int)) (idsOf_asc hi.asc) (hR.ids hi) (by simpa using hpl));rw[List.length_map]at HID;have HPL:=Hh hpl;have HI:=Hh (show _∧_ from⟨hR,hi⟩);clear hil hpl hR hi
 go_enter func29,ntmps29
 go_wp2_with fail
 refine HID.out.mono ?_;rintro e W1 ⟨iv,rfl,hOI,hE1⟩;have hO1:=own_kx hOW hE1;have hE01:=hE0.trans hE1;obtain⟨iA,ic,rfl⟩:=qQc hOI;clear HID hmk hlen hOW hE0 hE1;go_wp2_with fail
 go_loopw [3,15] (fun ov kv wr=>∃(k:Nat) (DV:List (Bl×Value)),k≤P.L.length∧kv=.int .i64 (k:Int)∧DV.map (·.1)=P.L.take k∧wr.ownsRow w.heap.size 108 13 ov k ((DV.map qZ5).flatten) ∧
  Hid (∀p∈DV,wr.ownsRow 0 3 1 p.2 p.1.disks.length (p.1.disks.map (Value.int .i64)))∧wr.ownsRow W0.heap.size 29 1 (.slice iA P.L.length ic) P.L.length ((P.L.map fun b=>(b.id:Int)).map (Value.int .u64))∧Ext w wr) (fun _ kv _=>P.L.length - (intOf kv).toNat)
 case atStart=>exact⟨0,[],Nat.zero_le _,rfl,rfl,hO1,Hh (fun p hp=>by cases hp),hOI,hE01⟩
 case round =>
  obtain⟨k,DV,hk,rfl,hDV,hO,HDK,hIk,hEw⟩:=hrel;have HDV:=Hh hDV;clear hDV hO1 hOI hE01
  by_cases hlt:k<P.L.length
  ·obtain⟨b,hb⟩:∃b,P.L[k]? = some b:=⟨_,List.getElem?_eq_getElem hlt⟩;obtain⟨hR,hi⟩:=HI.out;have hbm:=List.mem_of_getElem? hb;obtain⟨r,hr,hrb,hf⟩:=row_of hR hi hbm;have hCk:=h.ext hEw;have hlk:=hCk.look b.id;rw[hf]at hlk;simp only[ptrO]at hlk;obtain⟨c0,c1⟩:=hCk.c0
   have hdl:r.b.disks.length≤17592186043904:=by
    rw[hrb]
    have:=qQ8 (hi.bl b hbm).rises
    omega
   have HOWN:=Hh (own_any wr r.g r.b r.dv (hCk.bl r hr).1 (hCk.bl r hr).2 hdl);rw[hrb]at HOWN
   have hic:∃ib,iA=some ⟨ib,0,none⟩:=by
    rcases hIk.2 with⟨e,h0⟩|⟨g,cap,cur,e,_⟩
    ·omega
    ·injection e with e1 _ _;exact⟨g,e1⟩
   obtain⟨ib,rfl⟩:=hic;have i1:=hIk.cellAt k (by omega);rw[List.getElem?_map,List.getElem?_map,hb]at i1;simp only[Option.map_some]at i1;have HB:=Hh hb;obtain⟨oA,oc,rfl⟩:=qQc hO;clear hR hi hbm hf hr hrb hdl hb c1;go_wp2_with fail
   refine HOWN.out.mono ?_;rintro e W4 ⟨dv',rfl,hOd,hE2⟩;obtain⟨dA,dc,rfl⟩:=qQc hOd;have hO3:=own_kx hO hE2;have hE3:=hEw.trans hE2;have hsz3:=hE3.size;have hI3:=own_kx hIk hE2
   have HD3:Hid (∀p∈DV++[(b,.slice dA b.disks.length dc)],W4.ownsRow 0 3 1 p.2 p.1.disks.length (p.1.disks.map (Value.int .i64))):=Hh (fun p hp=>by
    rcases List.mem_append.1 hp with hp|hp
    ·exact own_kx (HDK.out p hp) hE2
    ·rw[List.mem_singleton]at hp;subst hp;exact hOd)
   clear HOWN hO hEw hE2 hOd HDK hCk hlk i1 c0 hIk
   go_wp2_with (at_builtin;refine qQn _ hO3 73 underlying73 bl_info rfl rfl (by decide) (by decide) rfl (by have:=HPL.out;omega) hsz3 rfl _ _ rfl rfl rfl ?_)
   intro v1 w4 hO4 hC4;have hE4:Ext w w4:=Chg.own_ext hE3 hC4 hO3 (Nat.le_refl _);have hI4:=qQa hI3 hC4 (own_own_ne hI3 hO3 (by decide));have HD4:Hid (∀p∈DV++[(b,.slice dA b.disks.length dc)],w4.ownsRow 0 3 1 p.2 p.1.disks.length (p.1.disks.map (Value.int .i64))):=Hh (fun p hp=>qQa (HD3.out p hp) hC4 (own_own_ne (HD3.out p hp) hO3 (by decide)))
   have HDV4:Hid ((DV++[((b,Value.slice dA b.disks.length dc):Bl×Value)]).map (fun p:Bl×Value=>p.1)=P.L.take (k+1)):=Hh (by
    rw[List.map_append,HDV.out,List.take_add_one,HB.out];rfl)
   clear hC4 hE3 hI3 HD3 hO3 HDV;have hk50:k<50:=by have:=HPL.out;omega
   obtain⟨vA,vc,rfl⟩:=qQc hO4;go_wp2_with fail
   go_roundw
   case rel=>exact⟨k+1,DV++[(b,.slice dA b.disks.length dc)],by omega,by go_num,HDV4.out,by rw[List.map_append,List.flatten_append];simpa[qZ5]using hO4,HD4,hI4,hE4⟩
   case measure=>simp[intOf];omega
  ·obtain rfl:k=P.L.length:=by omega
   clear c0 c1;obtain⟨oA,oc,rfl⟩:=qQc hO;have HF:Hid (BlobsIn wr (.slice oA P.L.length oc) P.L):=Hh ⟨DV,by rw[HDV.out,List.take_of_length_le (Nat.le_refl _)],qQR hO,HDK.out⟩;clear hO HDK HDV;go_wp2_with fail
   go_ret
   exact⟨_,rfl,HF.out,hEw⟩
open Go.RowKit Go.Sort
def qZz(w:World)(B:Nat→Prop)(c mb mn:Nat)(P:Pm):Prop:=∃C,CtAt w B c mb mn C∧Rep C P
structure Kp (B:Nat→Prop) (w w':World):Prop where
 chg:Chg (fun k=>B k) w w'
 at_:∀g t cs,t≠100→t≠108→At w g t cs→At w' g t cs
section
variable{w w' w'':World}{B:Nat→Prop}{c mb mn:Nat}{P:Pm}
theorem Kp.of_S{C:Ct}(h:CtAt w B c mb mn C)(hC:Chg (C.S c mb mn) w w'):Kp B w w' :=
 ⟨hC.mono (fun k _ e=>S_lo h k e),fun _ _ _ h1 h2 hA=>hA.chg hC (S_not h hA h1.symm h2.symm)⟩
theorem qZz.ext(h:qZz w B c mb mn P)(he:Ext w w'):qZz w' B c mb mn P:=by
 obtain⟨C,h1,h2⟩:=h;exact⟨C,h1.ext he,h2⟩
theorem cnew_any(w:World):Calls prog 27 #[] w fun e w'=>∃c mb mn,e=.returned (.pointer (some ⟨c,0,none⟩))∧qZz w' (Hi w.heap.size) c mb mn Pm.empty∧Ext w w':=by
 refine(new_any w).mono ?_
 rintro e w' ⟨c,mb,mn,rfl,h1,h2⟩;exact⟨c,mb,mn,rfl,⟨_,h1,Rep.empty⟩,h2⟩
def Came(B:Nat→Prop)(c mb mn:Nat)(R:Pm×Rs)(w:World)(e:Ending)(w':World):Prop :=
 ∃A cp,e=.returned (qZB R.2.err R.2.blob R.2.size R.2.sum (.slice A R.2.names.length cp))∧w'.ownsRow 0 9 1 (.slice A R.2.names.length cp) R.2.names.length (R.2.names.map Value.string)∧qZz w' B c mb mn R.1∧Kp B w w'
theorem cblobs_any{n:Nat}(h:qZz w B c mb mn P)(hi:PInv n P)(hn:n<50) :
 Calls prog 29 #[.pointer (some ⟨c,0,none⟩)] w fun e w'=>∃A cp,e=.returned (.slice A P.L.length cp)∧BlobsIn w' (.slice A P.L.length cp) P.L∧Ext w w':=by
 obtain⟨C,hC,hR⟩:=h;refine(blobs_any w B c mb mn C P n hC hR hi hn).mono ?_
 rintro e w' ⟨v,rfl,hB,hE⟩;obtain⟨DV,h1,h2,h3⟩:=hB;obtain⟨A,cp,rfl⟩:=qQc h2;exact⟨A,cp,rfl,⟨DV,h1,h2,h3⟩,hE⟩
theorem cblob_some{n:Nat}(h:qZz w B c mb mn P)(hi:PInv n P)(id:Nat){b:Bl}(hb:P.find id=some b) :
 Calls prog 92 #[.pointer (some ⟨c,0,none⟩),.int .u64 (id:Int)] w fun e w'=>∃A cp,e=.returned (.tuple #[.agg (blCells b (.slice A b.disks.length cp)),.bool true])∧w'.ownsRow 0 3 1 (.slice A b.disks.length cp) b.disks.length (b.disks.map (Value.int .i64))∧Ext w w':=by
 obtain⟨C,hC,hR⟩:=h;have hf:=hR.find hi id;rw[hb]at hf;cases hc:C.find id with
 | none=>rw[hc]at hf;cases hf
 | some r =>
  rw[hc]at hf;injection hf with hf;subst hf;have hm:=(qZr hi.asc).1 hb;have hl:=qQ8 (hi.bl r.b hm.1).rises;refine(blob_some w B c mb mn C hC id hc (by omega)).mono ?_
  rintro e w' ⟨dv',rfl,hO,hE⟩;obtain⟨A,cp,rfl⟩:=qQc hO;exact⟨A,cp,rfl,hO,hE⟩
end
open Go.RowKit
def cut(s:ByteArray)(n:Nat):ByteArray:=if n<s.size then s.extract 0 n else s
theorem cut_size(s:ByteArray)(n:Nat):(cut s n).size≤n:=by
 unfold cut;split
 ·simp only[ByteArray.size_extract];omega
 ·omega
theorem cut_any(s:ByteArray)(n:Nat)(w:World)(_hs:s.size≤maxLen)(hn:n≤1000000):Calls prog 22 #[.string s,.int .i64 n] w fun e w'=>e=.returned (.string (cut s n))∧w'=w:=by
 unfold maxLen at _hs
 by_cases h:n<s.size
 ·have e:cut s n=s.extract 0 n:=if_pos h
  go_enter func22,ntmps22
  go_wp2_with fail
  go_ret
  rw[e];exact⟨rfl,rfl⟩
 ·have e:cut s n=s:=if_neg h
  go_enter func22,ntmps22
  go_wp2_with fail
  go_ret
  rw[e];exact⟨rfl,rfl⟩
open Go.ChangeShapes Go.WideShapes Go.ChangeAt Go.RowKit
def SlC(w:World)(v:Value)(xs:List Value):Prop:=Sl w v xs∧∃A c,v=.slice A xs.length c∧xs.length≤c∧c≤maxLen
section
variable{H:Type}{enc:TypeId×Value→H}{P:Program}{W:World}
end
open Go.ChangeShapes Go.WideShapes Go.ChangeAt Go.RowKit
theorem i64s_of_trod{H:Type}{enc:TypeId×Value→H}{P:Program}{W:World}{k:Nat}{t e:TypeId}{v:Value}{y:DataW H×List MemPlace}(ht:P.underlying t=some (.slice e))(he:P.underlying e=some (.int .i64))(hc:P.cellsOf e=1)
 (h:DataW.trod enc P W 0 (fun _=>true) true k t [v]=some y) :
 ∃zs:List Int,SlC W v (zs.map (Value.int .i64))∧(∀x∈zs, -9223372036854775808≤x∧x≤9223372036854775807)∧zs.length≤maxLen∧((∀n∈y.1.weights P t,n≤reachBytes)→zs.length * P.bytesOf e≤reachBytes):=by
 rcases open_ints ht he hc h with⟨hcs,_⟩|⟨a,len,cap,zs,hcs,_,hl,hm,hz,hxy,hcell,hwz⟩
 ·simp only[List.cons.injEq,and_true]at hcs;rw[hcs];exact⟨[],⟨Sl.nil _ _,_,_,rfl,Nat.le_refl _,Nat.zero_le _⟩,by simp,Nat.zero_le _,fun _=>by simp⟩
 ·simp only[List.cons.injEq,and_true]at hcs;rw[hcs];simp only[if_true]at hz;have hll:(zs.take len).length=len:=by rw[List.length_take];omega
  refine⟨zs.take len,⟨⟨some a,cap,by rw[List.length_map,hll],fun hne=>?_⟩,some a,cap,by rw[List.length_map,hll],by rw[List.length_map,hll];omega,by omega⟩,fun x hx=>bounds_i64 (hwz x (List.mem_of_mem_take hx)),by omega,fun hw=>?_⟩
  rotate_left
  ·have h1:=hw ((lits .i64 (zs.take len) (H:=H)).length * P.bytesOf e+(lits .i64 (zs.drop len) (H:=H)).length * P.bytesOf e) (by rw[hxy];simp[DataW.weights,ht,Nat.add_mul]);have h2:(zs.take len).length * P.bytesOf e≤(lits .i64 (zs.take len) (H:=H)).length * P.bytesOf e:=by simp[lits]
   omega
  have hpos:0<zs.length:=by
   rcases Nat.eq_zero_or_pos zs.length with h0|h0
   ·exact absurd (by rw[List.eq_nil_of_length_eq_zero h0];simp) hne
   ·exact h0
  obtain⟨b,off,rfl,hat⟩:=ints_at hcell hpos;refine⟨b,off,rfl,fun i x hi=>?_⟩
  rw[List.getElem?_map,List.getElem?_take]at hi
  split at hi
  ·rename_i hlt
   have:=hat i (by omega)
   rw[this]
   have hg:zs[i]? = some (zs.getD i 0):=by
    rw[List.getD_eq_getElem?_getD,List.getElem?_eq_getElem (by omega)];rfl
   rw[hg]at hi;simpa using hi
  ·simp at hi
def Cmd.cells(c:Cmd)(dv:Value):List Value:=[.int .i64 c.kind,.int .i64 c.client,.int .i64 c.seq,.string c.name,.int .u64 (c.blob:Int),.int .i64 c.size,.int .u32 (c.sum:Int),dv,.int .i64 c.pool,.int .i64 c.vol,.int .i64 c.at_]
structure Cmd.In (c:Cmd) (dv:Value) (W:World):Prop where
 wf:c.Wf
 sl:SlC W dv (c.disks.map (Value.int .i64))
 nm:c.name.size≤maxLen
 dl:c.disks.length≤maxLen
theorem one_cmd{H:Type}{enc:TypeId×Value→H}{W:World}{n:Nat}{cs:List Value}{x:DataW H×List MemPlace}
 (h:DataW.trod enc prog W 0 (fun _=>true) true n 32 cs=some x):∃(c:Cmd) (dv:Value),cs=c.cells dv∧c.In dv W∧((∀n∈x.1.weights prog 32,n≤reachBytes)→c.disks.length≤17592186043904):=by
 obtain⟨xs,k,_,hx,hl,hxl,hf⟩:=DataW.trod_struct underlying32 h;rw[show prog.cellsOf 32=11 by kernel_rfl]at hl
 match cs,hl with
 | [v0,v1,v2,v3,v4,v5,v6,v7,v8,v9,v10],_ =>
  have get:∀i:Nat,i<11→∃y,xs[i]? = some y:=fun i hi=>⟨xs[i]'(by rw[hxl];exact hi),List.getElem?_eq_getElem _⟩
  obtain⟨y0,g0⟩:=get 0 (by omega);obtain⟨y1,g1⟩:=get 1 (by omega);obtain⟨y2,g2⟩:=get 2 (by omega);obtain⟨y3,g3⟩:=get 3 (by omega);obtain⟨y4,g4⟩:=get 4 (by omega);obtain⟨y5,g5⟩:=get 5 (by omega);obtain⟨y6,g6⟩:=get 6 (by omega);obtain⟨y7,g7⟩:=get 7 (by omega);obtain⟨y8,g8⟩:=get 8 (by omega);obtain⟨y9,g9⟩:=get 9 (by omega);obtain⟨y10,g10⟩:=get 10 (by omega);generalize hfs:(#[_,_,_,_,_,_,_,_,_,_,_]:Array Field)=fs at hf hxl
  have key:∀(i t o:Nat),(∃f,fs[i]? = some f∧f.type=t∧f.offset=o)→prog.cellsOf t=1→DataW.trod enc prog W 0 (fun _=>true) true k t (([v0,v1,v2,v3,v4,v5,v6,v7,v8,v9,v10].drop o).take 1)=xs[i]? := by
   rintro i t o ⟨f,hi,rfl,rfl⟩ hc;rw[←hc];exact hf i f hi
  subst hfs;have f0:DataW.trod enc prog W 0 (fun _=>true) true k 3 [v0]=some y0:=(key 0 3 0 ⟨_,rfl,rfl,rfl⟩ (by kernel_rfl)).trans g0;have f1:DataW.trod enc prog W 0 (fun _=>true) true k 3 [v1]=some y1:=(key 1 3 1 ⟨_,rfl,rfl,rfl⟩ (by kernel_rfl)).trans g1;have f2:DataW.trod enc prog W 0 (fun _=>true) true k 3 [v2]=some y2:=(key 2 3 2 ⟨_,rfl,rfl,rfl⟩ (by kernel_rfl)).trans g2;have f3:DataW.trod enc prog W 0 (fun _=>true) true k 9 [v3]=some y3:=(key 3 9 3 ⟨_,rfl,rfl,rfl⟩ (by kernel_rfl)).trans g3;have f4:DataW.trod enc prog W 0 (fun _=>true) true k 29 [v4]=some y4:=(key 4 29 4 ⟨_,rfl,rfl,rfl⟩ (by kernel_rfl)).trans g4;have f5:DataW.trod enc prog W 0 (fun _=>true) true k 3 [v5]=some y5:=(key 5 3 5 ⟨_,rfl,rfl,rfl⟩ (by kernel_rfl)).trans g5;have f6:DataW.trod enc prog W 0 (fun _=>true) true k 30 [v6]=some y6:=(key 6 30 6 ⟨_,rfl,rfl,rfl⟩ (by kernel_rfl)).trans g6;have f7:DataW.trod enc prog W 0 (fun _=>true) true k 27 [v7]=some y7:=(key 7 27 7 ⟨_,rfl,rfl,rfl⟩ (by kernel_rfl)).trans g7;have f8:DataW.trod enc prog W 0 (fun _=>true) true k 3 [v8]=some y8:=(key 8 3 8 ⟨_,rfl,rfl,rfl⟩ (by kernel_rfl)).trans g8;have f9:DataW.trod enc prog W 0 (fun _=>true) true k 3 [v9]=some y9:=(key 9 3 9 ⟨_,rfl,rfl,rfl⟩ (by kernel_rfl)).trans g9;have f10:DataW.trod enc prog W 0 (fun _=>true) true k 3 [v10]=some y10:=(key 10 3 10 ⟨_,rfl,rfl,rfl⟩ (by kernel_rfl)).trans g10;obtain⟨a0,e0,_,w0⟩:=DataW.trod_int underlying3 f0;obtain⟨a1,e1,_,w1⟩:=DataW.trod_int underlying3 f1;obtain⟨a2,e2,_,w2⟩:=DataW.trod_int underlying3 f2;obtain⟨a3,e3,_,w3⟩:=DataW.trod_string underlying9 f3;obtain⟨a4,e4,_,w4⟩:=DataW.trod_int underlying29 f4;obtain⟨a5,e5,_,w5⟩:=DataW.trod_int underlying3 f5;obtain⟨a6,e6,_,w6⟩:=DataW.trod_int underlying30 f6;obtain⟨zs,hz1,hz2,hz3,hz4⟩:=i64s_of_trod underlying27 underlying3 (by kernel_rfl) f7;obtain⟨a8,e8,_,w8⟩:=DataW.trod_int underlying3 f8;obtain⟨a9,e9,_,w9⟩:=DataW.trod_int underlying3 f9;obtain⟨a10,e10,_,w10⟩:=DataW.trod_int underlying3 f10;simp only[List.cons.injEq,and_true]at e0 e1 e2 e3 e4 e5 e6 e8 e9 e10;subst e0 e1 e2 e3 e4 e5 e6 e8 e9 e10;have b4:=bounds_u64 w4;have b6:=bounds_u32 w6;obtain⟨n4,rfl⟩:=Int.eq_ofNat_of_zero_le b4.1;obtain⟨n6,rfl⟩:=Int.eq_ofNat_of_zero_le b6.1;refine⟨⟨a0,a1,a2,a3,n4,a5,n6,zs,a8,a9,a10⟩,v7,rfl,⟨⟨bounds_i64 w0,bounds_i64 w1,bounds_i64 w2,by simp only;omega,bounds_i64 w5,by simp only;omega,bounds_i64 w8,bounds_i64 w9,bounds_i64 w10,hz2⟩,hz1,w3,hz3⟩,fun hw=>?_⟩
  have h8:prog.bytesOf 3=8:=by kernel_rfl
  have h9:=hz4 fun n hn=>hw n (by
   rw[hx];simp only[DataW.weights,underlying32];exact DataW.weights_mem_each (j:=7) (t:=27) (d:=y7.1) rfl (by rw[List.getElem?_map,g7];rfl) n hn)
  rw[h8]at h9;simp only[reachBytes]at h9;simp only;omega
open Go.ChangeShapes Go.WideShapes Go.ChangeAt Go.RowKit
abbrev CRow:=Cmd×Value
def crow(x:CRow):List Value:=x.1.cells x.2
structure CmdsIn (W:World) (l:List CRow) (v:Value):Prop where
 ops:Sln W v 11 (l.map crow)
 cap:∃A c,v=.slice A l.length c∧l.length≤c∧c≤maxLen
 row:∀x∈l,x.1.In x.2 W
 len:l.length≤maxLen
open Go.RowKit Go.Sort
theorem Cmd.In.ext{x:Cmd}{dv:Value}{w w':World}(h:x.In dv w)(he:Ext w w'):x.In dv w':=by
 obtain⟨h1,⟨h2,h3⟩,h4,h5⟩:=h;exact⟨h1,⟨h2.ext he,h3⟩,h4,h5⟩
theorem qQW{w:World}{A:Option Addr}{n c k:Nat}{l:List (List Value)}(h:Sln w (.slice A n c) k l)(hl:l≠[]):∃b o,A=some ⟨b,o,none⟩:=by
 obtain⟨A',c',hv,hx⟩:=h;simp only[Value.slice.injEq]at hv;obtain⟨b,o,rfl,_⟩:=hx hl;exact⟨b,o,hv.1⟩
theorem sln_get{w:World}{b o n c size:Nat}{xs:List (List Value)}(h:Sln w (.slice (some ⟨b,o,none⟩) n c) size xs){i:Nat}{row:List Value}(hi:xs[i]? = some row):∀j u,row[j]? = some u→w.cell? ⟨b,o+i * size+j,none⟩=some u:=by
 obtain⟨A,c',hv,hx⟩:=h;have hne:xs≠[]:=fun e=>by subst e;simp at hi
 obtain⟨b',o',rfl,hc⟩:=hx hne;simp only[Value.slice.injEq,Option.some.injEq,Addr.mk.injEq,and_true]at hv;obtain⟨⟨rfl,rfl⟩,_,_⟩:=hv;exact hc i _ hi
theorem crow_cells{w:World}{b o n c:Nat}{l:List CRow}(h:Sln w (.slice (some ⟨b,o,none⟩) n c) 11 (l.map crow)){i:Nat}{x:Cmd}{dv:Value}(hi:l[i]? = some (x,dv)) :
 w.cell? ⟨b,o+i * 11,none⟩=some (.int .i64 x.kind)∧w.cell? ⟨b,o+i * 11+1,none⟩=some (.int .i64 x.client)∧w.cell? ⟨b,o+i * 11+2,none⟩=some (.int .i64 x.seq)∧w.cell? ⟨b,o+i * 11+3,none⟩=some (.string x.name)∧w.cell? ⟨b,o+i * 11+4,none⟩=some (.int .u64 (x.blob:Int))∧w.cell? ⟨b,o+i * 11+5,none⟩=some (.int .i64 x.size)∧w.cell? ⟨b,o+i * 11+6,none⟩=some (.int .u32 (x.sum:Int))∧w.cell? ⟨b,o+i * 11+7,none⟩=some (dv)∧w.cell? ⟨b,o+i * 11+8,none⟩=some (.int .i64 x.pool)∧w.cell? ⟨b,o+i * 11+9,none⟩=some (.int .i64 x.vol)∧w.cell? ⟨b,o+i * 11+10,none⟩=some (.int .i64 x.at_):=by
 have hg:(l.map crow)[i]? = some (x.cells dv):=by rw[List.getElem?_map,hi];rfl
 have hc:=sln_get h hg;exact⟨hc 0 _ rfl,hc 1 _ rfl,hc 2 _ rfl,hc 3 _ rfl,hc 4 _ rfl,hc 5 _ rfl,hc 6 _ rfl,hc 7 _ rfl,hc 8 _ rfl,hc 9 _ rfl,hc 10 _ rfl⟩
open Go.RowKit Go.Sort
theorem nd_none(w:World)(B:Nat→Prop)(c mb mn:Nat)(C:Ct)(h:CtAt w B c mb mn C)(m:ByteArray)(hn:qZC m C.names=none) :
 Calls prog 93 #[.pointer (some ⟨c,0,none⟩),.string m] w fun e w'=>e=.returned (.tuple #[.agg blZero,.bool false])∧Ext w w':=by
 go_enter func93,ntmps93
 have hR:=At.new w 108 blZero;have hE:=(Er w).alloc (.cells blZero 108)
 go_upto_region 1 with fail
 generalize hxb:w.heap.size=xb at *;generalize World.alloc _ _=W at *;have hC:=h.ext hE;obtain⟨c0,c1⟩:=hC.c0;have hlk:=hC.lookName m;rw[hn]at hlk;simp at hlk;have hR2:=hR;clear hC h hn;have f0:=hR2.frozen 0;have f1:=hR2.frozen 1;have f2:=hR2.frozen 2;have f3:=hR2.frozen 3;have f4:=hR2.frozen 4;have f5:=hR2.frozen 5;have f6:=hR2.frozen 6;have f7:=hR2.frozen 7;have f8:=hR2.frozen 8;have f9:=hR2.frozen 9;have f10:=hR2.frozen 10;have f11:=hR2.frozen 11;have f12:=hR2.frozen 12;have r0:=hR2.cell 0;have r1:=hR2.cell 1;have r2:=hR2.cell 2;have r3:=hR2.cell 3;have r4:=hR2.cell 4;have r5:=hR2.cell 5;have r6:=hR2.cell 6;have r7:=hR2.cell 7;have r8:=hR2.cell 8;have r9:=hR2.cell 9;have r10:=hR2.cell 10;have r11:=hR2.cell 11;have r12:=hR2.cell 12;simp at r0 r1 r2 r3 r4 r5 r6 r7 r8 r9 r10 r11 r12;go_wp2_with fail
 obtain⟨hZ,hCz⟩:=blob_out hR2 (.int .u64 0) (.string ⟨#[]⟩) (.int .i64 0) (.int .u32 0) (.slice none 0 0) (.bool false) (.int .i64 0) (.int .i64 0) (.bool false) (.int .i64 0) (.int .i64 0) (.int .i64 0) (.bool false);generalize World.setCell _ _ _=WZ at hZ hCz⊢;have g0:=hZ.cell 0;have g1:=hZ.cell 1;have g2:=hZ.cell 2;have g3:=hZ.cell 3;have g4:=hZ.cell 4;have g5:=hZ.cell 5;have g6:=hZ.cell 6;have g7:=hZ.cell 7;have g8:=hZ.cell 8;have g9:=hZ.cell 9;have g10:=hZ.cell 10;have g11:=hZ.cell 11;have g12:=hZ.cell 12;simp at g0 g1 g2 g3 g4 g5 g6 g7 g8 g9 g10 g11 g12;have hwl:w.heap.size≤xb:=by omega
 refine bodyPost_ret (v:=.tuple #[.agg blZero,.bool false]) (by simp[results,results93,go_sem,g0,g1,g2,g3,g4,g5,g6,g7,g8,g9,g10,g11,g12]) rfl ⟨rfl,Chg.mono (hE.chg_trans hCz) fun j hj e=>by have e':j=xb:=e;omega⟩
open Go.RowKit Go.Sort
section
variable{w:World}{B:Nat→Prop}{c mb mn:Nat}{P:Pm}
theorem clive_any{n:Nat}(h:qZz w B c mb mn P)(hi:PInv n P)(hn:n≤1000000)(v:Nat)(hv:v<12) :
 Calls prog 97 #[.pointer (some ⟨c,0,none⟩),.int .i64 v] w fun e w'=>e=.returned (.tuple #[.int .i64 (((P.L.filter (onV v)).length:Nat):Int),.int .i64 (qQK (P.L.filter (onV v)))])∧Ext w w':=by
 obtain⟨C,hC,hR⟩:=h;have hp:=hR.perm hi;have hl:=hp.length_eq;rw[List.length_map]at hl;have hlen:=hi.len;have hpins:∀r∈C.rows,0≤r.b.pins∧r.b.pins≤n:=fun r hr=>(hi.bl r.b (hp.mem_iff.1 (List.mem_map.2 ⟨r,hr,rfl⟩))).pins
 have hv2:=hR.onVol hi v;have e1:(onR v C.rows).length=(P.L.filter (onV v)).length:=hv2.length_eq;have e2:qQK (onR v C.rows)=qQK (P.L.filter (onV v)):=pinsOf_perm hv2;have hL:=liveR_any w B c mb mn C hC v hv n hn (by omega) hpins;rw[e1,e2]at hL;exact hL
theorem cnamed_none{n:Nat}(h:qZz w B c mb mn P)(hi:PInv n P)(m:ByteArray)(hm:P.named m=none) :
 Calls prog 93 #[.pointer (some ⟨c,0,none⟩),.string m] w fun e w'=>e=.returned (.tuple #[.agg blZero,.bool false])∧Ext w w':=by
 obtain⟨C,hC,hR⟩:=h;have e:=hR.named hC hi m;rw[hm]at e;exact nd_none w B c mb mn C hC m e
theorem cvol_any(h:qZz w B c mb mn P)(v:Nat)(hv:v<12) :
 Calls prog 98 #[.pointer (some ⟨c,0,none⟩),.int .i64 v] w fun e w'=>e=.returned (vlAgg (P.vol v))∧Ext w w':=by
 obtain⟨C,hC,hR⟩:=h;have e:=vol_any w B c mb mn C hC v hv;rw[hR.vols]at e;exact e
end
theorem bl_rows{w:World}{v:Value}{L:List Bl}(h:BlobsIn w v L):∃DV:List (Bl×Value),DV.map (·.1)=L∧Sln w v 13 (DV.map qZ5)∧∀p∈DV,w.ownsRow 0 3 1 p.2 p.1.disks.length (p.1.disks.map (Value.int .i64)):=by
 obtain⟨DV,h1,h2,h3⟩:=h;refine⟨DV,h1,Sln.of_own h2 ?_ (by rw[←h1];simp),h3⟩
 intro r hr;obtain⟨p,_,rfl⟩:=List.mem_map.1 hr;rfl
theorem qZn{w:World}{b o n c:Nat}{l:List (Bl×Value)}(h:Sln w (.slice (some ⟨b,o,none⟩) n c) 13 (l.map qZ5)){i:Nat}{x:Bl}{dv:Value}(hi:l[i]? = some (x,dv)) :
 w.cell? ⟨b,o+i * 13,none⟩=some (.int .u64 (x.id:Int))∧w.cell? ⟨b,o+i * 13+1,none⟩=some (.string x.name)∧w.cell? ⟨b,o+i * 13+2,none⟩=some (.int .i64 x.size)∧w.cell? ⟨b,o+i * 13+3,none⟩=some (.int .u32 (x.sum:Int))∧w.cell? ⟨b,o+i * 13+4,none⟩=some (dv)∧w.cell? ⟨b,o+i * 13+5,none⟩=some (.bool x.a.there)∧w.cell? ⟨b,o+i * 13+6,none⟩=some (.int .i64 x.a.vol)∧w.cell? ⟨b,o+i * 13+7,none⟩=some (.int .i64 x.a.at_)∧w.cell? ⟨b,o+i * 13+8,none⟩=some (.bool x.b.there)∧w.cell? ⟨b,o+i * 13+9,none⟩=some (.int .i64 x.b.vol)∧w.cell? ⟨b,o+i * 13+10,none⟩=some (.int .i64 x.b.at_)∧w.cell? ⟨b,o+i * 13+11,none⟩=some (.int .i64 x.pins)∧w.cell? ⟨b,o+i * 13+12,none⟩=some (.bool x.dead):=by
 have hg:(l.map qZ5)[i]? = some (qZ5 (x,dv)):=by rw[List.getElem?_map,hi];rfl
 have hc:=sln_get h hg;exact⟨hc 0 _ rfl,hc 1 _ rfl,hc 2 _ rfl,hc 3 _ rfl,hc 4 _ rfl,hc 5 _ rfl,hc 6 _ rfl,hc 7 _ rfl,hc 8 _ rfl,hc 9 _ rfl,hc 10 _ rfl,hc 11 _ rfl,hc 12 _ rfl⟩
open Go.RowKit
def U8(c:UInt8):Value:=.int .u8 (c.toNat:Int)
def qZH(w:World)(base e:Nat)(bs:List UInt8):Prop :=
 base≤e∧∃v,At w e 91 #[v]∧w.ownsRow base 5 1 v bs.length (bs.map U8)
def EncS(w:World)(base:Nat)(k:Nat):Prop:=base≤k∧∃cs t m,w.heap[k]? = some (.cells cs t m)∧(t=91∨t=5)
def qQu(w w':World)(base:Nat):Prop:=Chg (EncS w base) w w'
def qZA(w w':World)(base e:Nat)(bs:List UInt8):Prop:=qQu w w' base∧qZH w' base e bs
def SlE(w:World)(base:Nat)(v:Value)(xs:List Value):Prop:=Sl w v xs∧∀b o n c,v=.slice (some ⟨b,o,none⟩) n c→xs≠[]→¬ EncS w base b
section
variable{w w' w1:World}{base e:Nat}{bs:List UInt8}{v:Value}{xs:List Value}
theorem EncS.back(h:qQu w w' base){k:Nat}(hk:k<w.heap.size)(hs:EncS w' base k):EncS w base k:=by
 classical
 by_cases hn:EncS w base k
 ·exact hn
 ·have e:=h.block k hk hn;obtain⟨h1,cs,t,m,h2,h3⟩:=hs;exact⟨h1,cs,t,m,by rw[←e];exact h2,h3⟩
theorem qQu.refl(w:World)(base:Nat):qQu w w base:=Chg.refl _ _
theorem qQu.trans(h:qQu w w1 base)(h':qQu w1 w' base):qQu w w' base:=Chg.trans h h' fun _ hk hs=>EncS.back h hk hs
theorem qQu.ext(h:Ext w w'):qQu w w' base:=Ext.chg h
theorem qQu.below(h:qQu w w' base)(hb:w.heap.size≤base):Ext w w':=Chg.mono h fun k hk hs=>by have:=hs.1;omega
theorem SlE.chg(h:SlE w base v xs)(hc:qQu w w' base):SlE w' base v xs:=by
 refine⟨h.1.chg hc h.2,fun b o n c hv hne hs=>?_⟩
 obtain⟨A,c',hv',hx⟩:=h.1;obtain⟨b',o',rfl,hcell⟩:=hx hne;rw[hv']at hv;injection hv with hv1;injection hv1 with hv1;injection hv1 with hb ho;subst hb ho;cases xs with
 | nil=>exact hne rfl
 | cons y r=>exact h.2 _ _ _ _ hv' (by simp) (EncS.back hc (qZl (hcell 0 y rfl)) hs)
theorem SlE.ext(h:SlE w base v xs)(hc:Ext w w'):SlE w' base v xs:=h.chg (qQu.ext hc)
theorem qZH.ext(h:qZH w base e bs)(hc:Ext w w'):qZH w' base e bs:=by
 obtain⟨h1,v,h2,h3⟩:=h;exact⟨h1,v,h2.ext hc,own_chg h3 hc (fun _ h=>h.elim)⟩
theorem qZH.alloc(h:qZH w base e bs)(o:Obj):qZH (w.alloc o) base e bs:=h.ext ((Er w).alloc o)
theorem qZH.drew(h:qZH w base e bs):qZH w.drew base e bs:=h.ext ((Er w).drew)
theorem qQu.alloc(h:qQu w w' base)(o:Obj):qQu w (w'.alloc o) base:=Chg.alloc h o
theorem qQu.drew(h:qQu w w' base):qQu w w'.drew base:=Chg.drew h
theorem EncS.enc(h:At w e 91 #[v])(hb:base≤e):EncS w base e:=⟨hb,_,_,_,h,.inl rfl⟩
theorem EncS.row{n:Nat}(h:w.ownsRow base 5 1 v n xs){k:Nat}(hk:some k=v.ownBlock):EncS w base k:=by
 rcases h.2 with⟨rfl,_⟩|⟨g,cap,cur,rfl,hb,hg,_⟩
 ·cases hk
 ·cases hk;exact⟨hb,_,_,_,hg,.inr rfl⟩
theorem SlE.new{t:TypeId}{cs:Array Value}{c:Nat}(w:World)(base:Nat)(ht:t≠91∧t≠5) :
 SlE (w.alloc (.cells cs t)) base (.slice (some ⟨w.heap.size,0,none⟩) cs.size c) cs.toList:=by
 refine⟨⟨_,c,by rw[Array.length_toList],fun _=>⟨_,0,rfl,fun i x hi=>?_⟩⟩,fun b o n c' hv _ hs=>?_⟩
 ·rw[(At.new w t cs).cell (0+i),Nat.zero_add];simpa using hi
 ·injection hv with hv1;injection hv1 with hv1;injection hv1 with hb ho;subst hb;obtain⟨_,cs',t',m,h2,h3⟩:=hs
  have:=At.new w t cs
  unfold At at this;rw[this]at h2;injection h2 with h2;injection h2 with _ h2 _;subst h2;rcases h3 with h3|h3
  ·exact ht.1 h3
  ·exact ht.2 h3
end
section
variable{w w' w1:World}{base e:Nat}{v:Value}{xs:List Value}
theorem qXk{wA:World}{n:Nat}(hlv:At w e 91 #[v])(hown:w.ownsRow base 5 1 v n xs)(hE:Ext w wA)(hg:wA.grownBy w1 v.ownBlock):At w1 e 91 #[v]:=by
 refine(hlv.ext hE).chg (Chg.of_grown hg) fun he=>?_
 rcases hown.2 with⟨rfl,_⟩|⟨g,cap,cur,rfl,hb,hh,_⟩
 ·cases he
 ·have:e=g:=by simpa[Value.ownBlock]using he
  subst this;exact At.ne (t:=5) hh hlv (by decide) rfl
theorem qZY{n:Nat}{e:TypeId}(h:w.ownsRow base e 1 v n xs):∃A m c,v=.slice A m c:=by
 rcases h.2 with⟨rfl,_⟩|⟨g,cap,cur,rfl,_⟩ <;> exact⟨_,_,_,rfl⟩
theorem qXG{wr wA:World}{n n1:Nat}{lv v1:Value}{xs1:List Value}{out out':List UInt8}(hT:qZA w wr base e out)(hlv:At wr e 91 #[lv])(hown:wr.ownsRow base 5 1 lv n xs)(hE:Ext wr wA)
 (hg:wA.grownBy w1 lv.ownBlock) (hown1:w1.ownsRow base 5 1 v1 n1 xs1) (hx:xs1=out'.map U8) (hn:n1=out'.length):qZA w (w1.setCell ⟨e,0,none⟩ v1) base e out':=by
 have h1:=qXk hlv hown hE hg;have hb:=hT.2.1;refine⟨?_,hb,v1,h1.set 0 v1,?_⟩
 ·have hc1:qQu wr w1 base:=by
   refine Chg.trans (qQu.ext hE:qQu wr wA base) (Chg.of_grown hg) fun k hk hs=>?_
   exact EncS.row hown hs
  exact hT.1.trans (Chg.setCell hc1 (.inl (EncS.enc hlv hb)) _)
 ·rw[hx,hn]at hown1;obtain⟨q1,q2⟩:=hown1;refine⟨q1,?_⟩
  rcases q2 with q2|⟨g,cap,cur,rfl,hb',hh,q3⟩
  ·exact .inl q2
  ·refine .inr ⟨g,cap,cur,rfl,hb',?_,q3⟩
   have hne:g≠e:=by
    rintro rfl;exact At.ne (t:=5) hh h1 (by decide) rfl
   exact(Below.heap_setCell w1 ⟨e,0,none⟩ _ g hne).trans hh
end
theorem u64_inE{x:Nat}(h:x<18446744073709551616):IntKind.u64.wrap (x:Int)=x:=by simp[IntKind.wrap,IntKind.bits,IntKind.signed];omega
theorem u8_info:(prog.info? 5).map (fun i=>(i.zero,i.size,i.bytes))=some (some (.int .u8 0),1,1):=by kernel_rfl
theorem qJM{n:Nat}(h:n<256):(UInt8.ofNat n).toNat=n:=by
 simp[UInt8.toNat_ofNat'];omega
theorem bitLenAux_pos(f x:Nat)(hf:0<f)(hx:0<x):0<Lib.bitLenAux f x:=by
 cases f with
 | zero=>omega
 | succ f=>unfold Lib.bitLenAux;rw[if_neg (by omega)];omega
theorem bitLenAux_le(f x:Nat):Lib.bitLenAux f x≤f:=by
 induction f generalizing x with
 | zero=>simp[Lib.bitLenAux]
 | succ f ih=>unfold Lib.bitLenAux;split;omega;have:=ih (x / 2);omega
theorem bitLen_or(n:Nat):1≤Lib.bitLen (n ||| 1)∧Lib.bitLen (n ||| 1)≤64:=by
 have h1:0<n ||| 1:=by have := @Nat.right_le_or n 1;omega
 exact⟨bitLenAux_pos 64 _ (by omega) h1,bitLenAux_le 64 _⟩
theorem uhi_length(n k:Nat):(uhi n k).length=k:=by
 induction k with
 | zero=>rfl
 | succ k ih=>simp[uhi,ih]
theorem ugroups_le(n:Nat):qQ9 n≤9:=by
 have:=bitLen_or n
 unfold qQ9;omega
theorem qQF(n:Nat):(qQ1 n).length≤10:=by
 have:=ugroups_le n
 unfold qQ1;simp[uhi_length];omega
theorem flat_length(vs:List Nat):(vs.flatMap qQ1).length≤10 * vs.length:=by
 induction vs with
 | nil=>simp
 | cons n r ih=>have:=qQF n;simp only[List.flatMap_cons,List.length_append,List.length_cons];omega
theorem wrap_u8n(x:Nat):IntKind.u8.wrap (x:Int)=((x % 256:Nat):Int):=by simp[IntKind.wrap,IntKind.bits,IntKind.signed]
theorem or128(a:Nat):(a % 256) ||| 128=a % 128+128:=by
 have h1:(a % 256) ||| 128=(a % 128) ||| 128:=by
  apply Nat.eq_of_testBit_eq
  intro i;rw[Nat.testBit_or,Nat.testBit_or,show 256=2 ^ 8 from rfl,show 128=2 ^ 7 from rfl,Nat.testBit_mod_two_pow,Nat.testBit_mod_two_pow,Nat.testBit_two_pow]
  by_cases h7:7=i
  ·simp[h7]
  ·by_cases hi:i<7
   ·have:i<8:=by omega
    simp[hi,this]
   ·have:¬ i<8:=by omega
    simp[hi,this]
 rw[h1,Nat.add_comm]
 have:=Nat.two_pow_add_eq_or_of_lt (i:=7) (b:=a % 128) (by omega) 1
 rw[Nat.or_comm];simpa using this.symm
theorem byte_hi(n j:Nat):bits .or .u8 (IntKind.u8.wrap ((n:Int) / 2 ^ (7 * ((j:Int)+1)).toNat)) 128=((UInt8.ofNat (n / 128 ^ (j+1) % 128+128)).toNat:Int):=by
 have e1:(7 * ((j:Int)+1)).toNat=7 * (j+1):=by omega
 have e2:(n:Int) / 2 ^ (7 * (j+1))=((n / 128 ^ (j+1):Nat):Int):=by
  rw[show(128:Nat)=2 ^ 7 from rfl,←Nat.pow_mul];simp
 rw[e1,e2,wrap_u8n,show(128:Int)=((128:Nat):Int)from rfl,u8_or_nat _ _ (by omega) (by omega),or128,qJM (by omega)]
theorem byte_lo(n:Nat):bits .andNot .u8 (IntKind.u8.wrap (n:Int)) 128=((UInt8.ofNat (n % 128)).toNat:Int):=by
 rw[wrap_u8n,show(128:Int)=((128:Nat):Int)from rfl,u8_andNot_nat _ _ (by omega) (by omega),qJM (by omega)];rw[show 255 - 128=2 ^ 7 - 1 from rfl,Nat.and_two_pow_sub_one_eq_mod];omega
section
variable(w:World)(base e:Nat)(bs:List UInt8)
theorem eu_any(h:qZH w base e bs)(vv:Value)(vs:List Nat)(hS:SlE w base vv (vs.map fun(n:Nat)=>Value.int .u64 (n:Int)))(hv:∀n∈vs,n<18446744073709551616)(hl:vs.length≤1048576)(hbs:bs.length≤1099511627776) :
 Calls prog 43 #[.pointer (some ⟨e,0,none⟩),vv] w fun r w'=>r=.returned (.pointer (some ⟨e,0,none⟩))∧qZA w w' base e (bs++vs.flatMap qQ1):=by
 have hS0:=hS;obtain⟨A,c,rfl,hx⟩:=hS.1;rw[List.length_map];have hl0:(vs.length:Int)≤1048576:=by omega
 obtain⟨i0,hi,hz0,hz1,hz2⟩:=info_parts u8_info
 go_enter func43,ntmps43
 go_wp2_with fail
 go_loopw [10] (fun iv wr=>∃k:Nat,k≤vs.length∧iv=.int .i64 (k:Int)∧qZA w wr base e (bs++(vs.take k).flatMap qQ1)) (fun iv _=>vs.length - (intOf iv).toNat)
 case atStart=>exact⟨0,Nat.zero_le _,rfl,qQu.refl _ _,by simpa using h⟩
 case round =>
  obtain⟨k,hk,rfl,hT⟩:=hrel
  by_cases hlt:k<vs.length
  ·have hSr:=(hS0.chg hT.1).1;obtain⟨A',c',hv',hx'⟩:=hSr;injection hv' with q1 q2 q3;subst q1 q3;obtain⟨b,o,rfl,hcell⟩:=hx' (by intro e;rw[List.map_eq_nil_iff]at e;subst e;simp at hlt);have r0:wr.cell? ⟨b,o+k,none⟩=some (.int .u64 (vs[k]:Int)):=hcell k _ (by rw[List.getElem?_map,List.getElem?_eq_getElem hlt];rfl);have hvk:=hv _ (List.getElem_mem hlt);have htk:vs.take (k+1)=vs.take k++[vs[k]]:=by rw[List.take_succ_eq_append_getElem hlt]
   generalize vs[k]=n at r0 hvk htk;clear hx hx' q2 hcell;have hL:=bitLen_or n;have cb:=fun W=>Tryz.bits_Len64 ((n ||| 1:Nat):Int) W (by omega) (by have:=Nat.or_lt_two_pow (x:=n) (y:=1) (n:=64) (by omega) (by omega);omega)
   rw[Int.toNat_natCast]at cb;have eb:bits .or .u64 (n:Int) 1=((n ||| 1:Nat):Int):=by rw[show(1:Int)=((1:Nat):Int)from rfl,u64_or_nat _ _ (by omega) (by omega)]
   have eG:(((Lib.bitLen (n ||| 1):Nat):Int) - 1) / 7 * 7=7 * ((qQ9 n:Nat):Int):=by unfold qQ9;omega
   have EB:=Hh eb;have EG:=Hh eG;clear eb eG;have hG:=ugroups_le n;generalize Lib.bitLen (n ||| 1)=L at hL cb EG;generalize hpre:bs++(vs.take k).flatMap qQ1=pre at hT
   have hpl:pre.length≤1099511627776+10 * 1048576:=by
    rw[←hpre]
    have:=flat_length (vs.take k)
    have h2:(vs.take k).length≤k:=List.length_take_le _ _;simp only[List.length_append];omega
   have HP:=Hh hpre;have HTK:=Hh htk;clear hpre htk;go_wp2_with fail
   rw[EB.out];refine(cb _).mono ?_
   rintro r w1 ⟨rfl,rfl⟩;clear cb EB;have hL0:(1:Int)≤(L:Int):=by omega
   have hL1:(L:Int)≤64:=by omega
   go_wp2_with fail
   go_loopw [7] (fun av wx=>∃(j:Nat) (out:List UInt8),j≤qQ9 n∧av=.int .i64 (7 * (j:Int))∧qZA w wx base e out∧out++uhi n j=pre++uhi n (qQ9 n)) (fun av _=>(intOf av).toNat)
   case atStart=>exact⟨qQ9 n,pre,Nat.le_refl _,by rw[←EG.out],hT,rfl⟩
   case round =>
    clear hT;obtain⟨j,out,hj,rfl,hT,hout⟩:=hrel
    have hol:out.length+j≤1099511627776+10 * 1048576+9:=by
     have:=congrArg List.length hout
     simp only[List.length_append,uhi_length]at this;omega
    cases j with
    | zero =>
     have hfin:bs++(vs.take (k+1)).flatMap qQ1=out++[UInt8.ofNat (n % 128)]:=by
      rw[HTK.out,List.flatMap_append,←List.append_assoc,HP.out];have h0:out=pre++uhi n (qQ9 n):=by simpa[uhi]using hout
      rw[h0];simp[qQ1]
     have HF:=Hh hfin;clear hfin hout;obtain⟨he,lv,hlv,hown⟩:=hT.2;have d0:wr.cell? ⟨e,0,none⟩=some lv:=hlv.cell 0;have df:wr.frozen? ⟨e,0,none⟩=false:=hlv.frozen 0;have ey:bits .andNot .u8 (IntKind.u8.wrap (n:Int)) 128=((UInt8.ofNat (n % 128)).toNat:Int):=byte_lo n;have EY:=Hh ey;clear ey;have hlt':=hlv.lt
     go_wp2_with (at_builtin;refine wpList_append_own _ rfl _ _ 89 rfl base 5 i0 (.int .u8 0) 1 1 underlying89 hi hz0 hz1 hz2 rfl (by decide) _ _ _ rfl (hown.alloc _) ⟨wr.heap.size,0,none⟩ 1 1 [.int .u8 (bits .andNot .u8 (IntKind.u8.wrap (n:Int)) 128)] rfl rfl ?c1 ?c2 ?c3 ?c4 ?c5 ?_)
     case c1=>exact qJd
     case c2=>simp[Value.oneCell']
     case c3=>unfold maxLen;omega
     case c4=>omega
     case c5=>simp;omega
     intro v1 w1 hown1 hgrow1 _;obtain⟨A1,n1,c1,rfl⟩:=qZY hown1;have hlv1:=qXk hlv hown ((Er wr).alloc _) hgrow1;have d1:=hlv1.cell 0;have f1:=hlv1.frozen 0;have hT1:=qXG (out':=out++[UInt8.ofNat (n % 128)]) hT hlv hown ((Er wr).alloc _) hgrow1 hown1 (by rw[List.map_append,EY.out];rfl) (by simp);go_wp2_with fail
     go_roundw
     case rel=>exact⟨k+1,by omega,by go_num,by rw[HF.out];exact hT1⟩
     case measure=>simp[intOf];omega
    | succ j =>
     have hstep:(out++[UInt8.ofNat (n / 128 ^ (j+1) % 128+128)])++uhi n j=pre++uhi n (qQ9 n):=by
      rw[←hout,uhi,List.append_assoc];rfl
     have HS:=Hh hstep;clear hstep hout;go_wp2_with fail
     obtain⟨he,lv,hlv,hown⟩:=hT.2;have d0:wr.cell? ⟨e,0,none⟩=some lv:=hlv.cell 0;have df:wr.frozen? ⟨e,0,none⟩=false:=hlv.frozen 0;have ey:bits .or .u8 (IntKind.u8.wrap ((n:Int) / 2 ^ (7 * ((j:Int)+1)).toNat)) 128=((UInt8.ofNat (n / 128 ^ (j+1) % 128+128)).toNat:Int):=byte_hi n j;have EY:=Hh ey;clear ey;have hlt':=hlv.lt
     go_region_law (refine step_append_own rfl (.tmp 28) (.tmp 34) _ rfl base 5 i0 _ 1 underlying89 hi hz0 hz1 hz2 rfl lv out.length (out.map U8) (by simp[Act.eval]) (own_chg hown ((Er wr).drew.alloc _) (fun _ h=>h.elim)) ⟨wr.heap.size,0,none⟩ 1 1 [.int .u8 (bits .or .u8 (IntKind.u8.wrap ((n:Int) / 2 ^ (7 * ((j:Int)+1)).toNat)) 128)] (by simp[Act.eval]) rfl (qJd (w:=wr)) (by simp[Value.oneCell']) (by unfold maxLen;omega) (by omega) (by simp;omega) ?_;intro v1 w1 hown1 hgrow1;obtain⟨A1,n1,c1,rfl⟩:=qZY hown1;have hlv1:=qXk hlv hown (((Er wr).alloc _).drew) hgrow1;have d1:=hlv1.cell 0;have f1:=hlv1.frozen 0)
     all_goals
      have hT1:=qXG (out':=out++[UInt8.ofNat (n / 128 ^ (j+1) % 128+128)]) hT hlv hown (((Er wr).alloc _).drew) hgrow1 hown1 (by rw[List.map_append,EY.out];rfl) (by simp);go_wp2_with fail
      go_roundw
      case rel=>exact⟨j,out++[UInt8.ofNat (n / 128 ^ (j+1) % 128+128)],by omega,by go_num,hT1,HS.out⟩
      case measure=>simp[intOf];omega
  ·have hge:vs.length≤k:=by omega
   go_wp2_with fail
   go_ret
   rw[List.take_of_length_le (by omega)]at hT;exact⟨rfl,hT⟩
theorem qZT(h:qZH w base e bs)(vv:Value)(vs:List Int)(hS:SlE w base vv (vs.map (Value.int .i64)))(hv:∀n∈vs, -9223372036854775808≤n∧n≤9223372036854775807)(hl:vs.length≤1048576)(hbs:bs.length+10 * vs.length≤1099511627776) :
 Calls prog 41 #[.pointer (some ⟨e,0,none⟩),vv] w fun r w'=>r=.returned (.pointer (some ⟨e,0,none⟩))∧qZA w w' base e (bs++vs.flatMap qQw):=by
 have hS0:=hS;obtain⟨A,c,rfl,hx⟩:=hS.1;rw[List.length_map];have hl0:(vs.length:Int)≤1048576:=by omega
 go_enter func41,ntmps41
 go_wp2_with fail
 go_loopw [9] (fun iv wr=>∃k:Nat,k≤vs.length∧iv=.int .i64 (k:Int)∧qZA w wr base e (bs++(vs.take k).flatMap qQw)) (fun iv _=>vs.length - (intOf iv).toNat)
 case atStart=>exact⟨0,Nat.zero_le _,rfl,qQu.refl _ _,by simpa using h⟩
 case round =>
  obtain⟨k,hk,rfl,hT⟩:=hrel
  by_cases hlt:k<vs.length
  ·have hSr:=(hS0.chg hT.1).1;obtain⟨A',c',hv',hx'⟩:=hSr;injection hv' with q1 q2 q3;subst q1 q3;obtain⟨b,o,rfl,hcell⟩:=hx' (by intro e;rw[List.map_eq_nil_iff]at e;subst e;simp at hlt);have r0:wr.cell? ⟨b,o+k,none⟩=some (.int .i64 vs[k]):=hcell k _ (by rw[List.getElem?_map,List.getElem?_eq_getElem hlt];rfl);have hvk:=hv _ (List.getElem_mem hlt)
   have htk:bs++(vs.take (k+1)).flatMap qQw=(bs++(vs.take k).flatMap qQw)++[(max vs[k] 0).toNat].flatMap qQ1:=by
    rw[List.take_succ_eq_append_getElem hlt,List.flatMap_append,List.append_assoc];simp[qQw]
   have hlen:(bs++(vs.take k).flatMap qQw).length≤1099511627776:=by
    have h1:∀l:List Int,(l.flatMap qQw).length≤10 * l.length:=by
     intro l
     induction l with
     | nil=>simp
     | cons n r ih=>have:=qQF (max n 0).toNat;simp only[List.flatMap_cons,List.length_append,List.length_cons,qQw]at ih⊢;omega
    have h2:=h1 (vs.take k);have h3:(vs.take k).length≤k:=List.length_take_le _ _;simp only[List.length_append];omega
   generalize vs[k]=n at r0 hvk htk;generalize bs++(vs.take k).flatMap qQw=pre at htk hT hlen;have HTK:=Hh htk;clear hx hx' q2 hcell htk;have cu:=fun W h v hS=>eu_any W base e pre h v [(max n 0).toNat] hS (by intro m hm;rw[List.mem_singleton]at hm;omega) (by simp) hlen
   have em:(((max n 0).toNat:Nat):Int)=max n 0:=by omega
   go_wp2_with fail
   have hS1:SlE (wr.alloc (.cells #[.int .u64 (max n 0)] 29)) base (.slice (some ⟨wr.heap.size,0,none⟩) 1 1) ([(max n 0).toNat].map fun(n:Nat)=>Value.int .u64 (n:Int)):=by
    have:=SlE.new (t:=29) (cs:=#[.int .u64 (max n 0)]) (c:=1) wr base (by decide)
    simpa[em]using this
   refine(cu _ (hT.2.alloc _) _ hS1).mono ?_
   rintro r w2 ⟨rfl,hT2⟩;go_wp2_with fail
   go_roundw
   case rel=>exact⟨k+1,by omega,by go_num,by rw[HTK.out];exact⟨(hT.1.alloc _).trans hT2.1,hT2.2⟩⟩
   case measure=>simp[intOf];omega
  ·have hge:vs.length≤k:=by omega
   go_wp2_with fail
   go_ret
   rw[List.take_of_length_le (by omega)]at hT;exact⟨rfl,hT⟩
end
open Go.RowKit
theorem qQe(n:Int):(qQw n).length≤10:=qQF _
theorem qXH(l:List Int):(l.flatMap qQw).length≤10 * l.length:=by
 induction l with
 | nil=>simp
 | cons n r ih=>have:=qQe n;simp only[List.flatMap_cons,List.length_append,List.length_cons];omega
section
variable(w:World)(base e:Nat)(bs:List UInt8)
theorem bytes_any(h:qZH w base e bs) :
 Calls prog 45 #[.pointer (some ⟨e,0,none⟩)] w fun r w'=>r=.returned (.string ⟨bs.toArray⟩)∧w'=w:=by
 obtain⟨hb,v,hv,hown⟩:=h;have d0:w.cell? ⟨e,0,none⟩=some v:=hv.cell 0;obtain⟨A,m,c,rfl⟩:=qZY hown
 have hrun:(convert 89 9 (.slice A m c)).run prog w=.ok (.string ⟨bs.toArray⟩) w:=by
  rcases hown.2 with⟨h1,h2⟩|⟨g,cap,cur,h1,_⟩
  ·injection h1 with q1 q2 q3;subst q1;rw[run_convert_bytes_nil w 89 5 underlying89 underlying5 _ c 9 underlying9];rw[List.eq_nil_of_length_eq_zero h2];rfl
  ·injection h1 with q1 q2 q3;subst q1 q2 q3;refine run_convert_bytes_back w 89 9 5 ⟨g,0,none⟩ _ bs underlying89 underlying5 underlying9 fun j hj=>?_
   have:=hown.cells (g:=g) rfl j (U8 bs[j]) (by rw[List.getElem?_map,List.getElem?_eq_getElem hj];rfl)
   exact this
 clear hown
 go_enter func45,ntmps45
 go_wp2
 go_ret
 exact⟨rfl,rfl⟩
theorem elist_any(h:qZH w base e bs)(vv:Value)(vs:List Int)(hS:SlE w base vv (vs.map (Value.int .i64)))(hv:∀n∈vs, -9223372036854775808≤n∧n≤9223372036854775807)(hl:vs.length≤1048576)(hbs:bs.length+10 * vs.length+20≤1099511627776) :
 Calls prog 44 #[.pointer (some ⟨e,0,none⟩),vv] w fun r w'=>r=.returned (.pointer (some ⟨e,0,none⟩))∧qZA w w' base e (bs++qXD vs):=by
 have hS0:=hS;obtain⟨A,c,rfl,hx⟩:=hS.1;rw[List.length_map];have hl0:(vs.length:Int)≤1048576:=by omega
 clear hx hS
 go_enter func44,ntmps44
 go_wp2_with fail
 refine(qZT _ base e bs (h.alloc _) _ [(vs.length:Int)] ?_ ?_ (by simp) (by simp;omega)).mono ?_
 ·exact SlE.new (t:=3) (cs:=#[.int .i64 (vs.length:Int)]) w base (by decide)
 ·intro n hn;rw[List.mem_singleton]at hn;omega
 rintro r w1 ⟨rfl,hT1⟩;go_wp2_with fail
 refine(qZT _ base e _ hT1.2 _ vs ?_ hv hl (by have:=qXH [(vs.length:Int)];simp at this⊢;omega)).mono ?_
 ·have:=(hS0.ext ((Er w).alloc (.cells #[.int .i64 (vs.length:Int)] 3))).chg hT1.1
  rw[List.length_map]at this;exact this
 rintro r w2 ⟨rfl,hT2⟩;go_wp2_with fail
 go_ret
 refine⟨rfl,((qQu.ext ((Er w).alloc _)).trans hT1.1).trans hT2.1,?_⟩
 have:=hT2.2
 rw[List.append_assoc]at this;simpa[qXD]using this
theorem es_any(h:qZH w base e bs)(vv:Value)(vs:List ByteArray)(hS:SlE w base vv (vs.map Value.string))(hv:∀n∈vs,n.size≤1048576)(hl:vs.length≤131072)(hbs:bs.length+1048600 * vs.length≤1099511627776) :
 Calls prog 42 #[.pointer (some ⟨e,0,none⟩),vv] w fun r w'=>r=.returned (.pointer (some ⟨e,0,none⟩))∧qZA w w' base e (bs++vs.flatMap qZh):=by
 have hS0:=hS;obtain⟨A,c,rfl,hx⟩:=hS.1;rw[List.length_map];have hl0:(vs.length:Int)≤1048576:=by omega
 obtain⟨i0,hi,hz0,hz1,hz2⟩:=info_parts u8_info
 go_enter func42,ntmps42
 go_wp2_with fail
 go_loopw [9] (fun iv wr=>∃k:Nat,k≤vs.length∧iv=.int .i64 (k:Int)∧qZA w wr base e (bs++(vs.take k).flatMap qZh)) (fun iv _=>vs.length - (intOf iv).toNat)
 case atStart=>exact⟨0,Nat.zero_le _,rfl,qQu.refl _ _,by simpa using h⟩
 case round =>
  obtain⟨k,hk,rfl,hT⟩:=hrel
  by_cases hlt:k<vs.length
  ·have hSr:=(hS0.chg hT.1).1;obtain⟨A',c',hv',hx'⟩:=hSr;injection hv' with q1 q2 q3;subst q1 q3;obtain⟨b,o,rfl,hcell⟩:=hx' (by intro e;rw[List.map_eq_nil_iff]at e;subst e;simp at hlt);have r0:wr.cell? ⟨b,o+k,none⟩=some (.string vs[k]):=hcell k _ (by rw[List.getElem?_map,List.getElem?_eq_getElem hlt];rfl);have hvk:=hv _ (List.getElem_mem hlt)
   have htk:bs++(vs.take (k+1)).flatMap qZh=((bs++(vs.take k).flatMap qZh)++[(vs[k].size:Int)].flatMap qQw)++vs[k].data.toList:=by
    rw[List.take_succ_eq_append_getElem hlt,List.flatMap_append,List.append_assoc,List.append_assoc];simp[qZh]
   have hlen:(bs++(vs.take k).flatMap qZh).length+1048600≤1099511627776:=by
    have h1:∀l:List ByteArray,(∀n∈l,n.size≤1048576)→(l.flatMap qZh).length≤1048600 * l.length:=by
     intro l
     induction l with
     | nil=>simp
     | cons n r ih =>
      intro hh;have h2:=qQe n.size;have h3:=ih fun m hm=>hh m (List.mem_cons_of_mem _ hm)
      have h4:=hh n (List.mem_cons_self ..);have h5:n.data.toList.length=n.size:=by simp
      simp only[List.flatMap_cons,List.length_append,List.length_cons,qZh,h5]at h3⊢;omega
    have h2:=h1 (vs.take k) fun n hn=>hv n (List.mem_of_mem_take hn)
    have h3:(vs.take k).length≤k:=List.length_take_le _ _;simp only[List.length_append];omega
   generalize vs[k]=s at r0 hvk htk;generalize bs++(vs.take k).flatMap qZh=pre at htk hT hlen;have hl2:=qQe s.size;have HTK:=Hh htk;clear hx hx' q2 hcell htk;go_wp2_with fail
   refine(qZT _ base e pre (hT.2.alloc _) _ [(s.size:Int)] ?_ ?_ (by simp) (by simp;omega)).mono ?_
   ·exact SlE.new (t:=3) (cs:=#[.int .i64 (s.size:Int)]) wr base (by decide)
   ·intro n hn;rw[List.mem_singleton]at hn;omega
   rintro r w1 ⟨rfl,hT1⟩;have hTT:qZA w w1 base e (pre++[(s.size:Int)].flatMap qQw):=⟨(hT.1.alloc _).trans hT1.1,hT1.2⟩;clear hT1 hT;generalize hout:pre++[(s.size:Int)].flatMap qQw=out at hTT HTK;have hol:out.length≤pre.length+10:=by rw[←hout];simp;omega
   clear hout;obtain⟨he,lv,hlv,hown⟩:=hTT.2;have d0:w1.cell? ⟨e,0,none⟩=some lv:=hlv.cell 0;have df:w1.frozen? ⟨e,0,none⟩=false:=hlv.frozen 0;have hlt':=hlv.lt
   go_wp2_with (at_builtin;go_loud (refine Lib.wpList_append_own_string _ rfl _ _ 89 9 rfl base 5 i0 underlying89 underlying9 hi hz0 hz1 hz2 _ _ _ rfl hown s rfl ?c3 ?c4 ?c5 ?_))
   case c3=>unfold maxLen;omega
   case c4=>omega
   case c5=>omega
   intro v1 w2 hown1 hgrow1 _;obtain⟨A1,n1,c1,rfl⟩:=qZY hown1;have hlv1:=qXk hlv hown (Er _) hgrow1;have d1:=hlv1.cell 0;have f1:=hlv1.frozen 0;have hT2:=qXG (out':=out++s.data.toList) hTT hlv hown (Er _) hgrow1 hown1 (by rw[List.map_append];congr 1) (by simp);go_wp2_with fail
   go_roundw
   case rel=>exact⟨k+1,by omega,by go_num,by rw[HTK.out];exact hT2⟩
   case measure=>simp[intOf];omega
  ·have hge:vs.length≤k:=by omega
   go_wp2_with fail
   go_ret
   rw[List.take_of_length_le (by omega)]at hT;exact⟨rfl,hT⟩
end
open Go.RowKit
inductive Sp
 | val (v:Value)
 | ptr
 | sl (xs:List Value)
 | any
def Sp.isPtr:Sp→Bool
 | .ptr=>true
 | _=>false
def Sp.holds(base e:Nat):Sp→Value→World→Prop
 | .val x,v,_=>v=x
 | .ptr,v,_=>v=.pointer (some ⟨e,0,none⟩)
 | .sl xs,v,w=>SlE w base v xs
 | .any,_,_=>True
theorem Sp.stays{base e:Nat}{s:Sp}{v:Value}{w w':World}(h:s.holds base e v w)(hc:qQu w w' base):s.holds base e v w':=by
 cases s with
 | val x=>exact h
 | ptr=>exact h
 | sl xs=>exact SlE.chg h hc
 | any=>trivial
def spφ(sp:List Sp)(base:Nat)(e d:Nat)(v:Value)(w:World):Prop:=(sp.getD d .any).holds base e v w
def qQO(L:Nat→Bool):List (Nat×List UInt8)→List UInt8
 | []=>[]
 | (c,b)::r=>(if L c then b else [])++qQO L r
def spG(E0:Option Nat)(items:List (Nat×List UInt8))(pre:List UInt8)(live:(Nat→Bool)→Bool)(W0:World)(base:Nat)(e:Nat)(L:Nat→Bool)(w:World):Prop :=
 (∀e0,E0=some e0→e=e0)∧qQu W0 w base∧(live L=true→qZH w base e (pre++qQO L items))
theorem qZq{L L':Nat→Bool} : ∀ {items:List (Nat×List UInt8)},(∀c b,(c,b)∈items→L c=L' c)→qQO L items=qQO L' items
 | [],_=>rfl
 | (c,b)::r,h=>by
  unfold qQO;rw[h c b (List.mem_cons_self ..),qZq (items:=r) fun c' b' hm=>h c' b' (List.mem_cons_of_mem _ hm)]
theorem qXV{L:Nat→Bool} : ∀ {items:List (Nat×List UInt8)},(∀c b,(c,b)∈items→L c=false)→qQO L items=[]
 | [],_=>rfl
 | (c,b)::r,h=>by
  unfold qQO;rw[h c b (List.mem_cons_self ..),qXV (items:=r) fun c' b' hm=>h c' b' (List.mem_cons_of_mem _ hm)];rfl
theorem qZQ{L:Nat→Bool} : ∀ {items:List (Nat×List UInt8)},(∀c b,(c,b)∈items→L c=true)→qQO L items=items.flatMap (·.2)
 | [],_=>rfl
 | (c,b)::r,h=>by
  unfold qQO;rw[h c b (List.mem_cons_self ..),qZQ (items:=r) fun c' b' hm=>h c' b' (List.mem_cons_of_mem _ hm)];rfl
def pathB(ops:Array Oper):List Nat→Bool
 | a::b::r=>qZm ops b a&&pathB ops (b::r)
 | _=>true
theorem qJV{ops:Array Oper}{L:Nat→Bool}(hd:∀i d,L i=true→qZm ops i d=true→L d=true):∀ {r:List Nat} {a:Nat},L a=false→pathB ops (a::r)=true→∀c∈r,L c=false
 | [],_,_,_,c,hc=>by cases hc
 | b::r,a,ha,hp,c,hc=>by
  simp only[pathB,Bool.and_eq_true]at hp
  have hb:L b=false:=by
   cases h:L b with
   | false=>rfl
   | true=>rw[hd b a h hp.1]at ha;cases ha
  rcases List.mem_cons.1 hc with rfl|hc
  ·exact hb
  ·exact qJV hd hb hp.2 c hc
theorem path_on{ops:Array Oper}{L:Nat→Bool}(hd:∀i d,L i=true→qZm ops i d=true→L d=true):∀ {r:List Nat} {a:Nat},pathB ops (a::r)=true→L ((a::r).getLast (by simp))=true→L a=true
 | [],_,_,h=>h
 | b::r,a,hp,h=>by
  simp only[pathB,Bool.and_eq_true]at hp;exact hd b a (path_on hd hp.2 (by simpa using h)) hp.1
theorem qQP(L:Nat→Bool):∀items:List (Nat×List UInt8),(qQO L items).length≤(items.flatMap (·.2)).length
 | []=>Nat.le_refl _
 | (c,b)::r=>by
  have:=qQP L r
  unfold qQO;simp only[List.flatMap_cons,List.length_append];split
  ·omega
  ·rw[List.length_nil];omega
section
variable{P:Program}{ops:Array Oper}{Q:Exit→Act→World→Prop}{a0:Act}{sp:List Sp}{E0:Option Nat}{items:List (Nat×List UInt8)}{pre:List UInt8}{live:(Nat→Bool)→Bool}{W0:World}{base:Nat}{j:Nat}{o:Oper}
theorem qQh{x:Value}(ho:ops[j]? = some o)(hg:o.guard=none)(hs:sp.getD j .any=.val x∨sp.getD j .any=.any)(hi:(items.all fun x=>x.1 != j)=true)(hl:∀L:Nat→Bool,live (fun i=>i == j||L i)=live L)
 (h:∀(e:Nat) (_L:Nat→Bool) (v:Nat→Value) (a:Act) (w:World),qQu W0 w base→(∀d,qZm ops j d=true→(sp.getD d .any).holds base e (v d) w)→(∀d t,qQD ops d=some t→qZm ops j d=true→a.tmps.getD t undef=v d) →
   (∀t,((List.range ops.size).all fun d=>qQD ops d != some t)=true→a.tmps.getD t undef=a0.tmps.getD t undef)→(execOp a.eval o).run P w=.ok (.value x) w) :
 qZS P ops Q a0 (spφ sp base) (spG E0 items pre live W0 base) j:=by
 intro e L v a w hdown hLj hneed hG hφ hval h0;refine qZU ho hg (h e L v a w hG.2.1 (fun d hd=>hφ d (hneed d hd)) (fun d t hd hn=>hval d t hd (hneed d hn)) (fun t ht=>h0 t fun d hd=>?_)) ⟨x,e,rfl,?_,fun d _ _ hh=>hh,hG.1,hG.2.1,fun hlv=>?_⟩
 ·have hds:d<ops.size:=by
   rcases Nat.lt_or_ge d ops.size with h|h
   ·exact h
   ·unfold qQD at hd;rw[Array.getElem?_eq_none h]at hd;cases hd
  have:=List.all_eq_true.1 ht d (List.mem_range.2 hds)
  rw[hd]at this;simp at this
 ·unfold spφ;rcases hs with hs|hs <;> rw[hs]
  ·rfl
  ·trivial
 ·rw[hl]at hlv;rw[qZq (L':=L) fun c b hm=>by have:=List.all_eq_true.1 hi _ hm;simp at this;simp[this]];exact hG.2.2 hlv
theorem qQG{cs:Array Value}{t:TypeId}{c:Nat}(ht:t≠91∧t≠5)(ho:ops[j]? = some o)(hg:o.guard=none)(hs:sp.getD j .any=.sl cs.toList)(hi:(items.all fun x=>x.1 != j)=true)(hl:∀L:Nat→Bool,live (fun i=>i == j||L i)=live L)
 (h:∀(e:Nat) (_L:Nat→Bool) (v:Nat→Value) (a:Act) (w:World),qQu W0 w base→(∀d,qZm ops j d=true→(sp.getD d .any).holds base e (v d) w)→(∀d t,qQD ops d=some t→qZm ops j d=true→a.tmps.getD t undef=v d) →
   (execOp a.eval o).run P w=.ok (.value (.slice (some ⟨w.heap.size,0,none⟩) cs.size c)) (w.alloc (.cells cs t))) :
 qZS P ops Q a0 (spφ sp base) (spG E0 items pre live W0 base) j:=by
 intro e L v a w hdown hLj hneed hG hφ hval h0;have hE:Ext w (w.alloc (.cells cs t)):=(Er w).alloc _;refine qZU ho hg (h e L v a w hG.2.1 (fun d hd=>hφ d (hneed d hd)) (fun d t hd hn=>hval d t hd (hneed d hn))) ⟨_,e,rfl,?_,fun d _ _ hh=>Sp.stays hh (qQu.ext hE),hG.1,hG.2.1.alloc _,fun hlv=>?_⟩
 ·unfold spφ;rw[hs];exact SlE.new w base ht
 ·rw[hl]at hlv;rw[qZq (L':=L) fun c b hm=>by have:=List.all_eq_true.1 hi _ hm;simp at this;simp[this]];exact(hG.2.2 hlv).alloc _
theorem qQL{f:FuncId}{bytes:List UInt8}{before after:List (Nat×List UInt8)}(ho:ops[j]? = some o)(hg:o.guard=none)(hs:sp.getD j .any=.ptr)(hitems:items=before++(j,bytes)::after)
 (hb:(before.all fun x=>x.1 != j)=true) (ha:pathB ops (j::after.map (·.1))=true) (ha':(after.all fun x=>x.1 != j)=true) (_hl:∀L:Nat→Bool,live (fun i=>i == j||L i)=live L)
 (hlive:∀L:Nat→Bool,(∀i d,L i=true→qZm ops i d=true→L d=true)→(∀d,qZm ops j d=true→L d=true)→live L=true)
 (h:∀(e:Nat) (L:Nat→Bool) (v:Nat→Value) (a:Act) (w:World),(∀e0,E0=some e0→e=e0)→qQu W0 w base→(∀d,qZm ops j d=true→L d=true)→(∀i d,L i=true→qZm ops i d=true→L d=true)→qZH w base e (pre++qQO L before)→(∀d,qZm ops j d=true→(sp.getD d .any).holds base e (v d) w)→(∀d t,qQD ops d=some t→qZm ops j d=true→a.tmps.getD t undef=v d) →
   (∀t,((List.range ops.size).all fun d=>qQD ops d != some t)=true→a.tmps.getD t undef=a0.tmps.getD t undef) →
   ∃args,(execOp a.eval o).run P w=.ok (.enter f args) w∧Calls P f args w fun r w'=>r=.returned (.pointer (some ⟨e,0,none⟩))∧qZA w w' base e ((pre++qQO L before)++bytes)) :
 qZS P ops Q a0 (spφ sp base) (spG E0 items pre live W0 base) j:=by
 intro e L v a w hdown hLj hneed hG hφ hval h0;have hlv:=hlive L hdown hneed;have hE:=hG.2.2 hlv;have haf:∀c b,(c,b)∈after→c≠j∧L c=false:=fun c b hm=>⟨by have:=List.all_eq_true.1 ha' _ hm;simpa using this,qJV hdown hLj ha c (List.mem_map.2 ⟨_,hm,rfl⟩)⟩
 have e1:qQO L items=qQO L before:=by
  have key:∀l:List (Nat×List UInt8),qQO L (l++(j,bytes)::after)=qQO L l:=by
   intro l
   induction l with
   | nil =>
    show(if L j then bytes else [])++qQO L after=[]
    rw[hLj,qXV fun c b hm=>(haf c b hm).2];rfl
   | cons x r ih=>obtain⟨c,b⟩:=x;show _++qQO L (r++_)=_;rw[ih];rfl
  rw[hitems];exact key before
 have e2:qQO (fun i=>i == j||L i) items=qQO L before++bytes:=by
  have key:∀l:List (Nat×List UInt8),(∀c b,(c,b)∈l→c≠j)→qQO (fun i=>i == j||L i) (l++(j,bytes)::after)=qQO L l++bytes:=by
   intro l
   induction l with
   | nil =>
    intro _
    show(if(j == j||L j)then bytes else [])++qQO _ after=_
    rw[qXV (items:=after) fun c b hm=>by simp[(haf c b hm).1,(haf c b hm).2]];simp[qQO]
   | cons x r ih =>
    intro hh;obtain⟨c,b⟩:=x;have hc:=hh c b (List.mem_cons_self ..)
    show(if(c == j||L c)then b else [])++qQO _ (r++_)=(if L c then b else [])++qQO L r++bytes
    rw[ih fun c' b' hm=>hh c' b' (List.mem_cons_of_mem _ hm)]
    have:(c == j)=false:=by simpa using hc
    rw[this];simp
  rw[hitems];exact key before fun c b hm=>by have:=List.all_eq_true.1 hb _ hm;simpa using this
 rw[e1]at hE
 obtain⟨args,hrun,hcall⟩:=h e L v a w hG.1 hG.2.1 hneed hdown hE (fun d hd=>hφ d (hneed d hd)) (fun d t hd hn=>hval d t hd (hneed d hn)) (fun t ht=>h0 t fun d hd=>by
  have hds:d<ops.size:=by
   rcases Nat.lt_or_ge d ops.size with h|h
   ·exact h
   ·unfold qQD at hd;rw[Array.getElem?_eq_none h]at hd;cases hd
  have:=List.all_eq_true.1 ht d (List.mem_range.2 hds)
  rw[hd]at this;simp at this)
 refine qXi ho hg hrun (hcall.mono ?_);rintro r w' ⟨rfl,hT⟩;refine⟨_,rfl,_,e,rfl,?_,fun d _ _ hh=>Sp.stays hh hT.1,hG.1,hG.2.1.trans hT.1,fun _=>?_⟩
 ·unfold spφ;rw[hs];rfl
 ·rw[e2,←List.append_assoc];exact hT.2
theorem enc_alloc(offs:List Nat)(hE0:E0=none)(hW:∀w,qQu W0 w base→base≤w.heap.size)(ho:ops[j]? = some o)(hg:o.guard=none)(hs:sp.getD j .any=.ptr)(hi:(items.all fun x=>x.1 != j)=true)(hpre:pre=[])
 (hoff:pathB ops (j::offs)=true) (hoi:(items.all fun x=>offs.contains x.1)=true) (hop:((List.range sp.length).all fun d => !(sp.getD d .any).isPtr||d == j||offs.contains d)=true)
 (h:∀(a:Act) (w:World),(execOp a.eval o).run P w=.ok (.value (.pointer (some ⟨w.heap.size,0,none⟩))) (w.alloc (.cells #[.slice none 0 0] 91))) :
 qZS P ops Q a0 (spφ sp base) (spG E0 items pre live W0 base) j:=by
 intro e L v a w hdown hLj hneed hG hφ hval h0;have h1:∀c b,(c,b)∈items→L c=false:=fun c b hm=>qJV hdown hLj hoff c (by have:=List.all_eq_true.1 hoi _ hm;simpa using this)
 have h2:∀d,L d=true→sp.getD d .any≠.ptr:=fun d hd he=>by
  have hq:d=j∨d∈offs:=by
   rcases Nat.lt_or_ge d sp.length with hl|hl
   ·have:=List.all_eq_true.1 hop d (List.mem_range.2 hl)
    rw[he]at this;simpa[Sp.isPtr]using this
   ·rw[List.getD_eq_getElem?_getD,List.getElem?_eq_none hl]at he;cases he
  rcases hq with rfl|h
  ·rw[hLj]at hd;cases hd
  ·rw[qJV hdown hLj hoff d h]at hd;cases hd
 have hE:Ext w (w.alloc (.cells #[.slice none 0 0] 91)):=(Er w).alloc _;refine qZU ho hg (h a w) ⟨_,w.heap.size,rfl,?_,fun d _ hd hh=>?_,fun e0 h0=>(by rw[hE0]at h0;cases h0),hG.2.1.alloc _,fun _=>?_⟩
 ·unfold spφ;rw[hs];rfl
 ·have hne:=h2 d hd;unfold spφ at hh⊢;generalize sp.getD d .any=s at hh hne;cases s with
  | val x=>exact hh
  | ptr=>exact absurd rfl hne
  | sl xs=>exact SlE.ext hh hE
  | any=>trivial
 ·rw[qZq (L':=L) fun c b hm=>by have:=List.all_eq_true.1 hi _ hm;simp at this;simp[this],qXV h1,hpre];exact⟨hW w hG.2.1,_,At.new w _ _,⟨rfl,.inl ⟨rfl,rfl⟩⟩⟩
theorem enc_hand(ho:ops[j]? = some o)(hg:o.guard=none)(hs:sp.getD j .any=.ptr)(hi:(items.all fun x=>x.1 != j)=true)(hl:∀L:Nat→Bool,live (fun i=>i == j||L i)=live L)
 (h:∀(e:Nat) (_L:Nat→Bool) (v:Nat→Value) (a:Act) (w:World),(∀d,qZm ops j d=true→(sp.getD d .any).holds base e (v d) w)→(∀d t,qQD ops d=some t→qZm ops j d=true→a.tmps.getD t undef=v d)→(execOp a.eval o).run P w=.ok (.value (.pointer (some ⟨e,0,none⟩))) w) :
 qZS P ops Q a0 (spφ sp base) (spG E0 items pre live W0 base) j:=by
 intro e L v a w hdown hLj hneed hG hφ hval h0;refine qZU ho hg (h e L v a w (fun d hd=>hφ d (hneed d hd)) (fun d t hd hn=>hval d t hd (hneed d hn))) ⟨_,e,rfl,?_,fun d _ _ hh=>hh,hG.1,hG.2.1,fun hlv=>?_⟩
 ·unfold spφ;rw[hs];rfl
 ·rw[hl]at hlv;rw[qZq (L':=L) fun c b hm=>by have:=List.all_eq_true.1 hi _ hm;simp at this;simp[this]];exact hG.2.2 hlv
theorem enc_read{f:FuncId}{x:Value}(ho:ops[j]? = some o)(hg:o.guard=none)(hs:sp.getD j .any=.val x)(hi:(items.all fun x=>x.1 != j)=true)(_hl:∀L:Nat→Bool,live (fun i=>i == j||L i)=live L)
 (hlive:∀L:Nat→Bool,(∀i d,L i=true→qZm ops i d=true→L d=true)→(∀d,qZm ops j d=true→L d=true)→live L=true)
 (h:∀(e:Nat) (L:Nat→Bool) (v:Nat→Value) (a:Act) (w:World),(∀e0,E0=some e0→e=e0)→(∀d,qZm ops j d=true→L d=true)→(∀i d,L i=true→qZm ops i d=true→L d=true)→qZH w base e (pre++qQO L items)→(∀d,qZm ops j d=true→(sp.getD d .any).holds base e (v d) w)→(∀d t,qQD ops d=some t→qZm ops j d=true→a.tmps.getD t undef=v d) →
   ∃args,(execOp a.eval o).run P w=.ok (.enter f args) w∧Calls P f args w fun r w'=>r=.returned x∧Ext w w') :
 qZS P ops Q a0 (spφ sp base) (spG E0 items pre live W0 base) j:=by
 intro e L v a w hdown hLj hneed hG hφ hval h0;have hlv:=hlive L hdown hneed;obtain⟨args,hrun,hcall⟩:=h e L v a w hG.1 hneed hdown (hG.2.2 hlv) (fun d hd=>hφ d (hneed d hd)) (fun d t hd hn=>hval d t hd (hneed d hn));refine qXi ho hg hrun (hcall.mono ?_);rintro r w' ⟨rfl,hE⟩;refine⟨_,rfl,_,e,rfl,?_,fun d _ _ hh=>Sp.stays hh (qQu.ext hE),hG.1,hG.2.1.trans (qQu.ext hE),fun _=>?_⟩
 ·unfold spφ;rw[hs];rfl
 ·rw[qZq (L':=L) fun c b hm=>by have:=List.all_eq_true.1 hi _ hm;simp at this;simp[this]];exact(hG.2.2 hlv).ext hE
end
open Go.RowKit
def qZ4(b:Bool):List UInt8:=[if b then 1 else 0]
theorem qZb(b:Bool):(qZ4 b).length=1:=rfl
section
variable(w:World)(base e:Nat)(bs:List UInt8)
theorem eb_any(h:qZH w base e bs)(vv:Value)(vs:List Bool)(hS:SlE w base vv (vs.map Value.bool))(hl:vs.length≤1048576)(hbs:bs.length≤1099511627776) :
 Calls prog 47 #[.pointer (some ⟨e,0,none⟩),vv] w fun r w'=>r=.returned (.pointer (some ⟨e,0,none⟩))∧qZA w w' base e (bs++vs.flatMap qZ4):=by
 have hS0:=hS;obtain⟨A,c,rfl,hx⟩:=hS.1;rw[List.length_map];have hl0:(vs.length:Int)≤1048576:=by omega
 obtain⟨i0,hi,hz0,hz1,hz2⟩:=info_parts u8_info
 go_enter func47,ntmps47
 go_wp2_with fail
 go_loopw [9] (fun iv wr=>∃k:Nat,k≤vs.length∧iv=.int .i64 (k:Int)∧qZA w wr base e (bs++(vs.take k).flatMap qZ4)) (fun iv _=>vs.length - (intOf iv).toNat)
 case atStart=>exact⟨0,Nat.zero_le _,rfl,qQu.refl _ _,by simpa using h⟩
 case round =>
  obtain⟨k,hk,rfl,hT⟩:=hrel
  by_cases hlt:k<vs.length
  ·have hSr:=(hS0.chg hT.1).1;obtain⟨A',c',hv',hx'⟩:=hSr;injection hv' with q1 q2 q3;subst q1 q3;obtain⟨b,o,rfl,hcell⟩:=hx' (by intro e;rw[List.map_eq_nil_iff]at e;subst e;simp at hlt);have r0:wr.cell? ⟨b,o+k,none⟩=some (.bool vs[k]):=hcell k _ (by rw[List.getElem?_map,List.getElem?_eq_getElem hlt];rfl)
   have hfin:bs++(vs.take (k+1)).flatMap qZ4=(bs++(vs.take k).flatMap qZ4)++qZ4 vs[k]:=by
    rw[List.take_succ_eq_append_getElem hlt,List.flatMap_append,←List.append_assoc];simp
   have hpl:(bs++(vs.take k).flatMap qZ4).length≤1099511627776+1048576:=by
    have h1:∀l:List Bool,(l.flatMap qZ4).length=l.length:=fun l=>by
     induction l with
     | nil=>rfl
     | cons x r ih=>simp only[List.flatMap_cons,List.length_append,ih,qZb,List.length_cons];omega
    have h2:(vs.take k).length≤k:=List.length_take_le _ _;have h3:=h1 (vs.take k);simp only[List.length_append];omega
   generalize vs[k]=n at r0 hfin;generalize bs++(vs.take k).flatMap qZ4=out at hT hfin hpl;have HF:=Hh hfin;clear hx hx' q2 hcell hfin;obtain⟨he,lv,hlv,hown⟩:=hT.2;have d0:wr.cell? ⟨e,0,none⟩=some lv:=hlv.cell 0;have df:wr.frozen? ⟨e,0,none⟩=false:=hlv.frozen 0;have hlt':=hlv.lt;cases n
   ·go_wp2_with (at_builtin;refine wpList_append_own _ rfl _ _ 89 rfl base 5 i0 (.int .u8 0) 1 1 underlying89 hi hz0 hz1 hz2 rfl (by decide) _ _ _ rfl (hown.alloc _) ⟨wr.heap.size,0,none⟩ 1 1 [.int .u8 0] rfl rfl ?c1 ?c2 ?c3 ?c4 ?c5 ?_)
    case c1=>exact qJd
    case c2=>simp[Value.oneCell']
    case c3=>unfold maxLen;omega
    case c4=>omega
    case c5=>simp;omega
    intro v1 w1 hown1 hgrow1 _;obtain⟨A1,n1,c1,rfl⟩:=qZY hown1;have hlv1:=qXk hlv hown ((Er wr).alloc _) hgrow1;have d1:=hlv1.cell 0;have f1:=hlv1.frozen 0;have hT1:=qXG (out':=out++qZ4 false) hT hlv hown ((Er wr).alloc _) hgrow1 hown1 (by rw[List.map_append];rfl) (by simp[qZ4]);go_wp2_with fail
    go_roundw
    case rel=>exact⟨k+1,by omega,by go_num,by rw[HF.out];exact hT1⟩
    case measure=>simp[intOf];omega
   ·go_wp2_with (at_builtin;refine wpList_append_own _ rfl _ _ 89 rfl base 5 i0 (.int .u8 0) 1 1 underlying89 hi hz0 hz1 hz2 rfl (by decide) _ _ _ rfl (hown.alloc _) ⟨wr.heap.size,0,none⟩ 1 1 [.int .u8 1] rfl rfl ?c1 ?c2 ?c3 ?c4 ?c5 ?_)
    case c1=>exact qJd
    case c2=>simp[Value.oneCell']
    case c3=>unfold maxLen;omega
    case c4=>omega
    case c5=>simp;omega
    intro v1 w1 hown1 hgrow1 _;obtain⟨A1,n1,c1,rfl⟩:=qZY hown1;have hlv1:=qXk hlv hown ((Er wr).alloc _) hgrow1;have d1:=hlv1.cell 0;have f1:=hlv1.frozen 0;have hT1:=qXG (out':=out++qZ4 true) hT hlv hown ((Er wr).alloc _) hgrow1 hown1 (by rw[List.map_append];rfl) (by simp[qZ4]);go_wp2_with fail
    go_roundw
    case rel=>exact⟨k+1,by omega,by go_num,by rw[HF.out];exact hT1⟩
    case measure=>simp[intOf];omega
  ·have hge:vs.length≤k:=by omega
   go_wp2_with fail
   go_ret
   rw[List.take_of_length_le (by omega)]at hT;exact⟨rfl,hT⟩
end
open Go.RowKit Go.Sort
def qZw(c:Cp):List UInt8:=[c.there].flatMap qZ4++[c.vol,c.at_].flatMap qQw
def blA(b:Bl):List UInt8:=[b.id].flatMap qQ1++[b.name].flatMap qZh++[!b.dead].flatMap qZ4++[b.size].flatMap qQw++[b.sum].flatMap qQ1++qXD b.disks
def qZI(b:Bl):List UInt8:=blA b++qZw b.a++qZw b.b++[b.pins].flatMap qQw
def qXA(v:Vl):List UInt8:=[v.closed,v.erase].flatMap qZ4++[v.gen].flatMap qQw
def Pm.enc(P:Pm):List UInt8:=[(P.L.length:Int)].flatMap qQw++P.L.flatMap qZI++P.vols.flatMap qXA
theorem qZJ(s:ByteArray):(qZh s).length≤10+s.size:=by
 have:=qQe s.size
 unfold qZh;simp;omega
theorem qX7(l:List Int):(qXD l).length≤10+10 * l.length:=by
 have:=qQe l.length
 have:=qXH l
 unfold qXD;simp only[List.length_append];omega
theorem qZ9(c:Cp):(qZw c).length≤21:=by
 have:=qQe c.vol
 have:=qQe c.at_
 unfold qZw;simp[qZb];omega
theorem blA_length{n:Nat}{b:Bl}(h:BlOk n b):(blA b).length≤200:=by
 have:=qQF b.id
 have:=qZJ b.name
 have:=h.name.2
 have:=qQe b.size
 have:=qQF b.sum
 have:=qX7 b.disks
 have:=qQ8 h.rises
 unfold blA;simp[qZb];omega
theorem blEnc_length{n:Nat}{b:Bl}(h:BlOk n b):(qZI b).length≤300:=by
 have:=blA_length h
 have:=qZ9 b.a
 have:=qZ9 b.b
 have:=qQe b.pins
 unfold qZI;simp;omega
theorem vlEnc_length(v:Vl):(qXA v).length≤12:=by
 have:=qQe v.gen
 unfold qXA;simp[qZb];omega
theorem flatLe{α : Type}(f : α → List UInt8)(k:Nat):∀l:List α,(∀x∈l,(f x).length≤k)→(l.flatMap f).length≤l.length * k
 | [],_=>Nat.zero_le _
 | x::r,h=>by
  have h1:=h x (List.mem_cons_self ..);have h2:=flatLe f k r fun y hy=>h y (List.mem_cons_of_mem _ hy)
  rw[List.flatMap_cons,List.length_append,List.length_cons,Nat.add_mul];omega
theorem enc_pre{n:Nat}{P:Pm}(hi:PInv n P)(hn:P.L.length<50)(k:Nat):([(P.L.length:Int)].flatMap qQw++(P.L.take k).flatMap qZI).length≤15010:=by
 have h1:=qQe P.L.length;have h2:=flatLe qZI 300 (P.L.take k) fun b hb=>blEnc_length (hi.bl b (List.mem_of_mem_take hb))
 have h3:(P.L.take k).length≤P.L.length:=List.length_take_le' _ _;have h5:(P.L.take k).length * 300≤50 * 300:=Nat.mul_le_mul_right _ (by omega);simp only[List.flatMap_cons,List.flatMap_nil,List.append_nil,List.length_append];omega
theorem enc_pre2{n:Nat}{P:Pm}(hi:PInv n P)(hn:P.L.length<50)(k:Nat):(([(P.L.length:Int)].flatMap qQw++P.L.flatMap qZI)++(P.vols.take k).flatMap qXA).length≤15200:=by
 have h1:=enc_pre hi hn P.L.length;rw[List.take_length]at h1;have h2:=flatLe qXA 12 (P.vols.take k) fun v _=>vlEnc_length v
 have h3:(P.vols.take k).length≤P.vols.length:=List.length_take_le' _ _;have h4:=hi.vlen;have h5:(P.vols.take k).length * 12≤12 * 12:=Nat.mul_le_mul_right _ (by omega);rw[List.length_append];omega
theorem enc_step{α : Type}{l:List α}{k:Nat}{x : α}(h:l[k]? = some x)(f : α → List UInt8)(bs:List UInt8):bs++(l.take (k+1)).flatMap f=(bs++(l.take k).flatMap f)++f x:=by
 rw[List.take_add_one,h,List.flatMap_append,List.append_assoc];simp
def rdCp(pool:Int)(d:Dc):Cp×Dc :=
 (⟨d.b.1,(d.b.2.i 11).1,((d.b.2.i 11).2.i 1073741824).1⟩,
  if((d.b.1 && !decide (((d.b.2.i 11).1:Int) % 2=pool))||(!d.b.1&&(!decide ((d.b.2.i 11).1=0) || !decide (((d.b.2.i 11).2.i 1073741824).1=0))))=true then((d.b.2.i 11).2.i 1073741824).2.fail 3 else((d.b.2.i 11).2.i 1073741824).2)
def qJv:List Int→Bool
 | a::b::r=>decide (a<b)&&qJv (b::r)
 | _=>true
def qJs(d:Nat×Dc):Dc:=if(decide (4294967295<d.1))=true then d.2.fail 3 else d.2
def disF(d:List Int×Dc):Dc:=if(!qJv d.1)=true then d.2.fail 3 else d.2
structure Rb where
 id:Nat×Dc
 nm:List UInt8×Dc
 lv:Bool×Dc
 sz:Nat×Dc
 su:Nat×Dc
 dk:List Int×Dc
 a:Cp×Dc
 b:Cp×Dc
 pn:Nat×Dc
def rdB(d:Dc):Rb :=
 let id:=d.u
 let nm:=id.2.s 32
 let lv:=nm.2.b
 let sz:=lv.2.i 4000
 let su:=sz.2.u
 let dk:=(qJs su).list 6 5
 let a:=rdCp 0 (disF dk)
 let b:=rdCp 1 a.2
 ⟨id,nm,lv,sz,su,dk,a,b,b.2.i 1073741824⟩
def Rb.bl(r:Rb):Bl:=⟨r.id.1,⟨r.nm.1.toArray⟩,r.sz.1,r.su.1 % 4294967296,r.dk.1,r.a.1,r.b.1,r.pn.1, !r.lv.1⟩
def qXl(L:List Bl):Nat:=match L.getLast? with
 | some b=>b.id
 | none=>0
def qXI(n:ByteArray)(L:List Bl):Bool:=L.any (qJQ n)||decide (n=ByteArray.empty)
def ckId(L:List Bl)(b:Bl)(d:Dc):Dc:=if(decide (b.id≤qXl L))=true then d.fail 3 else d
def ckNm(L:List Bl)(b:Bl)(d:Dc):Dc:=if(!b.dead&&qXI b.name L)=true then d.fail 3 else d
def ckB(L:List Bl)(b:Bl)(d:Dc):Dc:=ckNm L b (ckId L b d)
def qXs:Nat→List Bl→Dc→List Bl×Dc
 | 0,L,d=>(L,d)
 | n+1,L,d=>if(ckB L (rdB d).bl (rdB d).pn.2).err=0 then qXs n (L++[(rdB d).bl]) (ckB L (rdB d).bl (rdB d).pn.2)else(L,ckB L (rdB d).bl (rdB d).pn.2)
def rdVl(d:Dc):Vl×Dc:=(⟨d.b.1,d.b.2.b.1,(d.b.2.b.2.i 1073741824).1⟩,(d.b.2.b.2.i 1073741824).2)
def qZZ:Nat→Dc→List Vl×Dc
 | 0,d=>([],d)
 | n+1,d=>((rdVl d).1::(qZZ n (rdVl d).2).1,(qZZ n (rdVl d).2).2)
def rdEnd(d:Dc):(List Bl×Dc):=qXs (d.i 100000).1 [] (d.i 100000).2
def qXt(s:List UInt8):Pm×Int :=
 if(qZZ 12 (rdEnd ⟨s,0⟩).2).2.done.err=0 then(⟨(rdEnd ⟨s,0⟩).1,(qZZ 12 (rdEnd ⟨s,0⟩).2).1⟩,0)else(Pm.empty,(qZZ 12 (rdEnd ⟨s,0⟩).2).2.done.err)
theorem failIf{c:Bool}{d:Dc}(h:(if c=true then d.fail 3 else d).err=0):c=false∧d.err=0:=by
 cases c
 ·exact⟨rfl,h⟩
 ·rw[if_pos rfl]at h;exact absurd h (Dc.fail_err (by decide))
theorem failEq{c:Bool}{d:Dc}(h:(if c=true then d.fail 3 else d).err=0):(if c=true then d.fail 3 else d)=d:=by rw[(failIf h).1];rfl
theorem dcMk{d:Dc}(h:d.err=0):d=⟨d.rest,0⟩:=by obtain⟨x,y⟩:=d;simp only at h;rw[h]
theorem Dc.b_err{d:Dc}(h:d.err≠0):d.b=(false,d):=by unfold Dc.b Dc.next;rw[if_neg h]
theorem b_enc(x:Bool)(r:List UInt8):Dc.b ⟨qZ4 x++r,0⟩=(x,⟨r,0⟩):=by cases x <;> rfl
theorem b_step{d:Dc}(h:d.b.2.err=0):d.err=0∧d.rest=qZ4 d.b.1++d.b.2.rest:=by
 by_cases he:d.err=0
 ·refine⟨he,?_⟩
  obtain⟨rs,e⟩:=d;simp only at he;subst he;cases rs with
  | nil=>exact absurd h (by decide)
  | cons c r =>
   have hb:Dc.b ⟨c::r,0⟩=(if 1<c.toNat then(false,Dc.fail ⟨r,0⟩ 3)else(c == 1,⟨r,0⟩)):=rfl;rw[hb]at h⊢
   split at h
   ·exact absurd h (Dc.fail_err (by decide))
   ·rename_i hc
    rw[if_neg hc];have h2:c.toNat=0∨c.toNat=1:=by omega
    have h3:c=0∨c=1:=by
     rcases h2 with e|e
     ·exact .inl (UInt8.toNat_inj.1 e)
     ·exact .inr (UInt8.toNat_inj.1 e)
    rcases h3 with rfl|rfl <;> rfl
 ·rw[Dc.b_err he]at h;exact absurd h he
theorem qXJ{d:Dc}{m:Int}(h:(d.i m).2.err=0)(hm:0≤m:=by decide):d.err=0∧d.rest=qQw ((d.i m).1:Int)++(d.i m).2.rest∧((d.i m).1:Int)≤m:=by
 have h0:=i_err0 h
 have:=i_inv (s:=d.rest) (r:=(d.i m).2.rest) (v:=(d.i m).1) (most:=m) (by rw[←dcMk h0,←dcMk h])
 rw[Int.max_eq_left hm]at this;exact⟨h0,this.1,this.2⟩
theorem u_step'{d:Dc}(h:d.u.2.err=0):d.err=0∧d.rest=qQ1 d.u.1++d.u.2.rest∧d.u.1<18446744073709551616:=by
 have h0:=u_err0 h
 have:=u_inv (s:=d.rest) (r:=d.u.2.rest) (v:=d.u.1) (by rw[←dcMk h0,←dcMk h])
 exact⟨h0,this.1,this.2⟩
theorem s_step{d:Dc}{m:Int}(h:(d.s m).2.err=0)(hm:0≤m:=by decide):d.err=0∧d.rest=qZh ⟨(d.s m).1.toArray⟩++(d.s m).2.rest∧((d.s m).1.length:Int)≤m:=by
 have h0:=s_err0 h
 have:=s_inv (t:=d.rest) (r:=(d.s m).2.rest) (x:=(d.s m).1) (most:=m) (by rw[←dcMk h0,←dcMk h])
 rw[Int.max_eq_left hm]at this;exact⟨h0,this.1,this.2⟩
theorem list_step{d:Dc}{m e:Int}(h:(d.list m e).2.err=0)(hm:0≤e:=by decide):d.err=0∧d.rest=qXD (d.list m e).1++(d.list m e).2.rest∧∀x∈(d.list m e).1,0≤x∧x≤e:=by
 have h0:=list_err0 h
 have:=list_inv (t:=d.rest) (r:=(d.list m e).2.rest) (l:=(d.list m e).1) (most:=m) (each:=e) (by rw[←dcMk h0,←dcMk h])
 rw[Int.max_eq_left hm]at this;exact⟨h0,this.1,this.2.2⟩
def CpOk(pool:Int)(c:Cp):Prop:=c=Cp.none∨c.there=true∧c.vol % 2=pool∧0≤c.vol∧c.vol≤11∧0≤c.at_∧c.at_≤1073741824
theorem cp_step{p:Int}{d:Dc}(h:(rdCp p d).2.err=0):d.err=0∧d.rest=qZw (rdCp p d).1++(rdCp p d).2.rest∧CpOk p (rdCp p d).1:=by
 unfold rdCp at h⊢;simp only at h⊢;obtain⟨hc,h3⟩:=failIf h;rw[hc];simp only[Bool.false_eq_true,if_false];obtain⟨h2,e3,l3⟩:=qXJ h3;obtain⟨h1,e2,l2⟩:=qXJ h2;obtain⟨h0,e1⟩:=b_step h1;refine⟨h0,?_,?_⟩
 ·rw[e1,e2,e3];unfold qZw;simp
 ·unfold CpOk;cases ht:d.b.1
  ·left
   rw[ht]at hc;simp at hc;unfold Cp.none;rw[hc.1,hc.2];rfl
  ·right
   rw[ht]at hc;simp at hc;exact⟨rfl,hc,Int.natCast_nonneg _,l2,Int.natCast_nonneg _,l3⟩
theorem cp_enc{p:Int}{c:Cp}(h:CpOk p c)(r:List UInt8):rdCp p ⟨qZw c++r,0⟩=(c,⟨r,0⟩):=by
 have e0:qZw c++r=qZ4 c.there++(qQw c.vol++(qQw c.at_++r)):=by unfold qZw;simp
 have hb:0≤c.vol∧c.vol≤11∧0≤c.at_∧c.at_≤1073741824:=by
  rcases h with rfl|⟨_,_,h1,h2,h3,h4⟩
  ·decide
  ·exact⟨h1,h2,h3,h4⟩
 obtain⟨h1,h2,h3,h4⟩:=hb;unfold rdCp;rw[e0,b_enc];simp only;rw[qZW h1 h2 (by omega)];simp only;rw[qZW h3 h4 (by omega)];simp only;have e1:((c.vol.toNat:Nat):Int)=c.vol:=by omega
 have e2:((c.at_.toNat:Nat):Int)=c.at_:=by omega
 rw[e1,e2];rcases h with rfl|⟨g1,g2,_⟩
 ·rfl
 ·rw[g1,g2];simp
  obtain⟨t,v,a⟩:=c;simp only at g1;rw[g1]
theorem riseB_iff:∀l:List Int,qJv l=true↔l.Pairwise (· < ·)
 | []=>by simp[qJv]
 | [a]=>by simp[qJv]
 | a::b::r=>by
  unfold qJv;rw[Bool.and_eq_true,riseB_iff (b::r),List.pairwise_cons (a:=a)];simp only[decide_eq_true_eq]
  constructor
  ·rintro⟨h1,h2⟩
   refine⟨fun x hx=>?_,h2⟩
   rcases List.mem_cons.1 hx with rfl|hx
   ·exact h1
   ·have:=(List.pairwise_cons.1 h2).1 x hx
    omega
  ·rintro⟨h1,h2⟩
   exact⟨h1 b (List.mem_cons_self ..),h2⟩
structure BlW (b:Bl):Prop where
 id:b.id<18446744073709551616
 name:b.name.size≤32
 size:0≤b.size∧b.size≤4000
 sum:b.sum<4294967296
 rises:qZs b.disks=true
 ca:CpOk 0 b.a
 cb:CpOk 1 b.b
 pins:0≤b.pins∧b.pins≤1073741824
theorem bl_step{d:Dc}(h:(rdB d).pn.2.err=0):d.err=0∧d.rest=qZI (rdB d).bl++(rdB d).pn.2.rest∧BlW (rdB d).bl:=by
 unfold rdB at h⊢;simp only at h⊢;unfold Rb.bl;simp only;obtain⟨h8,e9,l9⟩:=qXJ h;obtain⟨h7,e8,k8⟩:=cp_step h8;obtain⟨h6,e7,k7⟩:=cp_step h7
 have f6:∀q:List Int×Dc,(disF q).err=0→qJv q.1=true∧q.2.err=0∧disF q=q.2:=fun q hq=>by
  unfold disF at hq⊢
  have:=failIf hq
  exact⟨by simpa using this.1,this.2,failEq hq⟩
 obtain⟨r6,g6,q6⟩:=f6 _ h6;rw[q6]at e7 k7 e8 k8 e9 l9⊢;obtain⟨h5,e6,k6⟩:=list_step g6
 have f5:∀q:Nat×Dc,(qJs q).err=0→q.1≤4294967295∧q.2.err=0∧qJs q=q.2:=fun q hq=>by
  unfold qJs at hq⊢
  have:=failIf hq
  exact⟨by simpa using this.1,this.2,failEq hq⟩
 obtain⟨r5,g5,q5⟩:=f5 _ h5;rw[q5]at e6 k6 r6 e7 k7 e8 k8 e9 l9⊢;obtain⟨h4,e5,_⟩:=u_step' g5;obtain⟨h3,e4,l4⟩:=qXJ h4;obtain⟨h2,e3⟩:=b_step h3;obtain⟨h1,e2,l2⟩:=s_step h2;obtain⟨h0,e1,l1⟩:=u_step' h1;refine⟨h0,?_,?_⟩
 ·rw[e1,e2,e3,e4,e5,e6,e7,e8,e9];unfold qZI blA;simp only[Bool.not_not,List.flatMap_cons,List.flatMap_nil,List.append_nil,List.append_assoc];rw[Nat.mod_eq_of_lt (by omega)]
 ·refine⟨l1,?_,⟨Int.natCast_nonneg _,l4⟩,Nat.mod_lt _ (by decide),?_,k7,k8,⟨Int.natCast_nonneg _,l9⟩⟩
  ·have:ByteArray.size ⟨(List.toArray (d.u.2.s 32).1)⟩=(d.u.2.s 32).1.length:=by simp[ByteArray.size]
   rw[this];omega
  ·rw[qJu];refine⟨(riseB_iff _).1 r6,fun x hx=>?_⟩
   have:=k6 x hx
   unfold upB;simp
   omega
theorem bl_enc{b:Bl}(h:BlW b)(r:List UInt8):(rdB ⟨qZI b++r,0⟩).bl=b∧(rdB ⟨qZI b++r,0⟩).pn.2=⟨r,0⟩:=by
 have e0:qZI b++r=qQ1 b.id++(qZh b.name++(qZ4 (!b.dead)++(qQw b.size++(qQ1 b.sum++(qXD b.disks++(qZw b.a++(qZw b.b++(qQw b.pins++r)))))))):=by
  unfold qZI blA;simp
 have hd:b.disks.length≤6:=qQ8 h.rises;have hd2:=rises_lim h.rises
 have e4:∀t,qJs (b.sum,(⟨t,0⟩:Dc))=⟨t,0⟩:=fun t=>by
  unfold qJs;rw[if_neg]
  have:=h.sum
  simp
  omega
 have e6:∀t,disF (b.disks,(⟨t,0⟩:Dc))=⟨t,0⟩:=fun t=>by
  unfold disF;rw[if_neg];rw[(riseB_iff _).2 ((qJu _).1 h.rises).1]
  decide
 have key:rdB ⟨qZI b++r,0⟩=⟨(b.id,⟨qZh b.name++(qZ4 (!b.dead)++(qQw b.size++(qQ1 b.sum++(qXD b.disks++(qZw b.a++(qZw b.b++(qQw b.pins++r))))))),0⟩),
  (b.name.data.toList,⟨qZ4 (!b.dead)++(qQw b.size++(qQ1 b.sum++(qXD b.disks++(qZw b.a++(qZw b.b++(qQw b.pins++r)))))),0⟩),(!b.dead,⟨qQw b.size++(qQ1 b.sum++(qXD b.disks++(qZw b.a++(qZw b.b++(qQw b.pins++r))))),0⟩),
  (b.size.toNat,⟨qQ1 b.sum++(qXD b.disks++(qZw b.a++(qZw b.b++(qQw b.pins++r)))),0⟩),(b.sum,⟨qXD b.disks++(qZw b.a++(qZw b.b++(qQw b.pins++r))),0⟩),(b.disks,⟨qZw b.a++(qZw b.b++(qQw b.pins++r)),0⟩),
  (b.a,⟨qZw b.b++(qQw b.pins++r),0⟩),(b.b,⟨qQw b.pins++r,0⟩),(b.pins.toNat,⟨r,0⟩)⟩:=by
  unfold rdB;rw[e0]
  try simp only
  rw[u_enc h.id]
  try simp only
  rw[s_enc (by have:=h.name;omega) (by decide)]
  try simp only
  rw[b_enc]
  try simp only
  rw[qZW h.size.1 h.size.2 (by decide)]
  try simp only
  rw[u_enc (by have:=h.sum;omega),e4]
  try simp only
  rw[list_enc (by omega) (by decide) (by decide) hd2,e6]
  try simp only
  rw[cp_enc h.ca]
  try simp only
  rw[cp_enc h.cb]
  try simp only
  rw[qZW h.pins.1 h.pins.2 (by decide)]
 rw[key];refine⟨?_,rfl⟩
 unfold Rb.bl;simp only;have h1:=h.size.1;have h2:=h.pins.1;have e1:((b.size.toNat:Nat):Int)=b.size:=by omega
 have e2:((b.pins.toNat:Nat):Int)=b.pins:=by omega
 rw[e1,e2,Nat.mod_eq_of_lt h.sum,Bool.not_not]
structure LsW (L:List Bl):Prop where
 asc:L.Pairwise fun a b=>a.id<b.id
 pos:∀b∈L,0<b.id
 bl:∀b∈L,BlW b
 nm:∀b∈L,b.dead=false→b.name≠ByteArray.empty
 uniq:∀b∈L,∀b'∈L,b.dead=false→b'.dead=false→b.name=b'.name→b.id=b'.id
theorem LsW.nil:LsW [] where
 asc:=List.Pairwise.nil
 pos:=by intro b h;cases h
 bl:=by intro b h;cases h
 nm:=by intro b h;cases h
 uniq:=by intro b h;cases h
theorem last_le{L:List Bl}(h:L.Pairwise fun a b=>a.id<b.id):∀b∈L,b.id≤qXl L:=by
 intro b hb;unfold qXl;rcases List.eq_nil_or_concat L with rfl|⟨M,x,rfl⟩
 ·cases hb
 ·rw[List.concat_eq_append]at h hb⊢;rw[List.getLast?_append];simp only[List.getLast?_singleton,Option.some_or];rw[List.pairwise_append]at h;rcases List.mem_append.1 hb with hb|hb
  ·have:=h.2.2 b hb x (List.mem_singleton.2 rfl);omega
  ·rw[List.mem_singleton]at hb;subst hb;exact Nat.le_refl _
theorem qXu{n:ByteArray}{L:List Bl}(h:qXI n L=false):n≠ByteArray.empty∧∀b∈L,b.dead=false→b.name≠n:=by
 unfold qXI at h;rw[Bool.or_eq_false_iff]at h;refine⟨by simpa using h.2,fun b hb hd e=>?_⟩
 have:=List.any_eq_false.1 h.1 b hb
 exact this (qZE.2 ⟨hd,e⟩)
theorem LsW.snoc{L:List Bl}(h:LsW L){b:Bl}(hb:BlW b)(hid:qXl L<b.id)(hn:b.dead=false→qXI b.name L=false):LsW (L++[b]):=by
 refine⟨?_,fun c hc=>?_,fun c hc=>?_,fun c hc hd=>?_,fun c hc c' hc' hd hd' e=>?_⟩
 ·rw[List.pairwise_append];refine⟨h.asc,List.pairwise_singleton _ _,fun x hx y hy=>?_⟩
  rw[List.mem_singleton]at hy;subst hy
  have:=last_le h.asc x hx;omega
 ·rcases List.mem_append.1 hc with hc|hc
  ·exact h.pos c hc
  ·rw[List.mem_singleton]at hc;subst hc;omega
 ·rcases List.mem_append.1 hc with hc|hc
  ·exact h.bl c hc
  ·rw[List.mem_singleton]at hc;subst hc;exact hb
 ·rcases List.mem_append.1 hc with hc|hc
  ·exact h.nm c hc hd
  ·rw[List.mem_singleton]at hc;subst hc;exact(qXu (hn hd)).1
 ·rcases List.mem_append.1 hc with g1|g1 <;> rcases List.mem_append.1 hc' with g2|g2
  ·exact h.uniq c g1 c' g2 hd hd' e
  ·have e2:=List.mem_singleton.1 g2;rw[e2]at e hd';exact absurd e ((qXu (hn hd')).2 c g1 hd)
  ·have e2:=List.mem_singleton.1 g1;rw[e2]at e hd;exact absurd e.symm ((qXu (hn hd)).2 c' g2 hd')
  ·rw[List.mem_singleton.1 g1,List.mem_singleton.1 g2]
theorem ck_step{L:List Bl}{b:Bl}{d:Dc}(h:(ckB L b d).err=0):d.err=0∧ckB L b d=d∧qXl L<b.id∧(b.dead=false→qXI b.name L=false):=by
 unfold ckB ckNm at h⊢;obtain⟨h1,h2⟩:=failIf h;rw[failEq h];unfold ckId at h2⊢;obtain⟨h3,h4⟩:=failIf h2;rw[failEq h2];refine⟨h4,rfl,by simpa using h3,fun hd=>?_⟩
 rw[hd]at h1;simpa using h1
theorem ck_ok{L:List Bl}{b:Bl}{r:List UInt8}(h:LsW (L++[b])):ckB L b ⟨r,0⟩=⟨r,0⟩:=by
 have h1:qXl L<b.id:=by
  unfold qXl;cases hl:L.getLast? with
  | none=>exact h.pos b (by simp)
  | some c =>
   have hc:c∈L:=List.mem_of_getLast? hl;exact(List.pairwise_append.1 h.asc).2.2 c hc b (List.mem_singleton.2 rfl)
 have e1:ckId L b ⟨r,0⟩=⟨r,0⟩:=by
  unfold ckId;rw[if_neg];simp;omega
 unfold ckB;rw[e1];unfold ckNm;cases hd:b.dead
 ·have h2:qXI b.name L=false:=by
   unfold qXI;rw[Bool.or_eq_false_iff];refine⟨List.any_eq_false.2 fun c hc hl=>?_,by simpa using h.nm b (by simp) hd⟩
   obtain⟨l1,l2⟩:=qZE.1 hl;have e:=h.uniq c (by simp[hc]) b (by simp) l1 hd l2
   have:=(List.pairwise_append.1 h.asc).2.2 c hc b (List.mem_singleton.2 rfl)
   omega
  rw[h2];rfl
 ·rfl
theorem LsW.left{L M:List Bl}(h:LsW (L++M)):LsW L:=⟨(List.pairwise_append.1 h.asc).1,fun b hb=>h.pos b (by simp[hb]),fun b hb=>h.bl b (by simp[hb]),fun b hb=>h.nm b (by simp[hb]),fun b hb c hc=>h.uniq b (by simp[hb]) c (by simp[hc])⟩
theorem blobs_enc(r:List UInt8):∀(M L:List Bl),LsW (L++M)→qXs M.length L ⟨M.flatMap qZI++r,0⟩=(L++M,⟨r,0⟩)
 | [],L,_=>by simp[qXs]
 | b::M,L,h=>by
  have h':LsW ((L++[b])++M):=by simpa using h
  have hb:=h.bl b (by simp);obtain⟨e1,e2⟩:=bl_enc hb (M.flatMap qZI++r);rw[List.flatMap_cons,List.append_assoc,List.length_cons];unfold qXs;rw[e1,e2,ck_ok h'.left,if_pos rfl,blobs_enc r M (L++[b]) h'];simp
theorem vl_enc{v:Vl}(h1:0≤v.gen)(h2:v.gen≤1073741824)(r:List UInt8):rdVl ⟨qXA v++r,0⟩=(v,⟨r,0⟩):=by
 have e0:qXA v++r=qZ4 v.closed++(qZ4 v.erase++(qQw v.gen++r)):=by unfold qXA;simp
 unfold rdVl;rw[e0,b_enc];simp only;rw[b_enc];simp only;rw[qZW h1 h2 (by decide)];simp only;have e1:((v.gen.toNat:Nat):Int)=v.gen:=by omega
 rw[e1]
theorem vls_enc(r:List UInt8):∀(V:List Vl),(∀v∈V,0≤v.gen∧v.gen≤1073741824)→qZZ V.length ⟨V.flatMap qXA++r,0⟩=(V,⟨r,0⟩)
 | [],_=>by simp[qZZ]
 | v::V,h=>by
  have hv:=h v (List.mem_cons_self ..);rw[List.flatMap_cons,List.append_assoc,List.length_cons];unfold qZZ;rw[vl_enc hv.1 hv.2];simp only;rw[vls_enc r V fun u hu=>h u (List.mem_cons_of_mem _ hu)]
theorem vls_err:∀(n:Nat) (d:Dc),d.err≠0→(qZZ n d).2=d
 | 0,_,_=>rfl
 | n+1,d,h=>by
  unfold qZZ rdVl;simp only;rw[Dc.b_err h];simp only;rw[Dc.b_err h];simp only;rw[Dc.i_err h];exact vls_err n d h
theorem rdCat_enc{n:Nat}{P:Pm}(h:PInv n P)(hn:n≤100000):qXt P.enc=(P,0):=by
 have hw:LsW P.L:=⟨h.asc,fun b hb=>by have:=(h.bl b hb).id.1;omega,fun b hb=>by
  have k:=h.bl b hb;exact⟨k.id.2,k.name.2,k.size,k.sum,k.rises,k.ca,k.cb,⟨k.pins.1,by have:=k.pins.2;omega⟩⟩,fun b hb hd=>(h.bl b hb).name.1 hd,h.uniq⟩
 have hv:∀v∈P.vols,0≤v.gen∧v.gen≤1073741824:=fun v hv=>⟨(h.gen v hv).1,by have:=(h.gen v hv).2;omega⟩
 have e0:P.enc=qQw (P.L.length:Int)++(P.L.flatMap qZI++(P.vols.flatMap qXA++[])):=by unfold Pm.enc;simp
 have hE:rdEnd ⟨P.enc,0⟩=(P.L,⟨P.vols.flatMap qXA++[],0⟩):=by
  unfold rdEnd;rw[e0,qZW (by omega) (by have:=h.len;omega) (by decide)];simp only[Int.toNat_natCast];rw[blobs_enc _ P.L [] (by simpa using hw)];simp
 have hV:qZZ 12 ⟨P.vols.flatMap qXA++[],0⟩=(P.vols,⟨[],0⟩):=by
  have:=vls_enc [] P.vols hv
  rw[h.vlen]at this;exact this
 unfold qXt;rw[hE];simp only;rw[hV];rfl
open Go.RowKit Go.Sort
section
variable{w w':World}{base:Nat}
theorem At.enc{g:Nat}{t:TypeId}{cs:Array Value}(h:At w g t cs)(ht:t≠91∧t≠5)(hc:qQu w w' base):At w' g t cs:=by
 refine h.chg hc fun hs=>?_
 obtain⟨_,cs',t',m,h2,h3⟩:=hs;unfold At at h;rw[h]at h2;injection h2 with h2;injection h2 with _ h2 _;subst h2;rcases h3 with h3|h3
 ·exact ht.1 h3
 ·exact ht.2 h3
theorem own_enc{b0:Nat}{t:TypeId}{size:Nat}{v:Value}{n:Nat}{xs:List Value}(h:w.ownsRow b0 t size v n xs)(ht:t≠91∧t≠5)(hc:qQu w w' base):w'.ownsRow b0 t size v n xs:=by
 refine qQa h hc fun k hk hs=>?_
 rcases h.2 with⟨rfl,_⟩|⟨g,cap,cur,rfl,_,hg,_⟩
 ·cases hk
 ·have e:k=g:=by injection hk
  subst e;obtain⟨_,cs',t',m,h2,h3⟩:=hs;rw[hg]at h2;injection h2 with h2;injection h2 with _ h2 _;subst h2;rcases h3 with h3|h3
  ·exact ht.1 h3
  ·exact ht.2 h3
theorem qX1{b0:Nat}{t:TypeId}{v:Value}{n:Nat}{xs:List Value}(h:w.ownsRow b0 t 1 v n xs):Sl w v xs:=by
 have hl:xs.length=n:=by have:=h.1;omega
 obtain⟨A,m,c,rfl⟩:=qZY h;rcases h.2 with⟨e,e2⟩|⟨g,cap,cur,e,_⟩
 ·injection e with e1 e3 e4;subst e1 e3 e4
  have:xs=[]:=List.eq_nil_of_length_eq_zero (by omega)
  subst this;exact⟨_,_,rfl,fun hne=>absurd rfl hne⟩
 ·injection e with e1 e3 e4;subst e1 e3 e4;exact⟨_,_,by rw[hl],fun _=>⟨g,0,rfl,fun i x hi=>by rw[Nat.zero_add];have:=h.cells (g:=g) rfl i x hi;rw[Go.WideShapes.add_plain,Nat.zero_add]at this;exact this⟩⟩
theorem own_sle{b0:Nat}{t:TypeId}{v:Value}{n:Nat}{xs:List Value}(h:w.ownsRow b0 t 1 v n xs)(ht:t≠91∧t≠5):SlE w base v xs:=by
 refine⟨qX1 h,fun b o n' c hv hne hs=>?_⟩
 rcases h.2 with⟨rfl,e⟩|⟨g,cap,cur,rfl,_,hg,_⟩
 ·exact hne (List.eq_nil_of_length_eq_zero (by have:=h.1;omega))
 ·injection hv with hv1;injection hv1 with hv1;injection hv1 with hb _;subst hb;obtain⟨_,cs',t',m,h2,h3⟩:=hs;rw[hg]at h2;injection h2 with h2;injection h2 with _ h2 _;subst h2;rcases h3 with h3|h3
  ·exact ht.1 h3
  ·exact ht.2 h3
theorem qXm{g:Nat}{t:TypeId}{cs:Array Value}(h:At w g t cs)(ht:t≠91∧t≠5):∀w',qQu w.drew w' base→∀i:Nat,w'.cell? ⟨g,i,none⟩=cs[i]? := fun _w' hc i=>(At.enc h.drew ht hc).cell i
end
def cpE(b:Bl):Nat→List UInt8
 | 0=>[]
 | 1=>qZw b.a
 | _=>qZw b.a++qZw b.b
abbrev cpArr(b:Bl):Value:=.agg #[.bool b.a.there,.int .i64 b.a.vol,.int .i64 b.a.at_,.bool b.b.there,.int .i64 b.b.vol,.int .i64 b.b.at_]
theorem cidx0(a0 a1 a2 a3 a4 a5:Value):∀w,(Instr.index 106 (.agg #[a0,a1,a2,a3,a4,a5]) (.int .i64 0)).run prog w=.ok (.agg #[a0,a1,a2]) w:=fun _=>by first|kernel_rfl|rfl
theorem cidx1(a0 a1 a2 a3 a4 a5:Value):∀w,(Instr.index 106 (.agg #[a0,a1,a2,a3,a4,a5]) (.int .i64 1)).run prog w=.ok (.agg #[a3,a4,a5]) w:=fun _=>by first|kernel_rfl|rfl
theorem cp_at{n:Nat}{b:Bl}(h:BlOk n b)(j:Nat)(hj:j<2):∃x:Cp,(∀w,(Instr.index 106 (cpArr b) (.int .i64 (j:Int))).run prog w=.ok (.agg #[.bool x.there,.int .i64 x.vol,.int .i64 x.at_]) w) ∧
 cpE b (j+1)=cpE b j++qZw x∧0≤x.vol∧x.vol≤11∧0≤x.at_∧x.at_≤1073741824:=by
 have h2:j=0∨j=1:=by omega
 rcases h2 with rfl|rfl
 ·refine⟨b.a,cidx0 _ _ _ _ _ _,rfl,?_⟩
  rcases h.ca with e|⟨_,_,h1,h2,h3,h4⟩
  ·rw[e];decide
  ·exact⟨h1,h2,h3,h4⟩
 ·refine⟨b.b,cidx1 _ _ _ _ _ _,rfl,?_⟩
  rcases h.cb with e|⟨_,_,h1,h2,h3,h4⟩
  ·rw[e];decide
  ·exact⟨h1,h2,h3,h4⟩
theorem cpE_length(b:Bl)(j:Nat):(cpE b j).length≤42:=by
 have h1:=qZ9 b.a;have h2:=qZ9 b.b;unfold cpE;split
 ·simp
 ·omega
 ·rw[List.length_append];omega
theorem twelve{α : Type}{V:List α}(h:V.length=12):∃a0 a1 a2 a3 a4 a5 a6 a7 a8 a9 a10 a11,V=[a0,a1,a2,a3,a4,a5,a6,a7,a8,a9,a10,a11]:=by
 match V,h with
 | [a0,a1,a2,a3,a4,a5,a6,a7,a8,a9,a10,a11],_=>exact⟨a0,a1,a2,a3,a4,a5,a6,a7,a8,a9,a10,a11,rfl⟩
abbrev vlArr(V:List Vl):Value:=.agg ((V.map qQY).flatten).toArray
theorem vl_idx{V:List Vl}(h:V.length=12)(j:Nat)(hj:j<12):∃x:Vl,V[j]? = some x∧∀w,(Instr.index 98 (vlArr V) (.int .i64 (j:Int))).run prog w=.ok (.agg #[.bool x.closed,.bool x.erase,.int .i64 x.gen]) w:=by
 obtain⟨a0,a1,a2,a3,a4,a5,a6,a7,a8,a9,a10,a11,rfl⟩:=twelve h;have h2:j=0∨j=1∨j=2∨j=3∨j=4∨j=5∨j=6∨j=7∨j=8∨j=9∨j=10∨j=11:=by omega
 rcases h2 with rfl|rfl|rfl|rfl|rfl|rfl|rfl|rfl|rfl|rfl|rfl|rfl
 ·exact⟨a0,rfl,fun _=>by kernel_rfl⟩
 ·exact⟨a1,rfl,fun _=>by kernel_rfl⟩
 ·exact⟨a2,rfl,fun _=>by kernel_rfl⟩
 ·exact⟨a3,rfl,fun _=>by kernel_rfl⟩
 ·exact⟨a4,rfl,fun _=>by kernel_rfl⟩
 ·exact⟨a5,rfl,fun _=>by kernel_rfl⟩
 ·exact⟨a6,rfl,fun _=>by kernel_rfl⟩
 ·exact⟨a7,rfl,fun _=>by kernel_rfl⟩
 ·exact⟨a8,rfl,fun _=>by kernel_rfl⟩
 ·exact⟨a9,rfl,fun _=>by kernel_rfl⟩
 ·exact⟨a10,rfl,fun _=>by kernel_rfl⟩
 ·exact⟨a11,rfl,fun _=>by kernel_rfl⟩
theorem vl_range{w:World}{B:Nat→Prop}{c mb mn:Nat}{C:Ct}(h:CtAt w B c mb mn C):w.rangeAt c 2 ((C.vols.map qQY).flatten):=fun j v hv=>by
 have:=h.blk.cell (2+j)
 rw[this,List.getElem?_toArray,show 2+j=j+1+1 by omega,List.getElem?_cons_succ,List.getElem?_cons_succ];exact hv
theorem vl_info{V:List Vl}(h:V.length=12):(prog.info? 98).map (·.size)=some ((V.map qQY).flatten).length:=by
 obtain⟨a0,a1,a2,a3,a4,a5,a6,a7,a8,a9,a10,a11,e⟩:=twelve h;rw[e]
 kernel_rfl
open Go.RowKit Go.Sort
structure RfRows (w:World) (lv:Value) (DV:List (Bl×Value)):Prop where
 own:w.ownsRow 0 173 13 lv DV.length ((DV.map qZ5).flatten)
 dks:∀p∈DV,w.ownsRow 0 3 1 p.2 p.1.disks.length (p.1.disks.map (Value.int .i64))
def qQj(lv:Value)(V:List Vl):Array Value:=(lv::(V.map qQY).flatten).toArray
def qZj(w:World)(v:Value)(P:Pm):Prop:=∃lv DV,v=.agg (qQj lv P.vols)∧DV.map (·.1)=P.L∧RfRows w lv DV
section
variable{w w':World}{lv v:Value}{DV:List (Bl×Value)}{P:Pm}
theorem RfRows.ext(h:RfRows w lv DV)(hE:Ext w w'):RfRows w' lv DV:=⟨own_kx h.own hE,fun p hp=>own_kx (h.dks p hp) hE⟩
theorem qZj.ext(h:qZj w v P)(hE:Ext w w'):qZj w' v P:=by
 obtain⟨lv,DV,h1,h2,h3⟩:=h;exact⟨lv,DV,h1,h2,h3.ext hE⟩
theorem RfRows.sln(h:RfRows w lv DV):Sln w lv 13 (DV.map qZ5):=Sln.of_own h.own (fun r hr=>by obtain⟨p,_,rfl⟩:=List.mem_map.1 hr;rfl) (by simp)
end
def qXK(id:Nat):List Bl→Nat→Int
 | [],_ => -1
 | b::r,k=>if b.id=id then(k:Int)else qXK id r (k+1)
def qXz(n:ByteArray):List Bl→Nat→Int
 | [],_ => -1
 | b::r,k=>if qJQ n b=true then(k:Int)else qXz n r (k+1)
theorem rfFind_cons(id:Nat)(b:Bl)(r:List Bl)(k:Nat):qXK id (b::r) k=if b.id=id then(k:Int)else qXK id r (k+1):=rfl
theorem rfName_cons(n:ByteArray)(b:Bl)(r:List Bl)(k:Nat):qXz n (b::r) k=if qJQ n b=true then(k:Int)else qXz n r (k+1):=rfl
theorem rfFind_nil(id k:Nat):qXK id [] k = -1:=rfl
theorem rfName_nil(n:ByteArray)(k:Nat):qXz n [] k = -1:=rfl
theorem drop_some{α : Type}{l:List α}{k:Nat}{x : α}(h:l[k]? = some x):l.drop k=x::l.drop (k+1):=by
 obtain⟨h1,h2⟩:=List.getElem?_eq_some_iff.1 h;rw[List.drop_eq_getElem_cons h1,h2]
theorem rfind_any(w:World)(v:Value)(P:Pm)(h:qZj w v P)(id:Nat)(hl:P.L.length≤1000000) :
 Calls prog 88 #[v,.int .u64 (id:Int)] w fun e w'=>e=.returned (.int .i64 (qXK id P.L 0))∧Ext w w':=by
 obtain⟨lv,DV,rfl,hDV,hR⟩:=h;have hlen:DV.length=P.L.length:=by rw[←hDV,List.length_map]
 obtain⟨A,c,rfl⟩:=qQc hR.own;have HX:Hid (qQj (.slice A DV.length c) P.vols=(.slice A DV.length c::(P.vols.map qQY).flatten).toArray):=Hh rfl;generalize hX:qQj (.slice A DV.length c) P.vols=X at HX⊢;clear hX;have hX0:X[0]? = some (.slice A DV.length c):=by rw[HX.out];rfl
 have hl2:DV.length≤1000000:=by omega
 have HDV:=Hh hDV;have HDD:=Hh hR.dks;clear hDV hl hlen
 go_enter func88,ntmps88
 have hB:=At.new w 59 X;have hE:=(Er w).alloc (.cells X 59)
 go_upto_region 1 with fail
 generalize w.heap.size=xb at hB⊢;generalize w.alloc (.cells X 59)=W at hB hE⊢;have c0:=hB.cell 0;rw[hX0]at c0;have hS:=hR.sln.ext hE;clear hB hR hX0;go_wp2_with fail
 clear c0
 go_loopw [10] (fun kv wr=>∃k:Nat,kv=.int .i64 (k:Int)∧k≤DV.length∧qXK id P.L 0=qXK id (P.L.drop k) k∧Sln wr (.slice A DV.length c) 13 (DV.map qZ5)∧Ext w wr) (fun kv _=>DV.length - (intOf kv).toNat)
 case atStart=>exact⟨0,rfl,Nat.zero_le _,rfl,hS,hE⟩
 case round =>
  clear hS hE;obtain⟨k,rfl,hk,hpl,hS,hE⟩:=hrel
  by_cases hlt:k<DV.length
  ·obtain⟨⟨b,dv⟩,hb⟩:∃q,DV[k]? = some q:=⟨_,List.getElem?_eq_getElem hlt⟩;have hbL:P.L[k]? = some b:=by rw[←HDV.out,List.getElem?_map,hb];rfl
   rw[drop_some hbL]at hpl;rw[rfFind_cons]at hpl;have HPL:=Hh hpl;obtain⟨dA,dc,rfl⟩:∃A c,dv=.slice A b.disks.length c:=qQc (HDD.out _ (List.mem_of_getElem? hb))
   obtain⟨rb,ro,rfl⟩:=qQW hS (fun e=>by
    have h0:=List.map_eq_nil_iff.1 e;rw[h0]at hb;simp at hb)
   obtain⟨r0,r1,r2,r3,r4,r5,r6,r7,r8,r9,r10,r11,r12⟩:=qZn hS hb;have hYb:=At.new wr 173 (blCells b (.slice dA b.disks.length dc));have hEb:=(Er wr).alloc (.cells (blCells b (.slice dA b.disks.length dc)) 173);clear hpl hbL hb
   go_upto_region 4 with fail
   clear r0 r1 r2 r3 r4 r5 r6 r7 r8 r9 r10 r11 r12;generalize wr.heap.size=yb at hYb⊢;generalize wr.alloc (.cells (blCells b (.slice dA b.disks.length dc)) 173)=W1 at hYb hEb⊢;have d0:=hYb.cell 0;simp at d0;have hS1:=hS.ext hEb;have hE1:=hE.trans hEb;clear hYb hS hE hEb
   by_cases hx:b.id=id
   ·rw[if_pos hx]at HPL
    skip
    go_wp2_with fail
    go_ret
    exact⟨by rw[HPL.out];rfl,hE1⟩
   ·rw[if_neg hx]at HPL
    skip
    go_wp2_with fail
    go_roundw
    case rel=>exact⟨k+1,by go_num,by omega,HPL.out,hS1,hE1⟩
    case measure=>simp[intOf];omega
  ·obtain rfl:k=DV.length:=by omega
   have hd:P.L.drop DV.length=[]:=by rw[←HDV.out];simp
   rw[hd]at hpl;rw[rfFind_nil]at hpl;clear hS;go_wp2_with fail
   go_ret
   exact⟨by rw[hpl];rfl,hE⟩
theorem qZV(w:World)(v:Value)(P:Pm)(h:qZj w v P)(m:ByteArray)(hl:P.L.length≤1000000) :
 Calls prog 94 #[v,.string m] w fun e w'=>e=.returned (.int .i64 (qXz m P.L 0))∧Ext w w':=by
 obtain⟨lv,DV,rfl,hDV,hR⟩:=h;have hlen:DV.length=P.L.length:=by rw[←hDV,List.length_map]
 obtain⟨A,c,rfl⟩:=qQc hR.own;have HX:Hid (qQj (.slice A DV.length c) P.vols=(.slice A DV.length c::(P.vols.map qQY).flatten).toArray):=Hh rfl;generalize hX:qQj (.slice A DV.length c) P.vols=X at HX⊢;clear hX;have hX0:X[0]? = some (.slice A DV.length c):=by rw[HX.out];rfl
 have hl2:DV.length≤1000000:=by omega
 have HDV:=Hh hDV;have HDD:=Hh hR.dks;clear hDV hl hlen
 go_enter func94,ntmps94
 have hB:=At.new w 59 X;have hE:=(Er w).alloc (.cells X 59)
 go_upto_region 1 with fail
 generalize w.heap.size=xb at hB⊢;generalize w.alloc (.cells X 59)=W at hB hE⊢;have c0:=hB.cell 0;rw[hX0]at c0;have hS:=hR.sln.ext hE;clear hB hR hX0;go_wp2_with fail
 clear c0
 go_loopw [10] (fun kv wr=>∃k:Nat,kv=.int .i64 (k:Int)∧k≤DV.length∧qXz m P.L 0=qXz m (P.L.drop k) k∧Sln wr (.slice A DV.length c) 13 (DV.map qZ5)∧Ext w wr) (fun kv _=>DV.length - (intOf kv).toNat)
 case atStart=>exact⟨0,rfl,Nat.zero_le _,rfl,hS,hE⟩
 case round =>
  clear hS hE;obtain⟨k,rfl,hk,hpl,hS,hE⟩:=hrel
  by_cases hlt:k<DV.length
  ·obtain⟨⟨b,dv⟩,hb⟩:∃q,DV[k]? = some q:=⟨_,List.getElem?_eq_getElem hlt⟩;have hbL:P.L[k]? = some b:=by rw[←HDV.out,List.getElem?_map,hb];rfl
   rw[drop_some hbL]at hpl;rw[rfName_cons]at hpl;have HPL:=Hh hpl;obtain⟨dA,dc,rfl⟩:∃A c,dv=.slice A b.disks.length c:=qQc (HDD.out _ (List.mem_of_getElem? hb))
   obtain⟨rb,ro,rfl⟩:=qQW hS (fun e=>by
    have h0:=List.map_eq_nil_iff.1 e;rw[h0]at hb;simp at hb)
   obtain⟨r0,r1,r2,r3,r4,r5,r6,r7,r8,r9,r10,r11,r12⟩:=qZn hS hb;have hYb:=At.new wr 173 (blCells b (.slice dA b.disks.length dc));have hEb:=(Er wr).alloc (.cells (blCells b (.slice dA b.disks.length dc)) 173);clear hpl hbL hb
   go_upto_region 4 with fail
   clear r0 r1 r2 r3 r4 r5 r6 r7 r8 r9 r10 r11 r12;generalize wr.heap.size=yb at hYb⊢;generalize wr.alloc (.cells (blCells b (.slice dA b.disks.length dc)) 173)=W1 at hYb hEb⊢;have d1:=hYb.cell 1;have d12:=hYb.cell 12;simp at d1 d12;have hS1:=hS.ext hEb;have hE1:=hE.trans hEb;clear hYb hS hE hEb
   by_cases hx:qJQ m b=true
   ·rw[if_pos hx]at HPL;obtain⟨hx1,hx2⟩:=qZE.1 hx;rw[hx1]at d12;rw[hx2]at d1;clear hx hx1 hx2;go_wp2_with fail
    go_ret
    exact⟨by rw[HPL.out];rfl,hE1⟩
   ·rw[if_neg hx]at HPL;rcases Bool.eq_false_or_eq_true b.dead with hd|hd
    ·rw[hd]at d12;clear hx hd;go_wp2_with fail
     go_roundw
     case rel=>exact⟨k+1,by go_num,by omega,HPL.out,hS1,hE1⟩
     case measure=>simp[intOf];omega
    ·rw[hd]at d12
     have hne:(b.name.toList == m.toList)=false:=by
      rw[beq_eq_false_iff_ne];exact fun e=>hx (qZE.2 ⟨hd,qZd.1 e⟩)
     clear hx hd;go_wp2_with fail
     go_roundw
     case rel=>exact⟨k+1,by go_num,by omega,HPL.out,hS1,hE1⟩
     case measure=>simp[intOf];omega
  ·obtain rfl:k=DV.length:=by omega
   have hd:P.L.drop DV.length=[]:=by rw[←HDV.out];simp
   rw[hd]at hpl;rw[rfName_nil]at hpl;clear hS;go_wp2_with fail
   go_ret
   exact⟨by rw[hpl];rfl,hE⟩
open Go.RowKit Go.Sort
theorem qQJ{P:Program}{fn:Func}{p:Tmp}{ty:TypeId}(h:fn.results=#[.cell p ty])(tmps:Array Value){b o:Nat}(ha:tmps.getD p undef=.pointer (some ⟨b,o,none⟩)){v:Value}{w:World}(hl:(loadVar ty ⟨b,o,none⟩).run P w=.ok v w) :
 (results fn tmps).run P w=.ok v w:=by
 unfold results;rw[h];simp at ha;simp[ha,asAddr,hl]
theorem qQp{P:Program}{fn:Func}{p q:Tmp}{ty ty2:TypeId}(h:fn.results=#[.cell p ty,.cell q ty2])(tmps:Array Value){b o b2 o2:Nat}(ha:tmps.getD p undef=.pointer (some ⟨b,o,none⟩))(ha2:tmps.getD q undef=.pointer (some ⟨b2,o2,none⟩)){v v2:Value}{w:World}
 (hl:(loadVar ty ⟨b,o,none⟩).run P w=.ok v w) (hl2:(loadVar ty2 ⟨b2,o2,none⟩).run P w=.ok v2 w):(results fn tmps).run P w=.ok (.tuple #[v,v2]) w:=by
 unfold results;rw[h];simp at ha ha2;simp[ha,ha2,asAddr,hl,hl2]
theorem Ext.setCells{w w':World}(h:Ext w w'){b:Nat}(hb:w.heap.size≤b):∀(vs:List Value) (o:Nat),Ext w (w'.setCells b o vs):=by
 intro vs
 induction vs generalizing w' with
 | nil=>intro o;exact h
 | cons v r ih =>
  intro o;rw[World.setCells];exact ih (Chg.setCell (p:=⟨b,o,none⟩) h (.inr hb) v) (o+1)
theorem qQg{w:World}{b:Nat} : ∀(vs:List Value) (o:Nat),Chg (· = b) w (w.setCells b o vs):=by
 have key:∀(vs:List Value) (o:Nat) (w':World),Chg (· = b) w w'→Chg (· = b) w (w'.setCells b o vs):=by
  intro vs
  induction vs with
  | nil=>intro o w' h;exact h
  | cons v r ih =>
   intro o w' h;rw[World.setCells];exact ih (o+1) _ (Chg.setCell (p:=⟨b,o,none⟩) h (.inl rfl) v)
 exact fun vs o=>key vs o w (Chg.refl _ w)
theorem At.there{w:World}{g:Nat}{t:TypeId}{cs:Array Value}(h:At w g t cs):w.there g 0 cs.size:=fun j hj=>by
 rw[Nat.zero_add];refine⟨?_,h.frozen j⟩
 rw[h.cell j,Array.getElem?_eq_getElem hj];rfl
theorem At.range{w:World}{g:Nat}{t:TypeId}{cs:Array Value}(h:At w g t cs):w.rangeAt g 0 cs.toList:=fun j v hv=>by
 rw[Nat.zero_add,h.cell j];simpa using hv
theorem At.cells_sz{g:Nat}{t:TypeId}{m:Nat} : ∀(vs:List Value) (o:Nat) (w:World),(∃Z:Array Value,At w g t Z∧Z.size=m)→∃Z:Array Value,At (w.setCells g o vs) g t Z∧Z.size=m
 | [],_,_,h=>h
 | v::r,o,w,⟨Z,h,hz⟩=>by
  rw[World.setCells];exact At.cells_sz r (o+1) _ ⟨_,h.set o v,by simpa using hz⟩
theorem At.of_range{w:World}{g:Nat}{t:TypeId}{Z cs:Array Value}(h:At w g t Z)(hz:Z.size=cs.size)(hr:w.rangeAt g 0 cs.toList):At w g t cs:=by
 have e:Z=cs:=by
  apply Array.ext hz
  intro i h1 h2;have h3:=hr i cs[i] (by rw[Array.getElem?_toList];exact Array.getElem?_eq_getElem h2);rw[Nat.zero_add,h.cell i,Array.getElem?_eq_getElem h1]at h3;injection h3
 rw[←e];exact h
theorem qQA{P:Program}{fn:Func}{p q:Tmp}{ty:TypeId}(h:fn.results=#[.cell p ty,.tmp q])(tmps:Array Value){b o:Nat}(ha:tmps.getD p undef=.pointer (some ⟨b,o,none⟩)){v:Value}{w:World}
 (hl:(loadVar ty ⟨b,o,none⟩).run P w=.ok v w):(results fn tmps).run P w=.ok (.tuple #[v,tmps.getD q undef]) w:=by
 unfold results;rw[h];simp at ha;simp[ha,asAddr,hl]
theorem At.cells_all{w:World}{g:Nat}{t:TypeId}{Z cs:Array Value}(h:At w g t Z)(hz:Z.size=cs.size):At (w.setCells g 0 cs.toList) g t cs:=by
 obtain⟨Z',h1,h2⟩:=At.cells_sz (m:=Z.size) cs.toList 0 w ⟨Z,h,rfl⟩;exact At.of_range h1 (by rw[h2,hz]) (World.rangeAt_setCells_same w g 0 _ (by rw[Array.length_toList,←hz];exact h.there))
theorem Chg.setCells{S:Nat→Prop}{w w':World}(h:Chg S w w'){b:Nat}(hb:S b):∀(vs:List Value) (o:Nat),Chg S w (w'.setCells b o vs):=by
 intro vs
 induction vs generalizing w' with
 | nil=>intro o;exact h
 | cons v r ih =>
  intro o;rw[World.setCells];exact ih (Chg.setCell (p:=⟨b,o,none⟩) h (.inl hb) v) (o+1)
section
variable{P:Program}{a:Act}{w:World}{o:Oper}
theorem qQk{ty:TypeId}{x:Operand}(ho:o.op=.load ty x){b off:Nat}(hx:a.eval x=.pointer (some ⟨b,off,none⟩)){cs:List Value}{d:TypeDesc}(hc:w.rangeAt b off cs)(hu:P.underlying ty=some d)(hd:d.isRow=true)(hi:(P.info? ty).map (·.size)=some cs.length) :
 (execOp a.eval o).run P w=.ok (.value (.agg cs.toArray)) w:=by
 unfold execOp;simp only[ho,hx,Instr.loadAt,Instr.sureAddr,Sem.run_bind,Sem.run_pure,Result.andThen_ok,run_loadVar_mid w b off ty cs d hc hu hd hi]
theorem qQv{ty:TypeId}{x y:Operand}(ho:o.op=.store ty x y){b off:Nat}{cells:Array Value}(hx:a.eval x=.pointer (some ⟨b,off,none⟩))(hy:a.eval y=.agg cells)(ht:w.there b off cells.size)(hi:(P.info? ty).map (·.size)=some cells.size)(h1:cells.all (·.oneCell')=true) :
 (execOp a.eval o).run P w=.ok .skip (w.setCells b off cells.toList):=by
 unfold execOp;simp only[ho,hx,hy,Instr.storeAt,Instr.sureAddr,Sem.run_bind,Sem.run_pure,Result.andThen_ok,run_storeVar_mid w b off ty cells ht hi h1]
end
section
variable{P:Program}{ops:Array Oper}{Q:Exit→Act→World→Prop}{a0:Act}{sp:List Sg}{G:(Nat→Value)→(Nat→Bool)→World→Prop}{j:Nat}{o:Oper}
theorem wanted_of{a:Act}{on t:Nat}{b b':Bool}(hg:o.guard=some (on,b))(ht:qQD ops on=some t)(hv:a.tmps.getD t undef=.bool b'):Region.wanted o (yielded ops a.tmps)=(b' == b):=by
 unfold Region.wanted;rw[hg];simp only;unfold qQD at ht
 have h1:a.tmps[t]? = some (.bool b'):=by
  rw[Array.getD_eq_getD_getElem?]at hv;cases h2:a.tmps[t]? with
  | none=>rw[h2]at hv;cases hv
  | some u=>rw[h2]at hv;exact congrArg some hv
 unfold yielded;rw[ht];simp only[Option.bind_some,h1];cases b <;> cases b' <;> rfl
theorem wpOp_value_on{a:Act}{w w':World}{x:Value}{K:Act→World→Prop}(ho:ops[j]? = some o)(hw:Region.wanted o (yielded ops a.tmps)=true)(h:(execOp a.eval o).run P w=.ok (.value x) w')(hK:K (a.put (qQD ops j) x) w'):wpOp P ops Q j K a w:=by
 unfold wpOp;rw[ho];simp only[hw,if_true];refine .inl ?_;unfold Oper.wp;rw[h]
 have:qQD ops j=o.dst:=by unfold qQD;rw[ho];rfl
 rw[this]at hK;exact hK
theorem wpOp_calls_on{a:Act}{w w':World}{f:FuncId}{args:Array Value}{K:Act→World→Prop}(ho:ops[j]? = some o)(hw:Region.wanted o (yielded ops a.tmps)=true)(h:(execOp a.eval o).run P w=.ok (.enter f args) w')
 (hK:Calls P f args w' fun e w''=>∃x,e=.returned x∧K (a.put (qQD ops j) x) w''):wpOp P ops Q j K a w:=by
 unfold wpOp;rw[ho];simp only[hw,if_true];refine .inl ?_;unfold Oper.wp;rw[h];have hd:qQD ops j=o.dst:=by unfold qQD;rw[ho];rfl
 rw[hd]at hK;refine Calls.mono hK ?_;rintro e w'' ⟨x,rfl,hx⟩;exact hx
theorem StIn.guard{γ : Nat→Value}{L:Nat→Bool}{v:Nat→Value}{a:Act}{w:World}(st:StIn ops a0 sp G j γ L v a w){on t:Nat}{b b':Bool}(hg:o.guard=some (on,b))(hn:qZm ops j on=true)(ht:qQD ops on=some t)(hv:sp.getD on .any=.val (.bool b')):Region.wanted o (yielded ops a.tmps)=(b' == b):=by
 refine wanted_of hg ht ?_;rw[st.val on t ht hn]
 have:=st.φ on hn
 unfold sgφ at this;rw[hv]at this;exact this
theorem qQ5{x:Value}{on t:Nat}{b:Bool}(ho:ops[j]? = some o)(hg:o.guard=some (on,b))(hn:qZm ops j on=true)(ht:qQD ops on=some t)(hgv:sp.getD on .any=.val (.bool b))(hs:sp.getD j .any=.val x)(hG:∀γ L w,G γ L w→L j=false→G γ (fun i=>i == j||L i) w)
 (h:∀γ L v a w,StIn ops a0 sp G j γ L v a w→(execOp a.eval o).run P w=.ok (.value x) w):qZS P ops Q a0 (sgφ sp) G j:=by
 intro γ L v a w hdown hLj hneed hGw hφ hval h0;have st:=StIn.mk' hdown hLj hneed hGw hφ hval h0;refine wpOp_value_on ho (by rw[st.guard hg hn ht hgv];cases b <;> rfl) (h γ L v a w st) ⟨x, γ,rfl,?_,fun d _ _ hh=>hh,hG γ L w hGw hLj⟩;unfold sgφ;rw[hs]
theorem qX8{x:Value}{f:FuncId}{on t:Nat}{b:Bool}(ho:ops[j]? = some o)(hg:o.guard=some (on,b))(hn:qZm ops j on=true)(ht:qQD ops on=some t)(hgv:sp.getD on .any=.val (.bool b))(hs:sp.getD j .any=.val x)
 (h:∀γ L v a w,StIn ops a0 sp G j γ L v a w→∃args,(execOp a.eval o).run P w=.ok (.enter f args) w∧Calls P f args w fun r w'=>r=.returned x∧G γ (fun i=>i == j||L i) w'):qZS P ops Q a0 (sgφ sp) G j:=by
 intro γ L v a w hdown hLj hneed hGw hφ hval h0;have st:=StIn.mk' hdown hLj hneed hGw hφ hval h0;obtain⟨args,hrun,hcall⟩:=h γ L v a w st;refine wpOp_calls_on ho (by rw[st.guard hg hn ht hgv];cases b <;> rfl) hrun (hcall.mono ?_);rintro r w' ⟨rfl,hG'⟩;refine⟨x,rfl,x, γ,rfl,?_,fun d _ _ hh=>hh,hG'⟩
 unfold sgφ;rw[hs]
end
theorem qXf{Pr:Program}{ops:Array Oper}{rest:List Oper}{op:Oper}{a:Act}{w:World}{Q:Exit→Act→World→Prop}(hw:Region.wanted op (yielded ops a.tmps)=true)(ty:TypeId)(x:Operand)(ho:op.op=.load ty x)
 (b o:Nat) (hx:a.eval x=.pointer (some ⟨b,o,none⟩)) (cs:List Value) (d:TypeDesc) (hc:w.rangeAt b o cs)
 (hu:Pr.underlying ty=some d) (hd:d.isRow=true) (hi:(Pr.info? ty).map (·.size)=some cs.length)
 (h:wpList Pr ops Q rest (a.put op.dst (.agg cs.toArray)) w):wpList Pr ops Q (op::rest) a w :=
 BigFrame.wpList_want hw fun _ hK=>wp_load_mid ty x ho b o hx cs d hc hu hd hi (hK _ _ h)
end Go.Proofs.YtimjipcplmnpbaaGreat
