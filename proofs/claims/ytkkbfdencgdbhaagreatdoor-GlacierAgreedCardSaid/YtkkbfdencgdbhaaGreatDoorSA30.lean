/-
  Part 30 of what the law leans on.
-/
import Derived.Test.YtkkbfdencgdbhaaGreatDoorSA9
import Derived.Test.YtkkbfdencgdbhaaGreatDoorSA27
import Derived.Test.YtkkbfdencgdbhaaGreatDoorSA29
set_option linter.unusedVariables false
set_option linter.unusedSimpArgs false
set_option linter.unusedSectionVars false
namespace Go.Proofs.YtkkbfdencgdbhaaGreatDoor
open Go.RowKit Go.Sort
theorem cres_info:(Tryz.prog.info? 34).map (·.size)=some 5:=by kernel_rfl
theorem last_info:(Tryz.prog.info? 86).map (·.size)=some 6:=by kernel_rfl
theorem sclone_any(w:World)(v:Value)(hl:List ByteArray)(hH:Sl w v (hl.map Value.string))(hb:hl.length≤1000000000) :
 Calls Tryz.prog 78 #[v] w fun e w'=>∃v',e=.returned v'∧w'.ownsRow w.heap.size 9 1 v' hl.length (hl.map Value.string)∧Ext w w':=by
 obtain⟨A,c,rfl,hx⟩:=hH
 rw[List.length_map]
 by_cases hne:hl=[]
 ·subst hne
  cases A with
  | none =>
   refine(Tryz.slices_Clone_string_nil _ _ _).mono ?_
   rintro e w' ⟨rfl,rfl⟩
   exact⟨_,rfl,⟨rfl,.inl ⟨rfl,rfl⟩⟩,Ext.refl _⟩
  | some a =>
   refine(Tryz.slices_Clone_string_zero a c w).mono ?_
   rintro e w' ⟨v',rfl,h1,_,h2⟩
   exact⟨_,rfl,h1,Ext.of_below h2⟩
 ·obtain⟨b,o,rfl,hc⟩:=hx (by simpa using hne)
  refine(Tryz.slices_Clone_string b o hl.length c hl w (Nat.le_refl _) (by omega) (fun j hj=>?_)).mono ?_
  ·exact hc j _ (by rw[List.getElem?_map,List.getElem?_eq_getElem hj,List.getD_eq_getElem?_getD,List.getElem?_eq_getElem hj];rfl)
  ·rintro e w' ⟨v',rfl,h1,_,h2⟩
   rw[List.take_length]at h1
   exact⟨_,rfl,h1,Ext.of_below h2⟩
set_option maxRecDepth 100000 in
set_option maxHeartbeats 2000000 in
theorem sown_any(w:World)(er:Int)(bl:Nat)(sz:Int)(sm:Nat)(nv:Value)(ns:List ByteArray)(hn:w.ownsRow 0 9 1 nv ns.length (ns.map Value.string))(hl:ns.length≤1000000000) :
 Calls Tryz.prog 33 #[resV er bl sz sm nv] w fun e w'=>∃A c,e=.returned (resV er bl sz sm (.slice A ns.length c))∧w'.ownsRow w.heap.size 9 1 (.slice A ns.length c) ns.length (ns.map Value.string)∧Ext w w':=by
 obtain⟨nA,nc,rfl⟩:=own_slc hn
 unfold resV
 have HN:=Lib.hid hn
 clear hn
 go_enter Tryz.func33,Tryz.ntmps33
 have hB:=(At.new w 34 #[.int .i64 er,.int .u64 (bl:Int),.int .i64 sz,.int .u32 (sm:Int),.slice nA ns.length nc]).alloc (.cells #[.int .i64 0,.int .u64 0,.int .i64 0,.int .u32 0,.slice none 0 0] 34)
 have hQ:=At.new (w.alloc (.cells #[.int .i64 er,.int .u64 (bl:Int),.int .i64 sz,.int .u32 (sm:Int),.slice nA ns.length nc] 34)) 34 #[.int .i64 0,.int .u64 0,.int .i64 0,.int .u32 0,.slice none 0 0]
 have hE:=((Ext.refl w).alloc (.cells #[.int .i64 er,.int .u64 (bl:Int),.int .i64 sz,.int .u32 (sm:Int),.slice nA ns.length nc] 34)).alloc (.cells #[.int .i64 0,.int .u64 0,.int .i64 0,.int .u32 0,.slice none 0 0] 34)
 rw[show(w.alloc (.cells #[.int .i64 er,.int .u64 (bl:Int),.int .i64 sz,.int .u32 (sm:Int),.slice nA ns.length nc] 34)).heap.size=w.heap.size+1 by simp]at hQ
 go_upto_region 1 with fail
 obtain⟨xb,hxb⟩:∃xb,w.heap.size=xb:=⟨_,rfl⟩
 rw[hxb]at hB hQ⊢
 generalize World.alloc _ _=W at hB hQ hE⊢
 have HXB:=Lib.hid (show w.heap.size≤xb by omega)
 clear hxb
 have b4:=hB.cell 4
 simp at b4
 have HC:=Lib.hid (sclone_any W (.slice nA ns.length nc) ns (Sl.of_own (own_keep HN.out hE (fun _ _ hh=>hh))) hl)
 go_wp2_with fail
 refine HC.out.mono ?_
 rintro e w1 ⟨v',rfl,hO,hE1⟩
 obtain⟨A,c,rfl⟩:=own_slc hO
 have hB:=hB.ext hE1
 have hQ:=hQ.ext hE1
 replace hO:=own_baseU hO hE.size
 have hE:=hE.trans hE1
 clear HC b4 hE1
 have b4:=hB.cell 4
 have bf4:=hB.frozen 4
 simp at b4
 go_upto_region 2 with fail
 clear b4 bf4
 have hB2:At (w1.setCell ⟨xb,4,none⟩ (.slice A ns.length c)) xb 34 #[.int .i64 er,.int .u64 (bl:Int),.int .i64 sz,.int .u32 (sm:Int),.slice A ns.length c]:=hB.set 4 _
 have hch:Chg (· = xb) w1 (w1.setCell ⟨xb,4,none⟩ (.slice A ns.length c)):=Chg.setCell (S:=(· = xb)) (p:=⟨xb,4,none⟩) (Ext.refl w1).chg (.inl rfl) _
 have hQ2:=hQ.chg hch (by omega)
 have hO2:=own_keep hO hch fun k hk e=>own_apart' hO hB (by decide) k hk e
 have hE2:Ext w (w1.setCell ⟨xb,4,none⟩ (.slice A ns.length c)):=hE.chg_trans hch |>.mono (fun k hk e=>by have:=HXB.out;have e':k=xb:=e;omega)
 clear hB hQ hO hE hch
 generalize w1.setCell ⟨xb,4,none⟩ (.slice A ns.length c)=W2 at hB2 hQ2 hO2 hE2⊢
 have HRB:=Lib.hid hB2.range
 have HTQ:=Lib.hid hQ2.there
 have hch:Chg (· = xb+1) W2 (W2.setCells (xb+1) 0 (#[.int .i64 er,.int .u64 (bl:Int),.int .i64 sz,.int .u32 (sm:Int),.slice A ns.length c]:Array Value).toList):=chg_setCells _ _
 have hQ3:At (W2.setCells (xb+1) 0 (#[.int .i64 er,.int .u64 (bl:Int),.int .i64 sz,.int .u32 (sm:Int),.slice A ns.length c]:Array Value).toList) (xb+1) 34 #[.int .i64 er,.int .u64 (bl:Int),.int .i64 sz,.int .u32 (sm:Int),.slice A ns.length c]:=At.cells_all hQ2 rfl
 have HO3:=Lib.hid (own_keep hO2 hch fun k hk e=>own_apart' hO2 hQ2 (by decide) k hk e)
 have HE3:=Lib.hid (hE2.setCells (show w.heap.size≤xb+1 by have:=HXB.out;omega) (#[.int .i64 er,.int .u64 (bl:Int),.int .i64 sz,.int .u32 (sm:Int),.slice A ns.length c]:Array Value).toList 0)
 have HL:=Lib.hid (run_loadVar_mid (P:=Tryz.prog) _ (xb+1) 0 34 (#[.int .i64 er,.int .u64 (bl:Int),.int .i64 sz,.int .u32 (sm:Int),.slice A ns.length c]:Array Value).toList _ hQ3.range Tryz.underlying34 rfl cres_info)
 clear hB2 hQ2 hO2 hE2 hch hQ3
 go_wp2_with (first|(refine wpList_load_mid rfl 34 _ rfl xb 0 rfl _ _ HRB.out Tryz.underlying34 rfl cres_info ?_)|(refine wpList_store_mid rfl 34 _ _ rfl (xb+1) 0 #[.int .i64 er,.int .u64 (bl:Int),.int .i64 sz,.int .u32 (sm:Int),.slice A ns.length c] rfl rfl HTQ.out cres_info (by simp[Value.oneCell']) ?_))
 refine bodyPost_ret (v:=.agg #[.int .i64 er,.int .u64 (bl:Int),.int .i64 sz,.int .u32 (sm:Int),.slice A ns.length c]) (results_one Tryz.results33 _ rfl HL.out) rfl ?_
 exact⟨A,c,rfl,HO3.out,HE3.out⟩
section
variable{w:World}{B:Nat→Prop}{m:Nat}{M:Mach}
set_option maxRecDepth 100000 in
set_option maxHeartbeats 1000000 in
theorem snew_any(w:World):Calls Tryz.prog 8 #[] w fun e w'=>∃m,e=.returned (.pointer (some ⟨m,0,none⟩))∧MachIn w' (Hi w.heap.size) m Mach.empty∧Ext w w':=by
 have hmm := @run_makeMap Tryz.prog
 have HN:=Lib.hid (cnew_any w)
 go_enter Tryz.func8,Tryz.ntmps8
 go_wp2_with fail
 refine HN.out.mono ?_
 rintro e w1 ⟨c,mb,mn,rfl,hC,hE⟩
 have hMp:=MapAt.new i64Way lastV w1
 have hE2:=(Ext.refl w1).alloc (.map #[] 0)
 have hm:=At.new (w1.alloc (.map #[] 0)) 81 #[.pointer (some ⟨c,0,none⟩),.map (some w1.heap.size),.int .i64 0]
 have hE3:=(Ext.refl (w1.alloc (.map #[] 0))).alloc (.cells #[.pointer (some ⟨c,0,none⟩),.map (some w1.heap.size),.int .i64 0] 81)
 clear HN
 go_wp2_with fail
 go_ret
 obtain⟨C,hCC,hRR⟩:=hC
 have hlb:=hCC.bm.lt
 have hln:=hCC.nm.lt
 have hsz:=hE.size
 refine⟨(w1.alloc (.map #[] 0)).heap.size,by simp,⟨c,mb,mn,w1.heap.size,[],hm,⟨C,(hCC.ext hE2).ext hE3,hRR⟩,rfl,hMp.ext hE3,(fun p hp=>by cases hp),⟨by omega,by omega⟩,⟨(by show w.heap.size≤_;simp;omega),hsz⟩,(fun p hp=>by cases hp)⟩,(hE.trans hE2).trans hE3⟩
end
end Go.Proofs.YtkkbfdencgdbhaaGreatDoor
namespace Go.Proofs.YtkkbfdencgdbhaaGreatDoor
open Go.RowKit Go.Sort
def aggA:Value→Array Value
 | .agg a=>a
 | _=>#[]
theorem CatIn.away{w w':World}{B:Nat→Prop}{c mb mn g:Nat}{P:Pm}{t:TypeId}{cs:Array Value}(h:CatIn w B c mb mn P)(hA:At w g t cs)(h1:137≠t)(h2:161≠t)(h3:3≠t)(hC:Chg (· = g) w w'):CatIn w' B c mb mn P:=by
 obtain⟨C,a,b⟩:=h
 exact⟨C,a.far hC hA h1 h2 h3,b⟩
theorem CatIn.away_map{κ ν : Type}{K:KeyWay κ}{vv : ν → Value}{L:List (κ × ν)}{w w':World}{B:Nat→Prop}{c mb mn b:Nat}{P:Pm}(h:CatIn w B c mb mn P)(hM:MapAt K vv w b L)(h1:b≠mb)(h2:b≠mn)(hC:Chg (· = b) w w'):CatIn w' B c mb mn P:=by
 obtain⟨C,a,r⟩:=h
 refine⟨C,⟨?_,?_,?_,?_,a.inj,a.vlen,a.mne,up_chg a.up hC,a.lo,a.dl⟩,r⟩
 ·exact a.blk.chg hC (fun e=>hM.ne_at a.blk e.symm)
 ·exact a.bm.chg hC (fun e=>h1 e.symm)
 ·exact a.nm.chg hC (fun e=>h2 e.symm)
 ·exact fun q hq=>⟨(a.bl q hq).1.chg hC (fun e=>hM.ne_at (a.bl q hq).1 e.symm),own_keep (a.bl q hq).2 hC (fun k hk e=>own_map (a.bl q hq).2 hM k hk e)⟩
structure Kq (B:Nat→Prop) (rb mb mn:Nat) (w w':World):Prop where
 chg:Chg (fun k=>B k) w w'
 at_:∀g t cs,g≠rb→t≠137→t≠161→At w g t cs→At w' g t cs
 map:∀b es clk,b≠mb→b≠mn→w.heap[b]? = some (.map es clk)→w'.heap[b]? = some (.map es clk)
section
variable{B:Nat→Prop}{rb mb mn c:Nat}{w w' w'':World}
theorem Kq.of_ext(h:Ext w w'):Kq B rb mb mn w w':=⟨h.chg,fun _ _ _ _ _ _ hA=>hA.ext h,fun _b _es _clk _ _ hb=>(Ext.block h (lt_of_block hb)).trans hb⟩
theorem Kq.trans(h:Kq B rb mb mn w w')(h':Kq B rb mb mn w' w''):Kq B rb mb mn w w'' :=
 ⟨h.chg.trans h'.chg (fun _ _ e=>e),fun g t cs h0 h1 h2 hA=>h'.at_ g t cs h0 h1 h2 (h.at_ g t cs h0 h1 h2 hA),fun b es clk h1 h2 hb=>h'.map b es clk h1 h2 (h.map b es clk h1 h2 hb)⟩
theorem Kq.store{t:TypeId}{cs:Array Value}(hA:At w rb t cs)(hB:B rb)(h:Chg (· = rb) w w'):Kq B rb mb mn w w' :=
 ⟨h.mono fun k _ e=>by have e':k=rb:=e;subst e';exact hB,fun g t' cs' h0 _ _ hA'=>hA'.chg h (fun e=>h0 e),fun b es clk _ _ hb=>(h.block b (lt_of_block hb) (fun e=>by have e':b=rb:=e;subst e';unfold At at hA;rw[hA]at hb;cases hb)).trans hb⟩
theorem Kq.own{base:Nat}{e:TypeId}{size:Nat}{v:Value}{n:Nat}{xs:List Value}(h:Kq B rb mb mn w w')(ho:w.ownsRow base e size v n xs)(h0:∀k,some k=v.ownBlock→k≠rb)(h1:e≠137)(h2:e≠161):w'.ownsRow base e size v n xs:=by
 refine⟨ho.1,?_⟩
 rcases ho.2 with hn|⟨g,cap,cur,hv,hb,hg,rest⟩
 ·exact .inl hn
 ·exact .inr ⟨g,cap,cur,hv,hb,h.at_ g e cur (h0 g (by rw[hv];rfl)) h1 h2 hg,rest⟩
theorem Kq.mapAt{κ ν : Type}{K:KeyWay κ}{vv : ν → Value}{L:List (κ × ν)}{b:Nat}(h:Kq B rb mb mn w w')(hM:MapAt K vv w b L)(h1:b≠mb)(h2:b≠mn):MapAt K vv w' b L:=by
 obtain⟨es,clk,a1,a2⟩:=hM
 exact⟨es,clk,h.map b es clk h1 h2 a1,a2⟩
end
structure GA8 (W0:World) (B:Nat→Prop) (c mb mn rb:Nat) (P2:Pm) (R:Rs) (γ : Nat→Value) (L:Nat→Bool) (w:World):Prop where
 kq:Kq B rb mb mn W0 w
 pre:L 5=false→Ext W0 w
 call:L 5=true→∃A cp, γ 0=resV R.err R.blob R.size R.sum (.slice A R.names.length cp)∧CatIn w B c mb mn P2∧w.ownsRow 0 9 1 (.slice A R.names.length cp) R.names.length (R.names.map Value.string)
 res:∃Z:Array Value,At w rb 34 Z∧Z.size=5
 st:L 6=true→At w rb 34 (aggA (γ 0))
structure GA14 (W0:World) (B:Nat→Prop) (c mb mn rb:Nat) (P2:Pm) (R:Rs) (γ : Nat→Value) (L:Nat→Bool) (w:World):Prop where
 kq:Kq B rb mb mn W0 w
 pre:L 5=false→Ext W0 w
 call:L 5=true→∃A cp, γ 0=resV R.err R.blob R.size R.sum (.slice A R.names.length cp)∧CatIn w B c mb mn P2∧w.ownsRow 0 9 1 (.slice A R.names.length cp) R.names.length (R.names.map Value.string)
 n1:L 6=true→∃g, γ 1=.pointer (some ⟨g,0,none⟩)∧W0.heap.size≤g∧(∃Z:Array Value,At w g 34 Z∧Z.size=5)∧(L 7=true→At w g 34 (aggA (γ 0)))
section
variable{W0 w w':World}{B:Nat→Prop}{c mb mn rb:Nat}{P2:Pm}{R:Rs}{γ : Nat→Value}{L:Nat→Bool}
theorem GA8.keep{j:Nat}(hj:j<5):∀γ L w,GA8 W0 B c mb mn rb P2 R γ L w→L j=false→GA8 W0 B c mb mn rb P2 R γ (fun i=>i == j||L i) w:=by
 intro γ L w h _
 have k5:((5:Nat) == j||L 5)=L 5:=by rw[show((5:Nat) == j)=false by simp;omega,Bool.false_or]
 have k6:((6:Nat) == j||L 6)=L 6:=by rw[show((6:Nat) == j)=false by simp;omega,Bool.false_or]
 exact⟨h.kq,fun hh=>h.pre (k5 ▸ hh),fun hh=>h.call (k5 ▸ hh),h.res,fun hh=>h.st (k6 ▸ hh)⟩
theorem GA8.called(h:GA8 W0 B c mb mn rb P2 R γ L w){A:Option Addr}{cp:Nat}(hk:Kp B w w')(hm:∀b es clk,b≠mb→b≠mn→w.heap[b]? = some (.map es clk)→w'.heap[b]? = some (.map es clk))(h6:L 6=false)(hC:CatIn w' B c mb mn P2)(hO:w'.ownsRow 0 9 1 (.slice A R.names.length cp) R.names.length (R.names.map Value.string)) :
 GA8 W0 B c mb mn rb P2 R (upd γ 0 (resV R.err R.blob R.size R.sum (.slice A R.names.length cp))) (fun i=>i == 5||L i) w':=by
 obtain⟨Z,z1,z2⟩:=h.res
 refine⟨h.kq.trans ⟨hk.chg,fun g t cs _ h1 h2 hA=>hk.at_ g t cs h1 h2 hA,hm⟩,fun hh=>by simp at hh,fun _=>⟨A,cp,by simp[upd],hC,hO⟩,⟨Z,hk.at_ _ _ _ (by decide) (by decide) z1,z2⟩,fun hh=>by simp[h6]at hh⟩
theorem GA8.stored(h:GA8 W0 B c mb mn rb P2 R γ L w)(hB:B rb)(h5:L 5=true):GA8 W0 B c mb mn rb P2 R γ (fun i=>i == 6||L i) (w.setCells rb 0 (aggA (γ 0)).toList):=by
 obtain⟨Z,z1,z2⟩:=h.res
 obtain⟨A,cp,a1,a2,a3⟩:=h.call h5
 have hE:Chg (· = rb) w (w.setCells rb 0 (aggA (γ 0)).toList):=chg_setCells _ _
 have hz:(aggA (γ 0)).size=5:=by rw[a1];rfl
 have hst:=At.cells_all (cs:=aggA (γ 0)) z1 (by rw[z2,hz])
 refine⟨h.kq.trans (Kq.store z1 hB hE),fun hh=>by simp[h5]at hh,fun _=>⟨A,cp,a1,a2.away z1 (by decide) (by decide) (by decide) hE,own_keep a3 hE fun k hk e=>own_apart' a3 z1 (by decide) k hk e⟩,⟨_,hst,hz⟩,fun _=>hst⟩
theorem GA14.keep{j:Nat}(hj:j<5):∀γ L w,GA14 W0 B c mb mn rb P2 R γ L w→L j=false→GA14 W0 B c mb mn rb P2 R γ (fun i=>i == j||L i) w:=by
 intro γ L w h _
 have k5:((5:Nat) == j||L 5)=L 5:=by rw[show((5:Nat) == j)=false by simp;omega,Bool.false_or]
 have k6:((6:Nat) == j||L 6)=L 6:=by rw[show((6:Nat) == j)=false by simp;omega,Bool.false_or]
 have k7:((7:Nat) == j||L 7)=L 7:=by rw[show((7:Nat) == j)=false by simp;omega,Bool.false_or]
 exact⟨h.kq,fun hh=>h.pre (k5 ▸ hh),fun hh=>h.call (k5 ▸ hh),fun hh=>by rw[k7];exact h.n1 (k6 ▸ hh)⟩
theorem GA14.called(h:GA14 W0 B c mb mn rb P2 R γ L w){A:Option Addr}{cp:Nat}(hk:Kp B w w')(hm:∀b es clk,b≠mb→b≠mn→w.heap[b]? = some (.map es clk)→w'.heap[b]? = some (.map es clk))(h7:L 7=false)(hC:CatIn w' B c mb mn P2)(hO:w'.ownsRow 0 9 1 (.slice A R.names.length cp) R.names.length (R.names.map Value.string)) :
 GA14 W0 B c mb mn rb P2 R (upd γ 0 (resV R.err R.blob R.size R.sum (.slice A R.names.length cp))) (fun i=>i == 5||L i) w':=by
 refine⟨h.kq.trans ⟨hk.chg,fun g t cs _ h1 h2 hA=>hk.at_ g t cs h1 h2 hA,hm⟩,fun hh=>by simp at hh,fun _=>⟨A,cp,by simp[upd],hC,hO⟩,fun hh=>?_⟩
 obtain⟨g,b1,b2,⟨Z,b3,b4⟩,_⟩:=h.n1 (by simpa using hh)
 exact⟨g,by simpa[upd]using b1,b2,⟨Z,hk.at_ _ _ _ (by decide) (by decide) b3,b4⟩,fun hh=>by simp[h7]at hh⟩
theorem GA14.new(h:GA14 W0 B c mb mn rb P2 R γ L w)(h7:L 7=false){Z:Array Value}(hz:Z.size=5):GA14 W0 B c mb mn rb P2 R (upd γ 1 (.pointer (some ⟨w.heap.size,0,none⟩))) (fun i=>i == 6||L i) (w.alloc (.cells Z 34)):=by
 have hE:Ext w (w.alloc (.cells Z 34)):=(Ext.refl w).alloc _
 refine⟨h.kq.trans (Kq.of_ext hE),fun hh=>(h.pre (by simpa using hh)).trans hE,fun hh=>?_,fun _=>⟨w.heap.size,by simp[upd],h.kq.chg.size,⟨Z,At.new _ _ _,hz⟩,fun hh=>by simp[h7]at hh⟩⟩
 obtain⟨A,cp,a1,a2,a3⟩:=h.call (by simpa using hh)
 exact⟨A,cp,by simpa[upd]using a1,a2.ext hE,own_keep a3 hE (fun _ _ hh=>hh)⟩
theorem GA14.stored(h:GA14 W0 B c mb mn rb P2 R γ L w)(hB:∀k,W0.heap.size≤k→B k)(_hrb:rb<W0.heap.size)(h5:L 5=true)(h6:L 6=true){g:Nat}(hg : γ 1=.pointer (some ⟨g,0,none⟩)):GA14 W0 B c mb mn rb P2 R γ (fun i=>i == 7||L i) (w.setCells g 0 (aggA (γ 0)).toList):=by
 obtain⟨A,cp,a1,a2,a3⟩:=h.call h5
 obtain⟨g',b1,b2,⟨Z,b3,b4⟩,_⟩:=h.n1 h6
 rw[hg]at b1
 obtain rfl:g=g':=by injection b1 with b1;injection b1 with b1;injection b1
 have hE:Chg (· = g) w (w.setCells g 0 (aggA (γ 0)).toList):=chg_setCells _ _
 have hz:(aggA (γ 0)).size=5:=by rw[a1];rfl
 have hst:=At.cells_all (cs:=aggA (γ 0)) b3 (by rw[b4,hz])
 refine⟨⟨h.kq.chg.trans (hE.mono fun k _ e=>by have e':k=g:=e;show B k;rw[e'];exact hB g b2) (fun _ _ e=>e),fun g2 t cs h0 h1 h2 hA=>?_,fun b es clk h1 h2 hb=>?_⟩,fun hh=>by simp[h5]at hh,fun _=>⟨A,cp,a1,a2.away b3 (by decide) (by decide) (by decide) hE,own_keep a3 hE fun k hk e=>own_apart' a3 b3 (by decide) k hk e⟩,fun _=>⟨g,hg,b2,⟨_,hst,hz⟩,fun _=>hst⟩⟩
 ·exact(h.kq.at_ g2 t cs h0 h1 h2 hA).chg hE (fun e=>by have:=hA.lt;have e':g2=g:=e;omega)
 ·exact(hE.block b (Nat.lt_of_lt_of_le (lt_of_block hb) h.kq.chg.size) (fun e=>by have:=lt_of_block hb;have e':b=g:=e;omega)).trans (h.kq.map b es clk h1 h2 hb)
end
structure GNw (W0:World) (T:TypeId) (X:Array Value) (ja js:Nat) (γ : Nat→Value) (L:Nat→Bool) (w:World):Prop where
 ext:Ext W0 w
 n1:L ja=true→∃g, γ 0=.pointer (some ⟨g,0,none⟩)∧W0.heap.size≤g∧(∃Z:Array Value,At w g T Z∧Z.size=X.size)∧(L js=true→At w g T X)
section
variable{W0 w w':World}{T:TypeId}{X:Array Value}{ja js:Nat}{γ : Nat→Value}{L:Nat→Bool}
theorem GNw.keep{j:Nat}(h1:ja≠j)(h2:js≠j):∀γ L w,GNw W0 T X ja js γ L w→L j=false→GNw W0 T X ja js γ (fun i=>i == j||L i) w:=by
 intro γ L w h _
 have e1:(ja == j)=false:=by simp[h1]
 have e2:(js == j)=false:=by simp[h2]
 refine⟨h.ext,fun hh=>?_⟩
 obtain⟨g,a1,a2,a3,a4⟩:=h.n1 (by simpa[e1]using hh)
 exact⟨g,a1,a2,a3,fun hh=>a4 (by simpa[e2]using hh)⟩
theorem GNw.new(h:GNw W0 T X ja js γ L w)(hs:L js=false)(h1:js≠ja){Z:Array Value}(hz:Z.size=X.size):GNw W0 T X ja js (upd γ 0 (.pointer (some ⟨w.heap.size,0,none⟩))) (fun i=>i == ja||L i) (w.alloc (.cells Z T)):=by
 have e1:(js == ja)=false:=by simp[h1]
 exact⟨h.ext.alloc _,fun _=>⟨w.heap.size,by simp[upd],h.ext.size,⟨Z,At.new _ _ _,hz⟩,fun hh=>by simp[e1,hs]at hh⟩⟩
theorem GNw.stored(h:GNw W0 T X ja js γ L w)(ha:L ja=true){g:Nat}(hg : γ 0=.pointer (some ⟨g,0,none⟩)):GNw W0 T X ja js γ (fun i=>i == js||L i) (w.setCells g 0 X.toList):=by
 obtain⟨g',b1,b2,⟨Z,b3,b4⟩,_⟩:=h.n1 ha
 rw[hg]at b1
 obtain rfl:g=g':=by injection b1 with b1;injection b1 with b1;injection b1
 have hst:=At.cells_all (cs:=X) b3 b4
 exact⟨h.ext.setCells b2 _ _,fun _=>⟨g,hg,b2,⟨X,hst,rfl⟩,fun _=>hst⟩⟩
end
structure GUp (W0:World) (mc:Nat) (rows:Rows14) (k sq:Int) (R:Rs) (γ : Nat→Value) (L:Nat→Bool) (w:World):Prop where
 pre:L 11=false→Ext W0 w
 call:L 9=true→∃A cp, γ 0=resV R.err R.blob R.size R.sum (.slice A R.names.length cp)∧w.ownsRow W0.heap.size 9 1 (.slice A R.names.length cp) R.names.length (R.names.map Value.string)
 bld:L 10=true → γ 1=.agg (#[.int .i64 sq]++aggA (γ 0))
 upd:L 11=true→∃A cp w1, γ 0=resV R.err R.blob R.size R.sum (.slice A R.names.length cp)∧Ext W0 w1∧MapAt i64Way lastV w1 mc rows∧Chg (· = mc) w1 w∧MapAt i64Way lastV w mc ((k,((⟨sq,R⟩:Last),.slice A R.names.length cp))::ldel k rows)∧w.ownsRow W0.heap.size 9 1 (.slice A R.names.length cp) R.names.length (R.names.map Value.string)
section
variable{W0 w w':World}{mc:Nat}{rows:Rows14}{k sq:Int}{R:Rs}{γ : Nat→Value}{L:Nat→Bool}
theorem GUp.keep{j:Nat}(hj:j<9):∀γ L w,GUp W0 mc rows k sq R γ L w→L j=false→GUp W0 mc rows k sq R γ (fun i=>i == j||L i) w:=by
 intro γ L w h _
 have q:∀i,9≤i→(i == j||L i)=L i:=fun i hi=>by rw[show(i == j)=false by simp;omega,Bool.false_or]
 have k9:=q 9 (by omega);have k10:=q 10 (by omega);have k11:=q 11 (by omega)
 exact⟨fun hh=>h.pre (k11 ▸ hh),fun hh=>h.call (k9 ▸ hh),fun hh=>h.bld (k10 ▸ hh),fun hh=>h.upd (k11 ▸ hh)⟩
theorem GUp.called(h:GUp W0 mc rows k sq R γ L w){A:Option Addr}{cp:Nat}(hE:Ext w w')(h10:L 10=false)(h11:L 11=false)(hO:w'.ownsRow w.heap.size 9 1 (.slice A R.names.length cp) R.names.length (R.names.map Value.string)) :
 GUp W0 mc rows k sq R (Go.Proofs.YtkkbfdencgdbhaaGreatDoor.upd γ 0 (resV R.err R.blob R.size R.sum (.slice A R.names.length cp))) (fun i=>i == 9||L i) w' :=
 ⟨fun _=>(h.pre h11).trans hE,fun _=>⟨A,cp,by simp[Go.Proofs.YtkkbfdencgdbhaaGreatDoor.upd],own_baseU hO (h.pre h11).size⟩,fun hh=>by simp[h10]at hh,fun hh=>by simp[h11]at hh⟩
theorem GUp.built(h:GUp W0 mc rows k sq R γ L w)(h11:L 11=false):GUp W0 mc rows k sq R (Go.Proofs.YtkkbfdencgdbhaaGreatDoor.upd γ 1 (.agg (#[.int .i64 sq]++aggA (γ 0)))) (fun i=>i == 10||L i) w:=by
 refine⟨fun hh=>h.pre (by simpa using hh),fun hh=>?_,fun _=>by simp[Go.Proofs.YtkkbfdencgdbhaaGreatDoor.upd],fun hh=>by simp[h11]at hh⟩
 obtain⟨A,cp,a1,a2⟩:=h.call (by simpa using hh)
 exact⟨A,cp,by simpa[Go.Proofs.YtkkbfdencgdbhaaGreatDoor.upd]using a1,a2⟩
end
end Go.Proofs.YtkkbfdencgdbhaaGreatDoor
