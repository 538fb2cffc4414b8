/-
  Part 17 of what the law leans on.
-/
import Derived.Test.YtkkbfdencgdbhaaGreatDoorSA2
import Derived.Test.YtkkbfdencgdbhaaGreatDoorSA15
import Derived.Test.YtkkbfdencgdbhaaGreatDoorSA16
import Derived.Deep.Cut
import Derived.Deep.CutRange
import Derived.Deep.CutBlock
import Derived.Deep.QuietTactic
import Derived.BigQuiet
set_option linter.unusedVariables false
set_option linter.unusedSimpArgs false
set_option linter.unusedSectionVars false
namespace Go.Proofs.YtkkbfdencgdbhaaGreatDoor
open Go.RowKit
structure Cp where
 there:Bool
 vol:Int
 at_:Int
structure Bl where
 id:Nat
 name:ByteArray
 size:Int
 sum:Nat
 disks:List Int
 a:Cp
 b:Cp
 pins:Int
 dead:Bool
structure Vl where
 closed:Bool
 erase:Bool
 gen:Int
def Cp.none:Cp:=⟨false,0,0⟩
def Vl.zero:Vl:=⟨false,false,0⟩
structure BR where
 b:Bl
 g:Nat
 dv:Value
abbrev blCells(b:Bl)(dv:Value):Array Value:=#[.int .u64 (b.id:Int),.string b.name,.int .i64 b.size,.int .u32 (b.sum:Int),dv,.bool b.a.there,.int .i64 b.a.vol,.int .i64 b.a.at_,.bool b.b.there,.int .i64 b.b.vol,.int .i64 b.b.at_,.int .i64 b.pins,.bool b.dead]
def vlRow(v:Vl):List Value:=[.bool v.closed,.bool v.erase,.int .i64 v.gen]
def ptrV(g:Nat):Value:=.pointer (some ⟨g,0,Option.none⟩)
def u64V(n:Nat):Value:=.int .u64 (n:Int)
structure Ct where
 rows:List BR
 names:List (ByteArray×Nat)
 vols:List Vl
def Ct.idx(C:Ct):List (Int×Nat):=C.rows.map fun r=>((r.b.id:Int),r.g)
theorem up_chg{w w':World}{B S:Nat→Prop}(h:∀k,w.heap.size≤k→B k)(hc:Chg S w w'):∀k,w'.heap.size≤k→B k:=fun k hk=>h k (Nat.le_trans hc.size hk)
abbrev Hi(n:Nat):Nat→Prop:=fun k=>n≤k
structure CtAt (w:World) (B:Nat→Prop) (c mb mn:Nat) (C:Ct):Prop where
 blk:At w c 137 (.map (some mb) :: .map (some mn)::(C.vols.map vlRow).flatten).toArray
 bm:MapAt u64Way ptrV w mb C.idx
 nm:MapAt strWay u64V w mn C.names
 bl:∀r∈C.rows,At w r.g 161 (blCells r.b r.dv)∧w.ownsRow 0 3 1 r.dv r.b.disks.length (r.b.disks.map (Value.int .i64))
 inj:(C.rows.map BR.g).Nodup
 vlen:C.vols.length=12
 mne:mb≠mn
 up:∀k,w.heap.size≤k→B k
 lo:B c∧B mb∧B mn∧∀r∈C.rows,B r.g
 dl:∀r∈C.rows,∀k,some k=r.dv.ownBlock→B k
def Ct.S(C:Ct)(c mb mn:Nat):Nat→Prop:=fun k=>k=c∨k=mb∨k=mn∨∃r∈C.rows,k=r.g
theorem own_keep{w w':World}{S:Nat→Prop}{base:Nat}{e:TypeId}{size:Nat}{v:Value}{n:Nat}{xs:List Value}(h:w.ownsRow base e size v n xs)(hc:Chg S w w')(hS:∀k,some k=v.ownBlock→¬ S k):w'.ownsRow base e size v n xs:=by
 obtain⟨h1,h2⟩:=h
 refine⟨h1,?_⟩
 rcases h2 with h2|⟨g,cap,cur,rfl,hb,hg,h3⟩
 ·exact .inl h2
 ·refine .inr ⟨g,cap,cur,rfl,hb,?_,h3⟩
  rw[hc.block g (lt_of_block hg) (hS g rfl)]
  exact hg
theorem CtAt.ext{w w':World}{B:Nat→Prop}{c mb mn:Nat}{C:Ct}(h:CtAt w B c mb mn C)(he:Ext w w'):CtAt w' B c mb mn C where
 blk:=h.blk.ext he
 bm:=h.bm.ext he
 nm:=h.nm.ext he
 bl:=fun r hr=>⟨(h.bl r hr).1.ext he,own_keep (h.bl r hr).2 he (fun _ _ hh=>hh)⟩
 inj:=h.inj
 vlen:=h.vlen
 mne:=h.mne
 up:=up_chg h.up he
 lo:=h.lo
 dl:=h.dl
theorem map_blobs:Tryz.prog.underlying 131=some (.map 30 145):=Tryz.underlying131
theorem map_names:Tryz.prog.underlying 132=some (.map 9 30):=Tryz.underlying132
theorem zero_ptr(w:World):(zeroValue 145).run Tryz.prog w=.ok (.pointer none) w:=by kernel_rfl
theorem zero_u64(w:World):(zeroValue 30).run Tryz.prog w=.ok (.int .u64 0) w:=by kernel_rfl
def Ct.find(C:Ct)(id:Nat):Option BR:=C.rows.find? fun r=>decide (r.b.id=id)
theorem idx_find(C:Ct)(id:Nat):lget (id:Int) C.idx=(C.find id).map BR.g:=by
 unfold Ct.idx Ct.find lget
 rw[List.find?_map,Option.map_map]
 have e:((fun p:Int×Nat=>decide (p.1=(id:Int))) ∘ fun r:BR=>((r.b.id:Int),r.g))=fun r=>decide (r.b.id=id):=by
  funext r
  simp only[Function.comp]
  rw[Bool.eq_iff_iff];simp;omega
 rw[e]
 cases C.rows.find? fun r=>decide (r.b.id=id) <;> rfl
theorem find_mem{C:Ct}{id:Nat}{r:BR}(h:C.find id=some r):r∈C.rows∧r.b.id=id:=by
 unfold Ct.find at h
 exact⟨List.mem_of_find?_eq_some h,by simpa using List.find?_some h⟩
def ptrO(r:Option BR):Value:=match r with
 | some r=>.pointer (some ⟨r.g,0,none⟩)
 | none=>.pointer none
theorem CtAt.look{w:World}{B:Nat→Prop}{c mb mn:Nat}{C:Ct}(h:CtAt w B c mb mn C)(id:Nat) :
 (Instr.lookup 131 (.map (some mb)) (.int .u64 (id:Int)) false).run Tryz.prog w=.ok (ptrO (C.find id)) w:=by
 have:=h.bm.lookup (K:=u64Way) map_blobs Tryz.underlying30 zero_ptr (id:Int)
 rw[idx_find]at this
 rw[show(Instr.lookup 131 (.map (some mb)) (.int .u64 (id:Int)) false)=(Instr.lookup 131 (.map (some mb)) (u64Way.val (id:Int)) false)from rfl,this]
 cases C.find id <;> rfl
theorem CtAt.lookName{w:World}{B:Nat→Prop}{c mb mn:Nat}{C:Ct}(h:CtAt w B c mb mn C)(n:ByteArray) :
 (Instr.lookup 132 (.map (some mn)) (.string n) true).run Tryz.prog w=.ok (.tuple #[.int .u64 (((lget n C.names).getD 0:Nat):Int),.bool (lget n C.names).isSome]) w:=by
 have:=h.nm.lookup_ok (K:=strWay) map_names Tryz.underlying9 zero_u64 n
 rw[show(Instr.lookup 132 (.map (some mn)) (.string n) true)=(Instr.lookup 132 (.map (some mn)) (strWay.val n) true)from rfl,this]
 cases lget n C.names <;> rfl
theorem S_lo{w:World}{B:Nat→Prop}{c mb mn:Nat}{C:Ct}(h:CtAt w B c mb mn C):∀k,C.S c mb mn k→B k:=by
 rintro k (rfl|rfl|rfl|⟨r,hr,rfl⟩)
 ·exact h.lo.1
 ·exact h.lo.2.1
 ·exact h.lo.2.2.1
 ·exact h.lo.2.2.2 r hr
theorem S_not{w:World}{B:Nat→Prop}{c mb mn:Nat}{C:Ct}{g:Nat}{t:TypeId}{cs:Array Value}(h:CtAt w B c mb mn C)(hA:At w g t cs)(h1:137≠t)(h2:161≠t):¬ C.S c mb mn g:=by
 rintro(e|e|e|⟨r,hr,e⟩)
 ·exact At.ne h.blk hA h1 e.symm
 ·exact h.bm.ne_at hA e.symm
 ·exact h.nm.ne_at hA e.symm
 ·exact At.ne (h.bl r hr).1 hA h2 e.symm
def Ct.upd(C:Ct)(g:Nat)(b:Bl)(dv:Value):Ct := { C with rows:=C.rows.map fun r=>if r.g=g then⟨b,g,dv⟩else r }
theorem own_apart'{w:World}{base:Nat}{e t:TypeId}{size:Nat}{v:Value}{n:Nat}{xs:List Value}{g:Nat}{cs:Array Value}(h:w.ownsRow base e size v n xs)(ha:At w g t cs)(hne:e≠t):∀k,some k=v.ownBlock→k≠g:=by
 intro k hk
 rcases h.2 with⟨rfl,_⟩|⟨g',cap,cur,rfl,hb,hg,_⟩
 ·cases hk
 ·cases hk
  exact At.ne (t:=e) (cs:=cur) hg ha hne
theorem nodup_eq{α β : Type}{f : α → β} : ∀ {l:List α},(l.map f).Nodup→∀ {x y : α},x∈l→y∈l→f x=f y→x=y
 | [],_,_,_,h,_,_=>by cases h
 | a::l,hn,x,y,hx,hy,he=>by
  rw[List.map_cons,List.nodup_cons]at hn
  rcases List.mem_cons.1 hx with h1|h1 <;> rcases List.mem_cons.1 hy with h2|h2
  ·rw[h1,h2]
  ·exact absurd (List.mem_map.2 ⟨y,h2,by rw[←he,h1]⟩) hn.1
  ·exact absurd (List.mem_map.2 ⟨x,h1,by rw[he,h2]⟩) hn.1
  ·exact nodup_eq hn.2 h1 h2 he
theorem upd_idx{C:Ct}{r:BR}{b:Bl}{dv:Value}(hr:r∈C.rows)(hi:(C.rows.map BR.g).Nodup)(hid:b.id=r.b.id):(C.upd r.g b dv).idx=C.idx:=by
 unfold Ct.idx Ct.upd
 simp only
 rw[List.map_map]
 refine List.map_congr_left fun q hq=>?_
 simp only[Function.comp]
 split
 ·rename_i h
  have:=nodup_eq hi hq hr h
  rw[this,hid]
 ·rfl
theorem upd_g(C:Ct)(g:Nat)(b:Bl)(dv:Value):(C.upd g b dv).rows.map BR.g=C.rows.map BR.g:=by
 unfold Ct.upd
 simp only
 rw[List.map_map]
 refine List.map_congr_left fun q _=>?_
 simp only[Function.comp]
 split
 ·rename_i h;exact h.symm
 ·rfl
theorem CtAt.chgBlob{w w':World}{B:Nat→Prop}{c mb mn:Nat}{C:Ct}{r:BR}{b:Bl}{dv:Value}(h:CtAt w B c mb mn C)(hr:r∈C.rows)(hid:b.id=r.b.id)(hC:Chg (· = r.g) w w')
 (hB:At w' r.g 161 (blCells b dv)) (hO:w'.ownsRow 0 3 1 dv b.disks.length (b.disks.map (Value.int .i64))) (hD:∀k,some k=dv.ownBlock→B k):CtAt w' B c mb mn (C.upd r.g b dv):=by
 have hg:=(h.bl r hr).1
 refine⟨?_,?_,?_,?_,?_,h.vlen,h.mne,up_chg h.up hC,⟨h.lo.1,h.lo.2.1,h.lo.2.2.1,fun q hq=>?_⟩,fun q hq=>?_⟩
 rotate_left 5
 ·obtain⟨q0,hq0,rfl⟩:=List.mem_map.1 hq
  split
  ·exact h.lo.2.2.2 r hr
  ·exact h.lo.2.2.2 q0 hq0
 ·obtain⟨q0,hq0,rfl⟩:=List.mem_map.1 hq
  split
  ·exact hD
  ·exact h.dl q0 hq0
 ·exact h.blk.chg hC (fun e=>by
   have h':c=r.g:=e
   exact At.ne h.blk hg (by decide) h')
 ·rw[upd_idx hr h.inj hid]
  exact h.bm.chg hC (fun e=>h.bm.ne_at hg e)
 ·exact h.nm.chg hC (fun e=>h.nm.ne_at hg e)
 ·intro q hq
  obtain⟨q0,hq0,rfl⟩:=List.mem_map.1 hq
  by_cases e:q0.g=r.g
  ·rw[if_pos e];exact⟨hB,hO⟩
  ·rw[if_neg e]
   have hb:=h.bl q0 hq0
   exact⟨hb.1.chg hC (fun e'=>e e'),own_keep hb.2 hC (fun k hk e'=>own_apart' hb.2 hg (by decide) k hk e')⟩
 ·rw[upd_g];exact h.inj
theorem CtAt.far{w w':World}{B:Nat→Prop}{c mb mn:Nat}{C:Ct}{g:Nat}{t:TypeId}{cs:Array Value}(h:CtAt w B c mb mn C)(hC:Chg (· = g) w w')(hA:At w g t cs)(h1:137≠t)(h2:161≠t)(h3:3≠t):CtAt w' B c mb mn C where
 blk:=h.blk.chg hC (fun e=>At.ne h.blk hA h1 e)
 bm:=h.bm.chg hC (fun e=>h.bm.ne_at hA e)
 nm:=h.nm.chg hC (fun e=>h.nm.ne_at hA e)
 bl:=fun r hr=>⟨(h.bl r hr).1.chg hC (fun e=>At.ne (h.bl r hr).1 hA h2 e),own_keep (h.bl r hr).2 hC (fun k hk e=>own_apart' (h.bl r hr).2 hA h3 k hk e)⟩
 inj:=h.inj
 vlen:=h.vlen
 mne:=h.mne
 up:=up_chg h.up hC
 lo:=h.lo
 dl:=h.dl
theorem own_map{w:World}{base:Nat}{e:TypeId}{size:Nat}{v:Value}{n:Nat}{xs:List Value}{κ ν : Type}{K:KeyWay κ}{vv : ν → Value}{m:Nat}{L:List (κ × ν)}(h:w.ownsRow base e size v n xs)(hm:MapAt K vv w m L):∀k,some k=v.ownBlock→k≠m:=by
 intro k hk e'
 rcases h.2 with⟨rfl,_⟩|⟨g',cap,cur,rfl,hb,hg,_⟩
 ·cases hk
 ·cases hk
  have hA:At w g' e cur:=hg
  exact hm.ne_at hA e'.symm
def Ct.setNames(C:Ct)(L:List (ByteArray×Nat)):Ct := { C with names:=L }
theorem CtAt.chgNames{w w':World}{B:Nat→Prop}{c mb mn:Nat}{C:Ct}{L:List (ByteArray×Nat)}(h:CtAt w B c mb mn C)(hC:Chg (· = mn) w w')(hM:MapAt strWay u64V w' mn L):CtAt w' B c mb mn (C.setNames L):=by
 refine⟨?_,?_,hM,?_,h.inj,h.vlen,h.mne,up_chg h.up hC,h.lo,h.dl⟩
 ·exact h.blk.chg hC (fun e=>h.nm.ne_at h.blk e.symm)
 ·exact h.bm.chg hC (fun e=>h.mne e)
 ·intro q hq
  have hb:=h.bl q hq
  exact⟨hb.1.chg hC (fun e=>h.nm.ne_at hb.1 e.symm),own_keep hb.2 hC (fun k hk e=>own_map hb.2 h.nm k hk e)⟩
def Ct.setRows(C:Ct)(R:List BR):Ct := { C with rows:=R }
theorem CtAt.chgRows{w w':World}{B:Nat→Prop}{c mb mn:Nat}{C:Ct}{R:List BR}(h:CtAt w B c mb mn C)(hC:Chg (· = mb) w w')(hM:MapAt u64Way ptrV w' mb (C.setRows R).idx)
 (hR:∀q∈R,At w q.g 161 (blCells q.b q.dv)∧w.ownsRow 0 3 1 q.dv q.b.disks.length (q.b.disks.map (Value.int .i64))) (hi:(R.map BR.g).Nodup) (hlo:∀r∈R,B r.g) (hdl:∀r∈R,∀k,some k=r.dv.ownBlock→B k):CtAt w' B c mb mn (C.setRows R):=by
 refine⟨?_,hM,?_,?_,hi,h.vlen,h.mne,up_chg h.up hC,⟨h.lo.1,h.lo.2.1,h.lo.2.2.1,hlo⟩,hdl⟩
 ·exact h.blk.chg hC (fun e=>h.bm.ne_at h.blk e.symm)
 ·exact h.nm.chg hC (fun e=>h.mne e.symm)
 ·intro q hq
  have hb:=hR q hq
  exact⟨hb.1.chg hC (fun e=>h.bm.ne_at hb.1 e.symm),own_keep hb.2 hC (fun k hk e=>own_map hb.2 h.bm k hk e)⟩
def Ct.add(C:Ct)(b:Bl)(g:Nat)(dv:Value):Ct:=C.setRows (⟨b,g,dv⟩::C.rows.filter fun r=>decide (r.b.id≠b.id))
def Ct.del(C:Ct)(id:Nat):Ct:=C.setRows (C.rows.filter fun r=>decide (r.b.id≠id))
theorem idx_del(C:Ct)(id:Nat):(C.del id).idx=ldel (id:Int) C.idx:=by
 unfold Ct.idx Ct.del Ct.setRows ldel
 simp only
 rw[List.filter_map]
 congr 1
 refine List.filter_congr fun q _=>?_
 simp only[Function.comp]
 rw[Bool.eq_iff_iff];simp;omega
theorem idx_add(C:Ct)(b:Bl)(g:Nat)(dv:Value):(C.add b g dv).idx=((b.id:Int),g)::ldel (b.id:Int) C.idx:=by
 rw[←idx_del];rfl
theorem CtAt.addRow{w:World}{B:Nat→Prop}{c mb mn:Nat}{C:Ct}(h:CtAt w B c mb mn C){b:Bl}{g:Nat}{dv:Value}(hB:At w g 161 (blCells b dv))(hO:w.ownsRow 0 3 1 dv b.disks.length (b.disks.map (Value.int .i64)))(hg:∀r∈C.rows,r.g≠g)(hgb:B g)(hdb:∀k,some k=dv.ownBlock→B k) :
 ∃w',(Instr.mapUpdate 131 (.map (some mb)) (.int .u64 (b.id:Int)) (.pointer (some ⟨g,0,none⟩))).run Tryz.prog w=.ok () w'∧CtAt w' B c mb mn (C.add b g dv)∧Chg (· = mb) w w':=by
 obtain⟨w',h1,h2,h3⟩:=h.bm.update (K:=u64Way) map_blobs Tryz.underlying30 (b.id:Int) g
 refine⟨w',h1,?_,h3⟩
 refine h.chgRows h3 (by rw[←idx_add (dv:=dv)]at h2;exact h2) (fun q hq=>?_) ?_ (fun q hq=>?_) (fun q hq=>?_)
 rotate_left 2
 ·rcases List.mem_cons.1 hq with rfl|hq
  ·exact hgb
  ·exact h.lo.2.2.2 q (List.mem_filter.1 hq).1
 ·rcases List.mem_cons.1 hq with rfl|hq
  ·exact hdb
  ·exact h.dl q (List.mem_filter.1 hq).1
 ·rcases List.mem_cons.1 hq with rfl|hq
  ·exact⟨hB,hO⟩
  ·exact h.bl q (List.mem_filter.1 hq).1
 ·rw[List.map_cons,List.nodup_cons]
  refine⟨fun hm=>?_,?_⟩
  ·obtain⟨r,hr,e⟩:=List.mem_map.1 hm
   exact hg r (List.mem_filter.1 hr).1 e
  ·exact h.inj.sublist ((List.filter_sublist).map _)
theorem CtAt.delRow{w:World}{B:Nat→Prop}{c mb mn:Nat}{C:Ct}(h:CtAt w B c mb mn C)(id:Nat) :
 ∃w',(∀ty,(Builtin.delete_ #[131,30] ty #[.map (some mb),.int .u64 (id:Int)]).run Tryz.prog w=.ok (.tuple #[]) w')∧CtAt w' B c mb mn (C.del id)∧Chg (· = mb) w w':=by
 obtain⟨w',h1,h2,h3⟩:=h.bm.delete (K:=u64Way) map_blobs Tryz.underlying30 (id:Int)
 refine⟨w',h1,?_,h3⟩
 exact h.chgRows h3 (by rw[←idx_del]at h2;exact h2) (fun q hq=>h.bl q (List.mem_filter.1 hq).1) (h.inj.sublist ((List.filter_sublist).map _)) (fun q hq=>h.lo.2.2.2 q (List.mem_filter.1 hq).1) (fun q hq=>h.dl q (List.mem_filter.1 hq).1)
theorem CtAt.addName{w:World}{B:Nat→Prop}{c mb mn:Nat}{C:Ct}(h:CtAt w B c mb mn C)(n:ByteArray)(id:Nat) :
 ∃w',(Instr.mapUpdate 132 (.map (some mn)) (.string n) (.int .u64 (id:Int))).run Tryz.prog w=.ok () w'∧CtAt w' B c mb mn (C.setNames ((n,id)::ldel n C.names))∧Chg (· = mn) w w':=by
 obtain⟨w',h1,h2,h3⟩:=h.nm.update (K:=strWay) map_names Tryz.underlying9 n id
 exact⟨w',h1,h.chgNames h3 h2,h3⟩
theorem CtAt.delName{w:World}{B:Nat→Prop}{c mb mn:Nat}{C:Ct}(h:CtAt w B c mb mn C)(n:ByteArray) :
 ∃w',(∀ty,(Builtin.delete_ #[132,9] ty #[.map (some mn),.string n]).run Tryz.prog w=.ok (.tuple #[]) w')∧CtAt w' B c mb mn (C.setNames (ldel n C.names))∧Chg (· = mn) w w':=by
 obtain⟨w',h1,h2,h3⟩:=h.nm.delete (K:=strWay) map_names Tryz.underlying9 n
 exact⟨w',h1,h.chgNames h3 h2,h3⟩
end Go.Proofs.YtkkbfdencgdbhaaGreatDoor
namespace Go.Proofs.YtkkbfdencgdbhaaGreatDoor
open Go.RowKit
def Ct.empty:Ct:=⟨[],[],List.replicate 12 Vl.zero⟩
set_option maxRecDepth 100000 in
theorem new_any(w:World):Calls Tryz.prog 29 #[] w fun e w'=>∃c mb mn,e=.returned (.pointer (some ⟨c,0,none⟩))∧CtAt w' (Hi w.heap.size) c mb mn Ct.empty∧Ext w w':=by
 have hmm := @run_makeMap Tryz.prog
 go_enter Tryz.func29,Tryz.ntmps29
 go_wp2_with fail
 go_ret
 refine⟨_,w.heap.size,w.heap.size+1,rfl,⟨At.new_eq (by simp) _ _,((MapAt.new u64Way ptrV w).alloc _).alloc _,?_,(fun r hr=>by cases hr),List.nodup_nil,rfl,by omega,(fun k hk=>by show w.heap.size≤k;simp at hk;omega),⟨(by show w.heap.size≤_;omega),(Nat.le_refl w.heap.size),(Nat.le_succ w.heap.size),(fun r hr=>by cases hr)⟩,(fun r hr=>by cases hr)⟩,(((Ext.refl w).alloc _).alloc _).alloc _⟩
 have:=MapAt.new strWay u64V (w.alloc (.map #[] 0))
 rw[show(w.alloc (.map #[] 0)).heap.size=w.heap.size+1 by simp]at this
 exact this.alloc _
def resV(err:Int)(blob:Nat)(size:Int)(sum:Nat)(nv:Value):Value:=.agg #[.int .i64 err,.int .u64 (blob:Int),.int .i64 size,.int .u32 (sum:Int),nv]
abbrev cmdCells(c:Cmd)(dv:Value):Array Value:=#[.int .i64 c.kind,.int .i64 c.client,.int .i64 c.seq,.string c.name,.int .u64 (c.blob:Int),.int .i64 c.size,.int .u32 (c.sum:Int),dv,.int .i64 c.pool,.int .i64 c.vol,.int .i64 c.at_]
abbrev resCells:Array Value:=#[.int .i64 0,.int .u64 0,.int .i64 0,.int .u32 0,.slice none 0 0]
theorem CtAt.c0{w:World}{B:Nat→Prop}{c mb mn:Nat}{C:Ct}(h:CtAt w B c mb mn C):w.cell? ⟨c,0,none⟩=some (.map (some mb))∧w.cell? ⟨c,1,none⟩=some (.map (some mn)):=⟨h.blk.cell 0,h.blk.cell 1⟩
theorem res_out{W:World}{g:Nat}(h:At W g 34 resCells)(a0 a1 a2 a3 a4:Value) :
 At (((((W.setCell ⟨g,0,none⟩ a0).setCell ⟨g,1,none⟩ a1).setCell ⟨g,2,none⟩ a2).setCell ⟨g,3,none⟩ a3).setCell ⟨g,4,none⟩ a4).drew g 34 #[a0,a1,a2,a3,a4] ∧
  Chg (· = g) W (((((W.setCell ⟨g,0,none⟩ a0).setCell ⟨g,1,none⟩ a1).setCell ⟨g,2,none⟩ a2).setCell ⟨g,3,none⟩ a3).setCell ⟨g,4,none⟩ a4).drew:=by
 have hc0:=(Chg.refl (· = g) W).setCell (p:=⟨g,0,none⟩) (.inl rfl) a0
 have hc1:=hc0.setCell (p:=⟨g,1,none⟩) (.inl rfl) a1
 have hc2:=hc1.setCell (p:=⟨g,2,none⟩) (.inl rfl) a2
 have hc3:=hc2.setCell (p:=⟨g,3,none⟩) (.inl rfl) a3
 have hc4:=hc3.setCell (p:=⟨g,4,none⟩) (.inl rfl) a4
 have h1:At (W.setCell ⟨g,0,none⟩ a0) g 34 #[a0,.int .u64 0,.int .i64 0,.int .u32 0,.slice none 0 0]:=h.set 0 a0
 have h2:At ((W.setCell ⟨g,0,none⟩ a0).setCell ⟨g,1,none⟩ a1) g 34 #[a0,a1,.int .i64 0,.int .u32 0,.slice none 0 0]:=h1.set 1 a1
 have h3:At (((W.setCell ⟨g,0,none⟩ a0).setCell ⟨g,1,none⟩ a1).setCell ⟨g,2,none⟩ a2) g 34 #[a0,a1,a2,.int .u32 0,.slice none 0 0]:=h2.set 2 a2
 have h4:At ((((W.setCell ⟨g,0,none⟩ a0).setCell ⟨g,1,none⟩ a1).setCell ⟨g,2,none⟩ a2).setCell ⟨g,3,none⟩ a3) g 34 #[a0,a1,a2,a3,.slice none 0 0]:=h3.set 3 a3
 have h5:At (((((W.setCell ⟨g,0,none⟩ a0).setCell ⟨g,1,none⟩ a1).setCell ⟨g,2,none⟩ a2).setCell ⟨g,3,none⟩ a3).setCell ⟨g,4,none⟩ a4) g 34 #[a0,a1,a2,a3,a4]:=h4.set 4 a4
 exact⟨h5.drew,hc4.drew⟩
theorem res_out0{W:World}{g:Nat}(h:At W g 34 resCells)(a0 a1 a2 a3 a4:Value) :
 At (((((W.setCell ⟨g,0,none⟩ a0).setCell ⟨g,1,none⟩ a1).setCell ⟨g,2,none⟩ a2).setCell ⟨g,3,none⟩ a3).setCell ⟨g,4,none⟩ a4) g 34 #[a0,a1,a2,a3,a4] ∧
  Chg (· = g) W (((((W.setCell ⟨g,0,none⟩ a0).setCell ⟨g,1,none⟩ a1).setCell ⟨g,2,none⟩ a2).setCell ⟨g,3,none⟩ a3).setCell ⟨g,4,none⟩ a4):=by
 have hc0:=(Chg.refl (· = g) W).setCell (p:=⟨g,0,none⟩) (.inl rfl) a0
 have hc1:=hc0.setCell (p:=⟨g,1,none⟩) (.inl rfl) a1
 have hc2:=hc1.setCell (p:=⟨g,2,none⟩) (.inl rfl) a2
 have hc3:=hc2.setCell (p:=⟨g,3,none⟩) (.inl rfl) a3
 have hc4:=hc3.setCell (p:=⟨g,4,none⟩) (.inl rfl) a4
 have h1:At (W.setCell ⟨g,0,none⟩ a0) g 34 #[a0,.int .u64 0,.int .i64 0,.int .u32 0,.slice none 0 0]:=h.set 0 a0
 have h2:At ((W.setCell ⟨g,0,none⟩ a0).setCell ⟨g,1,none⟩ a1) g 34 #[a0,a1,.int .i64 0,.int .u32 0,.slice none 0 0]:=h1.set 1 a1
 have h3:At (((W.setCell ⟨g,0,none⟩ a0).setCell ⟨g,1,none⟩ a1).setCell ⟨g,2,none⟩ a2) g 34 #[a0,a1,a2,.int .u32 0,.slice none 0 0]:=h2.set 2 a2
 have h4:At ((((W.setCell ⟨g,0,none⟩ a0).setCell ⟨g,1,none⟩ a1).setCell ⟨g,2,none⟩ a2).setCell ⟨g,3,none⟩ a3) g 34 #[a0,a1,a2,a3,.slice none 0 0]:=h3.set 3 a3
 have h5:At (((((W.setCell ⟨g,0,none⟩ a0).setCell ⟨g,1,none⟩ a1).setCell ⟨g,2,none⟩ a2).setCell ⟨g,3,none⟩ a3).setCell ⟨g,4,none⟩ a4) g 34 #[a0,a1,a2,a3,a4]:=h4.set 4 a4
 exact⟨h5,hc4⟩
section named
variable(w:World)(B:Nat→Prop)(c mb mn:Nat)(C:Ct)(h:CtAt w B c mb mn C)(x:Cmd)(dv:Value)
include h
set_option maxRecDepth 100000 in
set_option maxHeartbeats 2000000 in
theorem named_none(hn:lget x.name C.names=none) :
 Calls Tryz.prog 72 #[.pointer (some ⟨c,0,none⟩),cmdVal x dv] w fun e w'=>e=.returned (resV 5 0 0 0 (.slice none 0 0))∧Ext w w':=by
 unfold cmdVal
 go_enter Tryz.func72,Tryz.ntmps72
 have hX:=(At.new w 39 (cmdCells x dv)).alloc (.cells resCells 34)
 have hE:=((Ext.refl w).alloc (.cells (cmdCells x dv) 39)).alloc (.cells resCells 34)
 have hR:=At.new (w.alloc (.cells (cmdCells x dv) 39)) 34 resCells
 rw[show(w.alloc (.cells (cmdCells x dv) 39)).heap.size=w.heap.size+1 by simp]at hR
 go_upto_region 1 with fail
 generalize hxb:w.heap.size=xb at *
 generalize World.alloc _ _=W at *
 have hC:=h.ext hE
 obtain⟨c0,c1⟩:=hC.c0
 have hlk:=(hC.ext ((Ext.refl W).drew)).lookName x.name
 rw[hn]at hlk
 have x3:=hX.cell 3
 have r0:=hR.cell 0
 have r1:=hR.cell 1
 have r2:=hR.cell 2
 have r3:=hR.cell 3
 have r4:=hR.cell 4
 have f0:=hR.frozen 0
 have f1:=hR.frozen 1
 have f2:=hR.frozen 2
 have f3:=hR.frozen 3
 have f4:=hR.frozen 4
 simp at x3 r0 r1 r2 r3 r4 hlk
 clear hX h hn hC
 go_region
 go_wp2_with fail
 obtain⟨hZ,hCz⟩:=res_out hR (.int .i64 5) (.int .u64 0) (.int .i64 0) (.int .u32 0) (.slice none 0 0)
 generalize World.drew _=WZ at hZ hCz⊢
 have g0:=hZ.cell 0
 have g1:=hZ.cell 1
 have g2:=hZ.cell 2
 have g3:=hZ.cell 3
 have g4:=hZ.cell 4
 simp at g0 g1 g2 g3 g4
 refine bodyPost_ret (v:=resV 5 0 0 0 (.slice none 0 0)) (by simp[results,Tryz.results72,go_sem,g0,g1,g2,g3,g4,resV]) rfl ⟨rfl,Chg.mono (hE.chg_trans hCz) fun j hj h'=>by have e:j=xb+1:=h';omega⟩
def namedCt(C:Ct)(x:Cmd)(r:BR):Ct :=
 if x.kind=2 then C.upd r.g { r.b with pins:=r.b.pins+1 } r.dv else if x.kind=3 then(C.upd r.g { r.b with dead:=true } r.dv).setNames (ldel x.name C.names)else C
set_option maxRecDepth 100000 in
set_option maxHeartbeats 2000000 in
theorem named_some{r:BR}(hn:lget x.name C.names=some r.b.id)(hf:C.find r.b.id=some r)(hp:0≤r.b.pins∧r.b.pins<4611686018427387904)(hk:x.kind=2∨x.kind=3∨x.kind=5) :
 Calls Tryz.prog 72 #[.pointer (some ⟨c,0,none⟩),cmdVal x dv] w fun e w'=>e=.returned (resV 0 r.b.id r.b.size r.b.sum (.slice none 0 0))∧CtAt w' B c mb mn (namedCt C x r)∧Chg (C.S c mb mn) w w':=by
 unfold cmdVal
 go_enter Tryz.func72,Tryz.ntmps72
 have hX:=(At.new w 39 (cmdCells x dv)).alloc (.cells resCells 34)
 have hE:=((Ext.refl w).alloc (.cells (cmdCells x dv) 39)).alloc (.cells resCells 34)
 have hR:=At.new (w.alloc (.cells (cmdCells x dv) 39)) 34 resCells
 rw[show(w.alloc (.cells (cmdCells x dv) 39)).heap.size=w.heap.size+1 by simp]at hR
 go_upto_region 1 with fail
 generalize hxb:w.heap.size=xb at *
 generalize World.alloc _ _=W at *
 have hC:=h.ext hE
 obtain⟨c0,c1⟩:=hC.c0
 have hlk:=(hC.ext ((Ext.refl W).drew)).lookName x.name
 rw[hn]at hlk
 have x3:=hX.cell 3
 simp at x3 hlk
 go_region
 clear hlk c0 c1 x3
 have hX1:=hX.drew
 have hR1:=hR.drew
 have hC1:=hC.ext ((Ext.refl W).drew)
 have hE1:=hE.drew
 clear hX hR hC hE h hn
 generalize World.drew _=W1 at *
 obtain⟨c0,c1⟩:=hC1.c0
 have hlk:=hC1.look r.b.id
 rw[hf]at hlk
 simp only[ptrO]at hlk
 have hr:=(find_mem hf).1
 have hB:=(hC1.bl r hr).1
 have hO:=(hC1.bl r hr).2
 have hgB:=hC1.lo.2.2.2 r hr
 have hmB:=hC1.lo.2.2.1
 have hne:r.g≠xb+1:=At.ne hB hR1 (by decide)
 have x0:=hX1.cell 0
 simp at x0
 go_upto_block 0 with fail
 clear hlk c0 c1
 go_cut []from 29 to 48 (fun wx=>CtAt wx B c mb mn (namedCt C x r)∧(∃b',At wx r.g 161 (blCells b' r.dv)∧b'.id=r.b.id∧b'.size=r.b.size∧b'.sum=r.b.sum)∧At wx (xb+1) 34 resCells∧Chg (C.S c mb mn) w wx)
 case first =>
  have hEB:Chg (C.S c mb mn) w W1:=Chg.mono hE1 (fun _ _ hh=>hh.elim)
  have b11:=hB.cell 11
  have b12:=hB.cell 12
  have f11:=hB.frozen 11
  have f12:=hB.frozen 12
  have hbl:=hB.lt
  simp at b11 b12
  rcases hk with hk|hk|hk
  ·have k2:(x.kind == 2)=true:=by rw[hk];rfl
   have hnc:namedCt C x r=C.upd r.g { r.b with pins:=r.b.pins+1 } r.dv:=by unfold namedCt;rw[if_pos hk]
   have HNC:=Lib.hid hnc
   clear hnc hk
   have hCs:=(Chg.refl (· = r.g) W1).setCell (p:=⟨r.g,11,none⟩) (.inl rfl) (.int .i64 (r.b.pins+1))
   have hB2:At (W1.setCell ⟨r.g,11,none⟩ (.int .i64 (r.b.pins+1))) r.g 161 (blCells { r.b with pins:=r.b.pins+1 } r.dv):=hB.set 11 _
   have hC2:=hC1.chgBlob hr (b := { r.b with pins:=r.b.pins+1 }) (dv:=r.dv) rfl hCs hB2 (own_keep hO hCs (fun k hk e=>own_apart' hO hB (by decide) k hk e)) (hC1.dl r hr)
   have hR2:=hR1.far (p:=⟨r.g,11,none⟩) hne.symm (.int .i64 (r.b.pins+1))
   go_wp2_with fail
   go_meet
   case rel=>exact⟨by rw[HNC.out];exact hC2,⟨_,hB2,rfl,rfl,rfl⟩,hR2,Chg.trans hEB hCs (fun k _ e=>by have e':k=r.g:=e;exact .inr (.inr (.inr ⟨r,hr,e'⟩)))⟩
  ·have k2:(x.kind == 2)=false:=by rw[hk];rfl
   have k3:(x.kind == 3)=true:=by rw[hk];rfl
   have hnc:namedCt C x r=(C.upd r.g { r.b with dead:=true } r.dv).setNames (ldel x.name C.names):=by unfold namedCt;rw[if_neg (by omega),if_pos hk]
   have HNC:=Lib.hid hnc
   clear hnc hk
   have hCs:=(Chg.refl (· = r.g) W1).setCell (p:=⟨r.g,12,none⟩) (.inl rfl) (.bool true)
   have hB2:At (W1.setCell ⟨r.g,12,none⟩ (.bool true)) r.g 161 (blCells { r.b with dead:=true } r.dv):=hB.set 12 _
   have hC2:=hC1.chgBlob hr (b := { r.b with dead:=true }) (dv:=r.dv) rfl hCs hB2 (own_keep hO hCs (fun k hk e=>own_apart' hO hB (by decide) k hk e)) (hC1.dl r hr)
   have hR2:=hR1.far (p:=⟨r.g,12,none⟩) hne.symm (.bool true)
   have hX2:=hX1.far (p:=⟨r.g,12,none⟩) (At.ne hX1 hB (by decide)) (.bool true)
   go_upto_region 10 with fail
   clear b11 b12 f11 f12 x0
   generalize World.setCell _ _ _=W2 at *
   obtain⟨c0,c1⟩:=hC2.c0
   have x3:=hX2.cell 3
   simp at x3
   obtain⟨W3,hdel,hC3,hCd⟩:=(hC2.ext ((Ext.refl W2).drew)).delName x.name
   have hdel':=hdel 0
   go_region
   have hB3:=hB2.drew.chg hCd (fun e=>hC2.nm.ne_at hB2 (Eq.symm e))
   have hR3:=hR2.drew.chg hCd (fun e=>hC2.nm.ne_at hR2 (Eq.symm e))
   have hCh:Chg (C.S c mb mn) w W3:=Chg.trans (Chg.trans hEB hCs (S:=C.S c mb mn) (fun k _ e=>by have e':k=r.g:=e;exact .inr (.inr (.inr ⟨r,hr,e'⟩)))).drew hCd (fun k _ e=>by have e':k=mn:=e;exact .inr (.inr (.inl e')))
   go_wp2_with fail
   go_meet
   case rel=>exact⟨by rw[HNC.out];exact hC3,⟨_,hB3,rfl,rfl,rfl⟩,hR3,hCh⟩
  ·have k2:(x.kind == 2)=false:=by rw[hk];rfl
   have k3:(x.kind == 3)=false:=by rw[hk];rfl
   have hnc:namedCt C x r=C:=by unfold namedCt;rw[if_neg (by omega),if_neg (by omega)]
   have HNC:=Lib.hid hnc
   clear hnc hk
   go_wp2_with fail
   go_meet
   case rel=>exact⟨by rw[HNC.out];exact hC1,⟨r.b,hB,rfl,rfl,rfl⟩,hR1,hEB⟩
 case rest =>
  clear x0 hB hO hR1 hX1 hC1 hE1 hne
  obtain⟨hC2,⟨b',hB2,e1,e2,e3⟩,hR2,hCh⟩:=hcut
  have b0:=hB2.cell 0
  have b2:=hB2.cell 2
  have b3:=hB2.cell 3
  simp at b0 b2 b3
  rw[e1]at b0
  rw[e2]at b2
  rw[e3]at b3
  have r0:=hR2.cell 0
  have r1:=hR2.cell 1
  have r2:=hR2.cell 2
  have r3:=hR2.cell 3
  have r4:=hR2.cell 4
  have f0:=hR2.frozen 0
  have f1:=hR2.frozen 1
  have f2:=hR2.frozen 2
  have f3:=hR2.frozen 3
  have f4:=hR2.frozen 4
  simp at r0 r1 r2 r3 r4
  go_wp2_with fail
  go_region
  go_wp2_with fail
  obtain⟨hZ,hCz⟩:=res_out hR2 (.int .i64 0) (.int .u64 (r.b.id:Int)) (.int .i64 r.b.size) (.int .u32 (r.b.sum:Int)) (.slice none 0 0)
  generalize World.drew _=WZ at hZ hCz⊢
  have g0:=hZ.cell 0
  have g1:=hZ.cell 1
  have g2:=hZ.cell 2
  have g3:=hZ.cell 3
  have g4:=hZ.cell 4
  simp at g0 g1 g2 g3 g4
  have hCf:=hC2.far hCz hR2 (by decide) (by decide) (by decide)
  have hwl:w.heap.size≤xb+1:=by omega
  refine bodyPost_ret (v:=resV 0 r.b.id r.b.size r.b.sum (.slice none 0 0)) (by simp[results,Tryz.results72,go_sem,g0,g1,g2,g3,g4,resV]) rfl ⟨rfl,hCf,Chg.trans hCh hCz fun j hj h'=>by have e:j=xb+1:=h';omega⟩
end named
end Go.Proofs.YtkkbfdencgdbhaaGreatDoor
