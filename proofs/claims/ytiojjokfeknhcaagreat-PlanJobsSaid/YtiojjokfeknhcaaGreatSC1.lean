/-
  Part 1 of what the law leans on.
-/
import Derived.WalkKit
import Derived.Lib.Hide
import Derived.ChangeMaps5
import Derived.Deep.Draws
import Derived.Lib.QuietBelow
import Derived.Maps.RangeRun
import Derived.Test.YtiojjokfeknhcaaGreatRows
import Derived.ProofKit
import Derived.OpenShut
import Derived.ShutString
import Derived.Shelf.Small.Bits
import Derived.Shelf.Small.Wraps
import Derived.Shelf.Strconv.Itoa0
import Derived.Shelf.Slices.Turned
import Derived.Ground.Names2Prog
import Derived.Shelf.Slices.Clone
import Derived.Shelf.Slices.CompactI
import Derived.Shelf.Slices.SearchI
import Derived.Shelf.Slices.Cells
import Derived.Ground.SlgmProg
import Derived.Shelf.SortM.Plain
import Derived.Shelf.SortM.SortNone
import Derived.Test.YtiojjokfeknhcaaGreatProg
import Derived.Shelf.SlIter.Nil
import Derived.Ground.GgzProg
import Derived.Test.YtiojjokfeknhcaaGreatChecked
import Derived.Laws.AppendOwn
import Derived.Maps.AppendAt
import Derived.Lib.BitFns
namespace Go.Proofs.YtiojjokfeknhcaaGreat
set_option maxRecDepth 100000
set_option maxHeartbeats 8000000
set_option linter.unusedVariables false
set_option linter.unusedSimpArgs false
set_option linter.unusedSectionVars false
open _root_.Go.Proofs.Tryz
open Go.RowKit Go.MapKept
open Go.ChangeMaps (setBlock)
structure Chg (S:Nat→Prop) (w w':World):Prop where
 os:w'.os=w.os
 tape:w'.tape=w.tape
 output:w'.output=w.output
 size:w.heap.size≤w'.heap.size
 block:∀k,k<w.heap.size→¬ S k→w'.heap[k]? = w.heap[k]?
def Ext(w w':World):Prop:=Chg (fun _=>False) w w'
section
variable{S S':Nat→Prop}{w w1 w2:World}
theorem Chg.refl(S:Nat→Prop)(w:World):Chg S w w:=⟨rfl,rfl,rfl,Nat.le_refl _,fun _ _ _=>rfl⟩
theorem Chg.trans(h:Chg S w w1)(h':Chg S' w1 w2)(hs:∀k,k<w.heap.size→S' k→S k):Chg S w w2 :=
 ⟨h'.os.trans h.os,h'.tape.trans h.tape,h'.output.trans h.output,Nat.le_trans h.size h'.size,
  fun k hk hn=>(h'.block k (Nat.lt_of_lt_of_le hk h.size) (fun hh=>hn (hs k hk hh))).trans (h.block k hk hn)⟩
theorem Chg.mono(h:Chg S' w w1)(hs:∀k,k<w.heap.size→S' k→S k):Chg S w w1 :=
 ⟨h.os,h.tape,h.output,h.size,fun k hk hn=>h.block k hk (fun hh=>hn (hs k hk hh))⟩
theorem Chg.drew(h:Chg S w w1):Chg S w w1.drew:=⟨h.os,h.tape,h.output,h.size,h.block⟩
theorem Chg.drewN(h:Chg S w w1)(n:Nat):Chg S w (w1.drewN n):=⟨h.os,h.tape,h.output,h.size,h.block⟩
theorem Chg.alloc(h:Chg S w w1)(o:Obj):Chg S w (w1.alloc o) :=
 ⟨h.os,h.tape,h.output,Nat.le_trans h.size (by simp),fun k hk hn=>(Below.heap_alloc w1 o k (Nat.lt_of_lt_of_le hk h.size)).trans (h.block k hk hn)⟩
theorem Chg.setCell(h:Chg S w w1){p:Addr}(hp:S p.block∨w.heap.size≤p.block)(u:Value):Chg S w (w1.setCell p u) :=
 ⟨h.os,h.tape,h.output,by simpa[World.setCell]using h.size,fun k hk hn=>(Below.heap_setCell w1 p u k (by
  rintro rfl;rcases hp with hp|hp
  ·exact hn hp
  ·omega)).trans (h.block k hk hn)⟩
theorem Chg.cell(h:Chg S w w1){p:Addr}(hp:p.block<w.heap.size)(hn:¬ S p.block):w1.cell? p=w.cell? p:=World.cell?_of_block (w:=w) (h.block p.block hp hn)
theorem Chg.below(h:Chg S w w1)(hs:∀k,¬ S k):Below w.heap.size w w1:=⟨h.os,h.tape,h.output,h.size,fun k hk=>h.block k hk (hs k)⟩
theorem Chg.of_below(h:Below w.heap.size w w1):Chg S w w1:=⟨h.os,h.tape,h.output,h.size,fun k hk _=>h.block k hk⟩
theorem Ext.of_below(h:Below w.heap.size w w1):Ext w w1:=Chg.of_below h
theorem Ext.below(h:Ext w w1):Below w.heap.size w w1:=Chg.below h (fun _ hh=>hh)
theorem Ext.chg(h:Ext w w1):Chg S w w1:=Chg.mono h (fun _ _ hh=>hh.elim)
theorem Ext.refl(w:World):Ext w w:=Chg.refl _ w
theorem Ext.trans(h:Ext w w1)(h':Ext w1 w2):Ext w w2:=Chg.trans h h' (fun _ _ hh=>hh)
theorem Ext.drew(h:Ext w w1):Ext w w1.drew:=Chg.drew h
theorem Ext.drewN(h:Ext w w1)(n:Nat):Ext w (w1.drewN n):=Chg.drewN h n
theorem Ext.alloc(h:Ext w w1)(o:Obj):Ext w (w1.alloc o):=Chg.alloc h o
theorem Ext.setCell(h:Ext w w1){p:Addr}(hp:w.heap.size≤p.block)(u:Value):Ext w (w1.setCell p u):=Chg.setCell h (.inr hp) u
theorem Ext.block(h:Ext w w1){k:Nat}(hk:k<w.heap.size):w1.heap[k]? = w.heap[k]? := Chg.block h k hk (fun hh=>hh)
theorem Ext.cell(h:Ext w w1){p:Addr}(hp:p.block<w.heap.size):w1.cell? p=w.cell? p:=Chg.cell h hp (fun hh=>hh)
theorem Ext.size(h:Ext w w1):w.heap.size≤w1.heap.size:=Chg.size h
theorem Ext.chg_trans(h:Ext w w1)(h':Chg S w1 w2):Chg S w w2:=Chg.trans (Ext.chg h) h' (fun _ _ hh=>hh)
theorem Chg.ext_trans(h:Chg S w w1)(h':Ext w1 w2):Chg S w w2:=Chg.trans h h' (fun _ _ hh=>hh.elim)
end
def At(w:World)(g:Nat)(t:TypeId)(cs:Array Value):Prop:=w.heap[g]? = some (.cells cs t (0,0))
theorem qQY{w:World}{g:Nat}{o:Obj}(h:w.heap[g]? = some o):g<w.heap.size:=(Array.getElem?_eq_some_iff.1 h).1
section
variable{S:Nat→Prop}{w w':World}{g:Nat}{t:TypeId}{cs:Array Value}
theorem At.lt(h:At w g t cs):g<w.heap.size:=qQY h
theorem At.cell(h:At w g t cs)(i:Nat):w.cell? ⟨g,i,none⟩=cs[i]? := by unfold At at h;simp[World.cell?,h]
theorem At.frozen(h:At w g t cs)(i:Nat):w.frozen? ⟨g,i,none⟩=false:=by unfold At at h;simp[World.frozen?,h]
theorem At.new(w:World)(t:TypeId)(cs:Array Value):At (w.alloc (.cells cs t)) w.heap.size t cs:=by
 show(w.heap.push _)[w.heap.size]? = _
 simp
theorem At.new_eq{w:World}{g:Nat}(h:g=w.heap.size)(t:TypeId)(cs:Array Value):At (w.alloc (.cells cs t)) g t cs:=by subst h;exact At.new w t cs
theorem At.drew(h:At w g t cs):At w.drew g t cs:=h
theorem At.drewN(h:At w g t cs)(n:Nat):At (w.drewN n) g t cs:=h
theorem At.alloc(h:At w g t cs)(o:Obj):At (w.alloc o) g t cs:=(Below.heap_alloc w o g h.lt).trans h
theorem At.set(h:At w g t cs)(i:Nat)(u:Value):At (w.setCell ⟨g,i,none⟩ u) g t (cs.setIfInBounds i u):=by
 unfold At at h⊢;simp[World.setCell,Array.getElem?_modify,h]
theorem At.far(h:At w g t cs){p:Addr}(hp:g≠p.block)(u:Value):At (w.setCell p u) g t cs:=(Below.heap_setCell w p u g hp).trans h
theorem At.chg(h:At w g t cs)(hc:Chg S w w')(hn:¬ S g):At w' g t cs:=(hc.block g h.lt hn).trans h
theorem At.ext(h:At w g t cs)(hc:Ext w w'):At w' g t cs:=(Ext.block hc h.lt).trans h
theorem At.ne{g':Nat}{t':TypeId}{cs':Array Value}(h:At w g t cs)(h':At w g' t' cs')(hne:t≠t'):g≠g':=by
 rintro rfl;unfold At at h h';rw[h]at h';injection h' with h';injection h' with _ ht;exact hne ht
end
theorem ret_bool{a b:Bool}(h:a=b):Ending.returned (.bool a)=.returned (.bool b):=by rw[h]
theorem qZS{a b:ByteArray} : a.toList=b.toList↔a=b :=
 ⟨fun h=>WideShapes.bytes_inj (by rw[←ByteArray.toList_eq,←ByteArray.toList_eq];exact h),fun h=>by rw[h]⟩
section
open Go.Sort
theorem qQc{P:Program}{id:Nat}{Q:Exit→Act→World→Prop}{a:Act}{w:World}{l:List Oper}(hm:P.follows .mixedOrders=true)(hB:Region.lexB .any l.toArray=true)
 (h:wpQuiet P l.toArray (fun w'=>∃p:Regrown,w'=grow (redrawn w p.d) p.os) (fun a'=>∀w',Ext w w'→Q .normal a' w') l a):(Code.region id l.toArray true).wp P Q a w :=
 wp_region_quiet (C:=fun w'=>∃p:Regrown,w'=grow (redrawn w p.d) p.os) hm hB ⟨⟨w.drawn+1,#[]⟩,by rw[grow_empty];rfl⟩ (by
  have hmono:∀(l':List Oper) (a:Act),wpQuiet P l.toArray (fun w'=>∃p:Regrown,w'=grow (redrawn w p.d) p.os) (fun a'=>∀w',Ext w w'→Q .normal a' w') l' a →
   wpQuiet P l.toArray (fun w'=>∃p:Regrown,w'=grow (redrawn w p.d) p.os) (fun a'=>∀w',(∃p:Regrown,w'=grow (redrawn w p.d) p.os)→Q .normal a' w') l' a:=by
   intro l'
   induction l' with
   | nil=>exact fun a h w' ⟨p,hp⟩=>h w' (hp ▸ Ext.of_below (below_regrown w p.d p.os))
   | cons o r ih =>
    intro a h;unfold wpQuiet at h⊢;split
    ·rename_i hw;rw[if_pos hw]at h;exact Oper.quiet_mono (fun a h=>ih a h) h
    ·rename_i hw;rw[if_neg hw]at h;exact ih _ h
  simpa using hmono l a h)
theorem qQn(w:World)(d:Nat)(os:Array Obj):Ext w (grow (redrawn w d) os):=Ext.of_below (below_regrown w d os)
theorem regrown_of_ext{w w':World}(h:Ext w w'):∃p:Regrown,w'=grow (redrawn w p.d) p.os:=regrown_of_below h.below
theorem Calls.ext_of{P:Program}{f:FuncId}{args:Array Value}{w:World}{d:Nat}{os:Array Obj}{v:Value}
 (h:Calls P f args (grow (redrawn w d) os) fun e w'=>e=.returned v∧Ext (grow (redrawn w d) os) w'):Calls P f args (grow (redrawn w d) os) fun e w''=>e=.returned v∧∃p:Regrown,w''=grow (redrawn w p.d) p.os :=
 h.mono fun _ _ ⟨he,hb⟩=>⟨he,regrown_of_ext ((qQn w d os).trans hb)⟩
end
structure KeyWay (κ : Type) where
 d:TypeDesc
 val : κ → Value
 isKey:∀k,IsKey d (val k)
 inj:∀a b,val a=val b→a=b
def qXZ:KeyWay ByteArray:=⟨.string,.string,fun _=>trivial,fun _ _ h=>by injection h⟩
def qXp:KeyWay Int:=⟨.int .u64,.int .u64,fun _=>rfl,fun _ _ h=>by injection h⟩
section
variable{κ ν : Type}
def qQW(K:KeyWay κ)(vv : ν → Value)(w:World)(b:Nat)(L:List (κ × ν)):Prop :=
 ∃es clk,w.heap[b]? = some (.map es clk)∧Stamped es clk∧(es.toList.map fun e=>(e.key,e.val)).Perm (L.map fun p=>(K.val p.1,vv p.2))
def lget[DecidableEq κ](k : κ)(L:List (κ × ν)):Option ν := (L.find? fun p=>decide (p.1=k)).map (·.2)
def qX0[DecidableEq κ](k : κ)(L:List (κ × ν)):List (κ × ν):=L.filter fun p=>decide (p.1≠k)
variable{K:KeyWay κ}{vv : ν → Value}{w w':World}{b:Nat}{L L':List (κ × ν)}
theorem qQW.lt(h:qQW K vv w b L):b<w.heap.size:=by obtain⟨es,clk,hb,_⟩:=h;exact qQY hb
theorem qQW.of_block(h:qQW K vv w b L)(hb:w'.heap[b]? = w.heap[b]?):qQW K vv w' b L:=by
 obtain⟨es,clk,h1,h2⟩:=h;exact⟨es,clk,hb.trans h1,h2⟩
theorem qQW.chg{S:Nat→Prop}(h:qQW K vv w b L)(hc:Chg S w w')(hn:¬ S b):qQW K vv w' b L:=h.of_block (hc.block b h.lt hn)
theorem qQW.ext(h:qQW K vv w b L)(hc:Ext w w'):qQW K vv w' b L:=h.of_block (Ext.block hc h.lt)
theorem qQW.alloc(h:qQW K vv w b L)(o:Obj):qQW K vv (w.alloc o) b L:=h.of_block (Below.heap_alloc w o b h.lt)
theorem qQW.new(K:KeyWay κ)(vv : ν → Value)(w:World):qQW K vv (w.alloc (.map #[] 0)) w.heap.size [] :=
 ⟨#[],0,by
  show(w.heap.push _)[w.heap.size]? = _
  simp,(stamped_iff _ _).2 (by simp),by simp⟩
theorem qQW.ne_at{g:Nat}{t:TypeId}{cs:Array Value}(h:qQW K vv w b L)(h':At w g t cs):b≠g:=by
 rintro rfl;obtain⟨es,clk,h1,_⟩:=h;unfold At at h';rw[h']at h1;cases h1
theorem qQW.nodup(h:qQW K vv w b L):(L.map (·.1)).Nodup:=by
 obtain⟨es,clk,_,hs,hp⟩:=h;have h1:=((stamped_iff es clk).1 hs).2.2;have h2:(es.toList.map fun e=>(e.key,e.val)).Pairwise (fun a b=>a.1≠b.1):=List.pairwise_map.2 h1;have h3:=(hp.pairwise_iff (R:=fun a b=>a.1≠b.1) (fun {a b} h=>Ne.symm h)).1 h2;have h4:=List.pairwise_map.1 h3;exact List.pairwise_map.2 (h4.imp fun {a b} h e=>h (by rw[e]))
variable[DecidableEq κ]
theorem qXu{k : κ} : lget k L=none↔∀p∈L,p.1≠k:=by simp[lget]
theorem lget_some{k : κ}{v : ν}(hn:(L.map (·.1)).Nodup):lget k L=some v↔(k,v)∈L:=by
 constructor
 ·intro h;unfold lget at h;rw[Option.map_eq_some_iff]at h;obtain⟨p,hp,rfl⟩:=h;have h1:=List.find?_some hp;have h2:=List.mem_of_find?_eq_some hp;have h3:p.1=k:=by simpa using h1
  subst h3;exact h2
 ·intro h;cases hg:lget k L with
  | none=>exact absurd rfl (qXu.1 hg _ h)
  | some u =>
   have hu:(k,u)∈L:=by
    unfold lget at hg;rw[Option.map_eq_some_iff]at hg;obtain⟨p,hp,rfl⟩:=hg;have h1:=List.find?_some hp;have h2:=List.mem_of_find?_eq_some hp;have h3:p.1=k:=by simpa using h1
    subst h3;exact h2
   have hq:∀(l:List (κ × ν)),(l.map (·.1)).Nodup→(k,u)∈l→(k,v)∈l→u=v:=by
    intro l
    induction l with
    | nil=>intro _ h;cases h
    | cons x r ih =>
     intro hn h1 h2;simp only[List.map_cons,List.nodup_cons]at hn;rcases List.mem_cons.1 h1 with e1|e1 <;> rcases List.mem_cons.1 h2 with e2|e2
     ·rw[←e1]at e2;injection e2 with _ e;exact e.symm
     ·exact absurd (List.mem_map.2 ⟨_,e2,rfl⟩) (by rw[←e1]at hn;exact hn.1)
     ·exact absurd (List.mem_map.2 ⟨_,e1,rfl⟩) (by rw[←e2]at hn;exact hn.1)
     ·exact ih hn.2 e1 e2
   rw[hq L hn hu h]
omit [DecidableEq κ] in
theorem qQW.isKeys{es:Array MapEntry}(hp:(es.toList.map fun e=>(e.key,e.val)).Perm (L.map fun p=>(K.val p.1,vv p.2))):∀x∈es.toList,IsKey K.d x.key:=by
 intro x hx
 have:=hp.mem_iff.1 (List.mem_map.2 ⟨x,hx,rfl⟩)
 obtain⟨p,_,e⟩:=List.mem_map.1 this;have e1:K.val p.1=x.key:=congrArg Prod.fst e;rw[←e1];exact K.isKey _
theorem qQW.find{k : κ}{es:Array MapEntry}{clk:Nat}(hs:Stamped es clk)(hp:(es.toList.map fun e=>(e.key,e.val)).Perm (L.map fun p=>(K.val p.1,vv p.2))) :
 (lget k L=none∧Instr.findNow K.d (K.val k) es.toList 0=some none∧∀x∈es.toList,x.key≠K.val k) ∨
 ∃v j e,lget k L=some v∧Instr.findNow K.d (K.val k) es.toList 0=some (some (j,vv v))∧es[j]? = some e∧e.key=K.val k∧e.val=vv v:=by
 have hn:(L.map (·.1)).Nodup:=by
  have h1:=((stamped_iff es clk).1 hs).2.2;have h2:(es.toList.map fun e=>(e.key,e.val)).Pairwise (fun a b=>a.1≠b.1):=List.pairwise_map.2 h1;have h3:=(hp.pairwise_iff (R:=fun a b=>a.1≠b.1) (fun {a b} h=>Ne.symm h)).1 h2;have h4:=List.pairwise_map.1 h3;exact List.pairwise_map.2 (h4.imp fun {a b} h e=>h (by rw[e]))
 rcases findNow_spec (K.isKey k) es.toList 0 (qQW.isKeys hp)with⟨h1,h2⟩|⟨j,e,h1,h2,h3⟩
 ·refine .inl ⟨qXu.2 fun p hpm he=>?_,h1,h2⟩
  have:=hp.mem_iff.2 (List.mem_map.2 ⟨p,hpm,rfl⟩)
  obtain⟨x,hx,e⟩:=List.mem_map.1 this;exact h2 x hx ((congrArg Prod.fst e).trans (by rw[he]))
 ·have hm:e∈es.toList:=List.mem_of_getElem? h2
  have:=hp.mem_iff.1 (List.mem_map.2 ⟨e,hm,rfl⟩)
  obtain⟨p,hpm,he⟩:=List.mem_map.1 this;have hk:K.val p.1=e.key:=congrArg Prod.fst he;have hv:vv p.2=e.val:=congrArg Prod.snd he;have hkk:p.1=k:=K.inj _ _ (hk.trans h3);refine .inr ⟨p.2,j,e,(lget_some hn).2 (by rw[←hkk];exact hpm),?_,by simpa using h2,h3,hv.symm⟩;rw[h1,hv];simp
variable{P:Program}{t kt et:TypeId}
theorem qQW.lookup(h:qQW K vv w b L)(ht:P.underlying t=some (.map kt et))(hk:P.underlying kt=some K.d){z:Value}(hz:∀w,(zeroValue et).run P w=.ok z w)(k : κ) :
 (Instr.lookup t (.map (some b)) (K.val k) false).run P w=.ok ((lget k L).elim z vv) w:=by
 obtain⟨es,clk,hb,hs,hp⟩:=h;rcases qQW.find (k:=k) hs hp with⟨h0,h1,h2⟩|⟨v,j,e,h0,h1,h2,h3,h4⟩
 ·simp[Instr.lookup,run_underlying ht,MapKept.run_getObj_map hb,run_checkKey hk (K.isKey k),run_findKey hk h1,hz,Result.andThen,h0]
 ·simp[Instr.lookup,run_underlying ht,MapKept.run_getObj_map hb,run_checkKey hk (K.isKey k),run_findKey hk h1,Result.andThen,h0]
theorem qQW.lookup_ok(h:qQW K vv w b L)(ht:P.underlying t=some (.map kt et))(hk:P.underlying kt=some K.d){z:Value}(hz:∀w,(zeroValue et).run P w=.ok z w)(k : κ) :
 (Instr.lookup t (.map (some b)) (K.val k) true).run P w=.ok (.tuple #[(lget k L).elim z vv,.bool (lget k L).isSome]) w:=by
 obtain⟨es,clk,hb,hs,hp⟩:=h;rcases qQW.find (k:=k) hs hp with⟨h0,h1,h2⟩|⟨v,j,e,h0,h1,h2,h3,h4⟩
 ·simp[Instr.lookup,run_underlying ht,MapKept.run_getObj_map hb,run_checkKey hk (K.isKey k),run_findKey hk h1,hz,Result.andThen,h0]
 ·simp[Instr.lookup,run_underlying ht,MapKept.run_getObj_map hb,run_checkKey hk (K.isKey k),run_findKey hk h1,Result.andThen,h0]
theorem qZK{o:Obj}(w:World)(b:Nat):Chg (· = b) w (setBlock w b o) :=
 ⟨rfl,rfl,rfl,by simp[setBlock],fun k _ hn=>by simp[setBlock,Ne.symm hn]⟩
theorem qQW.update(h:qQW K vv w b L)(ht:P.underlying t=some (.map kt et))(hk:P.underlying kt=some K.d)(k : κ)(v : ν) :
 ∃w',(Instr.mapUpdate t (.map (some b)) (K.val k) (vv v)).run P w=.ok () w'∧qQW K vv w' b ((k,v)::qX0 k L)∧Chg (· = b) w w':=by
 classical
 obtain⟨es,clk,hb,hs,hp⟩:=h;have hlt:=qQY hb;rcases qQW.find (k:=k) hs hp with⟨h0,h1,h2⟩|⟨u,j,e,h0,h1,h2,h3,h4⟩
 ·refine⟨setBlock w b (.map (es.push { key:=K.val k,val:=vv v,born:=clk }) (clk+1)),?_,⟨_,_,(heap_set hb).1,stamped_push hs h2,?_⟩,qZK w b⟩
  ·simp[Instr.mapUpdate,run_underlying ht,MapKept.run_getObj_map hb,run_checkKey hk (K.isKey k),run_findKey hk h1,MapKept.run_setObj_map _ hb,Result.andThen,setBlock]
  ·have e1:qX0 k L=L:=by
    unfold qX0;exact List.filter_eq_self.2 fun p hpm=>by simpa using qXu.1 h0 p hpm
   rw[e1];simp only[Array.toList_push,List.map_append,List.map_cons,List.map_nil];exact(List.perm_append_singleton _ _).trans (hp.cons _)
 ·refine⟨setBlock w b (.map (es.modify j fun e => { e with key:=K.val k,val:=vv v }) clk),?_,⟨_,_,(heap_set hb).1,?_,?_⟩,qZK w b⟩
  ·simp[Instr.mapUpdate,run_underlying ht,MapKept.run_getObj_map hb,run_checkKey hk (K.isKey k),run_findKey hk h1,MapKept.run_setObj_map _ hb,Result.andThen,setBlock,h2,h3,run_keyThatStays (K.isKey k)]
  ·exact stamped_modify hs j _ (fun _ _=>rfl) (fun e' _ he'=>by rw[h2]at he';injection he' with he';subst he';exact h3.symm)
  ·have hjl:j<es.toList.length:=(List.getElem?_eq_some_iff.1 (by simpa using h2)).1;have hpw:=((stamped_iff es clk).1 hs).2.2
   have hm:(es.modify j fun e => { e with key:=K.val k,val:=vv v }).toList.Perm ({ e with key:=K.val k,val:=vv v } :: es.toList.eraseIdx j):=by
    have hje:es.toList[j]=e:=by
     have:=List.getElem?_eq_some_iff.1 (show es.toList[j]? = some e by simpa using h2)
     exact this.2
    have e2:(es.modify j fun e => { e with key:=K.val k,val:=vv v }).toList=es.toList.set j { e with key:=K.val k,val:=vv v } := by
     apply List.ext_getElem?
     intro i;rw[List.getElem?_set];simp only[Array.getElem?_toList,Array.getElem?_modify]
     by_cases hji:j=i
     ·subst hji;rw[if_pos rfl,if_pos rfl,h2,if_pos hjl];rfl
     ·rw[if_neg hji,if_neg hji]
    rw[e2]
    have hgen:∀(l:List MapEntry) (j:Nat) (x:MapEntry),j<l.length→(l.set j x).Perm (x::l.eraseIdx j):=by
     intro l
     induction l with
     | nil=>intro j x h;simp at h
     | cons y r ih =>
      intro j x h;cases j with
      | zero=>simp
      | succ j =>
       simp only[List.set_cons_succ,List.eraseIdx_cons_succ];exact((ih j x (by simpa using h)).cons y).trans (List.Perm.swap _ _ _)
    exact hgen _ _ _ hjl
   refine(hm.map _).trans ?_
   simp only[List.map_cons];refine List.Perm.cons _ ?_
   have hper:(es.toList.eraseIdx j).Perm (es.toList.filter fun x=>decide (x.key≠K.val k)):=by
    rw[show es.toList.eraseIdx j=es.toList.filter (fun x=>decide (x.key≠K.val k))from ?_]
    have hgen:∀(l:List MapEntry) (j:Nat) (e:MapEntry),l.Pairwise (fun x y=>x.key≠y.key)→l[j]? = some e→e.key=K.val k→l.eraseIdx j=l.filter (fun x=>decide (x.key≠K.val k)):=by
     intro l
     induction l with
     | nil=>intro j e _ h;simp at h
     | cons x r ih =>
      intro j e hpw hj hk';obtain⟨hx,hr⟩:=List.pairwise_cons.1 hpw;cases j with
      | zero =>
       simp only[List.getElem?_cons_zero,Option.some.injEq]at hj;subst hj;simp only[List.eraseIdx_zero,List.tail_cons,List.filter_cons,hk',ne_eq,not_true,decide_false,Bool.false_eq_true,if_false];exact(List.filter_eq_self.2 fun y hy=>by have:=hx y hy;rw[hk']at this;simpa using fun e=>this e.symm).symm
      | succ j =>
       simp only[List.getElem?_cons_succ]at hj;have hxk:x.key≠K.val k:=by rw[←hk'];exact hx e (List.mem_of_getElem? hj)
       simp only[List.eraseIdx_cons_succ,List.filter_cons,hxk,ne_eq,not_false_eq_true,decide_true,if_true];rw[ih j e hr hj hk']
    exact hgen _ j e hpw (by simpa using h2) h3
   refine(hper.map _).trans ?_
   have hq:=hp.filter (fun q=>decide (q.1≠K.val k));rw[List.filter_map,List.filter_map]at hq;refine hq.trans ?_;unfold qX0;rw[show(L.filter ((fun q=>decide (q.1≠K.val k)) ∘ fun p=>(K.val p.1,vv p.2)))=L.filter (fun p=>decide (p.1≠k))from ?_];refine List.filter_congr fun p _=>?_
   simp only[Function.comp]
   by_cases hpk:p.1=k
   ·simp[hpk]
   ·have:K.val p.1≠K.val k:=fun e=>hpk (K.inj _ _ e)
    simp[hpk,this]
theorem qQW.delete(h:qQW K vv w b L)(ht:P.underlying t=some (.map kt et))(hk:P.underlying kt=some K.d)(k : κ) :
 ∃w',(∀ty,(Builtin.delete_ #[t,kt] ty #[.map (some b),K.val k]).run P w=.ok (.tuple #[]) w')∧qQW K vv w' b (qX0 k L)∧Chg (· = b) w w':=by
 classical
 obtain⟨es,clk,hb,hs,hp⟩:=h;rcases qQW.find (k:=k) hs hp with⟨h0,h1,h2⟩|⟨u,j,e,h0,h1,h2,h3,h4⟩
 ·refine⟨setBlock w b (.map es clk),?_,⟨_,_,(heap_set hb).1,hs,?_⟩,qZK w b⟩
  ·intro ty;simp[Builtin.delete_,run_underlying ht,MapKept.run_getObj_map hb,run_checkKey hk (K.isKey k),run_findKey hk h1,MapKept.run_setObj_map _ hb,Result.andThen,setBlock]
  ·have e1:qX0 k L=L:=by
    unfold qX0;exact List.filter_eq_self.2 fun p hpm=>by simpa using qXu.1 h0 p hpm
   rw[e1];exact hp
 ·refine⟨setBlock w b (.map (es.eraseIdxIfInBounds j) clk),?_,⟨_,_,(heap_set hb).1,stamped_erase hs j,?_⟩,qZK w b⟩
  ·intro ty;simp[Builtin.delete_,run_underlying ht,MapKept.run_getObj_map hb,run_checkKey hk (K.isKey k),run_findKey hk h1,MapKept.run_setObj_map _ hb,Result.andThen,setBlock]
  ·have hpw:=((stamped_iff es clk).1 hs).2.2
   have hgen:∀(l:List MapEntry) (j:Nat) (e:MapEntry),l.Pairwise (fun x y=>x.key≠y.key)→l[j]? = some e→e.key=K.val k→l.eraseIdx j=l.filter (fun x=>decide (x.key≠K.val k)):=by
    intro l
    induction l with
    | nil=>intro j e _ h;simp at h
    | cons x r ih =>
     intro j e hpw hj hk';obtain⟨hx,hr⟩:=List.pairwise_cons.1 hpw;cases j with
     | zero =>
      simp only[List.getElem?_cons_zero,Option.some.injEq]at hj;subst hj;simp only[List.eraseIdx_zero,List.tail_cons,List.filter_cons,hk',ne_eq,not_true,decide_false,Bool.false_eq_true,if_false];exact(List.filter_eq_self.2 fun y hy=>by have:=hx y hy;rw[hk']at this;simpa using fun e=>this e.symm).symm
     | succ j =>
      simp only[List.getElem?_cons_succ]at hj;have hxk:x.key≠K.val k:=by rw[←hk'];exact hx e (List.mem_of_getElem? hj)
      simp only[List.eraseIdx_cons_succ,List.filter_cons,hxk,ne_eq,not_false_eq_true,decide_true,if_true];rw[ih j e hr hj hk']
   have hjl:j<es.size:=(Array.getElem?_eq_some_iff.1 h2).1
   have e2:(es.eraseIdxIfInBounds j).toList=es.toList.eraseIdx j:=by
    unfold Array.eraseIdxIfInBounds;rw[dif_pos hjl];simp
   rw[e2,hgen _ j e hpw (by simpa using h2) h3];have hq:=hp.filter (fun q=>decide (q.1≠K.val k));rw[List.filter_map,List.filter_map]at hq;refine hq.trans ?_;unfold qX0;rw[show(L.filter ((fun q=>decide (q.1≠K.val k)) ∘ fun p=>(K.val p.1,vv p.2)))=L.filter (fun p=>decide (p.1≠k))from ?_];refine List.filter_congr fun p _=>?_
   simp only[Function.comp]
   by_cases hpk:p.1=k
   ·simp[hpk]
   ·have:K.val p.1≠K.val k:=fun e=>hpk (K.inj _ _ e)
    simp[hpk,this]
omit [DecidableEq κ] in
theorem qQW.len(h:qQW K vv w b L)(ht:P.underlying t=some (.map kt et))(ty:TypeId):(Builtin.len_ #[t] ty #[.map (some b)]).run P w=.ok (.int .i64 L.length) w:=by
 obtain⟨es,clk,hb,hs,hp⟩:=h;have hl:es.size=L.length:=by have:=hp.length_eq;simpa using this
 simp[Builtin.len_,run_underlying ht,MapKept.run_getObj_map hb,Result.andThen,goInt,hl]
end
structure Ordd {κ : Type} (lt : κ → κ → Bool):Prop where
 irr:∀a,lt a a=false
 tr:∀ {a b c},lt a b=true→lt b c=true→lt a c=true
 tot:∀ {a b},lt a b=false→lt b a=false→a=b
section
variable{κ ν : Type}[DecidableEq κ](lt : κ → κ → Bool)
variable{lt}(O:Ordd lt)
include O
end
def blt(a b:ByteArray):Bool:=decide (a.data.toList<b.data.toList)
open Go.RowKit Go.MapKept
open Go.ChangeMaps (setBlock)
section
variable{κ ν : Type}
def qQ6(K:KeyWay κ)(vv : ν → Value)(w:World)(b r:Nat)(L left:List (κ × ν)):Prop :=
 ∃es clk seen,w.heap[b]? = some (.map es clk)∧Stamped es clk∧(es.toList.map fun e=>(e.key,e.val)).Perm (L.map fun p=>(K.val p.1,vv p.2)) ∧
  w.heap[r]? = some (.mapIter (some b) clk seen clk)∧((leftOf es seen).toList.map fun e=>(e.key,e.val)).Perm (left.map fun p=>(K.val p.1,vv p.2))
variable{K:KeyWay κ}{vv : ν → Value}{w w':World}{b r:Nat}{L left:List (κ × ν)}
theorem qQ6.lt(h:qQ6 K vv w b r L left):b<w.heap.size∧r<w.heap.size:=by
 obtain⟨es,clk,seen,h1,_,_,h2,_⟩:=h;exact⟨qQY h1,qQY h2⟩
theorem qQ6.of_blocks(h:qQ6 K vv w b r L left)(hb:w'.heap[b]? = w.heap[b]?)(hr:w'.heap[r]? = w.heap[r]?):qQ6 K vv w' b r L left:=by
 obtain⟨es,clk,seen,h1,h2,h3,h4,h5⟩:=h;exact⟨es,clk,seen,hb.trans h1,h2,h3,hr.trans h4,h5⟩
theorem qQ6.ext(h:qQ6 K vv w b r L left)(hc:Ext w w'):qQ6 K vv w' b r L left:=h.of_blocks (Ext.block hc h.lt.1) (Ext.block hc h.lt.2)
theorem qQW.range{P:Program}{t kt et:TypeId}(h:qQW K vv w b L)(ht:P.underlying t=some (.map kt et)) :
 ∃w',(Instr.range t (.map (some b))).run P w=.ok (.pointer (some ⟨w.heap.size,0,none⟩)) w'∧qQ6 K vv w' b w.heap.size L L∧Ext w w':=by
 obtain⟨es,clk,h1,h2,h3⟩:=h;refine⟨w.alloc (.mapIter (some b) clk #[] clk),?_,⟨es,clk,#[],(Below.heap_alloc w _ b (qQY h1)).trans h1,h2,h3,?_,?_⟩,(Ext.refl w).alloc _⟩
 ·simp[Instr.range,run_underlying ht,MapKept.run_getObj_map h1,Result.andThen]
 ·show(w.heap.push _)[w.heap.size]? = _
  simp
 ·have:leftOf es #[]=es:=by unfold leftOf;simp
  rw[this];exact h3
theorem qQ6.next{P:Program}(h:qQ6 K vv w b r L left)(ty:TypeId) :
 (left=[]∧(Instr.next (.pointer (some ⟨r,0,none⟩)) false ty).run P w=.ok (.tuple #[.bool false]) w) ∨
 ∃p left' w',left.Perm (p::left')∧(Instr.next (.pointer (some ⟨r,0,none⟩)) false ty).run P w=.ok (.tuple #[.bool true,K.val p.1,vv p.2]) w' ∧
  qQ6 K vv w' b r L left'∧Chg (· = r) w w'∧(Instr.entry (.pointer (some ⟨r,0,none⟩))).run P w'=.ok (.tuple #[K.val p.1,vv p.2]) w':=by
 classical
 obtain⟨es,clk,seen,h1,h2,h3,h4,h5⟩:=h;have hst:=(stamped_iff es clk).1 h2;have hne:b≠r:=by rintro rfl;rw[h1]at h4;cases h4
 rcases run_next_at (P:=P) w ty r b clk clk seen es clk h4 h1 hst.1 (Nat.le_refl _)with⟨h0,hrun⟩|⟨e,he,w1,hw1,hrun⟩
 ·refine .inl ⟨?_,hrun⟩
  have:=h5.length_eq
  simp only[List.length_map,Array.length_toList,h0]at this;exact List.eq_nil_of_length_eq_zero this.symm
 ·right
  have hmem:=h5.mem_iff.1 (List.mem_map.2 ⟨e,he,rfl⟩);obtain⟨p,hp,hpe⟩:=List.mem_map.1 hmem;have hk:K.val p.1=e.key:=congrArg Prod.fst hpe;have hv:vv p.2=e.val:=congrArg Prod.snd hpe;obtain⟨l1,l2,hl⟩:=List.append_of_mem hp;have hperm:left.Perm (p::(l1++l2)):=by rw[hl];exact List.perm_middle
  have hem:e∈es.toList:=by
   unfold leftOf at he;simp at he⊢;exact he.1
  have b1:w1.heap[b]? = some (.map es clk):=by rcases hw1 with rfl|rfl <;> exact h1
  have r1:w1.heap[r]? = some (.mapIter (some b) clk seen clk):=by rcases hw1 with rfl|rfl <;> exact h4
  have c1:Chg (· = r) w w1:=by
   rcases hw1 with rfl|rfl
   ·exact Chg.refl _ _
   ·exact(Chg.refl _ _).drew
  have b2:(setBlock w1 r (.mapIter (some b) clk (seen.push e.born) clk)).heap[b]? = some (.map es clk):=by
   have:=(heap_set (o':=.mapIter (some b) clk (seen.push e.born) clk) r1).2 b hne
   exact this.trans b1
  have r2:(setBlock w1 r (.mapIter (some b) clk (seen.push e.born) clk)).heap[r]? = some (.mapIter (some b) clk (seen.push e.born) clk):=(heap_set r1).1;refine⟨p,l1++l2,_,hperm,by rw[hk,hv];exact hrun,⟨es,clk,seen.push e.born,b2,h2,h3,r2,?_⟩,?_,?_⟩
  ·
   have hnb:(es.toList.map (·.born)).Nodup:=hst.2.1
   have hA:(leftOf es seen).toList.Perm (e::(leftOf es (seen.push e.born)).toList):=by
    have e1:(leftOf es (seen.push e.born)).toList=(leftOf es seen).toList.filter fun x=>decide (x.born≠e.born):=by
     unfold leftOf;simp only[Array.toList_filter,List.filter_filter];refine List.filter_congr fun x _=>?_
     by_cases hx:x.born=e.born
     ·simp[hx]
     ·simp[hx]
    rw[e1]
    have hnl:((leftOf es seen).toList.map (·.born)).Nodup:=by
     have hs:(leftOf es seen).toList.Sublist es.toList:=by
      unfold leftOf;simp only[Array.toList_filter];exact List.filter_sublist
     exact(hs.map _).nodup hnb
    generalize (leftOf es seen).toList=l at he hnl;clear e1
    induction l with
    | nil=>cases he
    | cons y l ih =>
     simp only[List.map_cons,List.nodup_cons]at hnl;rcases List.mem_cons.1 he with rfl|he'
     ·have e3:(e::l).filter (fun x=>decide (x.born≠e.born))=l:=by
       rw[List.filter_cons,if_neg (by simp)];refine List.filter_eq_self.2 fun x hx=>?_
       have:x.born≠e.born:=fun h=>hnl.1 (List.mem_map.2 ⟨x,hx,h⟩)
       simpa using this
      rw[e3]
     ·have hyb:y.born≠e.born:=fun h=>hnl.1 (List.mem_map.2 ⟨e,he',h.symm⟩)
      rw[List.filter_cons,if_pos (by simpa using hyb)];exact((ih he' hnl.2).cons y).trans (List.Perm.swap _ _ _)
   have hB:=(hA.map fun e=>(e.key,e.val)).symm.trans (h5.trans (hperm.map _));simp only[List.map_cons]at hB;rw[hk,hv]at hB;exact(List.perm_cons _).1 hB
  ·exact c1.trans (qZK w1 r) (fun _ _ h=>h)
  ·rw[hk,hv];exact run_entry_at _ r b clk seen es clk e r2 b2 hem hst.2.1
end
open Go.ChangeShapes Go.WideShapes Go.ChangeAt Go.RowKit
theorem own:ownKnob prog.godebug=none:=by kernel_rfl
section
variable{H:Type}{enc:TypeId×Value→H}{P:Program}{W W':World}
theorem qX1(hl:laidOutB P=true)(hb:Below W.heap.size W W'):∀(ts:List TypeId) (vs:List Value) (ds:List (DataW H)) (p:List MemPlace),
 (∀t∈ts,P.readableRec t=true∧t<P.types.size)→(∀x∈p,x.block<W.heap.size) →
 DataW.TrodAll enc P W 0 (fun _=>true) true ts vs ds p→DataW.TrodAll enc P W' 0 (fun b=>decide (b<W.heap.size)) true ts vs ds p
 | [],vs,ds,p,_,_,h=>by
  obtain⟨rfl,rfl,rfl⟩:vs=[]∧ds=[]∧p=[]:=trodAll_nil h;exact trodAll_mk0
 | t::ts,vs,ds,p,ht,hp,h=>by
  obtain⟨v,vs',d,ds',p0,q0,rfl,rfl,rfl,h0,r0⟩:=trodAll_cons h;have h1:=ht t (List.mem_cons_self ..)
  exact trodAll_cons_mk (Below.trod hl h1.1 h1.2 h0 hb (fun x hx=>hp x (List.mem_append_left _ hx)))
   (qX1 hl hb ts vs' ds' q0 (fun t h=>ht t (List.mem_cons_of_mem _ h)) (fun x hx=>hp x (List.mem_append_right _ hx)) r0)
theorem law_post{f:Func}{s:ChangeSpec}{args:Array Value}{ds:List (DataW H)}{before:List MemPlace}{T:TypeId}
 (hW:DataW.Whole enc P f.params.toList s.vars false W args.toList ds [] before) (hvars:s.vars=[])
 (hspec:s.fn H (ds++[]) = { results:=[.lit (.bool true)],args:=ds }) (hrt:f.resultTypes=#[T]) (hT:P.underlying T=some .bool)
 (hl:laidOutB P=true) (hpar:(f.params.toList.all fun t=>P.readableRec t&&decide (t<P.types.size))=true) (hb:Below W.heap.size W W') :
 s.post enc P f false true false false W args (.bool true) W':=by
 have hlt:∀p∈before,p.block<W.heap.size:=fun p hp=>hW.lt p hp
 have hpar':∀t∈f.params.toList,P.readableRec t=true∧t<P.types.size:=fun t h=>by
  have:=List.all_eq_true.1 hpar t h
  simpa using this
 have hW0:=hW;obtain⟨p,q,hA,hV,rfl,_,_⟩:=hW;rw[hvars]at hV;obtain⟨_,rfl⟩:=trodVars_none hV;have hA':=qX1 hl hb _ _ _ _ hpar' (fun x hx=>hlt x (List.mem_append_left _ hx)) hA;refine⟨ds,[],p++[],[],p,[],hW0,?_,?_,?_,hb.frame _,fun h=>by cases h⟩
 ·rw[hspec,hrt];exact trodAll_cons_mk (shut_bool hT _) trodAll_mk0
 ·rw[hspec];exact hA'
 ·rw[hspec,hvars];exact rfl
end
end Go.Proofs.YtiojjokfeknhcaaGreat
namespace Go.Proofs
open _root_.Go.Proofs.Tryz
open Go.Shelf
def Tryz.lays125_ren:Go.Shelf.Ren:=⟨fun|125=>77|128=>105|129=>106|n=>n,fun|46=>148|3=>3|51=>58|53=>47|4=>4|5=>5|9=>9|n=>n,fun|n=>n⟩
theorem Tryz.lays125:Go.Proofs.Lays.n125 prog Tryz.lays125_ren := {
 mixed:=by kernel_rfl
 f125:=func77.trans (congrArg some (by kernel_rfl))
 f128:=func105.trans (congrArg some (by kernel_rfl))
 f129:=func106.trans (congrArg some (by kernel_rfl))
 t3:=underlying3
 a3:=Tryz.isAgg3
 z3:=Tryz.sizeOf3
 v3:=Tryz.zeroValue3
 t4:=underlying4
 a4:=Tryz.isAgg4
 z4:=Tryz.sizeOf4
 v4:=Tryz.zeroValue4
 t5:=underlying5
 a5:=Tryz.isAgg5
 z5:=Tryz.sizeOf5
 v5:=Tryz.zeroValue5
 t9:=underlying9
 a9:=Tryz.isAgg9
 z9:=Tryz.sizeOf9
 v9:=Tryz.zeroValue9
 t46:=underlying148
 a46:=Tryz.isAgg148
 z46:=Tryz.sizeOf148
 v46:=Tryz.zeroValue148
 t51:=underlying58
 a51:=Tryz.isAgg58
 z51:=Tryz.sizeOf58
 v51:=Tryz.zeroValue58
 t53:=underlying47
 a53:=Tryz.isAgg47
 z53:=Tryz.sizeOf47
 v53:=Tryz.zeroValue47 }
theorem Tryz.bits_Len(x:Int)(w:World)(h0:0≤x)(h1:x≤18446744073709551615) :
 Calls prog 77 #[.int .u64 x] w fun e w'=>e=.returned (.int .i64 (Lib.bitLen x.toNat))∧w'=w:=Any.bits_Len Tryz.lays125 x w h0 h1
def Tryz.lays122_ren:Go.Shelf.Ren:=⟨fun|122=>113|215=>130|n=>n,fun|3=>3|4=>4|n=>n,fun|n=>n⟩
theorem Tryz.lays122:Go.Proofs.Lays.n122 prog Tryz.lays122_ren := {
 mixed:=by kernel_rfl
 f122:=func113.trans (congrArg some (by kernel_rfl))
 f215:=func130.trans (congrArg some (by kernel_rfl))
 t3:=underlying3
 a3:=Tryz.isAgg3
 z3:=Tryz.sizeOf3
 v3:=Tryz.zeroValue3
 t4:=underlying4
 a4:=Tryz.isAgg4
 z4:=Tryz.sizeOf4
 v4:=Tryz.zeroValue4 }
open Go.RowKit in
theorem Tryz.cmp_Compare_int(x y:Int)(w:World) :
 Calls prog 113 #[.int .i64 x,.int .i64 y] w fun e w'=>e=.returned (.int .i64 (Lib.compareInt x y))∧w'=w:=Any.cmp_Compare_int Tryz.lays122 x y w
def Tryz.lays107_ren:Go.Shelf.Ren:=⟨fun|107=>110|108=>131|n=>n,fun|28=>24|3=>3|4=>4|0=>0|n=>n,fun|n=>n⟩
theorem Tryz.lays107:Go.Proofs.Lays.n107 prog Tryz.lays107_ren := {
 mixed:=by kernel_rfl
 f107:=func110.trans (congrArg some (by kernel_rfl))
 f108:=func131.trans (congrArg some (by kernel_rfl))
 t0:=underlying0
 a0:=Tryz.isAgg0
 z0:=Tryz.sizeOf0
 v0:=Tryz.zeroValue0
 t3:=underlying3
 a3:=Tryz.isAgg3
 z3:=Tryz.sizeOf3
 v3:=Tryz.zeroValue3
 t4:=underlying4
 a4:=Tryz.isAgg4
 z4:=Tryz.sizeOf4
 v4:=Tryz.zeroValue4
 t28:=underlying24
 a28:=Tryz.isAgg24
 z28:=Tryz.sizeOf24
 v28:=Tryz.zeroValue24 }
open Go.Lib in
theorem Tryz.slices_Contains_int(b off n c:Nat)(zs:List Int)(x:Int)(w:World)(hz:n≤zs.length)(hbig:n≤9223372036854775807)(hc:∀j,j<zs.length→w.cell? ⟨b,off+j,none⟩=some (.int .i64 (zs.getD j 0))) :
 Calls prog 110 #[.slice (some ⟨b,off,none⟩) n c,.int .i64 x] w fun e w'=>e=.returned (.bool ((zs.take n).contains x))∧w'=w:=Any.slices_Contains_int Tryz.lays107 b off n c zs x w hz hbig hc
open Go.Lib in
theorem Tryz.slices_Contains_int_empty(a:Option Addr)(c:Nat)(x:Int)(w:World) :
 Calls prog 110 #[.slice a 0 c,.int .i64 x] w fun e w'=>e=.returned (.bool false)∧w'=w:=Any.slices_Contains_int_empty Tryz.lays107 a c x w
def Tryz.laysNm215_ren:Go.Shelf.Ren:=⟨fun|15=>72|n=>n,fun|22=>24|3=>3|4=>4|n=>n,fun|n=>n⟩
theorem Tryz.laysNm215:Go.Proofs.Lays2.n15 prog Tryz.laysNm215_ren := {
 mixed:=by kernel_rfl
 f15:=func72.trans (congrArg some (by kernel_rfl))
 t3:=underlying3
 a3:=Tryz.isAgg3
 z3:=Tryz.sizeOf3
 v3:=Tryz.zeroValue3
 t4:=underlying4
 a4:=Tryz.isAgg4
 z4:=Tryz.sizeOf4
 v4:=Tryz.zeroValue4
 t22:=underlying24
 a22:=Tryz.isAgg24
 z22:=Tryz.sizeOf24
 v22:=Tryz.zeroValue24
 i3:=by kernel_rfl }
open Go.RowKit Go.Lib in
theorem Tryz.slices_Clone_int(b off n c:Nat)(zs:List Int)(w:World)(hz:n≤zs.length)(hbig:n * 8≤140737488355328)(hc:∀j,j<zs.length→w.cell? ⟨b,off+j,none⟩=some (.int .i64 (zs.getD j 0))) :
 Calls prog 72 #[.slice (some ⟨b,off,none⟩) n c] w fun e w'=>∃v',e=.returned v'∧w'.ownsRow w.heap.size 3 1 v' n ((zs.take n).map (Value.int .i64))∧v'≠.slice none 0 0∧Below w.heap.size w w':=Any.slices_Clone_int Tryz.laysNm215 b off n c zs w hz hbig hc
open Go.RowKit Go.Lib in
theorem Tryz.slices_Clone_int_nil(n c:Nat)(w:World) :
 Calls prog 72 #[.slice none n c] w fun e w'=>e=.returned (.slice none 0 0)∧w'=w:=Any.slices_Clone_int_nil Tryz.laysNm215 n c w
open Go.RowKit Go.Lib in
theorem Tryz.slices_Clone_int_zero(a:Addr)(c:Nat)(w:World) :
 Calls prog 72 #[.slice (some a) 0 c] w fun e w'=>∃v',e=.returned v'∧w'.ownsRow w.heap.size 3 1 v' 0 []∧v'≠.slice none 0 0∧Below w.heap.size w w':=Any.slices_Clone_int_zero Tryz.laysNm215 a c w
def Tryz.laysNm220_ren:Go.Shelf.Ren:=⟨fun|20=>47|n=>n,fun|22=>24|3=>3|4=>4|0=>0|n=>n,fun|n=>n⟩
theorem Tryz.laysNm220:Go.Proofs.Lays2.n20 prog Tryz.laysNm220_ren := {
 mixed:=by kernel_rfl
 f20:=func47.trans (congrArg some (by kernel_rfl))
 t0:=underlying0
 a0:=Tryz.isAgg0
 z0:=Tryz.sizeOf0
 v0:=Tryz.zeroValue0
 t3:=underlying3
 a3:=Tryz.isAgg3
 z3:=Tryz.sizeOf3
 v3:=Tryz.zeroValue3
 t4:=underlying4
 a4:=Tryz.isAgg4
 z4:=Tryz.sizeOf4
 v4:=Tryz.zeroValue4
 t22:=underlying24
 a22:=Tryz.isAgg24
 z22:=Tryz.sizeOf24
 v22:=Tryz.zeroValue24
 i3:=by kernel_rfl }
open Go.RowKit Go.Lib Go.Sort in
theorem Tryz.slices_Compact_int(blk off cap:Nat)(zs:List Int)(w:World)(hH:Holds (Value.int .i64) w blk off zs.toArray)(hsz:zs.length≤9223372036854775807)(hcap:zs.length≤cap) :
 Calls prog 47 #[.slice (some ⟨blk,off,none⟩) zs.length cap] w fun e w'=>e=.returned (.slice (some ⟨blk,off,none⟩) (Lib.compact zs).length cap)∧∃q,w'=putRow (Value.int .i64) (Sort.ahead w q) blk off (Lib.compact zs++List.replicate (zs.length - (Lib.compact zs).length) 0).toArray:=Any.slices_Compact_int Tryz.laysNm220 blk off cap zs w hH hsz hcap
open Go.RowKit Go.Lib Go.Sort in
theorem Tryz.slices_Compact_int_empty(a:Option Addr)(cap:Nat)(w:World) :
 Calls prog 47 #[.slice a 0 cap] w fun e w'=>e=.returned (.slice a 0 cap)∧w'=w:=Any.slices_Compact_int_empty Tryz.laysNm220 a cap w
def Tryz.laysSlM5_f46_ren:Go.Shelf.Ren:=⟨fun|5=>46|8=>77|7=>76|19=>105|20=>106|10=>96|11=>97|12=>98|13=>99|14=>100|15=>101|16=>102|17=>103|18=>104|30=>125|31=>126|32=>127|33=>128|34=>129|35=>130|40=>146|n=>n,fun|23=>24|25=>3|3=>3|32=>148|22=>24|0=>0|44=>58|46=>47|4=>4|36=>164|35=>163|41=>168|5=>5|9=>9|53=>185|57=>189|63=>200|64=>66|n=>n,fun|n=>n⟩
theorem Tryz.laysSlM5_f46:Go.Proofs.SlLaysM.n5 prog Tryz.laysSlM5_f46_ren := {
 mixed:=by kernel_rfl
 f5:=⟨Tryz.f46.name,by decide,func46.trans (congrArg some (by kernel_rfl))⟩
 f7:=⟨Tryz.f76.name,by decide,func76.trans (congrArg some (by kernel_rfl))⟩
 f8:=func77.trans (congrArg some (by kernel_rfl))
 f10:=⟨Tryz.f96.name,by decide,func96.trans (congrArg some (by kernel_rfl))⟩
 f11:=⟨Tryz.f97.name,by decide,func97.trans (congrArg some (by kernel_rfl))⟩
 f12:=⟨Tryz.f98.name,by decide,func98.trans (congrArg some (by kernel_rfl))⟩
 f13:=⟨Tryz.f99.name,by decide,func99.trans (congrArg some (by kernel_rfl))⟩
 f14:=⟨Tryz.f100.name,by decide,func100.trans (congrArg some (by kernel_rfl))⟩
 f15:=⟨Tryz.f101.name,by decide,func101.trans (congrArg some (by kernel_rfl))⟩
 f16:=⟨Tryz.f102.name,by decide,func102.trans (congrArg some (by kernel_rfl))⟩
 f17:=⟨Tryz.f103.name,by decide,func103.trans (congrArg some (by kernel_rfl))⟩
 f18:=⟨Tryz.f104.name,by decide,func104.trans (congrArg some (by kernel_rfl))⟩
 f19:=func105.trans (congrArg some (by kernel_rfl))
 f20:=func106.trans (congrArg some (by kernel_rfl))
 f30:=⟨Tryz.f125.name,by decide,func125.trans (congrArg some (by kernel_rfl))⟩
 f31:=func126.trans (congrArg some (by kernel_rfl))
 f32:=func127.trans (congrArg some (by kernel_rfl))
 f33:=⟨Tryz.f128.name,by decide,func128.trans (congrArg some (by kernel_rfl))⟩
 f34:=⟨Tryz.f129.name,by decide,func129.trans (congrArg some (by kernel_rfl))⟩
 f35:=⟨Tryz.f130.name,by decide,func130.trans (congrArg some (by kernel_rfl))⟩
 f40:=⟨Tryz.f146.name,by decide,func146.trans (congrArg some (by kernel_rfl))⟩
 t0:=underlying0
 a0:=Tryz.isAgg0
 z0:=Tryz.sizeOf0
 v0:=Tryz.zeroValue0
 t3:=underlying3
 a3:=Tryz.isAgg3
 z3:=Tryz.sizeOf3
 v3:=Tryz.zeroValue3
 t4:=underlying4
 a4:=Tryz.isAgg4
 z4:=Tryz.sizeOf4
 v4:=Tryz.zeroValue4
 t5:=underlying5
 a5:=Tryz.isAgg5
 z5:=Tryz.sizeOf5
 v5:=Tryz.zeroValue5
 t9:=underlying9
 a9:=Tryz.isAgg9
 z9:=Tryz.sizeOf9
 v9:=Tryz.zeroValue9
 t22:=underlying24
 a22:=Tryz.isAgg24
 z22:=Tryz.sizeOf24
 v22:=Tryz.zeroValue24
 t23:=underlying24
 a23:=Tryz.isAgg24
 z23:=Tryz.sizeOf24
 v23:=Tryz.zeroValue24
 t25:=underlying3
 a25:=Tryz.isAgg3
 z25:=Tryz.sizeOf3
 v25:=Tryz.zeroValue3
 t32:=underlying148
 a32:=Tryz.isAgg148
 z32:=Tryz.sizeOf148
 v32:=Tryz.zeroValue148
 t35:=underlying163
 a35:=Tryz.isAgg163
 z35:=Tryz.sizeOf163
 v35:=Tryz.zeroValue163
 t36:=underlying164
 a36:=Tryz.isAgg164
 z36:=Tryz.sizeOf164
 v36:=Tryz.zeroValue164
 t41:=underlying168
 a41:=Tryz.isAgg168
 z41:=Tryz.sizeOf168
 v41:=Tryz.zeroValue168
 t44:=underlying58
 a44:=Tryz.isAgg58
 z44:=Tryz.sizeOf58
 v44:=Tryz.zeroValue58
 t46:=underlying47
 a46:=Tryz.isAgg47
 z46:=Tryz.sizeOf47
 v46:=Tryz.zeroValue47
 t53:=underlying185
 a53:=Tryz.isAgg185
 z53:=Tryz.sizeOf185
 v53:=Tryz.zeroValue185
 t57:=underlying189
 a57:=Tryz.isAgg189
 z57:=Tryz.sizeOf189
 v57:=Tryz.zeroValue189
 t63:=underlying200
 a63:=Tryz.isAgg200
 z63:=Tryz.sizeOf200
 v63:=Tryz.zeroValue200
 t64:=underlying66
 a64:=Tryz.isAgg66
 z64:=Tryz.sizeOf66
 v64:=Tryz.zeroValue66 }
open Go.Sort Go.RowKit in
theorem Tryz.slices_Sort_int(blk off cap:Nat)(zs:List Int)(w:World)(hH:Holds (Value.int .i64) w blk off zs.toArray)(hblk:blk<w.heap.size)(hsz:zs.length<4611686018427387904) :
 Calls prog 46 #[.slice (some ⟨blk,off,none⟩) zs.length cap] w fun e w' =>
  e=.returned (.tuple #[])∧∃n os,w'=grow (putRow (Value.int .i64) (Sort.ahead w n) blk off (zs.mergeSort fun x y=>decide (x≤y)).toArray) os:=AnyM.slices_Sort_int Tryz.laysSlM5_f46 blk off cap zs w hH hblk hsz
def Tryz.laysSlM6_f74_ren:Go.Shelf.Ren:=⟨fun|6=>74|8=>77|9=>95|19=>105|20=>106|21=>116|22=>117|23=>118|24=>119|25=>120|26=>121|27=>122|28=>123|29=>124|36=>142|31=>126|32=>127|37=>143|38=>144|39=>145|41=>153|n=>n,fun|27=>70|29=>9|3=>3|32=>148|26=>70|0=>0|44=>58|46=>47|4=>4|36=>164|35=>163|41=>168|5=>5|9=>9|53=>185|57=>189|63=>200|64=>66|n=>n,fun|n=>n⟩
theorem Tryz.laysSlM6_f74:Go.Proofs.SlLaysM.n6 prog Tryz.laysSlM6_f74_ren := {
 mixed:=by kernel_rfl
 f6:=⟨Tryz.f74.name,by decide,func74.trans (congrArg some (by kernel_rfl))⟩
 f8:=func77.trans (congrArg some (by kernel_rfl))
 f9:=⟨Tryz.f95.name,by decide,func95.trans (congrArg some (by kernel_rfl))⟩
 f19:=func105.trans (congrArg some (by kernel_rfl))
 f20:=func106.trans (congrArg some (by kernel_rfl))
 f21:=⟨Tryz.f116.name,by decide,func116.trans (congrArg some (by kernel_rfl))⟩
 f22:=⟨Tryz.f117.name,by decide,func117.trans (congrArg some (by kernel_rfl))⟩
 f23:=⟨Tryz.f118.name,by decide,func118.trans (congrArg some (by kernel_rfl))⟩
 f24:=⟨Tryz.f119.name,by decide,func119.trans (congrArg some (by kernel_rfl))⟩
 f25:=⟨Tryz.f120.name,by decide,func120.trans (congrArg some (by kernel_rfl))⟩
 f26:=⟨Tryz.f121.name,by decide,func121.trans (congrArg some (by kernel_rfl))⟩
 f27:=⟨Tryz.f122.name,by decide,func122.trans (congrArg some (by kernel_rfl))⟩
 f28:=⟨Tryz.f123.name,by decide,func123.trans (congrArg some (by kernel_rfl))⟩
 f29:=⟨Tryz.f124.name,by decide,func124.trans (congrArg some (by kernel_rfl))⟩
 f31:=func126.trans (congrArg some (by kernel_rfl))
 f32:=func127.trans (congrArg some (by kernel_rfl))
 f36:=⟨Tryz.f142.name,by decide,func142.trans (congrArg some (by kernel_rfl))⟩
 f37:=⟨Tryz.f143.name,by decide,func143.trans (congrArg some (by kernel_rfl))⟩
 f38:=⟨Tryz.f144.name,by decide,func144.trans (congrArg some (by kernel_rfl))⟩
 f39:=⟨Tryz.f145.name,by decide,func145.trans (congrArg some (by kernel_rfl))⟩
 f41:=⟨Tryz.f153.name,by decide,func153.trans (congrArg some (by kernel_rfl))⟩
 t0:=underlying0
 a0:=Tryz.isAgg0
 z0:=Tryz.sizeOf0
 v0:=Tryz.zeroValue0
 t3:=underlying3
 a3:=Tryz.isAgg3
 z3:=Tryz.sizeOf3
 v3:=Tryz.zeroValue3
 t4:=underlying4
 a4:=Tryz.isAgg4
 z4:=Tryz.sizeOf4
 v4:=Tryz.zeroValue4
 t5:=underlying5
 a5:=Tryz.isAgg5
 z5:=Tryz.sizeOf5
 v5:=Tryz.zeroValue5
 t9:=underlying9
 a9:=Tryz.isAgg9
 z9:=Tryz.sizeOf9
 v9:=Tryz.zeroValue9
 t26:=underlying70
 a26:=Tryz.isAgg70
 z26:=Tryz.sizeOf70
 v26:=Tryz.zeroValue70
 t27:=underlying70
 a27:=Tryz.isAgg70
 z27:=Tryz.sizeOf70
 v27:=Tryz.zeroValue70
 t29:=underlying9
 a29:=Tryz.isAgg9
 z29:=Tryz.sizeOf9
 v29:=Tryz.zeroValue9
 t32:=underlying148
 a32:=Tryz.isAgg148
 z32:=Tryz.sizeOf148
 v32:=Tryz.zeroValue148
 t35:=underlying163
 a35:=Tryz.isAgg163
 z35:=Tryz.sizeOf163
 v35:=Tryz.zeroValue163
 t36:=underlying164
 a36:=Tryz.isAgg164
 z36:=Tryz.sizeOf164
 v36:=Tryz.zeroValue164
 t41:=underlying168
 a41:=Tryz.isAgg168
 z41:=Tryz.sizeOf168
 v41:=Tryz.zeroValue168
 t44:=underlying58
 a44:=Tryz.isAgg58
 z44:=Tryz.sizeOf58
 v44:=Tryz.zeroValue58
 t46:=underlying47
 a46:=Tryz.isAgg47
 z46:=Tryz.sizeOf47
 v46:=Tryz.zeroValue47
 t53:=underlying185
 a53:=Tryz.isAgg185
 z53:=Tryz.sizeOf185
 v53:=Tryz.zeroValue185
 t57:=underlying189
 a57:=Tryz.isAgg189
 z57:=Tryz.sizeOf189
 v57:=Tryz.zeroValue189
 t63:=underlying200
 a63:=Tryz.isAgg200
 z63:=Tryz.sizeOf200
 v63:=Tryz.zeroValue200
 t64:=underlying66
 a64:=Tryz.isAgg66
 z64:=Tryz.sizeOf66
 v64:=Tryz.zeroValue66 }
open Go.Sort Go.RowKit in
theorem Tryz.slices_Sort_string(blk off cap:Nat)(ss:List (List UInt8))(w:World)(hH:Holds encStr w blk off ss.toArray)(hblk:blk<w.heap.size)(hsz:ss.length<4611686018427387904) :
 Calls prog 74 #[.slice (some ⟨blk,off,none⟩) ss.length cap] w fun e w' =>
  e=.returned (.tuple #[])∧∃n os,w'=grow (putRow encStr (Sort.ahead w n) blk off (ss.mergeSort fun x y=>decide (x≤y)).toArray) os:=AnyM.slices_Sort_string Tryz.laysSlM6_f74 blk off cap ss w hH hblk hsz
open Go.RowKit Go.Sort in
theorem Tryz.slices_Sort_string_none(p:Option Addr)(cap:Nat)(w:World) :
 Calls prog 74 #[.slice p 0 cap] w fun e w'=>e=.returned (.tuple #[])∧w'=w:=AnyM.slices_Sort_string_none Tryz.laysSlM6_f74 p cap w
open Go.RowKit Go.Sort in
theorem Tryz.slices_Sort_int_none(p:Option Addr)(cap:Nat)(w:World) :
 Calls prog 46 #[.slice p 0 cap] w fun e w'=>e=.returned (.tuple #[])∧w'=w:=AnyM.slices_Sort_int_none Tryz.laysSlM5_f46 p cap w
def Tryz.keys_ren:Go.Shelf.Ren:=⟨fun|7=>41|10=>75|n=>n,fun|23=>93|26=>9|3=>47|28=>105|0=>0|27=>104|33=>144|4=>4|n=>n,fun|n=>n⟩
theorem Tryz.keys:Go.Proofs.SlLaysZ.n7 prog Tryz.keys_ren := {
 mixed:=by kernel_rfl
 f7:=⟨Tryz.f41.name,by decide,func41.trans (congrArg some (by kernel_rfl))⟩
 f10:=⟨Tryz.f75.name,by decide,func75.trans (congrArg some (by kernel_rfl))⟩
 t0:=underlying0
 a0:=Tryz.isAgg0
 z0:=Tryz.sizeOf0
 v0:=Tryz.zeroValue0
 t4:=underlying4
 a4:=Tryz.isAgg4
 z4:=Tryz.sizeOf4
 v4:=Tryz.zeroValue4
 t23:=underlying93
 a23:=Tryz.isAgg93
 z23:=Tryz.sizeOf93
 v23:=Tryz.zeroValue93
 t26:=underlying9
 a26:=Tryz.isAgg9
 z26:=Tryz.sizeOf9
 v26:=Tryz.zeroValue9
 t27:=underlying104
 a27:=Tryz.isAgg104
 z27:=Tryz.sizeOf104
 v27:=Tryz.zeroValue104
 t28:=underlying105
 a28:=Tryz.isAgg105
 z28:=Tryz.sizeOf105
 v28:=Tryz.zeroValue105
 t33:=underlying144
 a33:=Tryz.isAgg144
 z33:=Tryz.sizeOf144
 v33:=Tryz.zeroValue144 }
def Tryz.sorted_ren:Go.Shelf.Ren:=⟨fun|6=>40|8=>73|9=>74|11=>94|13=>77|12=>95|23=>105|24=>106|14=>116|15=>117|16=>118|17=>119|18=>120|19=>121|20=>122|21=>123|22=>124|25=>142|26=>126|27=>127|28=>143|29=>144|30=>145|31=>153|n=>n,fun|26=>9|28=>105|24=>70|0=>0|3=>3|37=>148|48=>58|50=>47|4=>4|40=>164|39=>163|45=>168|5=>5|9=>9|51=>185|55=>189|57=>200|58=>66|33=>144|n=>n,fun|n=>n⟩
theorem Tryz.sorted:Go.Proofs.SlLaysZ.n6 prog Tryz.sorted_ren := {
 mixed:=by kernel_rfl
 f6:=⟨Tryz.f40.name,by decide,func40.trans (congrArg some (by kernel_rfl))⟩
 f8:=⟨Tryz.f73.name,by decide,func73.trans (congrArg some (by kernel_rfl))⟩
 f11:=⟨Tryz.f94.name,by decide,func94.trans (congrArg some (by kernel_rfl))⟩
 t0:=underlying0
 a0:=Tryz.isAgg0
 z0:=Tryz.sizeOf0
 v0:=Tryz.zeroValue0
 t24:=underlying70
 a24:=Tryz.isAgg70
 z24:=Tryz.sizeOf70
 v24:=Tryz.zeroValue70
 t26:=underlying9
 a26:=Tryz.isAgg9
 z26:=Tryz.sizeOf9
 v26:=Tryz.zeroValue9
 t28:=underlying105
 a28:=Tryz.isAgg105
 z28:=Tryz.sizeOf105
 v28:=Tryz.zeroValue105
 i26:=by kernel_rfl }
end Go.Proofs
namespace Go.Proofs.YtiojjokfeknhcaaGreat
open _root_.Go.Proofs.Tryz
open Go.RowKit
theorem qZx:(prog.info? 3).map (fun i=>(i.zero,i.size,i.bytes))=some (some (.int .i64 0),1,8):=by kernel_rfl
open Go.RowKit
def Sl(w:World)(v:Value)(xs:List Value):Prop :=
 ∃A c,v=.slice A xs.length c∧(xs≠[]→∃b o,A=some ⟨b,o,none⟩∧∀(i:Nat) (x:Value),xs[i]? = some x→w.cell? ⟨b,o+i,none⟩=some x)
section
variable{S:Nat→Prop}{w w':World}{v:Value}{xs:List Value}
theorem Sl.nil(w:World)(c:Nat):Sl w (.slice none 0 c) []:=⟨none,c,rfl,fun h=>absurd rfl h⟩
theorem qQv{w:World}{a:Addr}{u:Value}(h:w.cell? a=some u):a.block<w.heap.size:=World.block_lt_of_cell? _ _ h
theorem Sl.ext(h:Sl w v xs)(he:Ext w w'):Sl w' v xs:=by
 obtain⟨A,c,hv,hx⟩:=h;refine⟨A,c,hv,fun hn=>?_⟩
 obtain⟨b,o,rfl,hc⟩:=hx hn;exact⟨b,o,rfl,fun i x hi=>(Ext.cell he (qQv (hc i x hi))).trans (hc i x hi)⟩
theorem Sl.chg(h:Sl w v xs)(he:Chg S w w')(hS:∀b o n c,v=.slice (some ⟨b,o,none⟩) n c→xs≠[]→¬ S b):Sl w' v xs:=by
 obtain⟨A,c,hv,hx⟩:=h;refine⟨A,c,hv,fun hn=>?_⟩
 obtain⟨b,o,rfl,hc⟩:=hx hn;exact⟨b,o,rfl,fun i x hi=>(he.cell (qQv (hc i x hi)) (hS _ _ _ _ hv hn)).trans (hc i x hi)⟩
theorem Sl.of_own{base:Nat}{e:TypeId}{n:Nat}(h:w.ownsRow base e 1 v n xs):Sl w v xs:=by
 have hl:xs.length=n:=by simpa using h.1
 rcases h.2 with⟨rfl,hn⟩|⟨g,cap,cur,rfl,_⟩
 ·obtain rfl:xs=[]:=List.eq_nil_of_length_eq_zero (by omega);exact Sl.nil _ _
 ·refine⟨some ⟨g,0,none⟩,cap,by rw[hl],fun _=>⟨g,0,rfl,fun i x hi=>?_⟩⟩
  have hi':i<n:=by have:=(List.getElem?_eq_some_iff.1 hi).1;omega
  have:=h.cellAt i (by omega)
  rw[Nat.zero_add,this];exact hi
end
theorem own_chg{S:Nat→Prop}{w w':World}{base:Nat}{e:TypeId}{size:Nat}{v:Value}{n:Nat}{xs:List Value}(h:w.ownsRow base e size v n xs)(hc:Chg S w w')(hS:∀k,S k→k<base):w'.ownsRow base e size v n xs:=by
 obtain⟨h1,h2⟩:=h;refine⟨h1,?_⟩
 rcases h2 with h2|⟨g,cap,cur,rfl,hb,hg,h3⟩
 ·exact .inl h2
 ·refine .inr ⟨g,cap,cur,rfl,hb,?_,h3⟩;rw[hc.block g (qQY hg) (fun hs=>by have:=hS _ hs;omega)];exact hg
theorem qZV{w:World}{base:Nat}{e:TypeId}{size:Nat}{v:Value}{n:Nat}{xs:List Value}(h:w.ownsRow base e size v n xs):∀k,some k=v.ownBlock→base≤k:=by
 intro k hk;rcases h.2 with⟨rfl,_⟩|⟨g,cap,cur,rfl,hb,_⟩
 ·cases hk
 ·cases hk;exact hb
theorem Chg.of_grown{w w':World}{row:Option Nat}(h:w.grownBy w' row):Chg (fun k=>some k=row) w w':=⟨h.os,h.tape,h.output,h.size,fun k hk hn=>h.block k hk hn⟩
section
variable{P:Program}{ops:Array Oper}{o:Oper}{a:Act}{w:World}{K:Act→World→Prop}{Q:Exit→Act→World→Prop}{E:Prop}
theorem qXh{w:World}{t:TypeId}{u:Value} : ∀j (x:Value),[u][j]? = some x→(w.alloc (.cells #[u] t)).cell? (Addr.add ⟨w.heap.size,0,none⟩ j)=some x:=by
 intro j x hx;cases j with
 | zero =>
  simp only[List.getElem?_cons_zero,Option.some.injEq]at hx;subst hx;exact(At.new w t #[u]).cell 0
 | succ j=>simp at hx
end
open Go.RowKit
def Sln(w:World)(v:Value)(size:Nat)(xs:List (List Value)):Prop :=
 ∃A c,v=.slice A xs.length c∧(xs≠[]→∃b o,A=some ⟨b,o,none⟩∧∀(i:Nat) (row:List Value),xs[i]? = some row→∀(j:Nat) (x:Value),row[j]? = some x→w.cell? ⟨b,o+i * size+j,none⟩=some x)
section
variable{S:Nat→Prop}{w w':World}{v:Value}{size:Nat}{xs:List (List Value)}
theorem Sln.block_lt(h:Sln w v size xs)(hr:∀r∈xs,r≠[]):∀b o n c,v=.slice (some ⟨b,o,none⟩) n c→xs≠[]→b<w.heap.size:=by
 rintro b o n c rfl hne;obtain⟨A,c',hv,hx⟩:=h;obtain⟨b',o',rfl,hc⟩:=hx hne;simp only[Value.slice.injEq,Option.some.injEq,Addr.mk.injEq,and_true]at hv;obtain⟨⟨rfl,rfl⟩,_,_⟩:=hv;obtain⟨r,rs,rfl⟩:=List.exists_cons_of_ne_nil hne;obtain⟨x,ys,hxy⟩:=List.exists_cons_of_ne_nil (hr r (List.mem_cons_self ..))
 have:=hc 0 r rfl 0 x (by rw[hxy];rfl)
 exact qQv this
theorem Sln.chg(h:Sln w v size xs)(he:Chg S w w')(hS:∀b o n c,v=.slice (some ⟨b,o,none⟩) n c→xs≠[]→¬ S b):Sln w' v size xs:=by
 obtain⟨A,c,hv,hx⟩:=h;refine⟨A,c,hv,fun hn=>?_⟩
 obtain⟨b,o,rfl,hc⟩:=hx hn;refine⟨b,o,rfl,fun i row hi j x hj=>?_⟩
 have h0:=hc i row hi j x hj;exact(he.cell (p:=⟨b,o+i * size+j,none⟩) (qQv h0) (hS _ _ _ _ hv hn)).trans h0
theorem Sln.ext(h:Sln w v size xs)(he:Ext w w'):Sln w' v size xs:=Sln.chg h he fun _ _ _ _ _ _ hh=>hh
theorem Sln.pre{A:Option Addr}{n c c' k:Nat}(h:Sln w (.slice A n c) size xs)(hk:k≤n):Sln w (.slice A k c') size (xs.take k):=by
 obtain⟨A',c1,hv,hx⟩:=h;simp only[Value.slice.injEq]at hv;obtain⟨rfl,rfl,rfl⟩:=hv;refine⟨A,c',by rw[List.length_take,Nat.min_eq_left hk],fun hn=>?_⟩
 have hne:xs≠[]:=fun e=>hn (by rw[e,List.take_nil])
 obtain⟨b,o,rfl,hc⟩:=hx hne;refine⟨b,o,rfl,fun i row hi=>hc i row ?_⟩
 rw[List.getElem?_take]at hi
 split at hi
 ·exact hi
 ·cases hi
theorem flat_get:∀ {rows:List (List Value)} {size:Nat} (_:∀r∈rows,r.length=size) {i j:Nat} {row:List Value} {x:Value},rows[i]? = some row→row[j]? = some x→rows.flatten[i * size+j]? = some x
 | [],_,_,_,_,_,_,hi,_=>by cases hi
 | r::rs,size,h,0,j,row,x,hi,hj=>by
  simp only[List.getElem?_cons_zero,Option.some.injEq]at hi;subst hi;have hl:=h r (List.mem_cons_self ..);have hjl:j<r.length:=(List.getElem?_eq_some_iff.1 hj).1;rw[Nat.zero_mul,Nat.zero_add,List.flatten_cons,List.getElem?_append_left hjl];exact hj
 | r::rs,size,h,i+1,j,row,x,hi,hj=>by
  have hl:=h r (List.mem_cons_self ..);rw[List.getElem?_cons_succ]at hi;rw[List.flatten_cons,List.getElem?_append_right (by rw[hl,Nat.add_mul];omega),hl,show(i+1) * size+j - size=i * size+j by rw[Nat.add_mul];omega];exact flat_get (fun r hr=>h r (List.mem_cons_of_mem _ hr)) hi hj
theorem Sln.of_own{base:Nat}{e:TypeId}{n:Nat}(h:w.ownsRow base e size v n xs.flatten)(hr:∀r∈xs,r.length=size)(hn:xs.length=n):Sln w v size xs:=by
 rcases h.2 with⟨rfl,h0⟩|⟨g,cap,cur,rfl,hb,hg,h1,h2,h3,h4⟩
 ·obtain rfl:xs=[]:=List.eq_nil_of_length_eq_zero (by omega);exact⟨none,0,rfl,fun hh=>absurd rfl hh⟩
 ·refine⟨some ⟨g,0,none⟩,cap,by rw[hn],fun _=>⟨g,0,rfl,fun i row hi j x hj=>?_⟩⟩
  have h5:=flat_get hr hi hj;rw[←h4,List.getElem?_take]at h5
  split at h5
  ·rw[World.cell?,hg];simpa using h5
  ·cases h5
end
open Go.RowKit
section
variable{P:Program}{ops:Array Oper}{rest:List Oper}{o:Oper}{a:Act}{Q:Exit→Act→World→Prop}
theorem qQp(w0:World){base:Nat}{e:TypeId}{size:Nat}{v:Value}{n:Nat}{xs:List Value}(hown:w0.ownsRow base e size v n xs){T:TypeId}{cs:Array Value}{z:Value}{bytes:Nat}
 (t:TypeId) (ht:P.underlying t=some (.slice e)) (hinfo:(P.info? e).map (fun i=>(i.zero,i.size,i.bytes))=some (some z,size,bytes)) (hone:cs.toList.all Value.oneCell'=true)
 (hzs:z.cells.size=size) (hsz:0<size) (hby:bytes≤128) (hcs:cs.size=size) (hn:n<1000000000000) (hbase:base≤w0.heap.size)
 (hgd:o.guard=none) (s x:Operand) (ho:o.op=.call { callee:=.builtin .append,args:=#[s,x],argTypes:=#[t,t] }) (hs:a.eval s=v) (hx:a.eval x=.slice (some ⟨w0.heap.size,0,none⟩) 1 1)
 (h:∀v' w',w'.ownsRow base e size v' (n+1) (xs++cs.toList)→Chg (fun k=>some k=v.ownBlock) w0 w'→wpList P ops Q rest (a.put o.dst v') w') :
 wpList P ops Q (o::rest) a (w0.alloc (.cells cs T)):=by
 obtain⟨i,hi,h0,h1,h2⟩:∃i,P.info? e=some i∧i.zero=some z∧i.size=size∧i.bytes=bytes:=by
  cases hp:P.info? e with
  | none=>rw[hp]at hinfo;cases hinfo
  | some i =>
   rw[hp]at hinfo;simp only[Option.map_some,Option.some.injEq,Prod.mk.injEq]at hinfo;exact⟨i,rfl,hinfo.1,hinfo.2.1,hinfo.2.2⟩
 have hA:=At.new w0 T cs;refine wpList_append_own _ hgd s x t ho base e i z size bytes ht hi h0 h1 h2 hzs hsz v n xs hs (hown.alloc _) ⟨w0.heap.size,0,none⟩ 1 1 cs.toList hx (by simp[hcs]) (fun j u hu=>?_) (fun u hu=>List.all_eq_true.1 hone u hu) (by unfold maxLen;omega) ?_ ?_ (fun v' w' h3 h4 _=>h v' w' h3 ?_)
 ·have hq:=hA.cell j;rw[Go.WideShapes.add_plain,Nat.zero_add,hq];simpa using hu
 ·have:(n+1) * bytes≤1000000000000 * 128:=Nat.mul_le_mul (by omega) hby
  omega
 ·have:=((Ext.refl w0).alloc (.cells cs T)).size
  omega
 ·exact((Ext.refl w0).alloc (.cells cs T)).chg_trans (Chg.of_grown h4)
end
theorem flat_of:∀ {rows:List (List Value)} {size:Nat} (_:∀r∈rows,r.length=size) {j:Nat} {u:Value},rows.flatten[j]? = some u→∃i r k,rows[i]? = some r∧r[k]? = some u∧j=i * size+k
 | [],_,_,j,u,h=>by simp at h
 | r::rs,size,hl,j,u,h=>by
  have hr:=hl r (List.mem_cons_self ..);rw[List.flatten_cons]at h
  by_cases hj:j<r.length
  ·rw[List.getElem?_append_left hj]at h;exact⟨0,r,j,rfl,h,by omega⟩
  ·rw[List.getElem?_append_right (by omega)]at h;obtain⟨i,r',k,h1,h2,h3⟩:=flat_of (fun r hr=>hl r (List.mem_cons_of_mem _ hr)) h;exact⟨i+1,r',k,by rw[List.getElem?_cons_succ];exact h1,h2,by rw[Nat.add_mul];omega⟩
theorem flat_len:∀ {rows:List (List Value)} {size:Nat} (_:∀r∈rows,r.length=size),rows.flatten.length=rows.length * size
 | [],_,_=>by simp
 | r::rs,size,hl=>by
  rw[List.flatten_cons,List.length_append,flat_len (fun r hr=>hl r (List.mem_cons_of_mem _ hr)),hl r (List.mem_cons_self ..),List.length_cons,Nat.add_mul];omega
theorem Sl.sln{w:World}{v:Value}{xs:List Value}(h:Sl w v xs):Sln w v 1 (xs.map fun x=>[x]):=by
 obtain⟨A,c,hv,hx⟩:=h;refine⟨A,c,by rw[hv,List.length_map],fun hn=>?_⟩
 obtain⟨b,o,hA,hc⟩:=hx (fun e=>hn (by rw[e];rfl));refine⟨b,o,hA,fun i row hi j x hj=>?_⟩
 rw[List.getElem?_map]at hi;obtain⟨y,hy,rfl⟩:=Option.map_eq_some_iff.1 hi;cases j with
 | zero=>cases hj;rw[Nat.mul_one,Nat.add_zero];exact hc i _ hy
 | succ j=>simp at hj
theorem flat_ones(xs:List Value):(xs.map fun x=>[x]).flatten=xs:=by
 induction xs with
 | nil=>rfl
 | cons x xs ih=>rw[List.map_cons,List.flatten_cons,ih];rfl
section
variable{P:Program}{ops:Array Oper}{rest:List Oper}{o:Oper}{a:Act}{Q:Exit→Act→World→Prop}
theorem qZG{w:World}{base:Nat}{e:TypeId}{size:Nat}{v:Value}{n:Nat}{xs:List Value}(hown:w.ownsRow base e size v n xs){vx:Value}{rows:List (List Value)}(hS:Sln w vx size rows)
 (hrs:∀r∈rows,r.length=size) (hone:∀r∈rows,r.all Value.oneCell'=true) {z:Value} {bytes:Nat}
 (t:TypeId) (ht:P.underlying t=some (.slice e)) (hinfo:(P.info? e).map (fun i=>(i.zero,i.size,i.bytes))=some (some z,size,bytes))
 (hzs:z.cells.size=size) (hsz:0<size) (hby:bytes≤128) (hn:n+rows.length<1000000000000) (hbase:base≤w.heap.size)
 (hgd:o.guard=none) (s x:Operand) (ho:o.op=.call { callee:=.builtin .append,args:=#[s,x],argTypes:=#[t,t] }) (hs:a.eval s=v) (hx:a.eval x=vx)
 (h:∀v' w',w'.ownsRow base e size v' (n+rows.length) (xs++rows.flatten)→Chg (fun k=>some k=v.ownBlock) w w'→wpList P ops Q rest (a.put o.dst v') w') :
 wpList P ops Q (o::rest) a w:=by
 obtain⟨i,hi,h0,h1,h2⟩:∃i,P.info? e=some i∧i.zero=some z∧i.size=size∧i.bytes=bytes:=by
  cases hp:P.info? e with
  | none=>rw[hp]at hinfo;cases hinfo
  | some i =>
   rw[hp]at hinfo;simp only[Option.map_some,Option.some.injEq,Prod.mk.injEq]at hinfo;exact⟨i,rfl,hinfo.1,hinfo.2.1,hinfo.2.2⟩
 have hby2:(n+rows.length) * bytes≤140737488355328:=by
  have:(n+rows.length) * bytes≤1000000000000 * 128:=Nat.mul_le_mul (by omega) hby
  omega
 obtain⟨A,c,rfl,hc⟩:=hS;cases rows with
 | nil =>
  cases A with
  | none =>
   refine wpList_plain hgd fun K hK=>?_
   have hrun:(Builtin.append_ #[t,t] o.type #[v,.slice none 0 c]).run P w=.ok v w:=by
    rcases hown.2 with⟨rfl,rfl⟩|⟨g,cap,cur,rfl,_,_,hnc,_⟩
    ·simp[Builtin.append_,run_underlying ht,sizeOf,typeInfo,hi,Builtin.lenOf,Builtin.firstCells]
    ·simp[Builtin.append_,run_underlying ht,sizeOf,typeInfo,hi,Builtin.lenOf,Builtin.firstCells,hnc,storeCells]
   unfold Oper.wp;simp[execOp,ho,resolve,invoke,builtin,hs,hx,hrun,Result.andThen];exact hK _ _ (h _ _ (by simpa using hown) (Chg.refl _ _))
  | some ad =>
   exact wpList_append_own _ hgd s x t ho base e i z size bytes ht hi h0 h1 h2 hzs hsz v n xs hs hown ad 0 c [] hx (by simp) (fun j u hu=>by simp at hu) (fun u hu=>by cases hu) (by unfold maxLen;simp at hn;omega) (by simpa using hby2) hbase (fun v' w' h3 h4 _=>h v' w' (by simpa using h3) (Chg.of_grown h4))
 | cons r rs =>
  obtain⟨b,o',rfl,hcc⟩:=hc (by simp);refine wpList_append_own _ hgd s x t ho base e i z size bytes ht hi h0 h1 h2 hzs hsz v n xs hs hown ⟨b,o',none⟩ (r::rs).length c (r::rs).flatten hx (flat_len hrs) (fun j u hu=>?_) (fun u hu=>?_) (by unfold maxLen;omega) hby2 hbase (fun v' w' h3 h4 _=>h v' w' h3 (Chg.of_grown h4))
  ·obtain⟨i',r',k,e1,e2,e3⟩:=flat_of hrs hu
   have:=hcc i' r' e1 k u e2
   rw[Go.WideShapes.add_plain,e3,←Nat.add_assoc];exact this
  ·obtain⟨r',hr',hu'⟩:=List.mem_flatten.1 hu;exact List.all_eq_true.1 (hone r' hr') u hu'
end
theorem Chg.own_ext{w w' w0:World}{base:Nat}{e:TypeId}{size:Nat}{v:Value}{n:Nat}{xs:List Value}(hE:Ext w0 w)(h:Chg (fun k=>some k=v.ownBlock) w w')(hown:w.ownsRow base e size v n xs)(hb:w0.heap.size≤base):Ext w0 w' :=
 Chg.mono (hE.chg_trans h) fun j hj h=>by have:=qZV hown j h;omega
open Go.RowKit
theorem own_set{w:World}{base:Nat}{e:TypeId}{size:Nat}{g n cap:Nat}{xs:List Value}(h:w.ownsRow base e size (.slice (some ⟨g,0,none⟩) n cap) n xs){j:Nat}(hj:j<n * size)(u:Value) :
 (w.setCell ⟨g,j,none⟩ u).ownsRow base e size (.slice (some ⟨g,0,none⟩) n cap) n (xs.set j u):=by
 obtain⟨h1,h2⟩:=h;refine⟨by rw[List.length_set];exact h1,?_⟩
 rcases h2 with⟨h2,_⟩|⟨g',cap',cur,h2,h3,h4,h5,h6,h7,h8⟩
 ·cases h2
 ·simp only[Value.slice.injEq,Option.some.injEq,Addr.mk.injEq,and_true,true_and]at h2;obtain⟨rfl,rfl⟩:=h2;have hA:At w g e cur:=h4;have hS:=hA.set j u;refine .inr ⟨g,cap,cur.setIfInBounds j u,rfl,h3,hS,h5,h6,by rw[Array.size_setIfInBounds];exact h7,?_⟩;rw[Array.toList_setIfInBounds,←h8]
  apply List.ext_getElem?
  intro i;simp only[List.getElem?_take,List.getElem?_set,List.length_take]
  by_cases hi:i<n * size
  ·rw[if_pos hi]
   by_cases hij:j=i
   ·subst hij;rw[if_pos rfl,if_pos rfl];have hcs:n * size≤cap * size:=Nat.mul_le_mul_right _ h5;have h9:j<cur.toList.length:=by rw[Array.length_toList,h7];omega
    rw[if_pos h9,if_pos (by omega)]
   ·rw[if_neg hij,if_neg hij,if_pos hi]
  ·rw[if_neg hi]
   by_cases hij:j=i
   ·omega
   ·rw[if_neg hij,if_neg hi]
theorem own_some{w:World}{base:Nat}{e:TypeId}{size:Nat}{v:Value}{n:Nat}{xs:List Value}(h:w.ownsRow base e size v n xs)(hn:0<n):∃g c,v=.slice (some ⟨g,0,none⟩) n c∧base≤g∧g<w.heap.size∧n≤c∧c≤maxLen∧∀i,w.frozen? ⟨g,i,none⟩=false:=by
 rcases h.2 with⟨_,h0⟩|⟨g,cap,cur,rfl,h3,h4,h5,h6,_⟩
 ·omega
 ·have hA:At w g e cur:=h4;exact⟨g,cap,rfl,h3,hA.lt,h5,h6,fun i=>hA.frozen i⟩
section
variable{q:List UInt8}
end
structure Cmd where
 kind:Int
 client:Int
 seq:Int
 name:ByteArray
 blob:Nat
 size:Int
 sum:Nat
 disks:List Int
 pool:Int
 vol:Int
 at_:Int
def qQd(c:Cmd)(dv:Value):Value:=.agg #[.int .i64 c.kind,.int .i64 c.client,.int .i64 c.seq,.string c.name,.int .u64 (c.blob:Int),.int .i64 c.size,.int .u32 (c.sum:Int),dv,.int .i64 c.pool,.int .i64 c.vol,.int .i64 c.at_]
def upB(n l:Int):Bool:=decide (0≤n)&&decide (n≤l)
def qZn(ds:List Int)(k:Nat):Bool:=upB (ds.getD k 0) 5&&(k == 0||decide (ds.getD (k - 1) 0<ds.getD k 0))
def qZE(ds:List Int):Bool:=(List.range ds.length).all (qZn ds)
def Cmd.good(c:Cmd):Bool :=
 upB c.kind 14&&(c.kind != 0)&&qZE c.disks&&upB c.client 1073741824&&upB c.seq 1073741824&&decide (c.name.size≤32)&&upB c.size 4000&&upB c.pool 1&&upB c.vol 11&&upB c.at_ 1073741824
structure Cmd.Wf (c:Cmd):Prop where
 kind : -9223372036854775808≤c.kind∧c.kind≤9223372036854775807
 client : -9223372036854775808≤c.client∧c.client≤9223372036854775807
 seq : -9223372036854775808≤c.seq∧c.seq≤9223372036854775807
 blob:c.blob<18446744073709551616
 size : -9223372036854775808≤c.size∧c.size≤9223372036854775807
 sum:c.sum<4294967296
 pool : -9223372036854775808≤c.pool∧c.pool≤9223372036854775807
 vol : -9223372036854775808≤c.vol∧c.vol≤9223372036854775807
 at_ : -9223372036854775808≤c.at_∧c.at_≤9223372036854775807
 disks:∀d∈c.disks, -9223372036854775808≤d∧d≤9223372036854775807
theorem upB_iff{n l:Int} : upB n l=true↔0≤n∧n≤l:=by unfold upB;simp
theorem Cmd.good_iff{c:Cmd} : c.good=true↔(0≤c.kind∧c.kind≤14)∧c.kind≠0∧qZE c.disks=true∧(0≤c.client∧c.client≤1073741824)∧(0≤c.seq∧c.seq≤1073741824)∧c.name.size≤32 ∧
 (0≤c.size∧c.size≤4000)∧(0≤c.pool∧c.pool≤1)∧(0≤c.vol∧c.vol≤11)∧(0≤c.at_∧c.at_≤1073741824):=by
 unfold Cmd.good;simp only[Bool.and_eq_true,upB_iff,bne_iff_ne,decide_eq_true_eq]
 constructor
 ·rintro⟨⟨⟨⟨⟨⟨⟨⟨⟨a,b⟩,c⟩,d⟩,e⟩,f⟩,g⟩,h⟩,i⟩,j⟩;exact⟨a,b,c,d,e,f,g,h,i,j⟩
 ·rintro⟨a,b,c,d,e,f,g,h,i,j⟩;exact⟨⟨⟨⟨⟨⟨⟨⟨⟨a,b⟩,c⟩,d⟩,e⟩,f⟩,g⟩,h⟩,i⟩,j⟩
theorem qZy{ds:List Int}(h:qZE ds=true):∀d∈ds,0≤d∧d≤5:=by
 intro d hd;obtain⟨k,hk,rfl⟩:=List.mem_iff_getElem.1 hd
 have:=List.all_eq_true.1 h k (List.mem_range.2 hk)
 unfold qZn at this;rw[show ds.getD k 0=ds[k]from by rw[List.getD_eq_getElem?_getD,List.getElem?_eq_getElem hk];rfl]at this;simp only[Bool.and_eq_true,upB_iff]at this;exact this.1
theorem qZl{ds:List Int}(h:qZE ds=true):ds.length≤6:=by
 have hg:∀k (hk:k<ds.length),ds.getD k 0=ds[k]:=fun k hk=>by rw[List.getD_eq_getElem?_getD,List.getElem?_eq_getElem hk];rfl
 have key:∀k (hk:k<ds.length),(k:Int)≤ds[k]:=by
  intro k
  induction k with
  | zero=>intro hk;have:=qZy h _ (List.getElem_mem hk);omega
  | succ k ih =>
   intro hk;have h1:=ih (by omega)
   have:=List.all_eq_true.1 h (k+1) (List.mem_range.2 hk)
   unfold qZn at this;rw[hg (k+1) hk]at this;simp only[Bool.and_eq_true,Bool.or_eq_true,beq_iff_eq,decide_eq_true_eq,Nat.add_sub_cancel]at this;rw[hg k (by omega)]at this;rcases this.2 with h2|h2
   ·omega
   ·omega
 rcases Nat.lt_or_ge 6 ds.length with hl|hl
 ·have h1:=key 6 hl;have h2:=qZy h _ (List.getElem_mem hl);omega
 ·exact hl
abbrev zZC : Array Value := #[.slice none 0 0, .bool false, .bool false, .int .i64 0, .bool false, .bool false, .int .i64 0, .bool false, .bool false, .int .i64 0, .bool false, .bool false, .int .i64 0, .bool false, .bool false, .int .i64 0, .bool false, .bool false, .int .i64 0, .bool false, .bool false, .int .i64 0, .bool false, .bool false, .int .i64 0, .bool false, .bool false, .int .i64 0, .bool false, .bool false, .int .i64 0, .bool false, .bool false, .int .i64 0, .bool false, .bool false, .int .i64 0]
abbrev zZR : Array Value := #[.int .i64 0, .int .u64 0, .int .i64 0, .int .u32 0, .slice none 0 0]
abbrev zZ6 : Array Value := #[.int .i64 16, .int .u64 0, .int .i64 0, .int .u32 0, .slice none 0 0]
theorem Er (w:World):Ext w w:=Ext.refl w
theorem Hh {p : Prop} (h : p) : Go.RowKit.Hid p := Lib.hid h
abbrev zZX (x : Cmd) (xA : Option Addr) (xc : Nat) : Array Value := #[.int .i64 x.kind, .int .i64 x.client, .int .i64 x.seq, .string x.name, .int .u64 (x.blob : Int), .int .i64 x.size, .int .u32 (x.sum : Int), .slice xA x.disks.length xc, .int .i64 x.pool, .int .i64 x.vol, .int .i64 x.at_]
end Go.Proofs.YtiojjokfeknhcaaGreat
