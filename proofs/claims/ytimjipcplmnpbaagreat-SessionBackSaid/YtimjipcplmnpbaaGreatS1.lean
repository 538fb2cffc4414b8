/-
  Part 1 of what the law leans on.
-/
import Derived.WalkKit
import Derived.Lib.Hide
import Derived.ChangeMaps5
import Derived.Deep.Draws
import Derived.Lib.QuietBelow
import Derived.Maps.RangeRun
import Derived.Test.YtimjipcplmnpbaaGreatRows
import Derived.ProofKit
import Derived.OpenShut
import Derived.ShutString
import Derived.Shelf.Small.Bits
import Derived.Shelf.Small.Wraps
import Derived.Shelf.Strconv.Itoa0
import Derived.Ground.Names2Prog
import Derived.Shelf.Slices.Clone
import Derived.Shelf.Slices.CompactI
import Derived.Shelf.Slices.SearchI
import Derived.Shelf.Slices.Cells
import Derived.Ground.SlgmProg
import Derived.Shelf.SortM.Plain
import Derived.Shelf.SortM.SortNone
import Derived.Test.YtimjipcplmnpbaaGreatProg
import Derived.Shelf.SlIter.Nil
import Derived.Ground.GgzProg
import Derived.Test.YtimjipcplmnpbaaGreatChecked
import Derived.Laws.AppendOwn
import Derived.Maps.AppendAt
import Derived.Lib.BitFns
namespace Go.Proofs.YtimjipcplmnpbaaGreat
set_option maxRecDepth 100000
set_option maxHeartbeats 8000000
set_option linter.unusedVariables false
set_option linter.unusedSimpArgs false
set_option linter.unusedSectionVars false
open _root_.Go.Proofs.Tryz
open Go.RowKit Go.MapKept
open Go.ChangeMaps (setBlock)
structure Chg (S:Nat→Prop) (w w':World):Prop where
 os:w'.os=w.os
 tape:w'.tape=w.tape
 output:w'.output=w.output
 size:w.heap.size≤w'.heap.size
 block:∀k,k<w.heap.size→¬ S k→w'.heap[k]? = w.heap[k]?
def Ext(w w':World):Prop:=Chg (fun _=>False) w w'
section
variable{S S':Nat→Prop}{w w1 w2:World}
theorem Chg.refl(S:Nat→Prop)(w:World):Chg S w w:=⟨rfl,rfl,rfl,Nat.le_refl _,fun _ _ _=>rfl⟩
theorem Chg.trans(h:Chg S w w1)(h':Chg S' w1 w2)(hs:∀k,k<w.heap.size→S' k→S k):Chg S w w2 :=
 ⟨h'.os.trans h.os,h'.tape.trans h.tape,h'.output.trans h.output,Nat.le_trans h.size h'.size,
  fun k hk hn=>(h'.block k (Nat.lt_of_lt_of_le hk h.size) (fun hh=>hn (hs k hk hh))).trans (h.block k hk hn)⟩
theorem Chg.mono(h:Chg S' w w1)(hs:∀k,k<w.heap.size→S' k→S k):Chg S w w1 :=
 ⟨h.os,h.tape,h.output,h.size,fun k hk hn=>h.block k hk (fun hh=>hn (hs k hk hh))⟩
theorem Chg.drew(h:Chg S w w1):Chg S w w1.drew:=⟨h.os,h.tape,h.output,h.size,h.block⟩
theorem Chg.drewN(h:Chg S w w1)(n:Nat):Chg S w (w1.drewN n):=⟨h.os,h.tape,h.output,h.size,h.block⟩
theorem Chg.alloc(h:Chg S w w1)(o:Obj):Chg S w (w1.alloc o) :=
 ⟨h.os,h.tape,h.output,Nat.le_trans h.size (by simp),fun k hk hn=>(Below.heap_alloc w1 o k (Nat.lt_of_lt_of_le hk h.size)).trans (h.block k hk hn)⟩
theorem Chg.setCell(h:Chg S w w1){p:Addr}(hp:S p.block∨w.heap.size≤p.block)(u:Value):Chg S w (w1.setCell p u) :=
 ⟨h.os,h.tape,h.output,by simpa[World.setCell]using h.size,fun k hk hn=>(Below.heap_setCell w1 p u k (by
  rintro rfl;rcases hp with hp|hp
  ·exact hn hp
  ·omega)).trans (h.block k hk hn)⟩
theorem Chg.cell(h:Chg S w w1){p:Addr}(hp:p.block<w.heap.size)(hn:¬ S p.block):w1.cell? p=w.cell? p:=World.cell?_of_block (w:=w) (h.block p.block hp hn)
theorem Chg.below(h:Chg S w w1)(hs:∀k,¬ S k):Below w.heap.size w w1:=⟨h.os,h.tape,h.output,h.size,fun k hk=>h.block k hk (hs k)⟩
theorem Chg.of_below(h:Below w.heap.size w w1):Chg S w w1:=⟨h.os,h.tape,h.output,h.size,fun k hk _=>h.block k hk⟩
theorem Ext.of_below(h:Below w.heap.size w w1):Ext w w1:=Chg.of_below h
theorem Ext.below(h:Ext w w1):Below w.heap.size w w1:=Chg.below h (fun _ hh=>hh)
theorem Ext.chg(h:Ext w w1):Chg S w w1:=Chg.mono h (fun _ _ hh=>hh.elim)
theorem Ext.refl(w:World):Ext w w:=Chg.refl _ w
theorem Ext.trans(h:Ext w w1)(h':Ext w1 w2):Ext w w2:=Chg.trans h h' (fun _ _ hh=>hh)
theorem Ext.drew(h:Ext w w1):Ext w w1.drew:=Chg.drew h
theorem Ext.drewN(h:Ext w w1)(n:Nat):Ext w (w1.drewN n):=Chg.drewN h n
theorem Ext.alloc(h:Ext w w1)(o:Obj):Ext w (w1.alloc o):=Chg.alloc h o
theorem Ext.setCell(h:Ext w w1){p:Addr}(hp:w.heap.size≤p.block)(u:Value):Ext w (w1.setCell p u):=Chg.setCell h (.inr hp) u
theorem Ext.block(h:Ext w w1){k:Nat}(hk:k<w.heap.size):w1.heap[k]? = w.heap[k]? := Chg.block h k hk (fun hh=>hh)
theorem Ext.cell(h:Ext w w1){p:Addr}(hp:p.block<w.heap.size):w1.cell? p=w.cell? p:=Chg.cell h hp (fun hh=>hh)
theorem Ext.size(h:Ext w w1):w.heap.size≤w1.heap.size:=Chg.size h
theorem Ext.chg_trans(h:Ext w w1)(h':Chg S w1 w2):Chg S w w2:=Chg.trans (Ext.chg h) h' (fun _ _ hh=>hh)
theorem Chg.ext_trans(h:Chg S w w1)(h':Ext w1 w2):Chg S w w2:=Chg.trans h h' (fun _ _ hh=>hh.elim)
end
def At(w:World)(g:Nat)(t:TypeId)(cs:Array Value):Prop:=w.heap[g]? = some (.cells cs t (0,0))
theorem qQI{w:World}{g:Nat}{o:Obj}(h:w.heap[g]? = some o):g<w.heap.size:=(Array.getElem?_eq_some_iff.1 h).1
section
variable{S:Nat→Prop}{w w':World}{g:Nat}{t:TypeId}{cs:Array Value}
theorem At.lt(h:At w g t cs):g<w.heap.size:=qQI h
theorem At.cell(h:At w g t cs)(i:Nat):w.cell? ⟨g,i,none⟩=cs[i]? := by unfold At at h;simp[World.cell?,h]
theorem At.frozen(h:At w g t cs)(i:Nat):w.frozen? ⟨g,i,none⟩=false:=by unfold At at h;simp[World.frozen?,h]
theorem At.new(w:World)(t:TypeId)(cs:Array Value):At (w.alloc (.cells cs t)) w.heap.size t cs:=by
 show(w.heap.push _)[w.heap.size]? = _
 simp
theorem At.new_eq{w:World}{g:Nat}(h:g=w.heap.size)(t:TypeId)(cs:Array Value):At (w.alloc (.cells cs t)) g t cs:=by subst h;exact At.new w t cs
theorem At.drew(h:At w g t cs):At w.drew g t cs:=h
theorem At.drewN(h:At w g t cs)(n:Nat):At (w.drewN n) g t cs:=h
theorem At.alloc(h:At w g t cs)(o:Obj):At (w.alloc o) g t cs:=(Below.heap_alloc w o g h.lt).trans h
theorem At.set(h:At w g t cs)(i:Nat)(u:Value):At (w.setCell ⟨g,i,none⟩ u) g t (cs.setIfInBounds i u):=by
 unfold At at h⊢;simp[World.setCell,Array.getElem?_modify,h]
theorem At.far(h:At w g t cs){p:Addr}(hp:g≠p.block)(u:Value):At (w.setCell p u) g t cs:=(Below.heap_setCell w p u g hp).trans h
theorem At.chg(h:At w g t cs)(hc:Chg S w w')(hn:¬ S g):At w' g t cs:=(hc.block g h.lt hn).trans h
theorem At.ext(h:At w g t cs)(hc:Ext w w'):At w' g t cs:=(Ext.block hc h.lt).trans h
theorem At.ne{g':Nat}{t':TypeId}{cs':Array Value}(h:At w g t cs)(h':At w g' t' cs')(hne:t≠t'):g≠g':=by
 rintro rfl;unfold At at h h';rw[h]at h';injection h' with h';injection h' with _ ht;exact hne ht
end
theorem ret_i64{a b:Int}(h:a=b):Ending.returned (.int .i64 a)=.returned (.int .i64 b):=by rw[h]
theorem ret_bool{a b:Bool}(h:a=b):Ending.returned (.bool a)=.returned (.bool b):=by rw[h]
theorem qZd{a b:ByteArray} : a.toList=b.toList↔a=b :=
 ⟨fun h=>WideShapes.bytes_inj (by rw[←ByteArray.toList_eq,←ByteArray.toList_eq];exact h),fun h=>by rw[h]⟩
section
open Go.Sort
theorem qQ3{P:Program}{id:Nat}{Q:Exit→Act→World→Prop}{a:Act}{w:World}{l:List Oper}(hm:P.follows .mixedOrders=true)(hB:Region.lexB .any l.toArray=true)
  (h:wpQuiet P l.toArray (fun w'=>∃p:Regrown,w'=grow (redrawn w p.d) p.os) (fun a'=>∀w',Ext w w'→Q .normal a' w') l a):(Code.region id l.toArray true).wp P Q a w :=
 wp_region_quiet (C:=fun w'=>∃p:Regrown,w'=grow (redrawn w p.d) p.os) hm hB ⟨⟨w.drawn+1,#[]⟩,by rw[grow_empty];rfl⟩ (by
  have hmono:∀(l':List Oper) (a:Act),wpQuiet P l.toArray (fun w'=>∃p:Regrown,w'=grow (redrawn w p.d) p.os) (fun a'=>∀w',Ext w w'→Q .normal a' w') l' a →
    wpQuiet P l.toArray (fun w'=>∃p:Regrown,w'=grow (redrawn w p.d) p.os) (fun a'=>∀w',(∃p:Regrown,w'=grow (redrawn w p.d) p.os)→Q .normal a' w') l' a:=by
   intro l'
   induction l' with
   | nil=>exact fun a h w' ⟨p,hp⟩=>h w' (hp ▸ Ext.of_below (below_regrown w p.d p.os))
   | cons o r ih =>
    intro a h;unfold wpQuiet at h⊢;split
    ·rename_i hw;rw[if_pos hw]at h;exact Oper.quiet_mono (fun a h=>ih a h) h
    ·rename_i hw;rw[if_neg hw]at h;exact ih _ h
  simpa using hmono l a h)
theorem qZi(w:World)(d:Nat)(os:Array Obj):Ext w (grow (redrawn w d) os):=Ext.of_below (below_regrown w d os)
theorem regrown_of_ext{w w':World}(h:Ext w w'):∃p:Regrown,w'=grow (redrawn w p.d) p.os:=regrown_of_below h.below
theorem Calls.ext_of{P:Program}{f:FuncId}{args:Array Value}{w:World}{d:Nat}{os:Array Obj}{v:Value}
  (h:Calls P f args (grow (redrawn w d) os) fun e w'=>e=.returned v∧Ext (grow (redrawn w d) os) w'):Calls P f args (grow (redrawn w d) os) fun e w''=>e=.returned v∧∃p:Regrown,w''=grow (redrawn w p.d) p.os :=
 h.mono fun _ _ ⟨he,hb⟩=>⟨he,regrown_of_ext ((qZi w d os).trans hb)⟩
theorem At.cell_regrown{w:World}{g:Nat}{t:TypeId}{cs:Array Value}(h:At w g t cs)(i:Nat)(d:Nat)(os:Array Obj):(grow (redrawn w d) os).cell? ⟨g,i,none⟩=cs[i]? := (h.ext (qZi w d os)).cell i
end
structure KeyWay (κ : Type) where
 d:TypeDesc
 val : κ → Value
 isKey:∀k,IsKey d (val k)
 inj:∀a b,val a=val b→a=b
def qJb:KeyWay ByteArray:=⟨.string,.string,fun _=>trivial,fun _ _ h=>by injection h⟩
def qZM:KeyWay Int:=⟨.int .i64,.int .i64,fun _=>rfl,fun _ _ h=>by injection h⟩
def qXy:KeyWay Int:=⟨.int .u64,.int .u64,fun _=>rfl,fun _ _ h=>by injection h⟩
section
variable{κ ν : Type}
def qQE(K:KeyWay κ)(vv : ν → Value)(w:World)(b:Nat)(L:List (κ × ν)):Prop :=
 ∃es clk,w.heap[b]? = some (.map es clk)∧Stamped es clk∧(es.toList.map fun e=>(e.key,e.val)).Perm (L.map fun p=>(K.val p.1,vv p.2))
def qZC[DecidableEq κ](k : κ)(L:List (κ × ν)):Option ν := (L.find? fun p=>decide (p.1=k)).map (·.2)
def qZy[DecidableEq κ](k : κ)(L:List (κ × ν)):List (κ × ν):=L.filter fun p=>decide (p.1≠k)
variable{K:KeyWay κ}{vv : ν → Value}{w w':World}{b:Nat}{L L':List (κ × ν)}
theorem qQE.lt(h:qQE K vv w b L):b<w.heap.size:=by obtain⟨es,clk,hb,_⟩:=h;exact qQI hb
theorem qQE.of_block(h:qQE K vv w b L)(hb:w'.heap[b]? = w.heap[b]?):qQE K vv w' b L:=by
 obtain⟨es,clk,h1,h2⟩:=h;exact⟨es,clk,hb.trans h1,h2⟩
theorem qQE.chg{S:Nat→Prop}(h:qQE K vv w b L)(hc:Chg S w w')(hn:¬ S b):qQE K vv w' b L:=h.of_block (hc.block b h.lt hn)
theorem qQE.ext(h:qQE K vv w b L)(hc:Ext w w'):qQE K vv w' b L:=h.of_block (Ext.block hc h.lt)
theorem qQE.alloc(h:qQE K vv w b L)(o:Obj):qQE K vv (w.alloc o) b L:=h.of_block (Below.heap_alloc w o b h.lt)
theorem qQE.setCell(h:qQE K vv w b L)(p:Addr)(u:Value):qQE K vv (w.setCell p u) b L:=by
 obtain⟨es,clk,h1,h2⟩:=h;refine⟨es,clk,?_,h2⟩
 simp only[World.setCell,Array.getElem?_modify];split
 ·rename_i e;subst e;rw[h1];rfl
 ·exact h1
theorem qQE.new(K:KeyWay κ)(vv : ν → Value)(w:World):qQE K vv (w.alloc (.map #[] 0)) w.heap.size [] :=
 ⟨#[],0,by
  show(w.heap.push _)[w.heap.size]? = _
  simp,(stamped_iff _ _).2 (by simp),by simp⟩
theorem qQE.ne_at{g:Nat}{t:TypeId}{cs:Array Value}(h:qQE K vv w b L)(h':At w g t cs):b≠g:=by
 rintro rfl;obtain⟨es,clk,h1,_⟩:=h;unfold At at h';rw[h']at h1;cases h1
theorem qQE.nodup(h:qQE K vv w b L):(L.map (·.1)).Nodup:=by
 obtain⟨es,clk,_,hs,hp⟩:=h;have h1:=((stamped_iff es clk).1 hs).2.2;have h2:(es.toList.map fun e=>(e.key,e.val)).Pairwise (fun a b=>a.1≠b.1):=List.pairwise_map.2 h1;have h3:=(hp.pairwise_iff (R:=fun a b=>a.1≠b.1) (fun {a b} h=>Ne.symm h)).1 h2;have h4:=List.pairwise_map.1 h3;exact List.pairwise_map.2 (h4.imp fun {a b} h e=>h (by rw[e]))
variable[DecidableEq κ]
theorem qXC{k : κ} : qZC k L=none↔∀p∈L,p.1≠k:=by simp[qZC]
theorem lget_some{k : κ}{v : ν}(hn:(L.map (·.1)).Nodup):qZC k L=some v↔(k,v)∈L:=by
 constructor
 ·intro h;unfold qZC at h;rw[Option.map_eq_some_iff]at h;obtain⟨p,hp,rfl⟩:=h;have h1:=List.find?_some hp;have h2:=List.mem_of_find?_eq_some hp;have h3:p.1=k:=by simpa using h1
  subst h3;exact h2
 ·intro h;cases hg:qZC k L with
  | none=>exact absurd rfl (qXC.1 hg _ h)
  | some u =>
   have hu:(k,u)∈L:=by
    unfold qZC at hg;rw[Option.map_eq_some_iff]at hg;obtain⟨p,hp,rfl⟩:=hg;have h1:=List.find?_some hp;have h2:=List.mem_of_find?_eq_some hp;have h3:p.1=k:=by simpa using h1
    subst h3;exact h2
   have hq:∀(l:List (κ × ν)),(l.map (·.1)).Nodup→(k,u)∈l→(k,v)∈l→u=v:=by
    intro l
    induction l with
    | nil=>intro _ h;cases h
    | cons x r ih =>
     intro hn h1 h2;simp only[List.map_cons,List.nodup_cons]at hn;rcases List.mem_cons.1 h1 with e1|e1 <;> rcases List.mem_cons.1 h2 with e2|e2
     ·rw[←e1]at e2;injection e2 with _ e;exact e.symm
     ·exact absurd (List.mem_map.2 ⟨_,e2,rfl⟩) (by rw[←e1]at hn;exact hn.1)
     ·exact absurd (List.mem_map.2 ⟨_,e1,rfl⟩) (by rw[←e2]at hn;exact hn.1)
     ·exact ih hn.2 e1 e2
   rw[hq L hn hu h]
omit [DecidableEq κ] in
theorem qQE.isKeys{es:Array MapEntry}(hp:(es.toList.map fun e=>(e.key,e.val)).Perm (L.map fun p=>(K.val p.1,vv p.2))):∀x∈es.toList,IsKey K.d x.key:=by
 intro x hx
 have:=hp.mem_iff.1 (List.mem_map.2 ⟨x,hx,rfl⟩)
 obtain⟨p,_,e⟩:=List.mem_map.1 this;have e1:K.val p.1=x.key:=congrArg Prod.fst e;rw[←e1];exact K.isKey _
theorem qQE.find{k : κ}{es:Array MapEntry}{clk:Nat}(hs:Stamped es clk)(hp:(es.toList.map fun e=>(e.key,e.val)).Perm (L.map fun p=>(K.val p.1,vv p.2))) :
  (qZC k L=none∧Instr.findNow K.d (K.val k) es.toList 0=some none∧∀x∈es.toList,x.key≠K.val k) ∨
  ∃v j e,qZC k L=some v∧Instr.findNow K.d (K.val k) es.toList 0=some (some (j,vv v))∧es[j]? = some e∧e.key=K.val k∧e.val=vv v:=by
 have hn:(L.map (·.1)).Nodup:=by
  have h1:=((stamped_iff es clk).1 hs).2.2;have h2:(es.toList.map fun e=>(e.key,e.val)).Pairwise (fun a b=>a.1≠b.1):=List.pairwise_map.2 h1;have h3:=(hp.pairwise_iff (R:=fun a b=>a.1≠b.1) (fun {a b} h=>Ne.symm h)).1 h2;have h4:=List.pairwise_map.1 h3;exact List.pairwise_map.2 (h4.imp fun {a b} h e=>h (by rw[e]))
 rcases findNow_spec (K.isKey k) es.toList 0 (qQE.isKeys hp)with⟨h1,h2⟩|⟨j,e,h1,h2,h3⟩
 ·refine .inl ⟨qXC.2 fun p hpm he=>?_,h1,h2⟩
  have:=hp.mem_iff.2 (List.mem_map.2 ⟨p,hpm,rfl⟩)
  obtain⟨x,hx,e⟩:=List.mem_map.1 this;exact h2 x hx ((congrArg Prod.fst e).trans (by rw[he]))
 ·have hm:e∈es.toList:=List.mem_of_getElem? h2
  have:=hp.mem_iff.1 (List.mem_map.2 ⟨e,hm,rfl⟩)
  obtain⟨p,hpm,he⟩:=List.mem_map.1 this;have hk:K.val p.1=e.key:=congrArg Prod.fst he;have hv:vv p.2=e.val:=congrArg Prod.snd he;have hkk:p.1=k:=K.inj _ _ (hk.trans h3);refine .inr ⟨p.2,j,e,(lget_some hn).2 (by rw[←hkk];exact hpm),?_,by simpa using h2,h3,hv.symm⟩;rw[h1,hv];simp
variable{P:Program}{t kt et:TypeId}
theorem qQE.lookup(h:qQE K vv w b L)(ht:P.underlying t=some (.map kt et))(hk:P.underlying kt=some K.d){z:Value}(hz:∀w,(zeroValue et).run P w=.ok z w)(k : κ) :
  (Instr.lookup t (.map (some b)) (K.val k) false).run P w=.ok ((qZC k L).elim z vv) w:=by
 obtain⟨es,clk,hb,hs,hp⟩:=h;rcases qQE.find (k:=k) hs hp with⟨h0,h1,h2⟩|⟨v,j,e,h0,h1,h2,h3,h4⟩
 ·simp[Instr.lookup,run_underlying ht,MapKept.run_getObj_map hb,run_checkKey hk (K.isKey k),run_findKey hk h1,hz,Result.andThen,h0]
 ·simp[Instr.lookup,run_underlying ht,MapKept.run_getObj_map hb,run_checkKey hk (K.isKey k),run_findKey hk h1,Result.andThen,h0]
theorem qQE.lookup_ok(h:qQE K vv w b L)(ht:P.underlying t=some (.map kt et))(hk:P.underlying kt=some K.d){z:Value}(hz:∀w,(zeroValue et).run P w=.ok z w)(k : κ) :
  (Instr.lookup t (.map (some b)) (K.val k) true).run P w=.ok (.tuple #[(qZC k L).elim z vv,.bool (qZC k L).isSome]) w:=by
 obtain⟨es,clk,hb,hs,hp⟩:=h;rcases qQE.find (k:=k) hs hp with⟨h0,h1,h2⟩|⟨v,j,e,h0,h1,h2,h3,h4⟩
 ·simp[Instr.lookup,run_underlying ht,MapKept.run_getObj_map hb,run_checkKey hk (K.isKey k),run_findKey hk h1,hz,Result.andThen,h0]
 ·simp[Instr.lookup,run_underlying ht,MapKept.run_getObj_map hb,run_checkKey hk (K.isKey k),run_findKey hk h1,Result.andThen,h0]
theorem qZN{o:Obj}(w:World)(b:Nat):Chg (· = b) w (setBlock w b o) :=
 ⟨rfl,rfl,rfl,by simp[setBlock],fun k _ hn=>by simp[setBlock,Ne.symm hn]⟩
theorem qQE.update(h:qQE K vv w b L)(ht:P.underlying t=some (.map kt et))(hk:P.underlying kt=some K.d)(k : κ)(v : ν) :
  ∃w',(Instr.mapUpdate t (.map (some b)) (K.val k) (vv v)).run P w=.ok () w'∧qQE K vv w' b ((k,v)::qZy k L)∧Chg (· = b) w w':=by
 classical
 obtain⟨es,clk,hb,hs,hp⟩:=h;have hlt:=qQI hb;rcases qQE.find (k:=k) hs hp with⟨h0,h1,h2⟩|⟨u,j,e,h0,h1,h2,h3,h4⟩
 ·refine⟨setBlock w b (.map (es.push { key:=K.val k,val:=vv v,born:=clk }) (clk+1)),?_,⟨_,_,(heap_set hb).1,stamped_push hs h2,?_⟩,qZN w b⟩
  ·simp[Instr.mapUpdate,run_underlying ht,MapKept.run_getObj_map hb,run_checkKey hk (K.isKey k),run_findKey hk h1,MapKept.run_setObj_map _ hb,Result.andThen,setBlock]
  ·have e1:qZy k L=L:=by
    unfold qZy;exact List.filter_eq_self.2 fun p hpm=>by simpa using qXC.1 h0 p hpm
   rw[e1];simp only[Array.toList_push,List.map_append,List.map_cons,List.map_nil];exact(List.perm_append_singleton _ _).trans (hp.cons _)
 ·refine⟨setBlock w b (.map (es.modify j fun e => { e with key:=K.val k,val:=vv v }) clk),?_,⟨_,_,(heap_set hb).1,?_,?_⟩,qZN w b⟩
  ·simp[Instr.mapUpdate,run_underlying ht,MapKept.run_getObj_map hb,run_checkKey hk (K.isKey k),run_findKey hk h1,MapKept.run_setObj_map _ hb,Result.andThen,setBlock,h2,h3,run_keyThatStays (K.isKey k)]
  ·exact stamped_modify hs j _ (fun _ _=>rfl) (fun e' _ he'=>by rw[h2]at he';injection he' with he';subst he';exact h3.symm)
  ·have hjl:j<es.toList.length:=(List.getElem?_eq_some_iff.1 (by simpa using h2)).1;have hpw:=((stamped_iff es clk).1 hs).2.2
   have hm:(es.modify j fun e => { e with key:=K.val k,val:=vv v }).toList.Perm ({ e with key:=K.val k,val:=vv v } :: es.toList.eraseIdx j):=by
    have hje:es.toList[j]=e:=by
     have:=List.getElem?_eq_some_iff.1 (show es.toList[j]? = some e by simpa using h2)
     exact this.2
    have e2:(es.modify j fun e => { e with key:=K.val k,val:=vv v }).toList=es.toList.set j { e with key:=K.val k,val:=vv v } := by
     apply List.ext_getElem?
     intro i;rw[List.getElem?_set];simp only[Array.getElem?_toList,Array.getElem?_modify]
     by_cases hji:j=i
     ·subst hji;rw[if_pos rfl,if_pos rfl,h2,if_pos hjl];rfl
     ·rw[if_neg hji,if_neg hji]
    rw[e2]
    have hgen:∀(l:List MapEntry) (j:Nat) (x:MapEntry),j<l.length→(l.set j x).Perm (x::l.eraseIdx j):=by
     intro l
     induction l with
     | nil=>intro j x h;simp at h
     | cons y r ih =>
      intro j x h;cases j with
      | zero=>simp
      | succ j =>
       simp only[List.set_cons_succ,List.eraseIdx_cons_succ];exact((ih j x (by simpa using h)).cons y).trans (List.Perm.swap _ _ _)
    exact hgen _ _ _ hjl
   refine(hm.map _).trans ?_
   simp only[List.map_cons];refine List.Perm.cons _ ?_
   have hper:(es.toList.eraseIdx j).Perm (es.toList.filter fun x=>decide (x.key≠K.val k)):=by
    rw[show es.toList.eraseIdx j=es.toList.filter (fun x=>decide (x.key≠K.val k))from ?_]
    have hgen:∀(l:List MapEntry) (j:Nat) (e:MapEntry),l.Pairwise (fun x y=>x.key≠y.key)→l[j]? = some e→e.key=K.val k→l.eraseIdx j=l.filter (fun x=>decide (x.key≠K.val k)):=by
     intro l
     induction l with
     | nil=>intro j e _ h;simp at h
     | cons x r ih =>
      intro j e hpw hj hk';obtain⟨hx,hr⟩:=List.pairwise_cons.1 hpw;cases j with
      | zero =>
       simp only[List.getElem?_cons_zero,Option.some.injEq]at hj;subst hj;simp only[List.eraseIdx_zero,List.tail_cons,List.filter_cons,hk',ne_eq,not_true,decide_false,Bool.false_eq_true,if_false];exact(List.filter_eq_self.2 fun y hy=>by have:=hx y hy;rw[hk']at this;simpa using fun e=>this e.symm).symm
      | succ j =>
       simp only[List.getElem?_cons_succ]at hj;have hxk:x.key≠K.val k:=by rw[←hk'];exact hx e (List.mem_of_getElem? hj)
       simp only[List.eraseIdx_cons_succ,List.filter_cons,hxk,ne_eq,not_false_eq_true,decide_true,if_true];rw[ih j e hr hj hk']
    exact hgen _ j e hpw (by simpa using h2) h3
   refine(hper.map _).trans ?_
   have hq:=hp.filter (fun q=>decide (q.1≠K.val k));rw[List.filter_map,List.filter_map]at hq;refine hq.trans ?_;unfold qZy;rw[show(L.filter ((fun q=>decide (q.1≠K.val k)) ∘ fun p=>(K.val p.1,vv p.2)))=L.filter (fun p=>decide (p.1≠k))from ?_];refine List.filter_congr fun p _=>?_
   simp only[Function.comp]
   by_cases hpk:p.1=k
   ·simp[hpk]
   ·have:K.val p.1≠K.val k:=fun e=>hpk (K.inj _ _ e)
    simp[hpk,this]
theorem qQE.delete(h:qQE K vv w b L)(ht:P.underlying t=some (.map kt et))(hk:P.underlying kt=some K.d)(k : κ) :
  ∃w',(∀ty,(Builtin.delete_ #[t,kt] ty #[.map (some b),K.val k]).run P w=.ok (.tuple #[]) w')∧qQE K vv w' b (qZy k L)∧Chg (· = b) w w':=by
 classical
 obtain⟨es,clk,hb,hs,hp⟩:=h;rcases qQE.find (k:=k) hs hp with⟨h0,h1,h2⟩|⟨u,j,e,h0,h1,h2,h3,h4⟩
 ·refine⟨setBlock w b (.map es clk),?_,⟨_,_,(heap_set hb).1,hs,?_⟩,qZN w b⟩
  ·intro ty;simp[Builtin.delete_,run_underlying ht,MapKept.run_getObj_map hb,run_checkKey hk (K.isKey k),run_findKey hk h1,MapKept.run_setObj_map _ hb,Result.andThen,setBlock]
  ·have e1:qZy k L=L:=by
    unfold qZy;exact List.filter_eq_self.2 fun p hpm=>by simpa using qXC.1 h0 p hpm
   rw[e1];exact hp
 ·refine⟨setBlock w b (.map (es.eraseIdxIfInBounds j) clk),?_,⟨_,_,(heap_set hb).1,stamped_erase hs j,?_⟩,qZN w b⟩
  ·intro ty;simp[Builtin.delete_,run_underlying ht,MapKept.run_getObj_map hb,run_checkKey hk (K.isKey k),run_findKey hk h1,MapKept.run_setObj_map _ hb,Result.andThen,setBlock]
  ·have hpw:=((stamped_iff es clk).1 hs).2.2
   have hgen:∀(l:List MapEntry) (j:Nat) (e:MapEntry),l.Pairwise (fun x y=>x.key≠y.key)→l[j]? = some e→e.key=K.val k→l.eraseIdx j=l.filter (fun x=>decide (x.key≠K.val k)):=by
    intro l
    induction l with
    | nil=>intro j e _ h;simp at h
    | cons x r ih =>
     intro j e hpw hj hk';obtain⟨hx,hr⟩:=List.pairwise_cons.1 hpw;cases j with
     | zero =>
      simp only[List.getElem?_cons_zero,Option.some.injEq]at hj;subst hj;simp only[List.eraseIdx_zero,List.tail_cons,List.filter_cons,hk',ne_eq,not_true,decide_false,Bool.false_eq_true,if_false];exact(List.filter_eq_self.2 fun y hy=>by have:=hx y hy;rw[hk']at this;simpa using fun e=>this e.symm).symm
     | succ j =>
      simp only[List.getElem?_cons_succ]at hj;have hxk:x.key≠K.val k:=by rw[←hk'];exact hx e (List.mem_of_getElem? hj)
      simp only[List.eraseIdx_cons_succ,List.filter_cons,hxk,ne_eq,not_false_eq_true,decide_true,if_true];rw[ih j e hr hj hk']
   have hjl:j<es.size:=(Array.getElem?_eq_some_iff.1 h2).1
   have e2:(es.eraseIdxIfInBounds j).toList=es.toList.eraseIdx j:=by
    unfold Array.eraseIdxIfInBounds;rw[dif_pos hjl];simp
   rw[e2,hgen _ j e hpw (by simpa using h2) h3];have hq:=hp.filter (fun q=>decide (q.1≠K.val k));rw[List.filter_map,List.filter_map]at hq;refine hq.trans ?_;unfold qZy;rw[show(L.filter ((fun q=>decide (q.1≠K.val k)) ∘ fun p=>(K.val p.1,vv p.2)))=L.filter (fun p=>decide (p.1≠k))from ?_];refine List.filter_congr fun p _=>?_
   simp only[Function.comp]
   by_cases hpk:p.1=k
   ·simp[hpk]
   ·have:K.val p.1≠K.val k:=fun e=>hpk (K.inj _ _ e)
    simp[hpk,this]
omit [DecidableEq κ] in
theorem qQE.len(h:qQE K vv w b L)(ht:P.underlying t=some (.map kt et))(ty:TypeId):(Builtin.len_ #[t] ty #[.map (some b)]).run P w=.ok (.int .i64 L.length) w:=by
 obtain⟨es,clk,hb,hs,hp⟩:=h;have hl:es.size=L.length:=by have:=hp.length_eq;simpa using this
 simp[Builtin.len_,run_underlying ht,MapKept.run_getObj_map hb,Result.andThen,goInt,hl]
end
structure Ordd {κ : Type} (lt : κ → κ → Bool):Prop where
 irr:∀a,lt a a=false
 tr:∀ {a b c},lt a b=true→lt b c=true→lt a c=true
 tot:∀ {a b},lt a b=false→lt b a=false→a=b
section
variable{κ ν : Type}[DecidableEq κ](lt : κ → κ → Bool)
variable{lt}(O:Ordd lt)
include O
end
def blt(a b:ByteArray):Bool:=decide (a.data.toList<b.data.toList)
open Go.RowKit Go.MapKept
open Go.ChangeMaps (setBlock)
section
variable{κ ν : Type}
def qQ4(K:KeyWay κ)(vv : ν → Value)(w:World)(b r:Nat)(L left:List (κ × ν)):Prop :=
 ∃es clk seen,w.heap[b]? = some (.map es clk)∧Stamped es clk∧(es.toList.map fun e=>(e.key,e.val)).Perm (L.map fun p=>(K.val p.1,vv p.2)) ∧
  w.heap[r]? = some (.mapIter (some b) clk seen clk)∧((leftOf es seen).toList.map fun e=>(e.key,e.val)).Perm (left.map fun p=>(K.val p.1,vv p.2))
variable{K:KeyWay κ}{vv : ν → Value}{w w':World}{b r:Nat}{L left:List (κ × ν)}
theorem qQ4.lt(h:qQ4 K vv w b r L left):b<w.heap.size∧r<w.heap.size:=by
 obtain⟨es,clk,seen,h1,_,_,h2,_⟩:=h;exact⟨qQI h1,qQI h2⟩
theorem qQ4.of_blocks(h:qQ4 K vv w b r L left)(hb:w'.heap[b]? = w.heap[b]?)(hr:w'.heap[r]? = w.heap[r]?):qQ4 K vv w' b r L left:=by
 obtain⟨es,clk,seen,h1,h2,h3,h4,h5⟩:=h;exact⟨es,clk,seen,hb.trans h1,h2,h3,hr.trans h4,h5⟩
theorem qQ4.ext(h:qQ4 K vv w b r L left)(hc:Ext w w'):qQ4 K vv w' b r L left:=h.of_blocks (Ext.block hc h.lt.1) (Ext.block hc h.lt.2)
theorem qQE.range{P:Program}{t kt et:TypeId}(h:qQE K vv w b L)(ht:P.underlying t=some (.map kt et)) :
  ∃w',(Instr.range t (.map (some b))).run P w=.ok (.pointer (some ⟨w.heap.size,0,none⟩)) w'∧qQ4 K vv w' b w.heap.size L L∧Ext w w':=by
 obtain⟨es,clk,h1,h2,h3⟩:=h;refine⟨w.alloc (.mapIter (some b) clk #[] clk),?_,⟨es,clk,#[],(Below.heap_alloc w _ b (qQI h1)).trans h1,h2,h3,?_,?_⟩,(Ext.refl w).alloc _⟩
 ·simp[Instr.range,run_underlying ht,MapKept.run_getObj_map h1,Result.andThen]
 ·show(w.heap.push _)[w.heap.size]? = _
  simp
 ·have:leftOf es #[]=es:=by unfold leftOf;simp
  rw[this];exact h3
theorem qQ4.next{P:Program}(h:qQ4 K vv w b r L left)(ty:TypeId) :
  (left=[]∧(Instr.next (.pointer (some ⟨r,0,none⟩)) false ty).run P w=.ok (.tuple #[.bool false]) w) ∨
  ∃p left' w',left.Perm (p::left')∧(Instr.next (.pointer (some ⟨r,0,none⟩)) false ty).run P w=.ok (.tuple #[.bool true,K.val p.1,vv p.2]) w' ∧
   qQ4 K vv w' b r L left'∧Chg (· = r) w w'∧(Instr.entry (.pointer (some ⟨r,0,none⟩))).run P w'=.ok (.tuple #[K.val p.1,vv p.2]) w':=by
 classical
 obtain⟨es,clk,seen,h1,h2,h3,h4,h5⟩:=h;have hst:=(stamped_iff es clk).1 h2;have hne:b≠r:=by rintro rfl;rw[h1]at h4;cases h4
 rcases run_next_at (P:=P) w ty r b clk clk seen es clk h4 h1 hst.1 (Nat.le_refl _)with⟨h0,hrun⟩|⟨e,he,w1,hw1,hrun⟩
 ·refine .inl ⟨?_,hrun⟩
  have:=h5.length_eq
  simp only[List.length_map,Array.length_toList,h0]at this;exact List.eq_nil_of_length_eq_zero this.symm
 ·right
  have hmem:=h5.mem_iff.1 (List.mem_map.2 ⟨e,he,rfl⟩);obtain⟨p,hp,hpe⟩:=List.mem_map.1 hmem;have hk:K.val p.1=e.key:=congrArg Prod.fst hpe;have hv:vv p.2=e.val:=congrArg Prod.snd hpe;obtain⟨l1,l2,hl⟩:=List.append_of_mem hp;have hperm:left.Perm (p::(l1++l2)):=by rw[hl];exact List.perm_middle
  have hem:e∈es.toList:=by
   unfold leftOf at he;simp at he⊢;exact he.1
  have b1:w1.heap[b]? = some (.map es clk):=by rcases hw1 with rfl|rfl <;> exact h1
  have r1:w1.heap[r]? = some (.mapIter (some b) clk seen clk):=by rcases hw1 with rfl|rfl <;> exact h4
  have c1:Chg (· = r) w w1:=by
   rcases hw1 with rfl|rfl
   ·exact Chg.refl _ _
   ·exact(Chg.refl _ _).drew
  have b2:(setBlock w1 r (.mapIter (some b) clk (seen.push e.born) clk)).heap[b]? = some (.map es clk):=by
   have:=(heap_set (o':=.mapIter (some b) clk (seen.push e.born) clk) r1).2 b hne
   exact this.trans b1
  have r2:(setBlock w1 r (.mapIter (some b) clk (seen.push e.born) clk)).heap[r]? = some (.mapIter (some b) clk (seen.push e.born) clk):=(heap_set r1).1;refine⟨p,l1++l2,_,hperm,by rw[hk,hv];exact hrun,⟨es,clk,seen.push e.born,b2,h2,h3,r2,?_⟩,?_,?_⟩
  ·
   have hnb:(es.toList.map (·.born)).Nodup:=hst.2.1
   have hA:(leftOf es seen).toList.Perm (e::(leftOf es (seen.push e.born)).toList):=by
    have e1:(leftOf es (seen.push e.born)).toList=(leftOf es seen).toList.filter fun x=>decide (x.born≠e.born):=by
     unfold leftOf;simp only[Array.toList_filter,List.filter_filter];refine List.filter_congr fun x _=>?_
     by_cases hx:x.born=e.born
     ·simp[hx]
     ·simp[hx]
    rw[e1]
    have hnl:((leftOf es seen).toList.map (·.born)).Nodup:=by
     have hs:(leftOf es seen).toList.Sublist es.toList:=by
      unfold leftOf;simp only[Array.toList_filter];exact List.filter_sublist
     exact(hs.map _).nodup hnb
    generalize (leftOf es seen).toList=l at he hnl;clear e1
    induction l with
    | nil=>cases he
    | cons y l ih =>
     simp only[List.map_cons,List.nodup_cons]at hnl;rcases List.mem_cons.1 he with rfl|he'
     ·have e3:(e::l).filter (fun x=>decide (x.born≠e.born))=l:=by
       rw[List.filter_cons,if_neg (by simp)];refine List.filter_eq_self.2 fun x hx=>?_
       have:x.born≠e.born:=fun h=>hnl.1 (List.mem_map.2 ⟨x,hx,h⟩)
       simpa using this
      rw[e3]
     ·have hyb:y.born≠e.born:=fun h=>hnl.1 (List.mem_map.2 ⟨e,he',h.symm⟩)
      rw[List.filter_cons,if_pos (by simpa using hyb)];exact((ih he' hnl.2).cons y).trans (List.Perm.swap _ _ _)
   have hB:=(hA.map fun e=>(e.key,e.val)).symm.trans (h5.trans (hperm.map _));simp only[List.map_cons]at hB;rw[hk,hv]at hB;exact(List.perm_cons _).1 hB
  ·exact c1.trans (qZN w1 r) (fun _ _ h=>h)
  ·rw[hk,hv];exact run_entry_at _ r b clk seen es clk e r2 b2 hem hst.2.1
end
open Go.ChangeShapes Go.WideShapes Go.ChangeAt Go.RowKit
theorem own:ownKnob prog.godebug=none:=by kernel_rfl
section
variable{H:Type}{enc:TypeId×Value→H}{P:Program}{W W':World}
theorem qJc(hl:laidOutB P=true)(hb:Below W.heap.size W W'):∀(ts:List TypeId) (vs:List Value) (ds:List (DataW H)) (p:List MemPlace),
  (∀t∈ts,P.readableRec t=true∧t<P.types.size)→(∀x∈p,x.block<W.heap.size) →
  DataW.TrodAll enc P W 0 (fun _=>true) true ts vs ds p→DataW.TrodAll enc P W' 0 (fun b=>decide (b<W.heap.size)) true ts vs ds p
 | [],vs,ds,p,_,_,h=>by
  obtain⟨rfl,rfl,rfl⟩:vs=[]∧ds=[]∧p=[]:=trodAll_nil h;exact trodAll_mk0
 | t::ts,vs,ds,p,ht,hp,h=>by
  obtain⟨v,vs',d,ds',p0,q0,rfl,rfl,rfl,h0,r0⟩:=trodAll_cons h;have h1:=ht t (List.mem_cons_self ..)
  exact trodAll_cons_mk (Below.trod hl h1.1 h1.2 h0 hb (fun x hx=>hp x (List.mem_append_left _ hx)))
   (qJc hl hb ts vs' ds' q0 (fun t h=>ht t (List.mem_cons_of_mem _ h)) (fun x hx=>hp x (List.mem_append_right _ hx)) r0)
theorem law_post{f:Func}{s:ChangeSpec}{args:Array Value}{ds:List (DataW H)}{before:List MemPlace}{T:TypeId}
  (hW:DataW.Whole enc P f.params.toList s.vars false W args.toList ds [] before) (hvars:s.vars=[])
  (hspec:s.fn H (ds++[]) = { results:=[.lit (.bool true)],args:=ds }) (hrt:f.resultTypes=#[T]) (hT:P.underlying T=some .bool)
  (hl:laidOutB P=true) (hpar:(f.params.toList.all fun t=>P.readableRec t&&decide (t<P.types.size))=true) (hb:Below W.heap.size W W') :
  s.post enc P f false true false false W args (.bool true) W':=by
 have hlt:∀p∈before,p.block<W.heap.size:=fun p hp=>hW.lt p hp
 have hpar':∀t∈f.params.toList,P.readableRec t=true∧t<P.types.size:=fun t h=>by
  have:=List.all_eq_true.1 hpar t h
  simpa using this
 have hW0:=hW;obtain⟨p,q,hA,hV,rfl,_,_⟩:=hW;rw[hvars]at hV;obtain⟨_,rfl⟩:=trodVars_none hV;have hA':=qJc hl hb _ _ _ _ hpar' (fun x hx=>hlt x (List.mem_append_left _ hx)) hA;refine⟨ds,[],p++[],[],p,[],hW0,?_,?_,?_,hb.frame _,fun h=>by cases h⟩
 ·rw[hspec,hrt];exact trodAll_cons_mk (shut_bool hT _) trodAll_mk0
 ·rw[hspec];exact hA'
 ·rw[hspec,hvars];exact rfl
end
end Go.Proofs.YtimjipcplmnpbaaGreat
namespace Go.Proofs
open _root_.Go.Proofs.Tryz
open Go.Shelf
def Tryz.lays125_ren:Go.Shelf.Ren:=⟨fun|125=>102|128=>125|129=>73|n=>n,fun|46=>145|3=>3|51=>30|53=>29|4=>4|5=>5|9=>9|n=>n,fun|n=>n⟩
theorem Tryz.lays125:Go.Proofs.Lays.n125 prog Tryz.lays125_ren := {
 mixed:=by kernel_rfl
 f125:=func102.trans (congrArg some (by kernel_rfl))
 f128:=func125.trans (congrArg some (by kernel_rfl))
 f129:=func73.trans (congrArg some (by kernel_rfl))
 t3:=underlying3
 a3:=Tryz.isAgg3
 z3:=Tryz.sizeOf3
 v3:=Tryz.zeroValue3
 t4:=underlying4
 a4:=Tryz.isAgg4
 z4:=Tryz.sizeOf4
 v4:=Tryz.zeroValue4
 t5:=underlying5
 a5:=Tryz.isAgg5
 z5:=Tryz.sizeOf5
 v5:=Tryz.zeroValue5
 t9:=underlying9
 a9:=Tryz.isAgg9
 z9:=Tryz.sizeOf9
 v9:=Tryz.zeroValue9
 t46:=underlying145
 a46:=Tryz.isAgg145
 z46:=Tryz.sizeOf145
 v46:=Tryz.zeroValue145
 t51:=underlying30
 a51:=Tryz.isAgg30
 z51:=Tryz.sizeOf30
 v51:=Tryz.zeroValue30
 t53:=underlying29
 a53:=Tryz.isAgg29
 z53:=Tryz.sizeOf29
 v53:=Tryz.zeroValue29 }
theorem Tryz.bits_Len(x:Int)(w:World)(h0:0≤x)(h1:x≤18446744073709551615) :
  Calls prog 102 #[.int .u64 x] w fun e w'=>e=.returned (.int .i64 (Lib.bitLen x.toNat))∧w'=w:=Any.bits_Len Tryz.lays125 x w h0 h1
def Tryz.lays129_ren:Go.Shelf.Ren:=⟨fun|129=>73|n=>n,fun|53=>29|3=>3|4=>4|46=>145|5=>5|9=>9|n=>n,fun|n=>n⟩
theorem Tryz.lays129:Go.Proofs.Lays.n129 prog Tryz.lays129_ren := {
 mixed:=by kernel_rfl
 f129:=func73.trans (congrArg some (by kernel_rfl))
 t3:=underlying3
 a3:=Tryz.isAgg3
 z3:=Tryz.sizeOf3
 v3:=Tryz.zeroValue3
 t4:=underlying4
 a4:=Tryz.isAgg4
 z4:=Tryz.sizeOf4
 v4:=Tryz.zeroValue4
 t5:=underlying5
 a5:=Tryz.isAgg5
 z5:=Tryz.sizeOf5
 v5:=Tryz.zeroValue5
 t9:=underlying9
 a9:=Tryz.isAgg9
 z9:=Tryz.sizeOf9
 v9:=Tryz.zeroValue9
 t46:=underlying145
 a46:=Tryz.isAgg145
 z46:=Tryz.sizeOf145
 v46:=Tryz.zeroValue145
 t53:=underlying29
 a53:=Tryz.isAgg29
 z53:=Tryz.sizeOf29
 v53:=Tryz.zeroValue29 }
theorem Tryz.bits_Len64(x:Int)(w:World)(h0:0≤x)(h1:x≤18446744073709551615) :
  Calls prog 73 #[.int .u64 x] w fun e w'=>e=.returned (.int .i64 (Lib.bitLen x.toNat))∧w'=w:=Any.bits_Len64 Tryz.lays129 x w h0 h1
def Tryz.laysNm215_ren:Go.Shelf.Ren:=⟨fun|15=>100|n=>n,fun|22=>27|3=>3|4=>4|n=>n,fun|n=>n⟩
theorem Tryz.laysNm215:Go.Proofs.Lays2.n15 prog Tryz.laysNm215_ren := {
 mixed:=by kernel_rfl
 f15:=func100.trans (congrArg some (by kernel_rfl))
 t3:=underlying3
 a3:=Tryz.isAgg3
 z3:=Tryz.sizeOf3
 v3:=Tryz.zeroValue3
 t4:=underlying4
 a4:=Tryz.isAgg4
 z4:=Tryz.sizeOf4
 v4:=Tryz.zeroValue4
 t22:=underlying27
 a22:=Tryz.isAgg27
 z22:=Tryz.sizeOf27
 v22:=Tryz.zeroValue27
 i3:=by kernel_rfl }
open Go.RowKit Go.Lib in
theorem Tryz.slices_Clone_int(b off n c:Nat)(zs:List Int)(w:World)(hz:n≤zs.length)(hbig:n * 8≤140737488355328)(hc:∀j,j<zs.length→w.cell? ⟨b,off+j,none⟩=some (.int .i64 (zs.getD j 0))) :
  Calls prog 100 #[.slice (some ⟨b,off,none⟩) n c] w fun e w'=>∃v',e=.returned v'∧w'.ownsRow w.heap.size 3 1 v' n ((zs.take n).map (Value.int .i64))∧v'≠.slice none 0 0∧Below w.heap.size w w':=Any.slices_Clone_int Tryz.laysNm215 b off n c zs w hz hbig hc
open Go.RowKit Go.Lib in
theorem Tryz.slices_Clone_int_nil(n c:Nat)(w:World) :
  Calls prog 100 #[.slice none n c] w fun e w'=>e=.returned (.slice none 0 0)∧w'=w:=Any.slices_Clone_int_nil Tryz.laysNm215 n c w
def Tryz.laysNm216_ren:Go.Shelf.Ren:=⟨fun|16=>70|n=>n,fun|24=>34|9=>9|4=>4|n=>n,fun|n=>n⟩
theorem Tryz.laysNm216:Go.Proofs.Lays2.n16 prog Tryz.laysNm216_ren := {
 mixed:=by kernel_rfl
 f16:=func70.trans (congrArg some (by kernel_rfl))
 t4:=underlying4
 a4:=Tryz.isAgg4
 z4:=Tryz.sizeOf4
 v4:=Tryz.zeroValue4
 t9:=underlying9
 a9:=Tryz.isAgg9
 z9:=Tryz.sizeOf9
 v9:=Tryz.zeroValue9
 t24:=underlying34
 a24:=Tryz.isAgg34
 z24:=Tryz.sizeOf34
 v24:=Tryz.zeroValue34
 i9:=by kernel_rfl }
open Go.RowKit Go.Lib in
theorem Tryz.slices_Clone_string(b off n c:Nat)(zs:List ByteArray)(w:World)(hz:n≤zs.length)(hbig:n * 16≤140737488355328)(hc:∀j,j<zs.length→w.cell? ⟨b,off+j,none⟩=some (.string (zs.getD j ByteArray.empty))) :
  Calls prog 70 #[.slice (some ⟨b,off,none⟩) n c] w fun e w'=>∃v',e=.returned v'∧w'.ownsRow w.heap.size 9 1 v' n ((zs.take n).map (Value.string))∧v'≠.slice none 0 0∧Below w.heap.size w w':=Any.slices_Clone_string Tryz.laysNm216 b off n c zs w hz hbig hc
open Go.RowKit Go.Lib in
theorem Tryz.slices_Clone_string_nil(n c:Nat)(w:World) :
  Calls prog 70 #[.slice none n c] w fun e w'=>e=.returned (.slice none 0 0)∧w'=w:=Any.slices_Clone_string_nil Tryz.laysNm216 n c w
open Go.RowKit Go.Lib in
theorem Tryz.slices_Clone_int_zero(a:Addr)(c:Nat)(w:World) :
  Calls prog 100 #[.slice (some a) 0 c] w fun e w'=>∃v',e=.returned v'∧w'.ownsRow w.heap.size 3 1 v' 0 []∧v'≠.slice none 0 0∧Below w.heap.size w w':=Any.slices_Clone_int_zero Tryz.laysNm215 a c w
open Go.RowKit Go.Lib in
theorem Tryz.slices_Clone_string_zero(a:Addr)(c:Nat)(w:World) :
  Calls prog 70 #[.slice (some a) 0 c] w fun e w'=>∃v',e=.returned v'∧w'.ownsRow w.heap.size 9 1 v' 0 []∧v'≠.slice none 0 0∧Below w.heap.size w w':=Any.slices_Clone_string_zero Tryz.laysNm216 a c w
def Tryz.laysNm220_ren:Go.Shelf.Ren:=⟨fun|20=>62|n=>n,fun|22=>27|3=>3|4=>4|0=>0|n=>n,fun|n=>n⟩
theorem Tryz.laysNm220:Go.Proofs.Lays2.n20 prog Tryz.laysNm220_ren := {
 mixed:=by kernel_rfl
 f20:=func62.trans (congrArg some (by kernel_rfl))
 t0:=underlying0
 a0:=Tryz.isAgg0
 z0:=Tryz.sizeOf0
 v0:=Tryz.zeroValue0
 t3:=underlying3
 a3:=Tryz.isAgg3
 z3:=Tryz.sizeOf3
 v3:=Tryz.zeroValue3
 t4:=underlying4
 a4:=Tryz.isAgg4
 z4:=Tryz.sizeOf4
 v4:=Tryz.zeroValue4
 t22:=underlying27
 a22:=Tryz.isAgg27
 z22:=Tryz.sizeOf27
 v22:=Tryz.zeroValue27
 i3:=by kernel_rfl }
open Go.RowKit Go.Lib Go.Sort in
theorem Tryz.slices_Compact_int(blk off cap:Nat)(zs:List Int)(w:World)(hH:Holds (Value.int .i64) w blk off zs.toArray)(hsz:zs.length≤9223372036854775807)(hcap:zs.length≤cap) :
  Calls prog 62 #[.slice (some ⟨blk,off,none⟩) zs.length cap] w fun e w'=>e=.returned (.slice (some ⟨blk,off,none⟩) (Lib.compact zs).length cap)∧∃q,w'=putRow (Value.int .i64) (Sort.ahead w q) blk off (Lib.compact zs++List.replicate (zs.length - (Lib.compact zs).length) 0).toArray:=Any.slices_Compact_int Tryz.laysNm220 blk off cap zs w hH hsz hcap
open Go.RowKit Go.Lib Go.Sort in
theorem Tryz.slices_Compact_int_empty(a:Option Addr)(cap:Nat)(w:World) :
  Calls prog 62 #[.slice a 0 cap] w fun e w'=>e=.returned (.slice a 0 cap)∧w'=w:=Any.slices_Compact_int_empty Tryz.laysNm220 a cap w
def Tryz.laysSlM5_f61_ren:Go.Shelf.Ren:=⟨fun|5=>61|8=>102|7=>101|19=>125|20=>73|10=>116|11=>117|12=>118|13=>119|14=>120|15=>121|16=>122|17=>123|18=>124|30=>130|31=>131|32=>132|33=>133|34=>134|35=>135|40=>154|n=>n,fun|23=>27|25=>3|3=>3|32=>145|22=>27|0=>0|44=>30|46=>29|4=>4|36=>200|35=>199|41=>204|5=>5|9=>9|53=>211|57=>214|63=>228|64=>168|n=>n,fun|n=>n⟩
theorem Tryz.laysSlM5_f61:Go.Proofs.SlLaysM.n5 prog Tryz.laysSlM5_f61_ren := {
 mixed:=by kernel_rfl
 f5:=⟨Tryz.f61.name,by decide,func61.trans (congrArg some (by kernel_rfl))⟩
 f7:=⟨Tryz.f101.name,by decide,func101.trans (congrArg some (by kernel_rfl))⟩
 f8:=func102.trans (congrArg some (by kernel_rfl))
 f10:=⟨Tryz.f116.name,by decide,func116.trans (congrArg some (by kernel_rfl))⟩
 f11:=⟨Tryz.f117.name,by decide,func117.trans (congrArg some (by kernel_rfl))⟩
 f12:=⟨Tryz.f118.name,by decide,func118.trans (congrArg some (by kernel_rfl))⟩
 f13:=⟨Tryz.f119.name,by decide,func119.trans (congrArg some (by kernel_rfl))⟩
 f14:=⟨Tryz.f120.name,by decide,func120.trans (congrArg some (by kernel_rfl))⟩
 f15:=⟨Tryz.f121.name,by decide,func121.trans (congrArg some (by kernel_rfl))⟩
 f16:=⟨Tryz.f122.name,by decide,func122.trans (congrArg some (by kernel_rfl))⟩
 f17:=⟨Tryz.f123.name,by decide,func123.trans (congrArg some (by kernel_rfl))⟩
 f18:=⟨Tryz.f124.name,by decide,func124.trans (congrArg some (by kernel_rfl))⟩
 f19:=func125.trans (congrArg some (by kernel_rfl))
 f20:=func73.trans (congrArg some (by kernel_rfl))
 f30:=⟨Tryz.f130.name,by decide,func130.trans (congrArg some (by kernel_rfl))⟩
 f31:=func131.trans (congrArg some (by kernel_rfl))
 f32:=func132.trans (congrArg some (by kernel_rfl))
 f33:=⟨Tryz.f133.name,by decide,func133.trans (congrArg some (by kernel_rfl))⟩
 f34:=⟨Tryz.f134.name,by decide,func134.trans (congrArg some (by kernel_rfl))⟩
 f35:=⟨Tryz.f135.name,by decide,func135.trans (congrArg some (by kernel_rfl))⟩
 f40:=⟨Tryz.f154.name,by decide,func154.trans (congrArg some (by kernel_rfl))⟩
 t0:=underlying0
 a0:=Tryz.isAgg0
 z0:=Tryz.sizeOf0
 v0:=Tryz.zeroValue0
 t3:=underlying3
 a3:=Tryz.isAgg3
 z3:=Tryz.sizeOf3
 v3:=Tryz.zeroValue3
 t4:=underlying4
 a4:=Tryz.isAgg4
 z4:=Tryz.sizeOf4
 v4:=Tryz.zeroValue4
 t5:=underlying5
 a5:=Tryz.isAgg5
 z5:=Tryz.sizeOf5
 v5:=Tryz.zeroValue5
 t9:=underlying9
 a9:=Tryz.isAgg9
 z9:=Tryz.sizeOf9
 v9:=Tryz.zeroValue9
 t22:=underlying27
 a22:=Tryz.isAgg27
 z22:=Tryz.sizeOf27
 v22:=Tryz.zeroValue27
 t23:=underlying27
 a23:=Tryz.isAgg27
 z23:=Tryz.sizeOf27
 v23:=Tryz.zeroValue27
 t25:=underlying3
 a25:=Tryz.isAgg3
 z25:=Tryz.sizeOf3
 v25:=Tryz.zeroValue3
 t32:=underlying145
 a32:=Tryz.isAgg145
 z32:=Tryz.sizeOf145
 v32:=Tryz.zeroValue145
 t35:=underlying199
 a35:=Tryz.isAgg199
 z35:=Tryz.sizeOf199
 v35:=Tryz.zeroValue199
 t36:=underlying200
 a36:=Tryz.isAgg200
 z36:=Tryz.sizeOf200
 v36:=Tryz.zeroValue200
 t41:=underlying204
 a41:=Tryz.isAgg204
 z41:=Tryz.sizeOf204
 v41:=Tryz.zeroValue204
 t44:=underlying30
 a44:=Tryz.isAgg30
 z44:=Tryz.sizeOf30
 v44:=Tryz.zeroValue30
 t46:=underlying29
 a46:=Tryz.isAgg29
 z46:=Tryz.sizeOf29
 v46:=Tryz.zeroValue29
 t53:=underlying211
 a53:=Tryz.isAgg211
 z53:=Tryz.sizeOf211
 v53:=Tryz.zeroValue211
 t57:=underlying214
 a57:=Tryz.isAgg214
 z57:=Tryz.sizeOf214
 v57:=Tryz.zeroValue214
 t63:=underlying228
 a63:=Tryz.isAgg228
 z63:=Tryz.sizeOf228
 v63:=Tryz.zeroValue228
 t64:=underlying168
 a64:=Tryz.isAgg168
 z64:=Tryz.sizeOf168
 v64:=Tryz.zeroValue168 }
open Go.Sort Go.RowKit in
theorem Tryz.slices_Sort_int(blk off cap:Nat)(zs:List Int)(w:World)(hH:Holds (Value.int .i64) w blk off zs.toArray)(hblk:blk<w.heap.size)(hsz:zs.length<4611686018427387904) :
  Calls prog 61 #[.slice (some ⟨blk,off,none⟩) zs.length cap] w fun e w' =>
   e=.returned (.tuple #[])∧∃n os,w'=grow (putRow (Value.int .i64) (Sort.ahead w n) blk off (zs.mergeSort fun x y=>decide (x≤y)).toArray) os:=AnyM.slices_Sort_int Tryz.laysSlM5_f61 blk off cap zs w hH hblk hsz
def Tryz.laysSlM6_f104_ren:Go.Shelf.Ren:=⟨fun|6=>104|8=>102|9=>127|19=>125|20=>73|21=>136|22=>137|23=>138|24=>139|25=>140|26=>141|27=>142|28=>143|29=>144|36=>155|31=>131|32=>132|37=>156|38=>157|39=>158|41=>163|n=>n,fun|27=>34|29=>9|3=>3|32=>145|26=>34|0=>0|44=>30|46=>29|4=>4|36=>200|35=>199|41=>204|5=>5|9=>9|53=>211|57=>214|63=>228|64=>168|n=>n,fun|n=>n⟩
theorem Tryz.laysSlM6_f104:Go.Proofs.SlLaysM.n6 prog Tryz.laysSlM6_f104_ren := {
 mixed:=by kernel_rfl
 f6:=⟨Tryz.f104.name,by decide,func104.trans (congrArg some (by kernel_rfl))⟩
 f8:=func102.trans (congrArg some (by kernel_rfl))
 f9:=⟨Tryz.f127.name,by decide,func127.trans (congrArg some (by kernel_rfl))⟩
 f19:=func125.trans (congrArg some (by kernel_rfl))
 f20:=func73.trans (congrArg some (by kernel_rfl))
 f21:=⟨Tryz.f136.name,by decide,func136.trans (congrArg some (by kernel_rfl))⟩
 f22:=⟨Tryz.f137.name,by decide,func137.trans (congrArg some (by kernel_rfl))⟩
 f23:=⟨Tryz.f138.name,by decide,func138.trans (congrArg some (by kernel_rfl))⟩
 f24:=⟨Tryz.f139.name,by decide,func139.trans (congrArg some (by kernel_rfl))⟩
 f25:=⟨Tryz.f140.name,by decide,func140.trans (congrArg some (by kernel_rfl))⟩
 f26:=⟨Tryz.f141.name,by decide,func141.trans (congrArg some (by kernel_rfl))⟩
 f27:=⟨Tryz.f142.name,by decide,func142.trans (congrArg some (by kernel_rfl))⟩
 f28:=⟨Tryz.f143.name,by decide,func143.trans (congrArg some (by kernel_rfl))⟩
 f29:=⟨Tryz.f144.name,by decide,func144.trans (congrArg some (by kernel_rfl))⟩
 f31:=func131.trans (congrArg some (by kernel_rfl))
 f32:=func132.trans (congrArg some (by kernel_rfl))
 f36:=⟨Tryz.f155.name,by decide,func155.trans (congrArg some (by kernel_rfl))⟩
 f37:=⟨Tryz.f156.name,by decide,func156.trans (congrArg some (by kernel_rfl))⟩
 f38:=⟨Tryz.f157.name,by decide,func157.trans (congrArg some (by kernel_rfl))⟩
 f39:=⟨Tryz.f158.name,by decide,func158.trans (congrArg some (by kernel_rfl))⟩
 f41:=⟨Tryz.f163.name,by decide,func163.trans (congrArg some (by kernel_rfl))⟩
 t0:=underlying0
 a0:=Tryz.isAgg0
 z0:=Tryz.sizeOf0
 v0:=Tryz.zeroValue0
 t3:=underlying3
 a3:=Tryz.isAgg3
 z3:=Tryz.sizeOf3
 v3:=Tryz.zeroValue3
 t4:=underlying4
 a4:=Tryz.isAgg4
 z4:=Tryz.sizeOf4
 v4:=Tryz.zeroValue4
 t5:=underlying5
 a5:=Tryz.isAgg5
 z5:=Tryz.sizeOf5
 v5:=Tryz.zeroValue5
 t9:=underlying9
 a9:=Tryz.isAgg9
 z9:=Tryz.sizeOf9
 v9:=Tryz.zeroValue9
 t26:=underlying34
 a26:=Tryz.isAgg34
 z26:=Tryz.sizeOf34
 v26:=Tryz.zeroValue34
 t27:=underlying34
 a27:=Tryz.isAgg34
 z27:=Tryz.sizeOf34
 v27:=Tryz.zeroValue34
 t29:=underlying9
 a29:=Tryz.isAgg9
 z29:=Tryz.sizeOf9
 v29:=Tryz.zeroValue9
 t32:=underlying145
 a32:=Tryz.isAgg145
 z32:=Tryz.sizeOf145
 v32:=Tryz.zeroValue145
 t35:=underlying199
 a35:=Tryz.isAgg199
 z35:=Tryz.sizeOf199
 v35:=Tryz.zeroValue199
 t36:=underlying200
 a36:=Tryz.isAgg200
 z36:=Tryz.sizeOf200
 v36:=Tryz.zeroValue200
 t41:=underlying204
 a41:=Tryz.isAgg204
 z41:=Tryz.sizeOf204
 v41:=Tryz.zeroValue204
 t44:=underlying30
 a44:=Tryz.isAgg30
 z44:=Tryz.sizeOf30
 v44:=Tryz.zeroValue30
 t46:=underlying29
 a46:=Tryz.isAgg29
 z46:=Tryz.sizeOf29
 v46:=Tryz.zeroValue29
 t53:=underlying211
 a53:=Tryz.isAgg211
 z53:=Tryz.sizeOf211
 v53:=Tryz.zeroValue211
 t57:=underlying214
 a57:=Tryz.isAgg214
 z57:=Tryz.sizeOf214
 v57:=Tryz.zeroValue214
 t63:=underlying228
 a63:=Tryz.isAgg228
 z63:=Tryz.sizeOf228
 v63:=Tryz.zeroValue228
 t64:=underlying168
 a64:=Tryz.isAgg168
 z64:=Tryz.sizeOf168
 v64:=Tryz.zeroValue168 }
open Go.Sort Go.RowKit in
theorem Tryz.slices_Sort_string(blk off cap:Nat)(ss:List (List UInt8))(w:World)(hH:Holds encStr w blk off ss.toArray)(hblk:blk<w.heap.size)(hsz:ss.length<4611686018427387904) :
  Calls prog 104 #[.slice (some ⟨blk,off,none⟩) ss.length cap] w fun e w' =>
   e=.returned (.tuple #[])∧∃n os,w'=grow (putRow encStr (Sort.ahead w n) blk off (ss.mergeSort fun x y=>decide (x≤y)).toArray) os:=AnyM.slices_Sort_string Tryz.laysSlM6_f104 blk off cap ss w hH hblk hsz
open Go.RowKit Go.Sort in
theorem Tryz.slices_Sort_string_none(p:Option Addr)(cap:Nat)(w:World) :
  Calls prog 104 #[.slice p 0 cap] w fun e w'=>e=.returned (.tuple #[])∧w'=w:=AnyM.slices_Sort_string_none Tryz.laysSlM6_f104 p cap w
open Go.RowKit Go.Sort in
theorem Tryz.slices_Sort_int_none(p:Option Addr)(cap:Nat)(w:World) :
  Calls prog 61 #[.slice p 0 cap] w fun e w'=>e=.returned (.tuple #[])∧w'=w:=AnyM.slices_Sort_int_none Tryz.laysSlM5_f61 p cap w
def Tryz.keys_ren:Go.Shelf.Ren:=⟨fun|7=>66|10=>105|n=>n,fun|23=>96|26=>9|3=>29|28=>136|0=>0|27=>135|33=>53|4=>4|n=>n,fun|n=>n⟩
theorem Tryz.keys:Go.Proofs.SlLaysZ.n7 prog Tryz.keys_ren := {
 mixed:=by kernel_rfl
 f7:=⟨Tryz.f66.name,by decide,func66.trans (congrArg some (by kernel_rfl))⟩
 f10:=⟨Tryz.f105.name,by decide,func105.trans (congrArg some (by kernel_rfl))⟩
 t0:=underlying0
 a0:=Tryz.isAgg0
 z0:=Tryz.sizeOf0
 v0:=Tryz.zeroValue0
 t4:=underlying4
 a4:=Tryz.isAgg4
 z4:=Tryz.sizeOf4
 v4:=Tryz.zeroValue4
 t23:=underlying96
 a23:=Tryz.isAgg96
 z23:=Tryz.sizeOf96
 v23:=Tryz.zeroValue96
 t26:=underlying9
 a26:=Tryz.isAgg9
 z26:=Tryz.sizeOf9
 v26:=Tryz.zeroValue9
 t27:=underlying135
 a27:=Tryz.isAgg135
 z27:=Tryz.sizeOf135
 v27:=Tryz.zeroValue135
 t28:=underlying136
 a28:=Tryz.isAgg136
 z28:=Tryz.sizeOf136
 v28:=Tryz.zeroValue136
 t33:=underlying53
 a33:=Tryz.isAgg53
 z33:=Tryz.sizeOf53
 v33:=Tryz.zeroValue53 }
def Tryz.sorted_ren:Go.Shelf.Ren:=⟨fun|6=>65|8=>103|9=>104|11=>126|13=>102|12=>127|23=>125|24=>73|14=>136|15=>137|16=>138|17=>139|18=>140|19=>141|20=>142|21=>143|22=>144|25=>155|26=>131|27=>132|28=>156|29=>157|30=>158|31=>163|n=>n,fun|26=>9|28=>136|24=>34|0=>0|3=>3|37=>145|48=>30|50=>29|4=>4|40=>200|39=>199|45=>204|5=>5|9=>9|51=>211|55=>214|57=>228|58=>168|33=>53|n=>n,fun|n=>n⟩
theorem Tryz.sorted:Go.Proofs.SlLaysZ.n6 prog Tryz.sorted_ren := {
 mixed:=by kernel_rfl
 f6:=⟨Tryz.f65.name,by decide,func65.trans (congrArg some (by kernel_rfl))⟩
 f8:=⟨Tryz.f103.name,by decide,func103.trans (congrArg some (by kernel_rfl))⟩
 f11:=⟨Tryz.f126.name,by decide,func126.trans (congrArg some (by kernel_rfl))⟩
 t0:=underlying0
 a0:=Tryz.isAgg0
 z0:=Tryz.sizeOf0
 v0:=Tryz.zeroValue0
 t24:=underlying34
 a24:=Tryz.isAgg34
 z24:=Tryz.sizeOf34
 v24:=Tryz.zeroValue34
 t26:=underlying9
 a26:=Tryz.isAgg9
 z26:=Tryz.sizeOf9
 v26:=Tryz.zeroValue9
 t28:=underlying136
 a28:=Tryz.isAgg136
 z28:=Tryz.sizeOf136
 v28:=Tryz.zeroValue136
 i26:=by kernel_rfl }
end Go.Proofs
namespace Go.Proofs.YtimjipcplmnpbaaGreat
open _root_.Go.Proofs.Tryz
open Go.RowKit
theorem int_info:(prog.info? 3).map (fun i=>(i.zero,i.size,i.bytes))=some (some (.int .i64 0),1,8):=by kernel_rfl
open Go.RowKit
def Sl(w:World)(v:Value)(xs:List Value):Prop :=
 ∃A c,v=.slice A xs.length c∧(xs≠[]→∃b o,A=some ⟨b,o,none⟩∧∀(i:Nat) (x:Value),xs[i]? = some x→w.cell? ⟨b,o+i,none⟩=some x)
section
variable{S:Nat→Prop}{w w':World}{v:Value}{xs:List Value}
theorem Sl.nil(w:World)(c:Nat):Sl w (.slice none 0 c) []:=⟨none,c,rfl,fun h=>absurd rfl h⟩
theorem qZl{w:World}{a:Addr}{u:Value}(h:w.cell? a=some u):a.block<w.heap.size:=World.block_lt_of_cell? _ _ h
theorem Sl.ext(h:Sl w v xs)(he:Ext w w'):Sl w' v xs:=by
 obtain⟨A,c,hv,hx⟩:=h;refine⟨A,c,hv,fun hn=>?_⟩
 obtain⟨b,o,rfl,hc⟩:=hx hn;exact⟨b,o,rfl,fun i x hi=>(Ext.cell he (qZl (hc i x hi))).trans (hc i x hi)⟩
theorem Sl.chg(h:Sl w v xs)(he:Chg S w w')(hS:∀b o n c,v=.slice (some ⟨b,o,none⟩) n c→xs≠[]→¬ S b):Sl w' v xs:=by
 obtain⟨A,c,hv,hx⟩:=h;refine⟨A,c,hv,fun hn=>?_⟩
 obtain⟨b,o,rfl,hc⟩:=hx hn;exact⟨b,o,rfl,fun i x hi=>(he.cell (qZl (hc i x hi)) (hS _ _ _ _ hv hn)).trans (hc i x hi)⟩
theorem Sl.of_own{base:Nat}{e:TypeId}{n:Nat}(h:w.ownsRow base e 1 v n xs):Sl w v xs:=by
 have hl:xs.length=n:=by simpa using h.1
 rcases h.2 with⟨rfl,hn⟩|⟨g,cap,cur,rfl,_⟩
 ·obtain rfl:xs=[]:=List.eq_nil_of_length_eq_zero (by omega);exact Sl.nil _ _
 ·refine⟨some ⟨g,0,none⟩,cap,by rw[hl],fun _=>⟨g,0,rfl,fun i x hi=>?_⟩⟩
  have hi':i<n:=by have:=(List.getElem?_eq_some_iff.1 hi).1;omega
  have:=h.cellAt i (by omega)
  rw[Nat.zero_add,this];exact hi
end
theorem own_chg{S:Nat→Prop}{w w':World}{base:Nat}{e:TypeId}{size:Nat}{v:Value}{n:Nat}{xs:List Value}(h:w.ownsRow base e size v n xs)(hc:Chg S w w')(hS:∀k,S k→k<base):w'.ownsRow base e size v n xs:=by
 obtain⟨h1,h2⟩:=h;refine⟨h1,?_⟩
 rcases h2 with h2|⟨g,cap,cur,rfl,hb,hg,h3⟩
 ·exact .inl h2
 ·refine .inr ⟨g,cap,cur,rfl,hb,?_,h3⟩;rw[hc.block g (qQI hg) (fun hs=>by have:=hS _ hs;omega)];exact hg
theorem qJD{w:World}{base:Nat}{e:TypeId}{size:Nat}{v:Value}{n:Nat}{xs:List Value}(h:w.ownsRow base e size v n xs):∀k,some k=v.ownBlock→base≤k:=by
 intro k hk;rcases h.2 with⟨rfl,_⟩|⟨g,cap,cur,rfl,hb,_⟩
 ·cases hk
 ·cases hk;exact hb
theorem Chg.of_grown{w w':World}{row:Option Nat}(h:w.grownBy w' row):Chg (fun k=>some k=row) w w':=⟨h.os,h.tape,h.output,h.size,fun k hk hn=>h.block k hk hn⟩
def qQ0(w:World)(g:Nat):Nat→List Value→World
 | _,[]=>w
 | k,v::r=>qQ0 (w.setCell ⟨g,k,none⟩ v) g (k+1) r
theorem At.setAll{g:Nat}{t:TypeId} : ∀ {vs:List Value} {k:Nat} {w:World} {cs:Array Value},At w g t cs→cs.size=k+vs.length→At (qQ0 w g k vs) g t (cs.toList.take k++vs).toArray
 | [],k,w,cs,h,hl=>by
  have:(cs.toList.take k++[]).toArray=cs:=by
   rw[List.append_nil,List.take_of_length_le (by simp at hl⊢;omega)]
  rw[this];exact h
 | v::r,k,w,cs,h,hl=>by
  have ih:=At.setAll (vs:=r) (k:=k+1) (h.set k v) (by simp at hl⊢;omega)
  have e:(cs.setIfInBounds k v).toList.take (k+1)++r=cs.toList.take k++v::r:=by
   have hk:k<cs.size:=by simp at hl;omega
   rw[Array.toList_setIfInBounds,List.take_succ_eq_append_getElem (by simpa using hk)]
   have e2:List.take k (cs.toList.set k v)=List.take k cs.toList:=by
    apply List.ext_getElem?
    intro i;simp only[List.getElem?_take];split
    ·rw[List.getElem?_set_ne (by omega)]
    ·rfl
   simp[e2]
  rw[e]at ih;exact ih
theorem qZF(w0:World)(g:Nat):∀(vs:List Value) (k:Nat) (w:World),Chg (· = g) w0 w→Chg (· = g) w0 (qQ0 w g k vs)
 | [],_,_,h=>h
 | v::r,k,_w,h=>qZF w0 g r (k+1) _ (h.setCell (.inl rfl) v)
section
variable{P:Program}{ops:Array Oper}{o:Oper}{a:Act}{w:World}{K:Act→World→Prop}{Q:Exit→Act→World→Prop}{E:Prop}
theorem wp_append_own'(s x:Operand)(t:TypeId)(ho:o.op=.call { callee:=.builtin .append,args:=#[s,x],argTypes:=#[t,t] })
  (base:Nat) (e:TypeId) (i:TypeInfo) (z:Value) (bytes:Nat) (ht:P.underlying t=some (.slice e)) (hi:P.info? e=some i) (hz:i.zero=some z)
  (hsize:i.size=1) (hby:i.bytes=bytes) (hzs:z.cells.size=1)
  (v:Value) (n:Nat) (xs:List Value) (hs:a.eval s=v) (hown:w.ownsRow base e 1 v n xs)
  (A:Addr) (m c:Nat) (news:List Value) (hx:a.eval x=.slice (some A) m c) (hl:news.length=m) (hnews:∀j u,news[j]? = some u→w.cell? (A.add j)=some u) (h1:∀u∈news,u.oneCell'=true)
  (h63:n+m≤maxLen) (hbytes:(n+m) * bytes≤140737488355328) (hbase:base≤w.heap.size)
  (h:∀v' w',w'.ownsRow base e 1 v' (n+m) (xs++news)→w.grownBy w' v.ownBlock→K (a.put o.dst v') w'):o.wp P a w K Q:=by
 obtain⟨v',w',hrun,h2,h3,_⟩:=run_append_own_at (P:=P) w base t o.type e i z 1 bytes ht hi hz hsize hby hzs (by omega) v n xs hown A m c news (by omega) hnews h1 h63 hbytes hbase;unfold Oper.wp execOp;simp only[ho,resolve,invoke,builtin,Sem.run_bind,Sem.run_pure,Result.andThen_ok,List.map_toArray,List.map_cons,List.map_nil,hs,hx,hrun];exact h v' w' h2 h3
theorem step_append_own(hgd:o.guard=none)(s x:Operand)(t:TypeId)(ho:o.op=.call { callee:=.builtin .append,args:=#[s,x],argTypes:=#[t,t] })
  (base:Nat) (e:TypeId) (i:TypeInfo) (z:Value) (bytes:Nat) (ht:P.underlying t=some (.slice e)) (hi:P.info? e=some i) (hz:i.zero=some z)
  (hsize:i.size=1) (hby:i.bytes=bytes) (hzs:z.cells.size=1)
  (v:Value) (n:Nat) (xs:List Value) (hs:a.eval s=v) (hown:w.ownsRow base e 1 v n xs)
  (A:Addr) (m c:Nat) (news:List Value) (hx:a.eval x=.slice (some A) m c) (hl:news.length=m) (hnews:∀j u,news[j]? = some u→w.cell? (A.add j)=some u) (h1:∀u∈news,u.oneCell'=true)
  (h63:n+m≤maxLen) (hbytes:(n+m) * bytes≤140737488355328) (hbase:base≤w.heap.size)
  (h:∀v' w',w'.ownsRow base e 1 v' (n+m) (xs++news)→w.grownBy w' v.ownBlock→K (a.put o.dst v') w') :
  if Region.wanted o (yielded ops a.tmps)=true then Oper.wp P o a w K Q else E:=by
 have hw:Region.wanted o (yielded ops a.tmps)=true:=by simp[Region.wanted,hgd]
 rw[if_pos hw];exact wp_append_own' s x t ho base e i z bytes ht hi hz hsize hby hzs v n xs hs hown A m c news hx hl hnews h1 h63 hbytes hbase h
theorem qJd{w:World}{t:TypeId}{u:Value} : ∀j (x:Value),[u][j]? = some x→(w.alloc (.cells #[u] t)).cell? (Addr.add ⟨w.heap.size,0,none⟩ j)=some x:=by
 intro j x hx;cases j with
 | zero =>
  simp only[List.getElem?_cons_zero,Option.some.injEq]at hx;subst hx;exact(At.new w t #[u]).cell 0
 | succ j=>simp at hx
end
open Go.RowKit
def Sln(w:World)(v:Value)(size:Nat)(xs:List (List Value)):Prop :=
 ∃A c,v=.slice A xs.length c∧(xs≠[]→∃b o,A=some ⟨b,o,none⟩∧∀(i:Nat) (row:List Value),xs[i]? = some row→∀(j:Nat) (x:Value),row[j]? = some x→w.cell? ⟨b,o+i * size+j,none⟩=some x)
section
variable{S:Nat→Prop}{w w':World}{v:Value}{size:Nat}{xs:List (List Value)}
theorem Sln.chg(h:Sln w v size xs)(he:Chg S w w')(hS:∀b o n c,v=.slice (some ⟨b,o,none⟩) n c→xs≠[]→¬ S b):Sln w' v size xs:=by
 obtain⟨A,c,hv,hx⟩:=h;refine⟨A,c,hv,fun hn=>?_⟩
 obtain⟨b,o,rfl,hc⟩:=hx hn;refine⟨b,o,rfl,fun i row hi j x hj=>?_⟩
 have h0:=hc i row hi j x hj;exact(he.cell (p:=⟨b,o+i * size+j,none⟩) (qZl h0) (hS _ _ _ _ hv hn)).trans h0
theorem Sln.ext(h:Sln w v size xs)(he:Ext w w'):Sln w' v size xs:=Sln.chg h he fun _ _ _ _ _ _ hh=>hh
theorem flat_get:∀ {rows:List (List Value)} {size:Nat} (_:∀r∈rows,r.length=size) {i j:Nat} {row:List Value} {x:Value},rows[i]? = some row→row[j]? = some x→rows.flatten[i * size+j]? = some x
 | [],_,_,_,_,_,_,hi,_=>by cases hi
 | r::rs,size,h,0,j,row,x,hi,hj=>by
  simp only[List.getElem?_cons_zero,Option.some.injEq]at hi;subst hi;have hl:=h r (List.mem_cons_self ..);have hjl:j<r.length:=(List.getElem?_eq_some_iff.1 hj).1;rw[Nat.zero_mul,Nat.zero_add,List.flatten_cons,List.getElem?_append_left hjl];exact hj
 | r::rs,size,h,i+1,j,row,x,hi,hj=>by
  have hl:=h r (List.mem_cons_self ..);rw[List.getElem?_cons_succ]at hi;rw[List.flatten_cons,List.getElem?_append_right (by rw[hl,Nat.add_mul];omega),hl,show(i+1) * size+j - size=i * size+j by rw[Nat.add_mul];omega];exact flat_get (fun r hr=>h r (List.mem_cons_of_mem _ hr)) hi hj
theorem Sln.of_own{base:Nat}{e:TypeId}{n:Nat}(h:w.ownsRow base e size v n xs.flatten)(hr:∀r∈xs,r.length=size)(hn:xs.length=n):Sln w v size xs:=by
 rcases h.2 with⟨rfl,h0⟩|⟨g,cap,cur,rfl,hb,hg,h1,h2,h3,h4⟩
 ·obtain rfl:xs=[]:=List.eq_nil_of_length_eq_zero (by omega);exact⟨none,0,rfl,fun hh=>absurd rfl hh⟩
 ·refine⟨some ⟨g,0,none⟩,cap,by rw[hn],fun _=>⟨g,0,rfl,fun i row hi j x hj=>?_⟩⟩
  have h5:=flat_get hr hi hj;rw[←h4,List.getElem?_take]at h5
  split at h5
  ·rw[World.cell?,hg];simpa using h5
  ·cases h5
end
open Go.RowKit
section
variable{P:Program}{ops:Array Oper}{rest:List Oper}{o:Oper}{a:Act}{Q:Exit→Act→World→Prop}
theorem qQn(w0:World){base:Nat}{e:TypeId}{size:Nat}{v:Value}{n:Nat}{xs:List Value}(hown:w0.ownsRow base e size v n xs){T:TypeId}{cs:Array Value}{z:Value}{bytes:Nat}
  (t:TypeId) (ht:P.underlying t=some (.slice e)) (hinfo:(P.info? e).map (fun i=>(i.zero,i.size,i.bytes))=some (some z,size,bytes)) (hone:cs.toList.all Value.oneCell'=true)
  (hzs:z.cells.size=size) (hsz:0<size) (hby:bytes≤128) (hcs:cs.size=size) (hn:n<1000000000000) (hbase:base≤w0.heap.size)
  (hgd:o.guard=none) (s x:Operand) (ho:o.op=.call { callee:=.builtin .append,args:=#[s,x],argTypes:=#[t,t] }) (hs:a.eval s=v) (hx:a.eval x=.slice (some ⟨w0.heap.size,0,none⟩) 1 1)
  (h:∀v' w',w'.ownsRow base e size v' (n+1) (xs++cs.toList)→Chg (fun k=>some k=v.ownBlock) w0 w'→wpList P ops Q rest (a.put o.dst v') w') :
  wpList P ops Q (o::rest) a (w0.alloc (.cells cs T)):=by
 obtain⟨i,hi,h0,h1,h2⟩:∃i,P.info? e=some i∧i.zero=some z∧i.size=size∧i.bytes=bytes:=by
  cases hp:P.info? e with
  | none=>rw[hp]at hinfo;cases hinfo
  | some i =>
   rw[hp]at hinfo;simp only[Option.map_some,Option.some.injEq,Prod.mk.injEq]at hinfo;exact⟨i,rfl,hinfo.1,hinfo.2.1,hinfo.2.2⟩
 have hA:=At.new w0 T cs;refine wpList_append_own _ hgd s x t ho base e i z size bytes ht hi h0 h1 h2 hzs hsz v n xs hs (hown.alloc _) ⟨w0.heap.size,0,none⟩ 1 1 cs.toList hx (by simp[hcs]) (fun j u hu=>?_) (fun u hu=>List.all_eq_true.1 hone u hu) (by unfold maxLen;omega) ?_ ?_ (fun v' w' h3 h4 _=>h v' w' h3 ?_)
 ·have hq:=hA.cell j;rw[Go.WideShapes.add_plain,Nat.zero_add,hq];simpa using hu
 ·have:(n+1) * bytes≤1000000000000 * 128:=Nat.mul_le_mul (by omega) hby
  omega
 ·have:=((Ext.refl w0).alloc (.cells cs T)).size
  omega
 ·exact((Ext.refl w0).alloc (.cells cs T)).chg_trans (Chg.of_grown h4)
theorem qZ6(w0:World){base:Nat}{e:TypeId}{size:Nat}{v:Value}{n:Nat}{xs:List Value}(hown:w0.ownsRow base e size v n xs){T:TypeId}{cs:Array Value}{z:Value}{bytes:Nat}
  (t:TypeId) (ht:P.underlying t=some (.slice e)) (hinfo:(P.info? e).map (fun i=>(i.zero,i.size,i.bytes))=some (some z,size,bytes)) (hone:cs.toList.all Value.oneCell'=true)
  (hzs:z.cells.size=size) (hsz:0<size) (hby:bytes≤128) (hcs:cs.size=size) (hn:n<1000000000000) (hbase:base≤w0.heap.size)
  (hgd:o.guard=none) (s x:Operand) (ho:o.op=.call { callee:=.builtin .append,args:=#[s,x],argTypes:=#[t,t] }) (hs:a.eval s=v) (hx:a.eval x=.slice (some ⟨w0.heap.size,0,none⟩) 1 1)
  (h:∀v' w',w'.ownsRow base e size v' (n+1) (xs++cs.toList)→Chg (fun k=>some k=v.ownBlock) w0 w'→(v'.ownBlock=v.ownBlock∨v'.ownBlock=some (w0.heap.size+1))→wpList P ops Q rest (a.put o.dst v') w') :
  wpList P ops Q (o::rest) a (w0.alloc (.cells cs T)):=by
 obtain⟨i,hi,h0,h1,h2⟩:∃i,P.info? e=some i∧i.zero=some z∧i.size=size∧i.bytes=bytes:=by
  cases hp:P.info? e with
  | none=>rw[hp]at hinfo;cases hinfo
  | some i =>
   rw[hp]at hinfo;simp only[Option.map_some,Option.some.injEq,Prod.mk.injEq]at hinfo;exact⟨i,rfl,hinfo.1,hinfo.2.1,hinfo.2.2⟩
 have hA:=At.new w0 T cs;refine wpList_append_own_at _ hgd s x t ho base e i z size bytes ht hi h0 h1 h2 hzs hsz v n xs hs (hown.alloc _) ⟨w0.heap.size,0,none⟩ 1 1 cs.toList hx (by simp[hcs]) (fun j u hu=>?_) (fun u hu=>List.all_eq_true.1 hone u hu) (by unfold maxLen;omega) ?_ ?_ (fun v' w' h3 h4 _ h5=>h v' w' h3 ?_ (by simpa using h5))
 ·have hq:=hA.cell j;rw[Go.WideShapes.add_plain,Nat.zero_add,hq];simpa using hu
 ·have:(n+1) * bytes≤1000000000000 * 128:=Nat.mul_le_mul (by omega) hby
  omega
 ·have:=((Ext.refl w0).alloc (.cells cs T)).size
  omega
 ·exact((Ext.refl w0).alloc (.cells cs T)).chg_trans (Chg.of_grown h4)
end
section
variable{P:Program}{ops:Array Oper}{rest:List Oper}{o:Oper}{a:Act}{Q:Exit→Act→World→Prop}
end
theorem Chg.own_ext{w w' w0:World}{base:Nat}{e:TypeId}{size:Nat}{v:Value}{n:Nat}{xs:List Value}(hE:Ext w0 w)(h:Chg (fun k=>some k=v.ownBlock) w w')(hown:w.ownsRow base e size v n xs)(hb:w0.heap.size≤base):Ext w0 w' :=
 Chg.mono (hE.chg_trans h) fun j hj h=>by have:=qJD hown j h;omega
open Go.RowKit
def uhi(v:Nat):Nat→List UInt8
 | 0=>[]
 | k+1=>UInt8.ofNat (v / 128 ^ (k+1) % 128+128)::uhi v k
def qQ9(v:Nat):Nat:=(Lib.bitLen (v ||| 1) - 1) / 7
def qQ1(v:Nat):List UInt8:=uhi v (qQ9 v)++[UInt8.ofNat (v % 128)]
def qQw(n:Int):List UInt8:=qQ1 (max n 0).toNat
def qZh(s:ByteArray):List UInt8:=qQw s.size++s.data.toList
def qXD(l:List Int):List UInt8:=qQw l.length++l.flatMap qQw
structure Dc where
 rest:List UInt8
 err:Int
def Dc.fail(d:Dc)(e:Int):Dc:=if d.err=0 then { d with err:=e } else d
def Dc.next(d:Dc):Option UInt8×Dc :=
 if d.err=0 then(match d.rest with | []=>(none, { d with err:=2 })|c::r=>(some c, { d with rest:=r }))else(none,d)
def qZO(first:Bool)(v:Nat):List UInt8→Nat×Dc
 | []=>(0,⟨[],2⟩)
 | c::r=>if(first&&c == 128)||decide (144115188075855871<v)then(0,⟨r,3⟩)
  else if c.toNat<128 then(v * 128+c.toNat % 128,⟨r,0⟩)else qZO false (v * 128+c.toNat % 128) r
def Dc.u(d:Dc):Nat×Dc:=if d.err=0 then qZO true 0 d.rest else(0,d)
def Dc.i(d:Dc)(most:Int):Nat×Dc:=if max most 0<(d.u.1:Int)then(0,d.u.2.fail 11)else d.u
def Dc.b(d:Dc):Bool×Dc:=match d.next with
 | (none,e)=>(false,e)
 | (some c,e)=>if 1<c.toNat then(false,e.fail 3)else(c == 1,e)
def Dc.s(d:Dc)(most:Int):List UInt8×Dc :=
 if(d.i most).2.err=0 then
  if(d.i most).2.rest.length<(d.i most).1 then([], { (d.i most).2 with err:=2 })
  else((d.i most).2.rest.take (d.i most).1, { (d.i most).2 with rest:=(d.i most).2.rest.drop (d.i most).1 })
 else([],(d.i most).2)
def qQt(each:Int):Nat→Dc→Option (List Int)×Dc
 | 0,d=>(some [],d)
 | n+1,d=>if(d.i each).2.err=0 then(match qQt each n (d.i each).2 with|(none,e)=>(none,e)|(some l,e)=>(some (((d.i each).1:Int)::l),e))else(none,(d.i each).2)
def Dc.list(d:Dc)(most each:Int):List Int×Dc:=(((qQt each (d.i most).1 (d.i most).2).1).getD [],(qQt each (d.i most).1 (d.i most).2).2)
def Dc.done(d:Dc):Dc:=if d.rest=[]then d else d.fail 3
theorem qJE:∀(f x:Nat),x<2 ^ f→x<2 ^ Lib.bitLenAux f x
 | 0,x,h=>by simpa[Lib.bitLenAux]using h
 | f+1,x,h=>by
  unfold Lib.bitLenAux
  by_cases h0:x=0
  ·simp[h0]
  ·rw[if_neg h0,Nat.pow_add]
   have:=qJE f (x / 2) (by rw[Nat.pow_succ]at h;omega)
   omega
theorem qJF:∀(f x:Nat),0<x→x<2 ^ f→2 ^ (Lib.bitLenAux f x - 1)≤x
 | 0,x,h,h2=>by simp at h2;omega
 | f+1,x,h,h2=>by
  unfold Lib.bitLenAux;rw[if_neg (by omega)]
  by_cases h1:x / 2=0
  ·have:Lib.bitLenAux f (x / 2)=0:=by rw[h1];cases f <;> simp[Lib.bitLenAux]
   rw[this];simp;omega
  ·have ih:=qJF f (x / 2) (by omega) (by rw[Nat.pow_succ]at h2;omega)
   have hp:0<Lib.bitLenAux f (x / 2):=by
    cases f with
    | zero=>simp at h2;omega
    | succ f=>unfold Lib.bitLenAux;rw[if_neg h1];omega
   have e:1+Lib.bitLenAux f (x / 2) - 1=(Lib.bitLenAux f (x / 2) - 1)+1:=by omega
   rw[e,Nat.pow_succ];omega
theorem or_one(v:Nat):(v ||| 1=v∧v % 2=1)∨(v ||| 1=v+1∧v % 2=0):=by
 have h := @Nat.or_mod_two_eq_one v 1
 have h1:v ||| 1=2 * (v / 2)+1:=by
  have e1:(v ||| 1) / 2=v / 2:=by rw[Nat.or_div_two];simp
  have e2:(v ||| 1) % 2=1:=by simp[Nat.or_mod_two_eq_one]
  omega
 rcases Nat.mod_two_eq_zero_or_one v with h2|h2
 ·right;exact⟨by omega,h2⟩
 ·left;exact⟨by omega,h2⟩
theorem qJG{v:Nat}(hv:v<18446744073709551616):v<128 ^ (qQ9 v+1)∧(qQ9 v=0∨128 ^ qQ9 v≤v):=by
 have ho:=or_one v;have hlt:v ||| 1<2 ^ 64:=by rcases ho with h|h <;> omega
 have hpos:0<v ||| 1:=by omega
 have h1:=qJE 64 (v ||| 1) hlt;have h2:=qJF 64 (v ||| 1) hpos hlt;unfold qQ9 Lib.bitLen;generalize Lib.bitLenAux 64 (v ||| 1)=L at h1 h2;have e128:∀k,(128:Nat) ^ k=2 ^ (7 * k):=fun k=>by rw[show(128:Nat)=2 ^ 7 from rfl,←Nat.pow_mul]
 constructor
 ·rw[e128]
  have:2 ^ L≤2 ^ (7 * ((L - 1) / 7+1)):=Nat.pow_le_pow_right (by omega) (by omega)
  omega
 ·by_cases hg:(L - 1) / 7=0
  ·exact .inl hg
  ·right
   rw[e128];have h3:2 ^ (7 * ((L - 1) / 7))≤2 ^ (L - 1):=Nat.pow_le_pow_right (by omega) (by omega)
   have h4:2 ^ (7 * ((L - 1) / 7)) % 2=0:=by
    have:7 * ((L - 1) / 7)=(7 * ((L - 1) / 7) - 1)+1:=by omega
    rw[this,Nat.pow_succ];omega
   omega
theorem ugroups_unique{v k:Nat}(hv:v<18446744073709551616)(h1:v<128 ^ (k+1))(h2:k=0∨128 ^ k≤v):qQ9 v=k:=by
 obtain⟨g1,g2⟩:=qJG hv;rcases Nat.lt_trichotomy (qQ9 v) k with h|h|h
 ·have:128 ^ (qQ9 v+1)≤128 ^ k:=Nat.pow_le_pow_right (by omega) (by omega)
  omega
 ·exact h
 ·have:128 ^ (k+1)≤128 ^ qQ9 v:=Nat.pow_le_pow_right (by omega) (by omega)
  omega
theorem qZG{n:Nat}(h:n<256):(UInt8.ofNat n).toNat=n:=by simp[UInt8.toNat_ofNat'];omega
theorem beq_128(c:UInt8):(c == 128)=decide (c.toNat=128):=by
 rw[Bool.eq_iff_iff];simp[←UInt8.toNat_inj]
theorem uloop_uhi(v:Nat)(hv:v<18446744073709551616)(r:List UInt8):∀(k:Nat) (first:Bool),(first=true→v / 128 ^ (k+1)=0∧(k=0∨1≤v / 128 ^ k))→qZO first (v / 128 ^ (k+1)) (uhi v k++UInt8.ofNat (v % 128)::r)=(v,⟨r,0⟩)
 | 0,first,hf=>by
  simp only[uhi,List.nil_append,Nat.zero_add,Nat.pow_one];rw[qZO,qZG (by omega),beq_128,qZG (by omega),if_neg (by simp;omega),if_pos (by omega)];simp only[Prod.mk.injEq,and_true];omega
 | k+1,first,hf=>by
  have hb:v / 128 ^ (k+1) % 128+128<256:=by omega
  have hd:v / 128 ^ (k+1+1)=v / 128 ^ (k+1) / 128:=by rw[Nat.pow_succ,Nat.div_div_eq_div_mul]
  have hle:v / 128 ^ (k+1)≤v / 128:=by
   rw[Nat.pow_succ,Nat.mul_comm,←Nat.div_div_eq_div_mul];exact Nat.div_le_self _ _
  rw[uhi,List.cons_append,qZO,qZG hb,beq_128,qZG hb,if_neg,if_neg (by omega)]
  ·have e:v / 128 ^ (k+1+1) * 128+(v / 128 ^ (k+1) % 128+128) % 128=v / 128 ^ (k+1):=by rw[hd];omega
   rw[e];exact uloop_uhi v hv r k false (fun h=>by cases h)
  ·simp only[Bool.or_eq_true,Bool.and_eq_true,decide_eq_true_eq,not_or,not_and];refine⟨fun h1=>?_,by omega⟩
   have:=hf h1
   have h2:v / 128 ^ (k+1) / 128=0:=by rw[←hd];exact this.1
   omega
theorem u_enc{v:Nat}(hv:v<18446744073709551616)(r:List UInt8):Dc.u ⟨qQ1 v++r,0⟩=(v,⟨r,0⟩):=by
 obtain⟨g1,g2⟩:=qJG hv;unfold Dc.u;rw[if_pos rfl];simp only;have h0:v / 128 ^ (qQ9 v+1)=0:=Nat.div_eq_of_lt g1
 have:=uloop_uhi v hv r (qQ9 v) true (fun _=>⟨h0,g2.imp id fun h=>(Nat.le_div_iff_mul_le (Nat.pow_pos (by omega))).2 (by simpa using h)⟩)
 rw[h0]at this;unfold qQ1;rw[List.append_assoc];exact this
theorem uloop_inv:∀(s:List UInt8) (first:Bool) (acc v:Nat) (r:List UInt8),qZO first acc s=(v,⟨r,0⟩) →
  ∃k,s=uhi v k++UInt8.ofNat (v % 128)::r∧acc=v / 128 ^ (k+1)∧v<18446744073709551616∧(first=true→acc=0→k=0∨128 ^ k≤v)
 | [],first,acc,v,r,h=>by simp[qZO]at h
 | c::s,first,acc,v,r,h=>by
  rw[qZO]at h
  split at h
  ·simp at h
  ·rename_i hc
   have hacc:acc≤144115188075855871:=by simp at hc;omega
   split at h
   ·rename_i hlt
    simp only[Prod.mk.injEq,Dc.mk.injEq,and_true]at h;obtain⟨rfl,rfl⟩:=h;refine⟨0,?_,by simp;omega,by omega,fun _ _=>.inl rfl⟩
    simp only[uhi,List.nil_append,List.cons.injEq,and_true];rw[←UInt8.toNat_inj,qZG (by omega)];omega
   ·rename_i hge
    have hc256:=c.toNat_lt;obtain⟨k,hs,ha,hv,_⟩:=uloop_inv s false _ v r h;have hd:v / 128 ^ (k+1+1)=v / 128 ^ (k+1) / 128:=by rw[Nat.pow_succ,Nat.div_div_eq_div_mul]
    refine⟨k+1,?_,by rw[hd,←ha];omega,hv,fun hf h0=>.inr ?_⟩
    ·rw[uhi,List.cons_append,←hs,←ha]
     congr 1
     rw[←UInt8.toNat_inj,qZG (by omega)];omega
    ·subst hf h0
     have hne:c.toNat≠128:=by
      intro e
      apply hc
      simp[beq_128,e]
     have h1:1≤v / 128 ^ (k+1):=by rw[←ha];omega
     have:=(Nat.le_div_iff_mul_le (Nat.pow_pos (n:=k+1) (show 0<128 by omega))).1 h1
     simpa using this
theorem u_inv{s r:List UInt8}{v:Nat}(h:Dc.u ⟨s,0⟩=(v,⟨r,0⟩)):s=qQ1 v++r∧v<18446744073709551616:=by
 unfold Dc.u at h;rw[if_pos rfl]at h;obtain⟨k,hs,ha,hv,hf⟩:=uloop_inv _ _ _ _ _ h;refine⟨?_,hv⟩
 have hk:qQ9 v=k:=ugroups_unique hv (by
  rcases Nat.lt_or_ge v (128 ^ (k+1))with h|h
  ·exact h
  ·have:=(Nat.le_div_iff_mul_le (Nat.pow_pos (n:=k+1) (show 0<128 by omega))).2 (show 1 * 128 ^ (k+1)≤v by omega)
   omega) (hf rfl rfl)
 unfold qQ1;rw[hk,List.append_assoc];exact hs
theorem qZW{n most:Int}(_h0:0≤n)(h1:n≤most)(hm:most≤9223372036854775807)(r:List UInt8):Dc.i ⟨qQw n++r,0⟩ most=(n.toNat,⟨r,0⟩):=by
 unfold Dc.i qQw;rw[u_enc (by omega),if_neg (by simp only;omega)];simp only[Prod.mk.injEq,and_true];omega
theorem Dc.fail_err{d:Dc}{e:Int}(he:e≠0):(d.fail e).err≠0:=by
 unfold Dc.fail;split
 ·exact he
 ·assumption
theorem i_inv{s r:List UInt8}{v:Nat}{most:Int}(h:Dc.i ⟨s,0⟩ most=(v,⟨r,0⟩)):s=qQw v++r∧((v:Int)≤max most 0):=by
 unfold Dc.i at h
 split at h
 ·simp only[Prod.mk.injEq]at h;exact absurd (congrArg Dc.err h.2) (Dc.fail_err (by omega))
 ·rename_i hg
  rw[h]at hg;simp only at hg
  have:=(u_inv h).1
  unfold qQw;exact⟨by rw[show(max (v:Int) 0).toNat=v from by omega];exact this,by omega⟩
theorem Dc.u_err{d:Dc}(h:d.err≠0):d.u=(0,d):=by unfold Dc.u;rw[if_neg h]
theorem Dc.i_err{d:Dc}(h:d.err≠0)(m:Int):d.i m=(0,d):=by unfold Dc.i;rw[Dc.u_err h,if_neg (by simp only;omega)]
theorem Dc.s_err{d:Dc}(h:d.err≠0)(m:Int):d.s m=([],d):=by unfold Dc.s;rw[Dc.i_err h,if_neg h]
theorem Dc.list_err{d:Dc}(h:d.err≠0)(m e:Int):d.list m e=([],d):=by unfold Dc.list;rw[Dc.i_err h];rfl
theorem Dc.fail_stays{d:Dc}(h:d.err≠0)(e:Int):d.fail e=d:=by unfold Dc.fail;rw[if_neg h]
theorem Dc.done_stays{d:Dc}(h:d.err≠0):d.done=d:=by
 unfold Dc.done;split
 ·rfl
 ·exact Dc.fail_stays h 3
theorem s_enc{s:ByteArray}{most:Int}(h1:(s.size:Int)≤most)(hm:most≤9223372036854775807)(r:List UInt8):Dc.s ⟨qZh s++r,0⟩ most=(s.data.toList,⟨r,0⟩):=by
 unfold Dc.s qZh;rw[List.append_assoc,qZW (by omega) h1 hm,if_pos rfl];have hl:s.data.toList.length=s.size:=by simp
 simp only[Int.toNat_natCast];rw[if_neg (by rw[List.length_append,hl];omega),←hl,List.take_left,List.drop_left]
theorem s_inv{t r:List UInt8}{x:List UInt8}{most:Int}(h:Dc.s ⟨t,0⟩ most=(x,⟨r,0⟩)):t=qZh ⟨x.toArray⟩++r∧((x.length:Int)≤max most 0):=by
 unfold Dc.s at h;generalize hi:Dc.i ⟨t,0⟩ most=I at h;obtain⟨n,⟨r1,e1⟩⟩:=I;simp only at h
 split at h
 ·rename_i he
  subst he
  split at h
  ·simp at h
  ·rename_i hl
   simp only[Prod.mk.injEq,Dc.mk.injEq,and_true]at h;obtain⟨rfl,rfl⟩:=h;obtain⟨h1,h2⟩:=i_inv hi;have hn:(r1.take n).length=n:=by rw[List.length_take];omega
   refine⟨?_,by rw[hn];exact h2⟩
   unfold qZh;have hs:(⟨(r1.take n).toArray⟩:ByteArray).size=n:=by show(r1.take n).toArray.size=n;simpa using hn
   rw[hs,List.append_assoc];simp only[List.take_append_drop];exact h1
 ·rename_i he
  simp only[Prod.mk.injEq,Dc.mk.injEq]at h;exact absurd h.2.2 he
theorem qJH{each:Int}(hm:each≤9223372036854775807)(r:List UInt8):∀l:List Int,(∀x∈l,0≤x∧x≤each)→qQt each l.length ⟨l.flatMap qQw++r,0⟩=(some l,⟨r,0⟩)
 | [],_=>by simp[qQt]
 | x::l,h=>by
  have hx:=h x (List.mem_cons_self ..);have ih:=qJH hm r l fun y hy=>h y (List.mem_cons_of_mem _ hy)
  rw[List.length_cons,qQt,List.flatMap_cons,List.append_assoc,qZW hx.1 hx.2 hm,if_pos rfl];simp only[ih];rw[show((x.toNat:Nat):Int)=x from by omega]
theorem list_enc{l:List Int}{most each:Int}(h1:(l.length:Int)≤most)(hm:most≤9223372036854775807)(he:each≤9223372036854775807)(h:∀x∈l,0≤x∧x≤each)(r:List UInt8) :
  Dc.list ⟨qXD l++r,0⟩ most each=(l,⟨r,0⟩):=by
 unfold Dc.list qXD;rw[List.append_assoc,qZW (by omega) h1 hm];simp only[Int.toNat_natCast];rw[qJH he r l h];rfl
theorem qJI{each:Int} : ∀(n:Nat) (t r:List UInt8) (l:List Int) (e:Int),e=0→qQt each n ⟨t,e⟩=(some l,⟨r,0⟩)→t=l.flatMap qQw++r∧l.length=n∧∀x∈l,0≤x∧x≤max each 0
 | 0,t,r,l,e,he,h=>by
  simp only[qQt,Prod.mk.injEq,Option.some.injEq,Dc.mk.injEq]at h;obtain⟨rfl,rfl,_⟩:=h;simp
 | n+1,t,r,l,e,he,h=>by
  subst he;rw[qQt]at h;generalize hi:Dc.i ⟨t,0⟩ each=I at h;obtain⟨x,⟨r1,e1⟩⟩:=I;simp only at h
  split at h
  ·rename_i he
   subst he;generalize hl:qQt each n ⟨r1,0⟩=Z at h;obtain⟨o,D⟩:=Z;cases o with
   | none=>simp at h
   | some l' =>
    simp only[Prod.mk.injEq,Option.some.injEq]at h;obtain⟨rfl,rfl⟩:=h;obtain⟨a1,a2,a3⟩:=qJI n r1 r l' 0 rfl hl;obtain⟨b1,b2⟩:=i_inv hi;refine⟨by rw[List.flatMap_cons,List.append_assoc,←a1];exact b1,by simp[a2],fun y hy=>?_⟩
    rcases List.mem_cons.1 hy with rfl|hy
    ·exact⟨by omega,b2⟩
    ·exact a3 y hy
  ·simp at h
theorem qJe{each:Int} : ∀(n:Nat) (d:Dc),(qQt each n d).1=none→(qQt each n d).2.err≠0
 | 0,d,h=>by simp[qQt]at h
 | n+1,d,h=>by
  rw[qQt]at h⊢
  split at h
  ·rename_i he
   rw[if_pos he];have ih:=qJe (each:=each) n (d.i each).2;generalize qQt each n (d.i each).2=Z at h ih;obtain⟨o,D⟩:=Z;cases o with
   | none=>exact ih rfl
   | some l=>simp at h
  ·rename_i he
   rw[if_neg he];exact he
theorem list_inv{t r:List UInt8}{l:List Int}{most each:Int}(h:Dc.list ⟨t,0⟩ most each=(l,⟨r,0⟩)):t=qXD l++r∧((l.length:Int)≤max most 0)∧∀x∈l,0≤x∧x≤max each 0:=by
 unfold Dc.list at h;generalize hi:Dc.i ⟨t,0⟩ most=I at h;obtain⟨n,⟨r1,e1⟩⟩:=I;simp only at h
 by_cases he:e1=0
 ·subst he;generalize hl:qQt each n ⟨r1,0⟩=Z at h;obtain⟨o,D⟩:=Z;simp only[Prod.mk.injEq]at h;obtain⟨h1,rfl⟩:=h;cases o with
  | none=>exact absurd rfl (by have:=qJe (each:=each) n ⟨r1,0⟩ (by rw[hl]);rw[hl]at this;exact this)
  | some l' =>
   simp only[Option.getD_some]at h1;subst h1;obtain⟨a1,a2,a3⟩:=qJI n r1 r l' 0 rfl hl;obtain⟨b1,b2⟩:=i_inv hi;refine⟨?_,by rw[a2];exact b2,a3⟩
   unfold qXD;rw[a2,List.append_assoc,←a1];exact b1
 ·exfalso
  cases n with
  | zero =>
   simp only[qQt,Prod.mk.injEq,Dc.mk.injEq]at h;exact he h.2.2
  | succ n =>
   rw[qQt,Dc.i_err (d:=⟨r1,e1⟩) he,if_neg he]at h;simp only[Prod.mk.injEq,Dc.mk.injEq]at h;exact he h.2.2
section
variable{q:List UInt8}
theorem listLoop_snd{each:Int}(n:Nat)(d:Dc):(qQt each (n+1) d).2=if(d.i each).2.err=0 then(qQt each n (d.i each).2).2 else(d.i each).2:=by
 rw[qQt];split
 ·generalize qQt each n (d.i each).2=Z;obtain⟨o,D⟩:=Z;cases o <;> rfl
 ·rfl
theorem u_err0{d:Dc}(h:d.u.2.err=0):d.err=0:=by
 by_cases hd:d.err=0
 ·exact hd
 ·rw[Dc.u_err hd]at h;exact h
theorem i_err0{d:Dc}{m:Int}(h:(d.i m).2.err=0):d.err=0:=by
 by_cases hd:d.err=0
 ·exact hd
 ·rw[Dc.i_err hd]at h;exact h
theorem s_err0{d:Dc}{m:Int}(h:(d.s m).2.err=0):d.err=0:=by
 by_cases hd:d.err=0
 ·exact hd
 ·rw[Dc.s_err hd]at h;exact h
theorem list_err0{d:Dc}{m e:Int}(h:(d.list m e).2.err=0):d.err=0:=by
 by_cases hd:d.err=0
 ·exact hd
 ·rw[Dc.list_err hd]at h;exact h
end
structure Cmd where
 kind:Int
 client:Int
 seq:Int
 name:ByteArray
 blob:Nat
 size:Int
 sum:Nat
 disks:List Int
 pool:Int
 vol:Int
 at_:Int
def Cmd.zero:Cmd:=⟨0,0,0,ByteArray.empty,0,0,0,[],0,0,0⟩
def qQd(c:Cmd)(dv:Value):Value:=.agg #[.int .i64 c.kind,.int .i64 c.client,.int .i64 c.seq,.string c.name,.int .u64 (c.blob:Int),.int .i64 c.size,.int .u32 (c.sum:Int),dv,.int .i64 c.pool,.int .i64 c.vol,.int .i64 c.at_]
def upB(n l:Int):Bool:=decide (0≤n)&&decide (n≤l)
def qZp(ds:List Int)(k:Nat):Bool:=upB (ds.getD k 0) 5&&(k == 0||decide (ds.getD (k - 1) 0<ds.getD k 0))
def qZs(ds:List Int):Bool:=(List.range ds.length).all (qZp ds)
def Cmd.good(c:Cmd):Bool :=
 upB c.kind 14&&(c.kind != 0)&&qZs c.disks&&upB c.client 1073741824&&upB c.seq 1073741824&&decide (c.name.size≤32)&&upB c.size 4000&&upB c.pool 1&&upB c.vol 11&&upB c.at_ 1073741824
structure Cmd.Wf (c:Cmd):Prop where
 kind : -9223372036854775808≤c.kind∧c.kind≤9223372036854775807
 client : -9223372036854775808≤c.client∧c.client≤9223372036854775807
 seq : -9223372036854775808≤c.seq∧c.seq≤9223372036854775807
 blob:c.blob<18446744073709551616
 size : -9223372036854775808≤c.size∧c.size≤9223372036854775807
 sum:c.sum<4294967296
 pool : -9223372036854775808≤c.pool∧c.pool≤9223372036854775807
 vol : -9223372036854775808≤c.vol∧c.vol≤9223372036854775807
 at_ : -9223372036854775808≤c.at_∧c.at_≤9223372036854775807
 disks:∀d∈c.disks, -9223372036854775808≤d∧d≤9223372036854775807
def Cmd.enc1(c:Cmd):List UInt8:=[c.kind,c.client,c.seq].flatMap qQw++[c.name].flatMap qZh++[c.blob].flatMap qQ1++[c.size].flatMap qQw++[c.sum].flatMap qQ1
def Cmd.enc(c:Cmd):List UInt8:=c.enc1++qXD c.disks++[c.pool,c.vol,c.at_].flatMap qQw
def craw(d:Dc):Cmd×Nat×Dc :=
 let k:=d.i 14
 let cl:=k.2.i 1073741824
 let sq:=cl.2.i 1073741824
 let nm:=sq.2.s 32
 let bl:=nm.2.u
 let sz:=bl.2.i 4000
 let su:=sz.2.u
 let dk:=su.2.list 6 5
 let po:=dk.2.i 1
 let vo:=po.2.i 11
 let at_:=vo.2.i 1073741824
 (⟨k.1,cl.1,sq.1,⟨nm.1.toArray⟩,bl.1,sz.1,su.1 % 4294967296,dk.1,po.1,vo.1,at_.1⟩,su.1,at_.2)
def cend(r:Cmd×Nat×Dc):Dc:=(if(decide (4294967295<r.2.1) || !r.1.good)=true then r.2.2.fail 3 else r.2.2).done
def qQ2(s:List UInt8):Cmd×Int:=if(cend (craw ⟨s,0⟩)).err=0 then((craw ⟨s,0⟩).1,0)else(Cmd.zero,(cend (craw ⟨s,0⟩)).err)
theorem upB_iff{n l:Int} : upB n l=true↔0≤n∧n≤l:=by unfold upB;simp
theorem Cmd.good_iff{c:Cmd} : c.good=true↔(0≤c.kind∧c.kind≤14)∧c.kind≠0∧qZs c.disks=true∧(0≤c.client∧c.client≤1073741824)∧(0≤c.seq∧c.seq≤1073741824)∧c.name.size≤32 ∧
  (0≤c.size∧c.size≤4000)∧(0≤c.pool∧c.pool≤1)∧(0≤c.vol∧c.vol≤11)∧(0≤c.at_∧c.at_≤1073741824):=by
 unfold Cmd.good;simp only[Bool.and_eq_true,upB_iff,bne_iff_ne,decide_eq_true_eq]
 constructor
 ·rintro⟨⟨⟨⟨⟨⟨⟨⟨⟨a,b⟩,c⟩,d⟩,e⟩,f⟩,g⟩,h⟩,i⟩,j⟩;exact⟨a,b,c,d,e,f,g,h,i,j⟩
 ·rintro⟨a,b,c,d,e,f,g,h,i,j⟩;exact⟨⟨⟨⟨⟨⟨⟨⟨⟨a,b⟩,c⟩,d⟩,e⟩,f⟩,g⟩,h⟩,i⟩,j⟩
theorem qJf{ds:List Int}(h:qZs ds=true):∀d∈ds,0≤d∧d≤5:=by
 intro d hd;obtain⟨k,hk,rfl⟩:=List.mem_iff_getElem.1 hd
 have:=List.all_eq_true.1 h k (List.mem_range.2 hk)
 unfold qZp at this;rw[show ds.getD k 0=ds[k]from by rw[List.getD_eq_getElem?_getD,List.getElem?_eq_getElem hk];rfl]at this;simp only[Bool.and_eq_true,upB_iff]at this;exact this.1
theorem qQ8{ds:List Int}(h:qZs ds=true):ds.length≤6:=by
 have hg:∀k (hk:k<ds.length),ds.getD k 0=ds[k]:=fun k hk=>by rw[List.getD_eq_getElem?_getD,List.getElem?_eq_getElem hk];rfl
 have key:∀k (hk:k<ds.length),(k:Int)≤ds[k]:=by
  intro k
  induction k with
  | zero=>intro hk;have:=qJf h _ (List.getElem_mem hk);omega
  | succ k ih =>
   intro hk;have h1:=ih (by omega)
   have:=List.all_eq_true.1 h (k+1) (List.mem_range.2 hk)
   unfold qZp at this;rw[hg (k+1) hk]at this;simp only[Bool.and_eq_true,Bool.or_eq_true,beq_iff_eq,decide_eq_true_eq,Nat.add_sub_cancel]at this;rw[hg k (by omega)]at this;rcases this.2 with h2|h2
   ·omega
   ·omega
 rcases Nat.lt_or_ge 6 ds.length with hl|hl
 ·have h1:=key 6 hl;have h2:=qJf h _ (List.getElem_mem hl);omega
 ·exact hl
theorem craw_enc{c:Cmd}(hg:c.good=true)(hw:c.Wf)(r:List UInt8):craw ⟨c.enc++r,0⟩=(c,c.sum,⟨r,0⟩):=by
 obtain⟨h1,_,h3,h4,h5,h6,h7,h8,h9,h10⟩:=Cmd.good_iff.1 hg
 have e:c.enc++r=qQw c.kind++(qQw c.client++(qQw c.seq++(qZh c.name++(qQ1 c.blob++(qQw c.size++(qQ1 c.sum++(qXD c.disks++(qQw c.pool++(qQw c.vol++(qQw c.at_++r)))))))))):=by
  simp[Cmd.enc,Cmd.enc1,List.append_assoc]
 have hs:=hw.sum;rw[e];unfold craw
 simp only[qZW h1.1 h1.2 (by decide),qZW h4.1 h4.2 (by decide),qZW h5.1 h5.2 (by decide),s_enc (s:=c.name) (most:=32) (by omega) (by decide),u_enc hw.blob,qZW h7.1 h7.2 (by decide),u_enc (v:=c.sum) (by omega),
  list_enc (l:=c.disks) (most:=6) (each:=5) (by have:=qQ8 h3;omega) (by decide) (by decide) (qJf h3),qZW h8.1 h8.2 (by decide),qZW h9.1 h9.2 (by decide),qZW h10.1 h10.2 (by decide)]
 obtain⟨kind,client,seq,name,blob,size,sum,disks,pool,vol,at_⟩:=c;simp only at *;refine congrArg (fun x=>(x,sum,(⟨r,0⟩:Dc))) ?_;rw[Nat.mod_eq_of_lt hs];simp only[Cmd.mk.injEq];refine⟨by omega,by omega,by omega,?_,?_,by omega,?_,?_,by omega,by omega,by omega⟩ <;> simp
theorem cread_enc{c:Cmd}(hg:c.good=true)(hw:c.Wf):qQ2 c.enc=(c,0):=by
 have h:=craw_enc hg hw [];rw[List.append_nil]at h;have hs:=hw.sum;have hc:(decide (4294967295<c.sum) || !c.good)=false:=by rw[hg];simp;omega
 unfold qQ2 cend;rw[h];simp only[hc];rfl
theorem done_zero{d:Dc}(h:d.done.err=0):d.rest=[]∧d.err=0:=by
 unfold Dc.done at h
 split at h
 ·exact⟨by assumption,h⟩
 ·exact absurd h (Dc.fail_err (by decide))
theorem cread_inv{s:List UInt8}{c:Cmd}(h:qQ2 s=(c,0)):c.good=true∧c.enc=s:=by
 unfold qQ2 at h
 split at h
 ·rename_i he
  simp only[Prod.mk.injEq,and_true]at h;unfold cend at he;obtain⟨h1,h2⟩:=done_zero he
  split at h1
  ·rename_i hc
   rw[if_pos hc]at h2;exact absurd h2 (Dc.fail_err (by decide))
  ·rename_i hc
   rw[if_neg hc]at h2;simp only[Bool.or_eq_true,not_or,decide_eq_true_eq,Bool.not_eq_true',Bool.not_eq_false]at hc;obtain⟨hs,hg⟩:=hc;rw[h]at hg;refine⟨hg,?_⟩
   subst h;unfold craw at h1 h2 hs⊢;simp only at h1 h2 hs⊢;generalize hd0:(⟨s,0⟩:Dc)=d0 at *;have z11:=h2;have z10:=i_err0 z11;have z9:=i_err0 z10;have z8:=i_err0 z9;have z7:=list_err0 z8;have z6:=u_err0 z7;have z5:=i_err0 z6;have z4:=u_err0 z5;have z3:=s_err0 z4;have z2:=i_err0 z3;have z1:=i_err0 z2;have mk:∀d:Dc,d.err=0→d=⟨d.rest,0⟩:=fun d hd=>by obtain⟨x,y⟩:=d;simp only at hd;rw[hd]
   have stepI:∀(d:Dc) (m:Int),d.err=0→(d.i m).2.err=0→d.rest=qQw ((d.i m).1:Int)++(d.i m).2.rest:=fun d m h h'=>by
    have e1:=mk d h
    have:=i_inv (s:=d.rest) (r:=(d.i m).2.rest) (v:=(d.i m).1) (most:=m) (by rw[←e1,←mk _ h'])
    exact this.1
   have stepU:∀(d:Dc),d.err=0→d.u.2.err=0→d.rest=qQ1 d.u.1++d.u.2.rest:=fun d h h'=>by
    have e1:=mk d h;exact(u_inv (s:=d.rest) (r:=d.u.2.rest) (v:=d.u.1) (by rw[←e1,←mk _ h'])).1
   have stepS:∀(d:Dc) (m:Int),d.err=0→(d.s m).2.err=0→d.rest=qZh ⟨(d.s m).1.toArray⟩++(d.s m).2.rest:=fun d m h h'=>by
    have e1:=mk d h;exact(s_inv (t:=d.rest) (r:=(d.s m).2.rest) (x:=(d.s m).1) (most:=m) (by rw[←e1,←mk _ h'])).1
   have stepL:∀(d:Dc) (m e:Int),d.err=0→(d.list m e).2.err=0→d.rest=qXD (d.list m e).1++(d.list m e).2.rest:=fun d m e h h'=>by
    have e1:=mk d h;exact(list_inv (t:=d.rest) (r:=(d.list m e).2.rest) (l:=(d.list m e).1) (most:=m) (each:=e) (by rw[←e1,←mk _ h'])).1
   have hd0e:d0.err=0:=by rw[←hd0]
   have q0:=stepI d0 14 hd0e z1;have q1:=stepI _ 1073741824 z1 z2;have q2:=stepI _ 1073741824 z2 z3;have q3:=stepS _ 32 z3 z4;have q4:=stepU _ z4 z5;have q5:=stepI _ 4000 z5 z6;have q6:=stepU _ z6 z7;have q7:=stepL _ 6 5 z7 z8;have q8:=stepI _ 1 z8 z9;have q9:=stepI _ 11 z9 z10;have q10:=stepI _ 1073741824 z10 z11;have hs0:s=d0.rest:=by rw[←hd0]
   rw[hs0,q0,q1,q2,q3,q4,q5,q6,q7,q8,q9,q10,h1];rw[Nat.mod_eq_of_lt (by omega)];simp[Cmd.enc,Cmd.enc1,List.append_assoc]
 ·rename_i he
  simp only[Prod.mk.injEq]at h;exact absurd h.2 he
theorem u_lt64(d:Dc):d.u.1<18446744073709551616:=by
 have key:∀(l:List UInt8) (f:Bool) (v:Nat),(qZO f v l).1<18446744073709551616:=by
  intro l
  induction l with
  | nil=>intro f v;simp[qZO]
  | cons c r ih =>
   intro f v;rw[qZO];split
   ·simp
   ·rename_i h
    have hv:v≤144115188075855871:=by simp at h;omega
    split
    ·simp only;omega
    ·exact ih _ _
 unfold Dc.u;split
 ·exact key _ _ _
 ·simp
theorem cread_wf{s:List UInt8}{c:Cmd}(h:qQ2 s=(c,0)):c.Wf:=by
 obtain⟨hg,_⟩:=cread_inv h;obtain⟨h1,_,h3,h4,h5,h6,h7,h8,h9,h10⟩:=Cmd.good_iff.1 hg
 have hb:c.blob<18446744073709551616∧c.sum<4294967296:=by
  unfold qQ2 at h
  split at h
  ·simp only[Prod.mk.injEq,and_true]at h;rw[←h];exact⟨u_lt64 _,Nat.mod_lt _ (by decide)⟩
  ·rename_i he
   simp only[Prod.mk.injEq]at h;exact absurd h.2 he
 exact⟨by omega,by omega,by omega,hb.1,by omega,hb.2,by omega,by omega,by omega,fun d hd=>by have:=qJf h3 d hd;omega⟩
abbrev zZM : Array Value := #[.slice none 0 0, .bool false, .bool false, .int .i64 0, .bool false, .bool false, .int .i64 0, .bool false, .bool false, .int .i64 0, .bool false, .bool false, .int .i64 0, .bool false, .bool false, .int .i64 0, .bool false, .bool false, .int .i64 0, .bool false, .bool false, .int .i64 0, .bool false, .bool false, .int .i64 0, .bool false, .bool false, .int .i64 0, .bool false, .bool false, .int .i64 0, .bool false, .bool false, .int .i64 0, .bool false, .bool false, .int .i64 0, .slice none 0 0, .int .i64 0]
abbrev zZC : Array Value := #[.slice none 0 0, .bool false, .bool false, .int .i64 0, .bool false, .bool false, .int .i64 0, .bool false, .bool false, .int .i64 0, .bool false, .bool false, .int .i64 0, .bool false, .bool false, .int .i64 0, .bool false, .bool false, .int .i64 0, .bool false, .bool false, .int .i64 0, .bool false, .bool false, .int .i64 0, .bool false, .bool false, .int .i64 0, .bool false, .bool false, .int .i64 0, .bool false, .bool false, .int .i64 0, .bool false, .bool false, .int .i64 0]
abbrev zZR : Array Value := #[.int .i64 0, .int .u64 0, .int .i64 0, .int .u32 0, .slice none 0 0]
abbrev zZ6 : Array Value := #[.int .i64 16, .int .u64 0, .int .i64 0, .int .u32 0, .slice none 0 0]
theorem Er (w:World):Ext w w:=Ext.refl w
theorem Hh {p : Prop} (h : p) : Go.RowKit.Hid p := Lib.hid h
abbrev zZX (x : Cmd) (xA : Option Addr) (xc : Nat) : Array Value := #[.int .i64 x.kind, .int .i64 x.client, .int .i64 x.seq, .string x.name, .int .u64 (x.blob : Int), .int .i64 x.size, .int .u32 (x.sum : Int), .slice xA x.disks.length xc, .int .i64 x.pool, .int .i64 x.vol, .int .i64 x.at_]
end Go.Proofs.YtimjipcplmnpbaaGreat
