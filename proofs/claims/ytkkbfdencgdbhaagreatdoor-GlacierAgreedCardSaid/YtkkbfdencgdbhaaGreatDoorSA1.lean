/-
  Part 1 of what the law leans on.
-/
import Derived.WalkKit
import Derived.Lib.Hide
import Derived.ChangeMaps5
import Derived.Deep.Draws
import Derived.Lib.QuietBelow
import Derived.Maps.RangeRun
set_option linter.unusedVariables false
set_option linter.unusedSimpArgs false
set_option linter.unusedSectionVars false
namespace Go.Proofs.YtkkbfdencgdbhaaGreatDoor
open Go.RowKit Go.MapKept
open Go.ChangeMaps (setBlock)
structure Chg (S:Nat→Prop) (w w':World):Prop where
 os:w'.os=w.os
 tape:w'.tape=w.tape
 output:w'.output=w.output
 size:w.heap.size≤w'.heap.size
 block:∀k,k<w.heap.size→¬ S k→w'.heap[k]? = w.heap[k]?
def Ext(w w':World):Prop:=Chg (fun _=>False) w w'
section
variable{S S':Nat→Prop}{w w1 w2:World}
theorem Chg.refl(S:Nat→Prop)(w:World):Chg S w w:=⟨rfl,rfl,rfl,Nat.le_refl _,fun _ _ _=>rfl⟩
theorem Chg.trans(h:Chg S w w1)(h':Chg S' w1 w2)(hs:∀k,k<w.heap.size→S' k→S k):Chg S w w2 :=
 ⟨h'.os.trans h.os,h'.tape.trans h.tape,h'.output.trans h.output,Nat.le_trans h.size h'.size,
  fun k hk hn=>(h'.block k (Nat.lt_of_lt_of_le hk h.size) (fun hh=>hn (hs k hk hh))).trans (h.block k hk hn)⟩
theorem Chg.mono(h:Chg S' w w1)(hs:∀k,k<w.heap.size→S' k→S k):Chg S w w1 :=
 ⟨h.os,h.tape,h.output,h.size,fun k hk hn=>h.block k hk (fun hh=>hn (hs k hk hh))⟩
theorem Chg.drew(h:Chg S w w1):Chg S w w1.drew:=⟨h.os,h.tape,h.output,h.size,h.block⟩
theorem Chg.drewN(h:Chg S w w1)(n:Nat):Chg S w (w1.drewN n):=⟨h.os,h.tape,h.output,h.size,h.block⟩
theorem Chg.alloc(h:Chg S w w1)(o:Obj):Chg S w (w1.alloc o) :=
 ⟨h.os,h.tape,h.output,Nat.le_trans h.size (by simp),fun k hk hn=>(Below.heap_alloc w1 o k (Nat.lt_of_lt_of_le hk h.size)).trans (h.block k hk hn)⟩
theorem Chg.setCell(h:Chg S w w1){p:Addr}(hp:S p.block∨w.heap.size≤p.block)(u:Value):Chg S w (w1.setCell p u) :=
 ⟨h.os,h.tape,h.output,by simpa[World.setCell]using h.size,fun k hk hn=>(Below.heap_setCell w1 p u k (by
  rintro rfl
  rcases hp with hp|hp
  ·exact hn hp
  ·omega)).trans (h.block k hk hn)⟩
theorem Chg.cell(h:Chg S w w1){p:Addr}(hp:p.block<w.heap.size)(hn:¬ S p.block):w1.cell? p=w.cell? p:=World.cell?_of_block (w:=w) (h.block p.block hp hn)
theorem Chg.below(h:Chg S w w1)(hs:∀k,¬ S k):Below w.heap.size w w1:=⟨h.os,h.tape,h.output,h.size,fun k hk=>h.block k hk (hs k)⟩
theorem Chg.of_below(h:Below w.heap.size w w1):Chg S w w1:=⟨h.os,h.tape,h.output,h.size,fun k hk _=>h.block k hk⟩
theorem Ext.of_below(h:Below w.heap.size w w1):Ext w w1:=Chg.of_below h
theorem Ext.below(h:Ext w w1):Below w.heap.size w w1:=Chg.below h (fun _ hh=>hh)
theorem Ext.chg(h:Ext w w1):Chg S w w1:=Chg.mono h (fun _ _ hh=>hh.elim)
theorem Ext.refl(w:World):Ext w w:=Chg.refl _ w
theorem Ext.trans(h:Ext w w1)(h':Ext w1 w2):Ext w w2:=Chg.trans h h' (fun _ _ hh=>hh)
theorem Ext.drew(h:Ext w w1):Ext w w1.drew:=Chg.drew h
theorem Ext.drewN(h:Ext w w1)(n:Nat):Ext w (w1.drewN n):=Chg.drewN h n
theorem Ext.alloc(h:Ext w w1)(o:Obj):Ext w (w1.alloc o):=Chg.alloc h o
theorem Ext.setCell(h:Ext w w1){p:Addr}(hp:w.heap.size≤p.block)(u:Value):Ext w (w1.setCell p u):=Chg.setCell h (.inr hp) u
theorem Ext.block(h:Ext w w1){k:Nat}(hk:k<w.heap.size):w1.heap[k]? = w.heap[k]? := Chg.block h k hk (fun hh=>hh)
theorem Ext.cell(h:Ext w w1){p:Addr}(hp:p.block<w.heap.size):w1.cell? p=w.cell? p:=Chg.cell h hp (fun hh=>hh)
theorem Ext.size(h:Ext w w1):w.heap.size≤w1.heap.size:=Chg.size h
theorem Ext.chg_trans(h:Ext w w1)(h':Chg S w1 w2):Chg S w w2:=Chg.trans (Ext.chg h) h' (fun _ _ hh=>hh)
theorem Chg.ext_trans(h:Chg S w w1)(h':Ext w1 w2):Chg S w w2:=Chg.trans h h' (fun _ _ hh=>hh.elim)
end
def At(w:World)(g:Nat)(t:TypeId)(cs:Array Value):Prop:=w.heap[g]? = some (.cells cs t (0,0))
theorem lt_of_block{w:World}{g:Nat}{o:Obj}(h:w.heap[g]? = some o):g<w.heap.size:=(Array.getElem?_eq_some_iff.1 h).1
section
variable{S:Nat→Prop}{w w':World}{g:Nat}{t:TypeId}{cs:Array Value}
theorem At.lt(h:At w g t cs):g<w.heap.size:=lt_of_block h
theorem At.cell(h:At w g t cs)(i:Nat):w.cell? ⟨g,i,none⟩=cs[i]? := by unfold At at h;simp[World.cell?,h]
theorem At.frozen(h:At w g t cs)(i:Nat):w.frozen? ⟨g,i,none⟩=false:=by unfold At at h;simp[World.frozen?,h]
theorem At.new(w:World)(t:TypeId)(cs:Array Value):At (w.alloc (.cells cs t)) w.heap.size t cs:=by
 show(w.heap.push _)[w.heap.size]? = _
 simp
theorem At.new_eq{w:World}{g:Nat}(h:g=w.heap.size)(t:TypeId)(cs:Array Value):At (w.alloc (.cells cs t)) g t cs:=by subst h;exact At.new w t cs
theorem At.drew(h:At w g t cs):At w.drew g t cs:=h
theorem At.drewN(h:At w g t cs)(n:Nat):At (w.drewN n) g t cs:=h
theorem At.alloc(h:At w g t cs)(o:Obj):At (w.alloc o) g t cs:=(Below.heap_alloc w o g h.lt).trans h
theorem At.set(h:At w g t cs)(i:Nat)(u:Value):At (w.setCell ⟨g,i,none⟩ u) g t (cs.setIfInBounds i u):=by
 unfold At at h⊢
 simp[World.setCell,Array.getElem?_modify,h]
theorem At.far(h:At w g t cs){p:Addr}(hp:g≠p.block)(u:Value):At (w.setCell p u) g t cs:=(Below.heap_setCell w p u g hp).trans h
theorem At.chg(h:At w g t cs)(hc:Chg S w w')(hn:¬ S g):At w' g t cs:=(hc.block g h.lt hn).trans h
theorem At.ext(h:At w g t cs)(hc:Ext w w'):At w' g t cs:=(Ext.block hc h.lt).trans h
theorem At.ne{g':Nat}{t':TypeId}{cs':Array Value}(h:At w g t cs)(h':At w g' t' cs')(hne:t≠t'):g≠g':=by
 rintro rfl
 unfold At at h h'
 rw[h]at h'
 injection h' with h'
 injection h' with _ ht
 exact hne ht
end
theorem ret_i64{a b:Int}(h:a=b):Ending.returned (.int .i64 a)=.returned (.int .i64 b):=by rw[h]
theorem toList_inj{a b:ByteArray} : a.toList=b.toList↔a=b :=
 ⟨fun h=>WideShapes.bytes_inj (by rw[←ByteArray.toList_eq,←ByteArray.toList_eq];exact h),fun h=>by rw[h]⟩
section
open Go.Sort
theorem wp_region_quiet_ext{P:Program}{id:Nat}{Q:Exit→Act→World→Prop}{a:Act}{w:World}{l:List Oper}(hm:P.follows .mixedOrders=true)(hB:Region.lexB .any l.toArray=true)
 (h:wpQuiet P l.toArray (fun w'=>∃p:Regrown,w'=grow (redrawn w p.d) p.os) (fun a'=>∀w',Ext w w'→Q .normal a' w') l a):(Code.region id l.toArray true).wp P Q a w :=
 wp_region_quiet (C:=fun w'=>∃p:Regrown,w'=grow (redrawn w p.d) p.os) hm hB ⟨⟨w.drawn+1,#[]⟩,by rw[grow_empty];rfl⟩ (by
  have hmono:∀(l':List Oper) (a:Act),wpQuiet P l.toArray (fun w'=>∃p:Regrown,w'=grow (redrawn w p.d) p.os) (fun a'=>∀w',Ext w w'→Q .normal a' w') l' a →
   wpQuiet P l.toArray (fun w'=>∃p:Regrown,w'=grow (redrawn w p.d) p.os) (fun a'=>∀w',(∃p:Regrown,w'=grow (redrawn w p.d) p.os)→Q .normal a' w') l' a:=by
   intro l'
   induction l' with
   | nil=>exact fun a h w' ⟨p,hp⟩=>h w' (hp ▸ Ext.of_below (below_regrown w p.d p.os))
   | cons o r ih =>
    intro a h
    unfold wpQuiet at h⊢
    split
    ·rename_i hw;rw[if_pos hw]at h;exact Oper.quiet_mono (fun a h=>ih a h) h
    ·rename_i hw;rw[if_neg hw]at h;exact ih _ h
  simpa using hmono l a h)
theorem ext_regrown(w:World)(d:Nat)(os:Array Obj):Ext w (grow (redrawn w d) os):=Ext.of_below (below_regrown w d os)
theorem regrown_of_ext{w w':World}(h:Ext w w'):∃p:Regrown,w'=grow (redrawn w p.d) p.os:=regrown_of_below h.below
theorem Calls.ext_of{P:Program}{f:FuncId}{args:Array Value}{w:World}{d:Nat}{os:Array Obj}{v:Value}
 (h:Calls P f args (grow (redrawn w d) os) fun e w'=>e=.returned v∧Ext (grow (redrawn w d) os) w'):Calls P f args (grow (redrawn w d) os) fun e w''=>e=.returned v∧∃p:Regrown,w''=grow (redrawn w p.d) p.os :=
 h.mono fun _ _ ⟨he,hb⟩=>⟨he,regrown_of_ext ((ext_regrown w d os).trans hb)⟩
theorem At.cell_regrown{w:World}{g:Nat}{t:TypeId}{cs:Array Value}(h:At w g t cs)(i:Nat)(d:Nat)(os:Array Obj):(grow (redrawn w d) os).cell? ⟨g,i,none⟩=cs[i]? := (h.ext (ext_regrown w d os)).cell i
end
structure KeyWay (κ : Type) where
 d:TypeDesc
 val : κ → Value
 isKey:∀k,IsKey d (val k)
 inj:∀a b,val a=val b→a=b
def strWay:KeyWay ByteArray:=⟨.string,.string,fun _=>trivial,fun _ _ h=>by injection h⟩
def i64Way:KeyWay Int:=⟨.int .i64,.int .i64,fun _=>rfl,fun _ _ h=>by injection h⟩
def u64Way:KeyWay Int:=⟨.int .u64,.int .u64,fun _=>rfl,fun _ _ h=>by injection h⟩
section
variable{κ ν : Type}
def MapAt(K:KeyWay κ)(vv : ν → Value)(w:World)(b:Nat)(L:List (κ × ν)):Prop :=
 ∃es clk,w.heap[b]? = some (.map es clk)∧Stamped es clk∧(es.toList.map fun e=>(e.key,e.val)).Perm (L.map fun p=>(K.val p.1,vv p.2))
def lget[DecidableEq κ](k : κ)(L:List (κ × ν)):Option ν := (L.find? fun p=>decide (p.1=k)).map (·.2)
def ldel[DecidableEq κ](k : κ)(L:List (κ × ν)):List (κ × ν):=L.filter fun p=>decide (p.1≠k)
variable{K:KeyWay κ}{vv : ν → Value}{w w':World}{b:Nat}{L L':List (κ × ν)}
theorem MapAt.lt(h:MapAt K vv w b L):b<w.heap.size:=by obtain⟨es,clk,hb,_⟩:=h;exact lt_of_block hb
theorem MapAt.perm(h:MapAt K vv w b L)(hp:L.Perm L'):MapAt K vv w b L':=by
 obtain⟨es,clk,hb,hs,hq⟩:=h
 exact⟨es,clk,hb,hs,hq.trans (hp.map _)⟩
theorem MapAt.of_block(h:MapAt K vv w b L)(hb:w'.heap[b]? = w.heap[b]?):MapAt K vv w' b L:=by
 obtain⟨es,clk,h1,h2⟩:=h
 exact⟨es,clk,hb.trans h1,h2⟩
theorem MapAt.chg{S:Nat→Prop}(h:MapAt K vv w b L)(hc:Chg S w w')(hn:¬ S b):MapAt K vv w' b L:=h.of_block (hc.block b h.lt hn)
theorem MapAt.ext(h:MapAt K vv w b L)(hc:Ext w w'):MapAt K vv w' b L:=h.of_block (Ext.block hc h.lt)
theorem MapAt.drew(h:MapAt K vv w b L):MapAt K vv w.drew b L:=h
theorem MapAt.drewN(h:MapAt K vv w b L)(n:Nat):MapAt K vv (w.drewN n) b L:=h
theorem MapAt.alloc(h:MapAt K vv w b L)(o:Obj):MapAt K vv (w.alloc o) b L:=h.of_block (Below.heap_alloc w o b h.lt)
theorem MapAt.setCell(h:MapAt K vv w b L)(p:Addr)(u:Value):MapAt K vv (w.setCell p u) b L:=by
 obtain⟨es,clk,h1,h2⟩:=h
 refine⟨es,clk,?_,h2⟩
 simp only[World.setCell,Array.getElem?_modify]
 split
 ·rename_i e;subst e;rw[h1];rfl
 ·exact h1
theorem MapAt.new(K:KeyWay κ)(vv : ν → Value)(w:World):MapAt K vv (w.alloc (.map #[] 0)) w.heap.size [] :=
 ⟨#[],0,by
  show(w.heap.push _)[w.heap.size]? = _
  simp,(stamped_iff _ _).2 (by simp),by simp⟩
theorem MapAt.ne_at{g:Nat}{t:TypeId}{cs:Array Value}(h:MapAt K vv w b L)(h':At w g t cs):b≠g:=by
 rintro rfl
 obtain⟨es,clk,h1,_⟩:=h
 unfold At at h'
 rw[h']at h1;cases h1
theorem MapAt.nodup(h:MapAt K vv w b L):(L.map (·.1)).Nodup:=by
 obtain⟨es,clk,_,hs,hp⟩:=h
 have h1:=((stamped_iff es clk).1 hs).2.2
 have h2:(es.toList.map fun e=>(e.key,e.val)).Pairwise (fun a b=>a.1≠b.1):=List.pairwise_map.2 h1
 have h3:=(hp.pairwise_iff (R:=fun a b=>a.1≠b.1) (fun {a b} h=>Ne.symm h)).1 h2
 have h4:=List.pairwise_map.1 h3
 exact List.pairwise_map.2 (h4.imp fun {a b} h e=>h (by rw[e]))
variable[DecidableEq κ]
theorem lget_none{k : κ} : lget k L=none↔∀p∈L,p.1≠k:=by simp[lget]
theorem lget_some{k : κ}{v : ν}(hn:(L.map (·.1)).Nodup):lget k L=some v↔(k,v)∈L:=by
 constructor
 ·intro h
  unfold lget at h
  rw[Option.map_eq_some_iff]at h
  obtain⟨p,hp,rfl⟩:=h
  have h1:=List.find?_some hp
  have h2:=List.mem_of_find?_eq_some hp
  have h3:p.1=k:=by simpa using h1
  subst h3;exact h2
 ·intro h
  cases hg:lget k L with
  | none=>exact absurd rfl (lget_none.1 hg _ h)
  | some u =>
   have hu:(k,u)∈L:=by
    unfold lget at hg
    rw[Option.map_eq_some_iff]at hg
    obtain⟨p,hp,rfl⟩:=hg
    have h1:=List.find?_some hp
    have h2:=List.mem_of_find?_eq_some hp
    have h3:p.1=k:=by simpa using h1
    subst h3;exact h2
   have hq:∀(l:List (κ × ν)),(l.map (·.1)).Nodup→(k,u)∈l→(k,v)∈l→u=v:=by
    intro l
    induction l with
    | nil=>intro _ h;cases h
    | cons x r ih =>
     intro hn h1 h2
     simp only[List.map_cons,List.nodup_cons]at hn
     rcases List.mem_cons.1 h1 with e1|e1 <;> rcases List.mem_cons.1 h2 with e2|e2
     ·rw[←e1]at e2;injection e2 with _ e;exact e.symm
     ·exact absurd (List.mem_map.2 ⟨_,e2,rfl⟩) (by rw[←e1]at hn;exact hn.1)
     ·exact absurd (List.mem_map.2 ⟨_,e1,rfl⟩) (by rw[←e2]at hn;exact hn.1)
     ·exact ih hn.2 e1 e2
   rw[hq L hn hu h]
omit [DecidableEq κ] in
theorem MapAt.isKeys{es:Array MapEntry}(hp:(es.toList.map fun e=>(e.key,e.val)).Perm (L.map fun p=>(K.val p.1,vv p.2))):∀x∈es.toList,IsKey K.d x.key:=by
 intro x hx
 have:=hp.mem_iff.1 (List.mem_map.2 ⟨x,hx,rfl⟩)
 obtain⟨p,_,e⟩:=List.mem_map.1 this
 have e1:K.val p.1=x.key:=congrArg Prod.fst e
 rw[←e1];exact K.isKey _
theorem MapAt.find{k : κ}{es:Array MapEntry}{clk:Nat}(hs:Stamped es clk)(hp:(es.toList.map fun e=>(e.key,e.val)).Perm (L.map fun p=>(K.val p.1,vv p.2))) :
 (lget k L=none∧Instr.findNow K.d (K.val k) es.toList 0=some none∧∀x∈es.toList,x.key≠K.val k) ∨
 ∃v j e,lget k L=some v∧Instr.findNow K.d (K.val k) es.toList 0=some (some (j,vv v))∧es[j]? = some e∧e.key=K.val k∧e.val=vv v:=by
 have hn:(L.map (·.1)).Nodup:=by
  have h1:=((stamped_iff es clk).1 hs).2.2
  have h2:(es.toList.map fun e=>(e.key,e.val)).Pairwise (fun a b=>a.1≠b.1):=List.pairwise_map.2 h1
  have h3:=(hp.pairwise_iff (R:=fun a b=>a.1≠b.1) (fun {a b} h=>Ne.symm h)).1 h2
  have h4:=List.pairwise_map.1 h3
  exact List.pairwise_map.2 (h4.imp fun {a b} h e=>h (by rw[e]))
 rcases findNow_spec (K.isKey k) es.toList 0 (MapAt.isKeys hp)with⟨h1,h2⟩|⟨j,e,h1,h2,h3⟩
 ·refine .inl ⟨lget_none.2 fun p hpm he=>?_,h1,h2⟩
  have:=hp.mem_iff.2 (List.mem_map.2 ⟨p,hpm,rfl⟩)
  obtain⟨x,hx,e⟩:=List.mem_map.1 this
  exact h2 x hx ((congrArg Prod.fst e).trans (by rw[he]))
 ·have hm:e∈es.toList:=List.mem_of_getElem? h2
  have:=hp.mem_iff.1 (List.mem_map.2 ⟨e,hm,rfl⟩)
  obtain⟨p,hpm,he⟩:=List.mem_map.1 this
  have hk:K.val p.1=e.key:=congrArg Prod.fst he
  have hv:vv p.2=e.val:=congrArg Prod.snd he
  have hkk:p.1=k:=K.inj _ _ (hk.trans h3)
  refine .inr ⟨p.2,j,e,(lget_some hn).2 (by rw[←hkk];exact hpm),?_,by simpa using h2,h3,hv.symm⟩
  rw[h1,hv];simp
variable{P:Program}{t kt et:TypeId}
theorem MapAt.lookup(h:MapAt K vv w b L)(ht:P.underlying t=some (.map kt et))(hk:P.underlying kt=some K.d){z:Value}(hz:∀w,(zeroValue et).run P w=.ok z w)(k : κ) :
 (Instr.lookup t (.map (some b)) (K.val k) false).run P w=.ok ((lget k L).elim z vv) w:=by
 obtain⟨es,clk,hb,hs,hp⟩:=h
 rcases MapAt.find (k:=k) hs hp with⟨h0,h1,h2⟩|⟨v,j,e,h0,h1,h2,h3,h4⟩
 ·simp[Instr.lookup,run_underlying ht,MapKept.run_getObj_map hb,run_checkKey hk (K.isKey k),run_findKey hk h1,hz,Result.andThen,h0]
 ·simp[Instr.lookup,run_underlying ht,MapKept.run_getObj_map hb,run_checkKey hk (K.isKey k),run_findKey hk h1,Result.andThen,h0]
theorem MapAt.lookup_ok(h:MapAt K vv w b L)(ht:P.underlying t=some (.map kt et))(hk:P.underlying kt=some K.d){z:Value}(hz:∀w,(zeroValue et).run P w=.ok z w)(k : κ) :
 (Instr.lookup t (.map (some b)) (K.val k) true).run P w=.ok (.tuple #[(lget k L).elim z vv,.bool (lget k L).isSome]) w:=by
 obtain⟨es,clk,hb,hs,hp⟩:=h
 rcases MapAt.find (k:=k) hs hp with⟨h0,h1,h2⟩|⟨v,j,e,h0,h1,h2,h3,h4⟩
 ·simp[Instr.lookup,run_underlying ht,MapKept.run_getObj_map hb,run_checkKey hk (K.isKey k),run_findKey hk h1,hz,Result.andThen,h0]
 ·simp[Instr.lookup,run_underlying ht,MapKept.run_getObj_map hb,run_checkKey hk (K.isKey k),run_findKey hk h1,Result.andThen,h0]
theorem chg_setBlock{o:Obj}(w:World)(b:Nat):Chg (· = b) w (setBlock w b o) :=
 ⟨rfl,rfl,rfl,by simp[setBlock],fun k _ hn=>by simp[setBlock,Ne.symm hn]⟩
theorem MapAt.update(h:MapAt K vv w b L)(ht:P.underlying t=some (.map kt et))(hk:P.underlying kt=some K.d)(k : κ)(v : ν) :
 ∃w',(Instr.mapUpdate t (.map (some b)) (K.val k) (vv v)).run P w=.ok () w'∧MapAt K vv w' b ((k,v)::ldel k L)∧Chg (· = b) w w':=by
 classical
 obtain⟨es,clk,hb,hs,hp⟩:=h
 have hlt:=lt_of_block hb
 rcases MapAt.find (k:=k) hs hp with⟨h0,h1,h2⟩|⟨u,j,e,h0,h1,h2,h3,h4⟩
 ·refine⟨setBlock w b (.map (es.push { key:=K.val k,val:=vv v,born:=clk }) (clk+1)),?_,⟨_,_,(heap_set hb).1,stamped_push hs h2,?_⟩,chg_setBlock w b⟩
  ·simp[Instr.mapUpdate,run_underlying ht,MapKept.run_getObj_map hb,run_checkKey hk (K.isKey k),run_findKey hk h1,MapKept.run_setObj_map _ hb,Result.andThen,setBlock]
  ·have e1:ldel k L=L:=by
    unfold ldel
    exact List.filter_eq_self.2 fun p hpm=>by simpa using lget_none.1 h0 p hpm
   rw[e1]
   simp only[Array.toList_push,List.map_append,List.map_cons,List.map_nil]
   exact(List.perm_append_singleton _ _).trans (hp.cons _)
 ·refine⟨setBlock w b (.map (es.modify j fun e => { e with key:=K.val k,val:=vv v }) clk),?_,⟨_,_,(heap_set hb).1,?_,?_⟩,chg_setBlock w b⟩
  ·simp[Instr.mapUpdate,run_underlying ht,MapKept.run_getObj_map hb,run_checkKey hk (K.isKey k),run_findKey hk h1,MapKept.run_setObj_map _ hb,Result.andThen,setBlock,h2,h3,run_keyThatStays (K.isKey k)]
  ·exact stamped_modify hs j _ (fun _ _=>rfl) (fun e' _ he'=>by rw[h2]at he';injection he' with he';subst he';exact h3.symm)
  ·have hjl:j<es.toList.length:=(List.getElem?_eq_some_iff.1 (by simpa using h2)).1
   have hpw:=((stamped_iff es clk).1 hs).2.2
   have hm:(es.modify j fun e => { e with key:=K.val k,val:=vv v }).toList.Perm ({ e with key:=K.val k,val:=vv v } :: es.toList.eraseIdx j):=by
    have hje:es.toList[j]=e:=by
     have:=List.getElem?_eq_some_iff.1 (show es.toList[j]? = some e by simpa using h2)
     exact this.2
    have e2:(es.modify j fun e => { e with key:=K.val k,val:=vv v }).toList=es.toList.set j { e with key:=K.val k,val:=vv v } := by
     apply List.ext_getElem?
     intro i
     rw[List.getElem?_set]
     simp only[Array.getElem?_toList,Array.getElem?_modify]
     by_cases hji:j=i
     ·subst hji;rw[if_pos rfl,if_pos rfl,h2,if_pos hjl];rfl
     ·rw[if_neg hji,if_neg hji]
    rw[e2]
    have hgen:∀(l:List MapEntry) (j:Nat) (x:MapEntry),j<l.length→(l.set j x).Perm (x::l.eraseIdx j):=by
     intro l
     induction l with
     | nil=>intro j x h;simp at h
     | cons y r ih =>
      intro j x h
      cases j with
      | zero=>simp
      | succ j =>
       simp only[List.set_cons_succ,List.eraseIdx_cons_succ]
       exact((ih j x (by simpa using h)).cons y).trans (List.Perm.swap _ _ _)
    exact hgen _ _ _ hjl
   refine(hm.map _).trans ?_
   simp only[List.map_cons]
   refine List.Perm.cons _ ?_
   have hper:(es.toList.eraseIdx j).Perm (es.toList.filter fun x=>decide (x.key≠K.val k)):=by
    rw[show es.toList.eraseIdx j=es.toList.filter (fun x=>decide (x.key≠K.val k))from ?_]
    have hgen:∀(l:List MapEntry) (j:Nat) (e:MapEntry),l.Pairwise (fun x y=>x.key≠y.key)→l[j]? = some e→e.key=K.val k→l.eraseIdx j=l.filter (fun x=>decide (x.key≠K.val k)):=by
     intro l
     induction l with
     | nil=>intro j e _ h;simp at h
     | cons x r ih =>
      intro j e hpw hj hk'
      obtain⟨hx,hr⟩:=List.pairwise_cons.1 hpw
      cases j with
      | zero =>
       simp only[List.getElem?_cons_zero,Option.some.injEq]at hj
       subst hj
       simp only[List.eraseIdx_zero,List.tail_cons,List.filter_cons,hk',ne_eq,not_true,decide_false,Bool.false_eq_true,if_false]
       exact(List.filter_eq_self.2 fun y hy=>by have:=hx y hy;rw[hk']at this;simpa using fun e=>this e.symm).symm
      | succ j =>
       simp only[List.getElem?_cons_succ]at hj
       have hxk:x.key≠K.val k:=by rw[←hk'];exact hx e (List.mem_of_getElem? hj)
       simp only[List.eraseIdx_cons_succ,List.filter_cons,hxk,ne_eq,not_false_eq_true,decide_true,if_true]
       rw[ih j e hr hj hk']
    exact hgen _ j e hpw (by simpa using h2) h3
   refine(hper.map _).trans ?_
   have hq:=hp.filter (fun q=>decide (q.1≠K.val k))
   rw[List.filter_map,List.filter_map]at hq
   refine hq.trans ?_
   unfold ldel
   rw[show(L.filter ((fun q=>decide (q.1≠K.val k)) ∘ fun p=>(K.val p.1,vv p.2)))=L.filter (fun p=>decide (p.1≠k))from ?_]
   refine List.filter_congr fun p _=>?_
   simp only[Function.comp]
   by_cases hpk:p.1=k
   ·simp[hpk]
   ·have:K.val p.1≠K.val k:=fun e=>hpk (K.inj _ _ e)
    simp[hpk,this]
theorem MapAt.delete(h:MapAt K vv w b L)(ht:P.underlying t=some (.map kt et))(hk:P.underlying kt=some K.d)(k : κ) :
 ∃w',(∀ty,(Builtin.delete_ #[t,kt] ty #[.map (some b),K.val k]).run P w=.ok (.tuple #[]) w')∧MapAt K vv w' b (ldel k L)∧Chg (· = b) w w':=by
 classical
 obtain⟨es,clk,hb,hs,hp⟩:=h
 rcases MapAt.find (k:=k) hs hp with⟨h0,h1,h2⟩|⟨u,j,e,h0,h1,h2,h3,h4⟩
 ·refine⟨setBlock w b (.map es clk),?_,⟨_,_,(heap_set hb).1,hs,?_⟩,chg_setBlock w b⟩
  ·intro ty;simp[Builtin.delete_,run_underlying ht,MapKept.run_getObj_map hb,run_checkKey hk (K.isKey k),run_findKey hk h1,MapKept.run_setObj_map _ hb,Result.andThen,setBlock]
  ·have e1:ldel k L=L:=by
    unfold ldel
    exact List.filter_eq_self.2 fun p hpm=>by simpa using lget_none.1 h0 p hpm
   rw[e1];exact hp
 ·refine⟨setBlock w b (.map (es.eraseIdxIfInBounds j) clk),?_,⟨_,_,(heap_set hb).1,stamped_erase hs j,?_⟩,chg_setBlock w b⟩
  ·intro ty;simp[Builtin.delete_,run_underlying ht,MapKept.run_getObj_map hb,run_checkKey hk (K.isKey k),run_findKey hk h1,MapKept.run_setObj_map _ hb,Result.andThen,setBlock]
  ·have hpw:=((stamped_iff es clk).1 hs).2.2
   have hgen:∀(l:List MapEntry) (j:Nat) (e:MapEntry),l.Pairwise (fun x y=>x.key≠y.key)→l[j]? = some e→e.key=K.val k→l.eraseIdx j=l.filter (fun x=>decide (x.key≠K.val k)):=by
    intro l
    induction l with
    | nil=>intro j e _ h;simp at h
    | cons x r ih =>
     intro j e hpw hj hk'
     obtain⟨hx,hr⟩:=List.pairwise_cons.1 hpw
     cases j with
     | zero =>
      simp only[List.getElem?_cons_zero,Option.some.injEq]at hj
      subst hj
      simp only[List.eraseIdx_zero,List.tail_cons,List.filter_cons,hk',ne_eq,not_true,decide_false,Bool.false_eq_true,if_false]
      exact(List.filter_eq_self.2 fun y hy=>by have:=hx y hy;rw[hk']at this;simpa using fun e=>this e.symm).symm
     | succ j =>
      simp only[List.getElem?_cons_succ]at hj
      have hxk:x.key≠K.val k:=by rw[←hk'];exact hx e (List.mem_of_getElem? hj)
      simp only[List.eraseIdx_cons_succ,List.filter_cons,hxk,ne_eq,not_false_eq_true,decide_true,if_true]
      rw[ih j e hr hj hk']
   have hjl:j<es.size:=(Array.getElem?_eq_some_iff.1 h2).1
   have e2:(es.eraseIdxIfInBounds j).toList=es.toList.eraseIdx j:=by
    unfold Array.eraseIdxIfInBounds
    rw[dif_pos hjl]
    simp
   rw[e2,hgen _ j e hpw (by simpa using h2) h3]
   have hq:=hp.filter (fun q=>decide (q.1≠K.val k))
   rw[List.filter_map,List.filter_map]at hq
   refine hq.trans ?_
   unfold ldel
   rw[show(L.filter ((fun q=>decide (q.1≠K.val k)) ∘ fun p=>(K.val p.1,vv p.2)))=L.filter (fun p=>decide (p.1≠k))from ?_]
   refine List.filter_congr fun p _=>?_
   simp only[Function.comp]
   by_cases hpk:p.1=k
   ·simp[hpk]
   ·have:K.val p.1≠K.val k:=fun e=>hpk (K.inj _ _ e)
    simp[hpk,this]
omit [DecidableEq κ] in
theorem MapAt.len(h:MapAt K vv w b L)(ht:P.underlying t=some (.map kt et))(ty:TypeId):(Builtin.len_ #[t] ty #[.map (some b)]).run P w=.ok (.int .i64 L.length) w:=by
 obtain⟨es,clk,hb,hs,hp⟩:=h
 have hl:es.size=L.length:=by have:=hp.length_eq;simpa using this
 simp[Builtin.len_,run_underlying ht,MapKept.run_getObj_map hb,Result.andThen,goInt,hl]
end
end Go.Proofs.YtkkbfdencgdbhaaGreatDoor
namespace Go.Proofs.YtkkbfdencgdbhaaGreatDoor
structure Ordd {κ : Type} (lt : κ → κ → Bool):Prop where
 irr:∀a,lt a a=false
 tr:∀ {a b c},lt a b=true→lt b c=true→lt a c=true
 tot:∀ {a b},lt a b=false→lt b a=false→a=b
section
variable{κ ν : Type}[DecidableEq κ](lt : κ → κ → Bool)
def Rises(L:List (κ × ν)):Prop:=L.Pairwise fun p q=>lt p.1 q.1=true
def lput(k : κ)(v : ν):List (κ × ν)→List (κ × ν)
 | []=>[(k,v)]
 | p::r=>if lt k p.1 then(k,v)::p::r else if lt p.1 k then p::lput k v r else(k,v)::r
variable{lt}(O:Ordd lt)
theorem Rises.del{L:List (κ × ν)}(h:Rises lt L)(k : κ):Rises lt (ldel k L):=h.filter _
include O
omit [DecidableEq κ] O in
theorem mem_lput{k : κ}{v : ν} : ∀ {L:List (κ × ν)} {p : κ × ν},p∈lput lt k v L→p=(k,v)∨p∈L
 | [],p,h=>by simpa[lput]using h
 | q::r,p,h=>by
  unfold lput at h
  split at h
  ·rcases List.mem_cons.1 h with h|h
   ·exact .inl h
   ·exact .inr h
  ·split at h
   ·rcases List.mem_cons.1 h with h|h
    ·exact .inr (h ▸ List.mem_cons_self ..)
    ·rcases mem_lput h with h|h
     ·exact .inl h
     ·exact .inr (List.mem_cons_of_mem _ h)
   ·rcases List.mem_cons.1 h with h|h
    ·exact .inl h
    ·exact .inr (List.mem_cons_of_mem _ h)
omit [DecidableEq κ] in
theorem Rises.put{k : κ}{v : ν} : ∀ {L:List (κ × ν)},Rises lt L→Rises lt (lput lt k v L)
 | [],_=>by simp[lput,Rises]
 | q::r,h=>by
  obtain⟨h1,h2⟩:=List.pairwise_cons.1 h
  unfold lput
  split
  ·rename_i hk
   refine List.pairwise_cons.2 ⟨fun p hp=>?_,h⟩
   rcases List.mem_cons.1 hp with rfl|hp
   ·exact hk
   ·exact O.tr hk (h1 _ hp)
  ·rename_i hk
   split
   ·rename_i hq
    refine List.pairwise_cons.2 ⟨fun p hp=>?_,Rises.put h2⟩
    rcases mem_lput hp with rfl|hp
    ·exact hq
    ·exact h1 _ hp
   ·rename_i hq
    have e:k=q.1:=O.tot (by simpa using hk) (by simpa using hq)
    exact List.pairwise_cons.2 ⟨fun p hp=>by rw[show(k,v).1=q.1 from e];exact h1 _ hp,h2⟩
theorem ldel_self{k : κ}{L:List (κ × ν)}(h:∀p∈L,lt k p.1=true∨lt p.1 k=true):ldel k L=L:=by
 unfold ldel
 refine List.filter_eq_self.2 fun p hp=>?_
 have:p.1≠k:=fun e=>by rcases h p hp with h|h <;> rw[e,O.irr]at h <;> cases h
 simpa using this
theorem lput_perm{k : κ}{v : ν} : ∀ {L:List (κ × ν)},Rises lt L→(lput lt k v L).Perm ((k,v)::ldel k L)
 | [],_=>by simp[lput,ldel]
 | q::r,h=>by
  obtain⟨h1,h2⟩:=List.pairwise_cons.1 h
  unfold lput
  split
  ·rename_i hk
   rw[ldel_self O (L:=q::r) fun p hp=>by
    rcases List.mem_cons.1 hp with rfl|hp
    ·exact .inl hk
    ·exact .inl (O.tr hk (h1 _ hp))]
  ·rename_i hk
   split
   ·rename_i hq
    have hne:q.1≠k:=fun e=>by rw[e,O.irr]at hq;cases hq
    have e:ldel k (q::r)=q::ldel k r:=by simp[ldel,hne]
    rw[e]
    exact((lput_perm h2).cons q).trans (List.Perm.swap _ _ _)
   ·rename_i hq
    have e:k=q.1:=O.tot (by simpa using hk) (by simpa using hq)
    have e2:ldel k (q::r)=r:=by
     have:ldel k (q::r)=ldel k r:=by simp[ldel,e]
     rw[this]
     exact ldel_self O fun p hp=>.inl (by rw[e];exact h1 _ hp)
    rw[e2]
omit O in
theorem lget_cons(k k' : κ)(v : ν)(L:List (κ × ν)):lget k' ((k,v)::L)=if k=k' then some v else lget k' L:=by
 unfold lget
 by_cases e:k=k' <;> simp[e]
omit O in
theorem lget_ldel(k k' : κ)(L:List (κ × ν)):lget k' (ldel k L)=if k'=k then none else lget k' L:=by
 induction L with
 | nil=>simp[ldel,lget]
 | cons p r ih =>
  obtain⟨a,x⟩:=p
  by_cases e:a=k
  ·have e2:ldel k ((a,x)::r)=ldel k r:=by simp[ldel,e]
   rw[e2,ih,lget_cons]
   by_cases e3:k'=k
   ·simp[e3]
   ·have:¬ a=k':=fun h=>e3 (h.symm.trans e)
    simp[e3,this]
  ·have e2:ldel k ((a,x)::r)=(a,x)::ldel k r:=by simp[ldel,e]
   rw[e2,lget_cons,lget_cons,ih]
   by_cases e3:a=k'
   ·have:¬ k'=k:=fun h=>e (e3.trans h)
    simp[e3,this]
   ·simp[e3]
theorem lget_lput{k k' : κ}{v : ν}{L:List (κ × ν)} : lget k' (lput lt k v L)=if k'=k then some v else lget k' L:=by
 induction L with
 | nil=>simp[lput,lget,eq_comm]
 | cons q r ih =>
  obtain⟨a,x⟩:=q
  unfold lput
  split
  ·rw[lget_cons];simp[eq_comm]
  ·rename_i hk
   split
   ·rename_i hq
    rw[lget_cons,lget_cons,ih]
    by_cases e:a=k'
    ·have:¬ k'=k:=fun h=>by subst e;rw[h,O.irr]at hq;cases hq
     simp[e,this]
    ·simp[e]
   ·rename_i hq
    have e:k=a:=O.tot (by simpa using hk) (by simpa using hq)
    rw[lget_cons,lget_cons,←e]
    by_cases e3:k=k' <;> simp[e3,eq_comm]
end
def blt(a b:ByteArray):Bool:=decide (a.data.toList<b.data.toList)
theorem blt_ordd:Ordd blt where
 irr a:=by simp[blt]
 tr {a b c} h h':=by
  simp only[blt,decide_eq_true_eq]at *
  exact List.lt_trans h h'
 tot {a b} h h':=by
  simp only[blt,decide_eq_false_iff_not,List.not_lt]at *
  have e:=List.le_antisymm h' h
  obtain⟨⟨x⟩⟩:=a;obtain⟨⟨y⟩⟩:=b
  simp only at e
  rw[e]
end Go.Proofs.YtkkbfdencgdbhaaGreatDoor
namespace Go.Proofs.YtkkbfdencgdbhaaGreatDoor
open Go.RowKit Go.MapKept
open Go.ChangeMaps (setBlock)
section
variable{κ ν : Type}
def RangeAt(K:KeyWay κ)(vv : ν → Value)(w:World)(b r:Nat)(L left:List (κ × ν)):Prop :=
 ∃es clk seen,w.heap[b]? = some (.map es clk)∧Stamped es clk∧(es.toList.map fun e=>(e.key,e.val)).Perm (L.map fun p=>(K.val p.1,vv p.2)) ∧
  w.heap[r]? = some (.mapIter (some b) clk seen clk)∧((leftOf es seen).toList.map fun e=>(e.key,e.val)).Perm (left.map fun p=>(K.val p.1,vv p.2))
variable{K:KeyWay κ}{vv : ν → Value}{w w':World}{b r:Nat}{L left:List (κ × ν)}
theorem RangeAt.lt(h:RangeAt K vv w b r L left):b<w.heap.size∧r<w.heap.size:=by
 obtain⟨es,clk,seen,h1,_,_,h2,_⟩:=h
 exact⟨lt_of_block h1,lt_of_block h2⟩
theorem RangeAt.of_blocks(h:RangeAt K vv w b r L left)(hb:w'.heap[b]? = w.heap[b]?)(hr:w'.heap[r]? = w.heap[r]?):RangeAt K vv w' b r L left:=by
 obtain⟨es,clk,seen,h1,h2,h3,h4,h5⟩:=h
 exact⟨es,clk,seen,hb.trans h1,h2,h3,hr.trans h4,h5⟩
theorem RangeAt.ext(h:RangeAt K vv w b r L left)(hc:Ext w w'):RangeAt K vv w' b r L left:=h.of_blocks (Ext.block hc h.lt.1) (Ext.block hc h.lt.2)
theorem MapAt.range{P:Program}{t kt et:TypeId}(h:MapAt K vv w b L)(ht:P.underlying t=some (.map kt et)) :
 ∃w',(Instr.range t (.map (some b))).run P w=.ok (.pointer (some ⟨w.heap.size,0,none⟩)) w'∧RangeAt K vv w' b w.heap.size L L∧Ext w w':=by
 obtain⟨es,clk,h1,h2,h3⟩:=h
 refine⟨w.alloc (.mapIter (some b) clk #[] clk),?_,⟨es,clk,#[],(Below.heap_alloc w _ b (lt_of_block h1)).trans h1,h2,h3,?_,?_⟩,(Ext.refl w).alloc _⟩
 ·simp[Instr.range,run_underlying ht,MapKept.run_getObj_map h1,Result.andThen]
 ·show(w.heap.push _)[w.heap.size]? = _
  simp
 ·have:leftOf es #[]=es:=by unfold leftOf;simp
  rw[this];exact h3
theorem RangeAt.next{P:Program}(h:RangeAt K vv w b r L left)(ty:TypeId) :
 (left=[]∧(Instr.next (.pointer (some ⟨r,0,none⟩)) false ty).run P w=.ok (.tuple #[.bool false]) w) ∨
 ∃p left' w',left.Perm (p::left')∧(Instr.next (.pointer (some ⟨r,0,none⟩)) false ty).run P w=.ok (.tuple #[.bool true,K.val p.1,vv p.2]) w' ∧
  RangeAt K vv w' b r L left'∧Chg (· = r) w w'∧(Instr.entry (.pointer (some ⟨r,0,none⟩))).run P w'=.ok (.tuple #[K.val p.1,vv p.2]) w':=by
 classical
 obtain⟨es,clk,seen,h1,h2,h3,h4,h5⟩:=h
 have hst:=(stamped_iff es clk).1 h2
 have hne:b≠r:=by rintro rfl;rw[h1]at h4;cases h4
 rcases run_next_at (P:=P) w ty r b clk clk seen es clk h4 h1 hst.1 (Nat.le_refl _)with⟨h0,hrun⟩|⟨e,he,w1,hw1,hrun⟩
 ·refine .inl ⟨?_,hrun⟩
  have:=h5.length_eq
  simp only[List.length_map,Array.length_toList,h0]at this
  exact List.eq_nil_of_length_eq_zero this.symm
 ·right
  have hmem:=h5.mem_iff.1 (List.mem_map.2 ⟨e,he,rfl⟩)
  obtain⟨p,hp,hpe⟩:=List.mem_map.1 hmem
  have hk:K.val p.1=e.key:=congrArg Prod.fst hpe
  have hv:vv p.2=e.val:=congrArg Prod.snd hpe
  obtain⟨l1,l2,hl⟩:=List.append_of_mem hp
  have hperm:left.Perm (p::(l1++l2)):=by rw[hl];exact List.perm_middle
  have hem:e∈es.toList:=by
   unfold leftOf at he
   simp at he⊢;exact he.1
  have b1:w1.heap[b]? = some (.map es clk):=by rcases hw1 with rfl|rfl <;> exact h1
  have r1:w1.heap[r]? = some (.mapIter (some b) clk seen clk):=by rcases hw1 with rfl|rfl <;> exact h4
  have c1:Chg (· = r) w w1:=by
   rcases hw1 with rfl|rfl
   ·exact Chg.refl _ _
   ·exact(Chg.refl _ _).drew
  have b2:(setBlock w1 r (.mapIter (some b) clk (seen.push e.born) clk)).heap[b]? = some (.map es clk):=by
   have:=(heap_set (o':=.mapIter (some b) clk (seen.push e.born) clk) r1).2 b hne
   exact this.trans b1
  have r2:(setBlock w1 r (.mapIter (some b) clk (seen.push e.born) clk)).heap[r]? = some (.mapIter (some b) clk (seen.push e.born) clk):=(heap_set r1).1
  refine⟨p,l1++l2,_,hperm,by rw[hk,hv];exact hrun,⟨es,clk,seen.push e.born,b2,h2,h3,r2,?_⟩,?_,?_⟩
  ·
   have hnb:(es.toList.map (·.born)).Nodup:=hst.2.1
   have hA:(leftOf es seen).toList.Perm (e::(leftOf es (seen.push e.born)).toList):=by
    have e1:(leftOf es (seen.push e.born)).toList=(leftOf es seen).toList.filter fun x=>decide (x.born≠e.born):=by
     unfold leftOf
     simp only[Array.toList_filter,List.filter_filter]
     refine List.filter_congr fun x _=>?_
     by_cases hx:x.born=e.born
     ·simp[hx]
     ·simp[hx]
    rw[e1]
    have hnl:((leftOf es seen).toList.map (·.born)).Nodup:=by
     have hs:(leftOf es seen).toList.Sublist es.toList:=by
      unfold leftOf;simp only[Array.toList_filter];exact List.filter_sublist
     exact(hs.map _).nodup hnb
    generalize (leftOf es seen).toList=l at he hnl
    clear e1
    induction l with
    | nil=>cases he
    | cons y l ih =>
     simp only[List.map_cons,List.nodup_cons]at hnl
     rcases List.mem_cons.1 he with rfl|he'
     ·have e3:(e::l).filter (fun x=>decide (x.born≠e.born))=l:=by
       rw[List.filter_cons,if_neg (by simp)]
       refine List.filter_eq_self.2 fun x hx=>?_
       have:x.born≠e.born:=fun h=>hnl.1 (List.mem_map.2 ⟨x,hx,h⟩)
       simpa using this
      rw[e3]
     ·have hyb:y.born≠e.born:=fun h=>hnl.1 (List.mem_map.2 ⟨e,he',h.symm⟩)
      rw[List.filter_cons,if_pos (by simpa using hyb)]
      exact((ih he' hnl.2).cons y).trans (List.Perm.swap _ _ _)
   have hB:=(hA.map fun e=>(e.key,e.val)).symm.trans (h5.trans (hperm.map _))
   simp only[List.map_cons]at hB
   rw[hk,hv]at hB
   exact(List.perm_cons _).1 hB
  ·exact c1.trans (chg_setBlock w1 r) (fun _ _ h=>h)
  ·rw[hk,hv]
   exact run_entry_at _ r b clk seen es clk e r2 b2 hem hst.2.1
end
end Go.Proofs.YtkkbfdencgdbhaaGreatDoor
