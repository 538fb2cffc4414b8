/-
  Part 15 of what the law leans on.
-/
import Derived.Test.YtiojjokfeknhcaaGreatSC1
import Derived.Test.YtiojjokfeknhcaaGreatSC2
import Derived.Deep.Slices
import Derived.RegionTactic
namespace Go.Proofs.YtiojjokfeknhcaaGreat
set_option maxRecDepth 100000
set_option maxHeartbeats 8000000
set_option linter.unusedVariables false
set_option linter.unusedSimpArgs false
set_option linter.unusedSectionVars false
open _root_.Go.Proofs.Tryz
structure Spot where
 up:Bool
 free:Int
def Spot.fits(s:Spot)(size:Int):Bool:=s.up&&decide (size≤s.free)
def qQk(l:List Spot)(i:Nat):Spot:=l.getD i ⟨false,0⟩
def mayB(l:List Spot)(size:Int)(hv:List Int)(i:Nat):Bool:=(qQk l i).fits size && !(hv.contains (i:Int))
def qZi(l:List Spot)(size:Int)(hv:List Int)(n:Nat):List Nat:=(List.range n).filter (mayB l size hv)
def qXi(l:List Spot)(a b:Nat):Prop:=(qQk l b).free<(qQk l a).free∨(qQk l a).free=(qQk l b).free∧a<b
def Chosen(l:List Spot)(size copies:Int)(hv r:List Int):Prop :=
 ∃ys:List Nat,ys.Perm (qZi l size hv l.length)∧ys.Pairwise (qXi l)∧r.Perm (hv++(if(hv.length:Int)<copies then(ys.take (copies - hv.length).toNat).map Int.ofNat else []))∧r.Pairwise (· ≤ ·)
theorem others_succ(l:List Spot)(size:Int)(hv:List Int)(n:Nat):qZi l size hv (n+1)=qZi l size hv n++(if mayB l size hv n then [n]else []):=by
 unfold qZi;rw[List.range_succ,List.filter_append]
 by_cases h:mayB l size hv n=true <;> simp[h]
theorem others_len(l:List Spot)(size:Int)(hv:List Int)(n:Nat):(qZi l size hv n).length≤n:=by
 have:=List.length_filter_le (mayB l size hv) (List.range n)
 simpa[qZi]using this
theorem others_lt{l:List Spot}{size:Int}{hv:List Int}{n i:Nat}(h:i∈qZi l size hv n):i<n∧mayB l size hv i=true:=by
 unfold qZi at h;simpa using h
theorem Chosen.len{l:List Spot}{size copies:Int}{hv r:List Int}(h:Chosen l size copies hv r):(r.length:Int)=hv.length+(if(hv.length:Int)<copies then min (copies - hv.length) (qZi l size hv l.length).length else 0):=by
 obtain⟨ys,h1,_,h3,_⟩:=h;have h4:=h3.length_eq;have h5:=h1.length_eq;rw[h4]
 split <;> simp <;> omega
section
variable{l:List Spot}
theorem ahead_trans{a b c:Nat}(h:qXi l a b)(h':qXi l b c):qXi l a c:=by
 unfold qXi at *;omega
def qZP(S:List Nat)(x:Nat)(rest:List Nat)(j:Nat):List Nat:=S.take j++x::(S.drop j++rest)
theorem insAt_len{S rest:List Nat}{x j:Nat}(hj:j≤S.length):(qZP S x rest j).length=S.length+rest.length+1:=by
 unfold qZP;simp;omega
theorem insAt_x{S rest:List Nat}{x j:Nat}(hj:j≤S.length):(qZP S x rest j)[j]? = some x:=by
 unfold qZP;rw[List.getElem?_append_right (by simp;omega),List.length_take,Nat.min_eq_left hj,Nat.sub_self];rfl
theorem insAt_ahead{S rest:List Nat}{x j:Nat}(hj:j<S.length):(qZP S x rest (j+1))[j]? = some S[j]:=by
 unfold qZP;rw[List.getElem?_append_left (by simp;omega),List.getElem?_take,if_pos (by omega),List.getElem?_eq_getElem hj]
theorem insAt_swap{S rest:List Nat}{x j:Nat}(hj:j<S.length):((qZP S x rest (j+1)).set (j+1) S[j]).set j x=qZP S x rest j:=by
 apply List.ext_getElem?
 intro i;have hl:(qZP S x rest (j+1)).length=S.length+rest.length+1:=insAt_len (by omega);rw[List.getElem?_set,List.getElem?_set];simp only[List.length_set,hl];unfold qZP
 by_cases h1:j=i
 ·subst h1;rw[if_pos rfl,if_pos (by omega),List.getElem?_append_right (by simp;omega),List.length_take,Nat.min_eq_left (by omega),Nat.sub_self];rfl
 ·rw[if_neg h1]
  by_cases h2:j+1=i
  ·subst h2;rw[if_pos rfl,if_pos (by omega),List.getElem?_append_right (by simp;omega),List.length_take,Nat.min_eq_left (by omega),show j+1 - j=1 by omega,List.getElem?_cons_succ,List.getElem?_append_left (by simp;omega),List.getElem?_drop,Nat.add_zero,List.getElem?_eq_getElem hj]
  ·rw[if_neg h2]
   by_cases h3:i<j
   ·rw[List.getElem?_append_left (by simp;omega),List.getElem?_append_left (by simp;omega),List.getElem?_take,List.getElem?_take,if_pos (by omega),if_pos h3]
   ·rw[List.getElem?_append_right (by simp;omega),List.getElem?_append_right (by simp;omega),List.length_take,List.length_take,Nat.min_eq_left (by omega),Nat.min_eq_left (by omega)];obtain⟨k,rfl⟩:∃k,i=j+2+k:=⟨i - (j+2),by omega⟩;rw[show j+2+k - (j+1)=k+1 by omega,show j+2+k - j=k+1+1 by omega,List.getElem?_cons_succ,List.getElem?_cons_succ];rw[List.drop_eq_getElem_cons hj,List.cons_append,List.getElem?_cons_succ]
theorem insAt_perm{S rest:List Nat}{x j:Nat} : (qZP S x [] j).Perm (S++[x]):=by
 unfold qZP;rw[List.append_nil]
 have:(S.take j++x::S.drop j).Perm (x::(S.take j++S.drop j)):=List.perm_middle
 rw[List.take_append_drop]at this;exact this.trans (List.perm_append_comm (l₁:=[x]) (l₂:=S))
theorem insAt_rest{S rest:List Nat}{x j:Nat} : qZP S x rest j=qZP S x [] j++rest:=by unfold qZP;simp
theorem insAt_top{S rest:List Nat}{x:Nat} : qZP S x rest S.length=S++x::rest:=by unfold qZP;simp
theorem qJn{S:List Nat}{x j:Nat}(hS:S.Pairwise (qXi l))(hx:∀y∈S,y<x)(hj:j≤S.length)(h1:∀y∈S.drop j,(qQk l y).free<(qQk l x).free)
 (h2:∀k,j=k+1→∀y,S[k]? = some y→¬ (qQk l y).free<(qQk l x).free):(qZP S x [] j).Pairwise (qXi l):=by
 unfold qZP;rw[List.append_nil];have hS':=hS;rw[←List.take_append_drop j S,List.pairwise_append]at hS';obtain⟨p1,p2,p3⟩:=hS';have hd:∀y∈S.drop j,qXi l x y:=fun y hy=>.inl (h1 y hy)
 have ht:∀y∈S.take j,qXi l y x:=by
  cases j with
  | zero=>intro y hy;simp at hy
  | succ k =>
   have hk:k<S.length:=by omega
   have hlast:=h2 k rfl S[k] (List.getElem?_eq_getElem hk);have hb:S[k]<x:=hx _ (List.getElem_mem hk);have hA:qXi l S[k] x:=by unfold qXi;omega
   intro y hy;obtain⟨i,hi⟩:=List.mem_iff_getElem?.1 hy;rw[List.getElem?_take]at hi
   split at hi
   ·rename_i hik
    by_cases e:i=k
    ·subst e;rw[List.getElem?_eq_getElem hk,Option.some.injEq]at hi;rw[←hi];exact hA
    ·have hi':i<S.length:=by omega
     rw[List.getElem?_eq_getElem hi',Option.some.injEq]at hi;rw[←hi];exact ahead_trans (List.pairwise_iff_getElem.1 hS i k hi' hk (by omega)) hA
   ·cases hi
 refine List.pairwise_append.2 ⟨p1,List.pairwise_cons.2 ⟨hd,p2⟩,fun a ha b hb=>?_⟩;rcases List.mem_cons.1 hb with rfl|hb
 ·exact ht a ha
 ·exact p3 a ha b hb
end
open Go.ChangeShapes Go.WideShapes Go.ChangeAt Go.RowKit
def Spot.cells(s:Spot):List Value:=[.bool s.up,.int .i64 s.free]
def Spot.Ok(s:Spot):Prop := -9223372036854775808≤s.free∧s.free≤9223372036854775807
theorem one_spot{H:Type}{enc:TypeId×Value→H}{W:World}{n:Nat}{cs:List Value}{x:DataW H×List MemPlace}
 (h:DataW.trod enc prog W 0 (fun _=>true) true n 55 cs=some x):∃a:Spot,cs=a.cells∧a.Ok:=by
 obtain⟨xs,k,_,_,hl,hxl,hf⟩:=DataW.trod_struct underlying55 h;rw[show prog.cellsOf 55=2 by kernel_rfl]at hl
 match cs,hl with
 | [v0,v1],_ =>
  have c3:prog.cellsOf 3=1:=by kernel_rfl
  have c4:prog.cellsOf 4=1:=by kernel_rfl
  have get:∀i:Nat,i<2→∃y,xs[i]? = some y:=fun i hi=>⟨xs[i]'(by rw[hxl];exact hi),List.getElem?_eq_getElem _⟩
  obtain⟨y0,g0⟩:=get 0 (by omega);obtain⟨y1,g1⟩:=get 1 (by omega);generalize hfs:(#[_,_]:Array Field)=fs at hf hxl
  have key:∀(i t o:Nat),(∃f,fs[i]? = some f∧f.type=t∧f.offset=o)→prog.cellsOf t=1→DataW.trod enc prog W 0 (fun _=>true) true k t (([v0,v1].drop o).take 1)=xs[i]? := by
   rintro i t o ⟨f,hi,rfl,rfl⟩ hc;rw[←hc];exact hf i f hi
  subst hfs;have f0:DataW.trod enc prog W 0 (fun _=>true) true k 4 [v0]=some y0:=(key 0 4 0 ⟨_,rfl,rfl,rfl⟩ c4).trans g0;have f1:DataW.trod enc prog W 0 (fun _=>true) true k 3 [v1]=some y1:=(key 1 3 1 ⟨_,rfl,rfl,rfl⟩ c3).trans g1;obtain⟨a0,e0,_⟩:=DataW.trod_bool underlying4 f0;obtain⟨a1,e1,_,w1⟩:=DataW.trod_int underlying3 f1;simp only[List.cons.injEq,and_true]at e0 e1;subst e0 e1;exact⟨⟨a0,a1⟩,rfl,bounds_i64 w1⟩
open Go.RowKit Go.Sort
theorem fits_any(w:World)(s:Spot)(size:Int):Calls prog 87 #[.agg #[.bool s.up,.int .i64 s.free],.int .i64 size] w fun e w'=>e=.returned (.bool (s.fits size))∧Ext w w':=by
 have hB:=At.new w 55 #[.bool s.up,.int .i64 s.free];have c0:=hB.cell 0;have c1:=hB.cell 1;simp at c0 c1;unfold Spot.fits;obtain⟨up,free⟩:=s;cases up
 ·go_enter func87,ntmps87
  go_wp2
  go_ret
  exact⟨by simp,(Er w).alloc _⟩
 ·go_enter func87,ntmps87
  go_wp2
  go_ret
  exact⟨by simp,(Er w).alloc _⟩
theorem qQP{w:World}{b o n c:Nat}{l:List Spot}(h:Sln w (.slice (some ⟨b,o,none⟩) n c) 2 (l.map Spot.cells)){i:Nat}(hi:i<l.length) :
 w.cell? ⟨b,o+i * 2,none⟩=some (.bool (qQk l i).up)∧w.cell? ⟨b,o+i * 2+1,none⟩=some (.int .i64 (qQk l i).free):=by
 obtain⟨A,c',hv,hx⟩:=h
 have hne:l.map Spot.cells≠[]:=fun e=>by
  have:=List.map_eq_nil_iff.1 e
  subst this;simp at hi
 obtain⟨b',o',rfl,hc⟩:=hx hne;simp only[Value.slice.injEq,Option.some.injEq,Addr.mk.injEq,and_true]at hv;obtain⟨⟨rfl,rfl⟩,_,_⟩:=hv
 have hg:(l.map Spot.cells)[i]? = some (qQk l i).cells:=by
  rw[List.getElem?_map,List.getElem?_eq_getElem hi];unfold qQk;rw[List.getD_eq_getElem?_getD,List.getElem?_eq_getElem hi];rfl
 exact⟨hc i _ hg 0 _ rfl,hc i _ hg 1 _ rfl⟩
theorem dis1_any(w:World)(L b o n c:Nat)(l:List Spot)(hL:w.cell? ⟨L,0,none⟩=some (.slice (some ⟨b,o,none⟩) n c))(hS:Sln w (.slice (some ⟨b,o,none⟩) n c) 2 (l.map Spot.cells))(x y:Nat)(hx:x<l.length)(hy:y<l.length)(hl:l.length≤12) :
 Calls prog 112 #[.int .i64 x,.int .i64 y,.pointer (some ⟨L,0,none⟩)] w fun e w'=>e=.returned (.int .i64 (Lib.compareInt (qQk l y).free (qQk l x).free))∧Ext w w':=by
 have hxc:=(qQP hS hx).2;have hyc:=(qQP hS hy).2
 have hn:n=l.length:=by
  obtain⟨A,c',hv,_⟩:=hS;simp only[Value.slice.injEq,List.length_map]at hv;exact hv.2.1
 subst hn;have rg:∀ {p:Addr} {u:Value},w.cell? p=some u→∀d os,(grow (redrawn w d) os).cell? p=some u:=fun h d os=>(Ext.cell (qQn w d os) (qQv h)).trans h
 have r1:=rg hL;have r2:=rg hxc;have r3:=rg hyc
 have cw:∀d os,Calls prog 113 #[.int .i64 (qQk l y).free,.int .i64 (qQk l x).free] (grow (redrawn w d) os) fun e w''=>e=.returned (.int .i64 (Lib.compareInt (qQk l y).free (qQk l x).free))∧∃p:Regrown,w''=grow (redrawn w p.d) p.os:=fun d os =>
  (Tryz.cmp_Compare_int _ _ _).mono (by rintro e w' ⟨rfl,rfl⟩;exact⟨rfl,⟨⟨d,os⟩,rfl⟩⟩)
 clear rg hL hS hxc hyc
 go_enter func112,ntmps112
 go_wp2_with fail
 refine qQc (by kernel_rfl) (by kernel_rfl) ?_
 repeat (go_big_quiet_step (first|with_reducible exact cw _ _))
 refine wpQuiet_nil ?_;intro W8 hE8;go_wp2_with fail
 go_ret
 exact⟨rfl,hE8⟩
open Go.RowKit Go.Sort
def ival(i:Nat):Value:=.int .i64 (i:Int)
theorem insc_any(w:World)(L b o m c0 g n cap base:Nat)(l:List Spot)(xs:List Nat)(hL:w.cell? ⟨L,0,none⟩=some (.slice (some ⟨b,o,none⟩) m c0))(hS:Sln w (.slice (some ⟨b,o,none⟩) m c0) 2 (l.map Spot.cells))
 (hgL:L≠g) (hgb:b≠g) (hown:w.ownsRow base 3 1 (.slice (some ⟨g,0,none⟩) n cap) n (xs.map ival)) (hx:∀x∈xs,x<l.length) (hr:xs.Pairwise (· < ·)) (hl:l.length≤12) (hn0:0<n) (hn1:n≤12) :
 Calls prog 147 #[.slice (some ⟨g,0,none⟩) n cap,.int .i64 0,.int .i64 n,.func (.func 112) #[] #[.pointer (some ⟨L,0,none⟩)]] w fun e w'=>e=.returned (.tuple #[]) ∧
  ∃ys:List Nat,ys.Perm xs∧ys.Pairwise (qXi l)∧w'.ownsRow base 3 1 (.slice (some ⟨g,0,none⟩) n cap) n (ys.map ival)∧Chg (· = g) w w':=by
 have hlen:xs.length=n:=by have:=hown.1;simpa using this
 go_enter func147,ntmps147
 go_wp2_with fail
 go_loopw [8] (fun iv wr=>∃(k:Nat) (S:List Nat),1≤k∧k≤n∧iv=.int .i64 (k:Int)∧S.length=k∧S.Perm (xs.take k)∧S.Pairwise (qXi l)∧wr.ownsRow base 3 1 (.slice (some ⟨g,0,none⟩) n cap) n ((S++xs.drop k).map ival)∧Chg (· = g) w wr) (fun iv _=>n - (intOf iv).toNat)
 case atStart =>
  refine⟨1,xs.take 1,Nat.le_refl _,hn0,rfl,by simp;omega,List.Perm.refl _,?_,by rw[List.take_append_drop];exact hown,Chg.refl _ _⟩
  cases xs with
  | nil=>exact List.Pairwise.nil
  | cons x r=>simp
 case round =>
  obtain⟨k,S,hk1,hkn,rfl,hSl,hSp,hSA,hown,hC⟩:=hrel
  by_cases hlt:k<n
  ·have hkx:k<xs.length:=by omega
   have hdrop:xs.drop k=xs[k]::xs.drop (k+1):=List.drop_eq_getElem_cons hkx;have hxl:xs[k]<l.length:=hx _ (List.getElem_mem hkx)
   have hbelow:∀y∈S,y<xs[k]:=fun y hy=>by
    have hy':=hSp.mem_iff.1 hy;obtain⟨i,hi⟩:=List.mem_iff_getElem?.1 hy';rw[List.getElem?_take]at hi
    split at hi
    ·rename_i hik
     rw[List.getElem?_eq_getElem (by omega),Option.some.injEq]at hi;rw[←hi];exact List.pairwise_iff_getElem.1 hr i k (by omega) hkx hik
    ·cases hi
   have hSin:∀y∈S,y<l.length:=fun y hy=>hx y (List.mem_of_mem_take (hSp.mem_iff.1 hy))
   have htake:(xs.take (k+1))=xs.take k++[xs[k]]:=List.take_succ_eq_append_getElem hkx;have hrl:(xs.drop (k+1)).length=n - (k+1):=by simp;omega
   rw[hdrop,←insAt_top]at hown;obtain⟨rest,hrest⟩:∃r,r=xs.drop (k+1):=⟨_,rfl⟩;rw[←hrest]at hdrop hown hrl;have H0:=Hh hrest;clear hrest;generalize xs[k]=x at *;have H1:=Hh hdrop;have H2:=Hh htake;clear hdrop htake;subst hSl;go_wp2_with fail
   go_loopw [9] (fun jv wx=>∃j:Nat,j≤S.length∧jv=.int .i64 (j:Int)∧wx.ownsRow base 3 1 (.slice (some ⟨g,0,none⟩) n cap) n ((qZP S x rest j).map ival)∧(∀y∈S.drop j,(qQk l y).free<(qQk l x).free)∧Chg (· = g) w wx) (fun jv _=>(intOf jv).toNat)
   case atStart=>exact⟨S.length,Nat.le_refl _,rfl,hown,by simp,hC⟩
   case round =>
    obtain⟨j,hj,rfl,hown2,hd,hC2⟩:=hrel;have hL2:wr.cell? ⟨L,0,none⟩=some (.slice (some ⟨b,o,none⟩) m c0):=(hC2.cell (p:=⟨L,0,none⟩) (qQv hL) hgL).trans hL
    have hS2:=hS.chg hC2 (fun b' o' n' c' hv _ hh=>by
     simp only[Value.slice.injEq,Option.some.injEq,Addr.mk.injEq]at hv;exact hgb (hv.1.1.trans hh))
    have rg:∀ {p:Addr} {u:Value},wr.cell? p=some u→∀d os,(grow (redrawn wr d) os).cell? p=some u:=fun h d os=>(Ext.cell (qQn wr d os) (qQv h)).trans h
    rcases Nat.eq_zero_or_pos j with h0|h0
    ·subst h0;have hfin:=qJn hSA hbelow (Nat.zero_le _) hd (fun k h=>by omega);go_wp2_with fail
     refine qQc (by kernel_rfl) (by kernel_rfl) ?_
     repeat (go_big_quiet_step (fail))
     refine wpQuiet_nil ?_;intro W8 hE8;go_wp2_with fail
     go_roundw
     case rel =>
      refine⟨S.length+1,qZP S x [] 0,by omega,by omega,by go_num,?_,?_,hfin,?_,?_⟩
      ·rw[insAt_len (Nat.zero_le _)];rfl
      ·rw[H2.out];exact(insAt_perm (rest:=[])).trans (hSp.append_right _)
      ·rw[←H0.out,←insAt_rest];exact own_chg hown2 (Ext.chg (S:=fun _=>False) hE8) (fun _ h=>h.elim)
      ·exact hC2.ext_trans hE8
     case measure=>simp[intOf];omega
    ·obtain⟨i,rfl⟩:∃i,j=i+1:=⟨j - 1,by omega⟩;have hi:i<S.length:=by omega
     have hfin:¬ (qQk l S[i]).free<(qQk l x).free→(qZP S x [] (i+1)).Pairwise (qXi l):=fun hn=>qJn hSA hbelow hj hd (fun k h y hy=>by
      obtain rfl:k=i:=by omega
      rw[List.getElem?_eq_getElem hi,Option.some.injEq]at hy;rw[←hy];exact hn)
     have hstep:(qQk l S[i]).free<(qQk l x).free→∀y∈S.drop i,(qQk l y).free<(qQk l x).free:=fun hlt y hy=>by
      rw[List.drop_eq_getElem_cons hi]at hy;rcases List.mem_cons.1 hy with rfl|hy
      ·exact hlt
      ·exact hd y hy
     have hswap:=insAt_swap (rest:=rest) (x:=x) hi;have g1:(qZP S x rest (i+1))[i+1]? = some x:=insAt_x hj;have g0:=insAt_ahead (rest:=rest) (x:=x) hi;have hyl:=hSin _ (List.getElem_mem hi);have hmlen:((qZP S x rest (i+1)).map ival).length=n:=by have:=hown2.1;simpa using this
     generalize S[i]=y at *;have r1:wr.cell? ⟨g,i+1,none⟩=some (.int .i64 (x:Int)):=by rw[hown2.cellAt (i+1) (by omega),List.getElem?_map,g1];rfl
     have r0:wr.cell? ⟨g,i,none⟩=some (.int .i64 (y:Int)):=by rw[hown2.cellAt i (by omega),List.getElem?_map,g0];rfl
     have q1:=rg r1;have q0:=rg r0
     have cw:∀d os,Calls prog 112 #[.int .i64 x,.int .i64 y,.pointer (some ⟨L,0,none⟩)] (grow (redrawn wr d) os) fun e w''=>e=.returned (.int .i64 (Lib.compareInt (qQk l y).free (qQk l x).free))∧∃p:Regrown,w''=grow (redrawn wr p.d) p.os:=fun d os =>
      Calls.ext_of (dis1_any _ L b o m c0 l (rg hL2 d os) (hS2.ext (qQn wr d os)) x y hxl hyl hl)
     go_wp2_with fail
     refine qQc (by kernel_rfl) (by kernel_rfl) ?_
     repeat (go_big_quiet_step (first|with_reducible exact cw _ _))
     refine wpQuiet_nil ?_;intro W8 hE8;have hfr:=hown2.frozenAt;replace hown2:=own_chg hown2 (Ext.chg (S:=fun _=>False) hE8) (fun _ h=>h.elim)
     by_cases hc:(qQk l y).free<(qQk l x).free
     ·have t1:Lib.compareInt (qQk l y).free (qQk l x).free<0:=by unfold Lib.compareInt;rw[if_pos hc];decide
      have hcr:=hstep hc;clear hfin hstep hd cw q1 q0 r1 r0 rg;have r1:W8.cell? ⟨g,i+1,none⟩=some (.int .i64 (x:Int)):=by rw[hown2.cellAt (i+1) (by omega),List.getElem?_map,g1];rfl
      have r0:W8.cell? ⟨g,i,none⟩=some (.int .i64 (y:Int)):=by rw[hown2.cellAt i (by omega),List.getElem?_map,g0];rfl
      have f1:=hown2.frozenAt (i+1);have f0:=hown2.frozenAt i;go_wp2_with fail
      go_region
      have hst:=((hown2.stored (i+1) (ival y)).1.stored i (ival x)).1;rw[←List.map_set,←List.map_set,hswap]at hst;have hCs:Chg (· = g) w ((W8.setCell ⟨g,i+1,none⟩ (ival y)).setCell ⟨g,i,none⟩ (ival x)):=((hC2.ext_trans hE8).setCell (.inl rfl) _).setCell (.inl rfl) _;unfold ival at hst hCs;generalize (W8.setCell ⟨g,i+1,none⟩ (.int .i64 (y:Int))).setCell ⟨g,i,none⟩ (.int .i64 (x:Int))=W9 at hst hCs⊢;go_wp2_with fail
      go_roundw
      case rel=>exact⟨i,by omega,by go_num,hst.drew,hcr,hCs.drew⟩
      case measure=>simp[intOf]
     ·have t1:¬ Lib.compareInt (qQk l y).free (qQk l x).free<0:=by
       unfold Lib.compareInt;rw[if_neg hc];split <;> omega
      have hcr:=hfin (by omega);clear hfin hstep hd cw q1 q0 r1 r0 rg;go_wp2_with fail
      go_roundw
      case rel =>
       refine⟨S.length+1,qZP S x [] (i+1),by omega,by omega,by go_num,?_,?_,hcr,?_,?_⟩
       ·rw[insAt_len hj];rfl
       ·rw[H2.out];exact(insAt_perm (rest:=[])).trans (hSp.append_right _)
       ·rw[←H0.out,←insAt_rest];exact hown2
       ·exact hC2.ext_trans hE8
      case measure=>simp[intOf];omega
  ·have hge:k=n:=by omega
   subst hge;rw[List.drop_of_length_le (by omega),List.append_nil]at hown;rw[List.take_of_length_le (by omega)]at hSp;go_wp2_with fail
   go_end0
   exact⟨rfl,S,hSp,hSA,hown,hC⟩
open Go.RowKit Go.Sort
theorem insc_none(w:World)(v fv:Value):Calls prog 147 #[v,.int .i64 0,.int .i64 0,fv] w fun e w'=>e=.returned (.tuple #[])∧w'=w:=by
 go_enter func147,ntmps147
 go_wp2_with fail
 go_loopw [8] (fun iv wr=>iv=.int .i64 1∧wr=w) (fun _ _=>0)
 case atStart=>exact⟨rfl,rfl⟩
 case round =>
  obtain⟨rfl,rfl⟩:=hrel;go_wp2_with fail
  go_end0
  exact⟨rfl,rfl⟩
theorem qJf(w:World)(v fv:Value)(n:Nat)(hn:n≤12)(R:World→Prop)
 (hc:Calls prog 147 #[v,.int .i64 0,.int .i64 n,fv] w fun e w'=>e=.returned (.tuple #[])∧R w') :
 Calls prog 132 #[v,.int .i64 n,fv] w fun e w'=>e=.returned (.tuple #[])∧R w':=by
 go_enter func132,ntmps132
 go_wp2_with fail
 go_loopw [7,8] (fun a b wr=>a=.int .i64 0∧b=.int .i64 20∧wr=w) (fun _ _ _=>0)
 case atStart=>exact⟨rfl,rfl,rfl⟩
 case round =>
  obtain⟨rfl,rfl,rfl⟩:=hrel;go_wp2_with fail
  refine hc.mono ?_;rintro e w1 ⟨rfl,hR⟩;go_wp2_with fail
  go_loopw [6,7,8,9] (fun a _ _ _ wx=>a=.int .i64 20∧wx=w1) (fun _ _ _ _ _=>0)
  case atStart=>exact⟨rfl,rfl⟩
  case round =>
   obtain⟨rfl,rfl⟩:=hrel;go_wp2_with fail
   go_end0
   exact⟨rfl,hR⟩
theorem stable_any(w:World)(L b o m c0 n base:Nat)(v:Value)(l:List Spot)(xs:List Nat)(hL:w.cell? ⟨L,0,none⟩=some (.slice (some ⟨b,o,none⟩) m c0))(hS:Sln w (.slice (some ⟨b,o,none⟩) m c0) 2 (l.map Spot.cells))
 (hgL:L<base) (hgb:b<base) (hown:w.ownsRow base 3 1 v n (xs.map ival)) (hx:∀x∈xs,x<l.length) (hr:xs.Pairwise (· < ·)) (hl:l.length≤12) (hn1:n≤12) :
 Calls prog 111 #[v,.func (.func 112) #[] #[.pointer (some ⟨L,0,none⟩)]] w fun e w'=>e=.returned (.tuple #[]) ∧
  ∃ys:List Nat,ys.Perm xs∧ys.Pairwise (qXi l)∧w'.ownsRow base 3 1 v n (ys.map ival)∧Chg (fun k=>base≤k) w w':=by
 have hlen:xs.length=n:=by have:=hown.1;simpa using this
 have key:∃A c,v=.slice A n c∧Calls prog 132 #[v,.int .i64 n,.func (.func 112) #[] #[.pointer (some ⟨L,0,none⟩)]] w fun e w'=>e=.returned (.tuple #[]) ∧
  ∃ys:List Nat,ys.Perm xs∧ys.Pairwise (qXi l)∧w'.ownsRow base 3 1 v n (ys.map ival)∧Chg (fun k=>base≤k) w w':=by
  have nil:n=0→Calls prog 132 #[v,.int .i64 n,.func (.func 112) #[] #[.pointer (some ⟨L,0,none⟩)]] w fun e w'=>e=.returned (.tuple #[]) ∧
   ∃ys:List Nat,ys.Perm xs∧ys.Pairwise (qXi l)∧w'.ownsRow base 3 1 v n (ys.map ival)∧Chg (fun k=>base≤k) w w':=fun h0=>by
   have hxs:xs=[]:=List.eq_nil_of_length_eq_zero (by omega);subst h0;refine qJf w v _ 0 hn1 _ ((insc_none w v _).mono ?_);rintro e w' ⟨rfl,rfl⟩;exact⟨rfl,xs,List.Perm.refl _,by rw[hxs];exact List.Pairwise.nil,hown,Chg.refl _ _⟩
  rcases hown.2 with⟨rfl,h0⟩|⟨g,cap,cur,rfl,hbase,hg,_⟩
  ·exact⟨none,0,by rw[h0],nil h0⟩
  ·refine⟨some ⟨g,0,none⟩,cap,rfl,?_⟩
   rcases Nat.eq_zero_or_pos n with h0|h0
   ·exact nil h0
   ·refine qJf w _ _ n hn1 _ ((insc_any w L b o m c0 g n cap base l xs hL hS (by omega) (by omega) hown hx hr hl h0 hn1).mono ?_);rintro e w' ⟨rfl,ys,h1,h2,h3,h4⟩;exact⟨rfl,ys,h1,h2,h3,h4.mono fun k _ h=>by have h':k=g:=h;show base≤k;omega⟩
 obtain⟨A,c,rfl,hc⟩:=key
 go_enter func111,ntmps111
 go_wp2_with fail
 refine hc.mono ?_;rintro e w1 ⟨rfl,hR⟩;go_wp2_with fail
 go_end0
 exact⟨rfl,hR⟩
open Go.RowKit Go.Sort
theorem pclone_any(w:World)(v:Value)(hl:List Int)(hH:Sl w v (hl.map (Value.int .i64)))(hb:hl.length≤17592186043904) :
 Calls prog 72 #[v] w fun e w'=>∃v',e=.returned v'∧w'.ownsRow w.heap.size 3 1 v' hl.length (hl.map (Value.int .i64))∧Ext w w':=by
 obtain⟨A,c,rfl,hx⟩:=hH;rw[List.length_map]
 by_cases hne:hl=[]
 ·subst hne;cases A with
  | none =>
   refine(Tryz.slices_Clone_int_nil _ _ _).mono ?_
   rintro e w' ⟨rfl,rfl⟩;exact⟨_,rfl,⟨rfl,.inl ⟨rfl,rfl⟩⟩,Er _⟩
  | some a =>
   refine(Tryz.slices_Clone_int_zero a c w).mono ?_
   rintro e w' ⟨v',rfl,h1,_,h2⟩;exact⟨_,rfl,h1,Ext.of_below h2⟩
 ·obtain⟨b,o,rfl,hc⟩:=hx (by simpa using hne);refine(Tryz.slices_Clone_int b o hl.length c hl w (Nat.le_refl _) (by omega) (fun j hj=>?_)).mono ?_
  ·exact hc j _ (by rw[List.getElem?_map,List.getElem?_eq_getElem hj,List.getD_eq_getElem?_getD,List.getElem?_eq_getElem hj];rfl)
  ·rintro e w' ⟨v',rfl,h1,_,h2⟩;rw[List.take_length]at h1;exact⟨_,rfl,h1,Ext.of_below h2⟩
theorem qX2{P:Program}{ops:Array Oper}{rest:List Oper}{o:Oper}{a:Act}{w:World}{Q:Exit→Act→World→Prop}(hgd:o.guard=none)(s x:Operand)(t:TypeId)
 (ho:o.op=.call { callee:=.builtin .append,args:=#[s,x],argTypes:=#[t,t] }) (base:Nat) (e:TypeId) (i:TypeInfo) (size:Nat) (ht:P.underlying t=some (.slice e)) (hi:P.info? e=some i)
 (v:Value) (n:Nat) (xs:List Value) (hs:a.eval s=v) (hown:w.ownsRow base e size v n xs) (hx:a.eval x=.slice none 0 0)
 (h:wpList P ops Q rest (a.put o.dst v) w):wpList P ops Q (o::rest) a w :=
 wpList_plain hgd fun _ hK=>by
  have hrun:=run_append_owned_none (P:=P) w base t o.type e i size ht hi v n xs hown;unfold Oper.wp execOp;simp only[ho,resolve,invoke,builtin,Sem.run_bind,Sem.run_pure,Result.andThen_ok,List.map_toArray,List.map_cons,List.map_nil,hs,hx,hrun];exact hK _ _ h
theorem sortI_le'(zs:List Int):(qXt zs).Pairwise (· ≤ ·) :=
 (List.pairwise_mergeSort (fun a b c h1 h2=>by simp only[decide_eq_true_eq]at *;omega) (fun a b=>by simp only[Bool.or_eq_true,decide_eq_true_eq];omega) zs).imp (by simp)
theorem own_base{w:World}{base base':Nat}{v:Value}{xs:List Value}{n:Nat}{e:TypeId}(h:w.ownsRow base e 1 v n xs)(hb:base'≤base):w.ownsRow base' e 1 v n xs:=by
 refine⟨h.1,?_⟩
 rcases h.2 with h|⟨g,cap,cur,h1,h2,h3⟩
 ·exact .inl h
 ·exact .inr ⟨g,cap,cur,h1,by omega,h3⟩
theorem qJg{w:World}{base:Nat}{v:Value}{xs:List Value}{n:Nat}{e:TypeId}(h:w.ownsRow base e 1 v n xs):∃A c,v=.slice A n c∧((A=none∧n=0∧c=0)∨∃g,A=some ⟨g,0,none⟩∧base≤g∧n≤c∧c≤maxLen):=by
 rcases h.2 with⟨rfl,h0⟩|⟨g,cap,cur,rfl,hb,_,h1,h2,_⟩
 ·exact⟨none,0,by rw[h0],.inl ⟨rfl,h0,rfl⟩⟩
 ·exact⟨_,_,rfl,.inr ⟨g,rfl,hb,h1,h2⟩⟩
theorem pown_keep{w w':World}{base:Nat}{e:TypeId}{size:Nat}{v:Value}{n:Nat}{xs:List Value}(h:w.ownsRow base e size v n xs)(hc:∀k,k<w.heap.size→w'.heap[k]? = w.heap[k]?):w'.ownsRow base e size v n xs:=by
 obtain⟨h1,h2⟩:=h;refine⟨h1,?_⟩
 rcases h2 with h2|⟨g,cap,cur,rfl,hb,hg,h3⟩
 ·exact .inl h2
 ·exact .inr ⟨g,cap,cur,rfl,hb,(hc g (qQY hg)).trans hg,h3⟩
theorem stable_nil(w:World)(A:Option Addr)(c:Nat)(fv:Value):Calls prog 111 #[.slice A 0 c,fv] w fun e w'=>e=.returned (.tuple #[])∧w'=w:=by
 have hc:=qJf w (.slice A 0 c) fv 0 (by omega) (fun w'=>w'=w) (insc_none w _ _)
 go_enter func111,ntmps111
 go_wp2_with fail
 refine hc.mono ?_;rintro e w1 ⟨rfl,rfl⟩;go_wp2_with fail
 go_end0
 exact⟨rfl,rfl⟩
theorem contains_any(w:World)(v:Value)(hl:List Int)(hH:Sl w v (hl.map (Value.int .i64)))(hb:hl.length≤17592186043904)(x:Int) :
 Calls prog 110 #[v,.int .i64 x] w fun e w'=>e=.returned (.bool (hl.contains x))∧w'=w:=by
 obtain⟨A,c,rfl,hx⟩:=hH;rw[List.length_map]
 by_cases hne:hl=[]
 ·subst hne;exact Tryz.slices_Contains_int_empty A c x w
 ·obtain⟨b,o,rfl,hc⟩:=hx (by simpa using hne)
  have:=Tryz.slices_Contains_int b o hl.length c hl x w (Nat.le_refl _) (by omega) (fun j hj=>hc j _ (by rw[List.getElem?_map,List.getElem?_eq_getElem hj,List.getD_eq_getElem?_getD,List.getElem?_eq_getElem hj];rfl))
  rw[List.take_length]at this;exact this
theorem disks_any(w:World)(lv hvv:Value)(l:List Spot)(hv:List Int)(hS:Sln w lv 2 (l.map Spot.cells))(hH:Sl w hvv (hv.map (Value.int .i64)))(hl:l.length≤12)(hhl:hv.length≤1000)(size copies:Int)(hcp:copies≤1000)(hcp0:0≤copies) :
 Calls prog 86 #[lv,.int .i64 size,.int .i64 copies,hvv] w fun e w'=>∃(v:Value) (r:List Int),e=.returned (.tuple #[v,.bool (decide (copies≤(r.length:Int)))])∧Chosen l size copies hv r∧w'.ownsRow w.heap.size 3 1 v r.length (r.map (Value.int .i64))∧Ext w w':=by
 obtain⟨i0,hi,hz0,hz1,hz2⟩:=info_parts qZx;obtain⟨LA,lc,rfl,hlx⟩:=hS;have hS:Sln w (.slice LA (l.map Spot.cells).length lc) 2 (l.map Spot.cells):=⟨LA,lc,rfl,hlx⟩;clear hlx;rw[List.length_map]at hS⊢
 go_enter func86,ntmps86
 go_wp2_with fail
 have hBx:=At.new w 23 #[.slice LA l.length lc];have hE0:=(Er w).alloc (.cells #[.slice LA l.length lc] 23);generalize w.alloc (.cells #[.slice LA l.length lc] 23)=w0 at hBx hE0⊢;refine(pclone_any w0 hvv hv (hH.ext hE0) (by omega)).mono ?_
 rintro e w1 ⟨rv,rfl,hrown,hE1⟩;have hE01:=hE0.trans hE1;replace hBx:=hBx.ext hE1;have c4:=hBx.cell 0;simp at c4;go_wp2_with fail
 go_loopw [11,19] (fun ov iv wr=>∃k:Nat,k≤l.length∧iv=.int .i64 (k:Int)∧wr.ownsRow w1.heap.size 3 1 ov (qZi l size hv k).length ((qZi l size hv k).map ival)∧Ext w1 wr) (fun _ iv _=>l.length - (intOf iv).toNat)
 case atStart=>exact⟨0,Nat.zero_le _,rfl,⟨rfl,.inl ⟨rfl,rfl⟩⟩,Er _⟩
 case round =>
  obtain⟨k,hk,rfl,hown,hE⟩:=hrel
  by_cases hlt:k<l.length
  ·have hS2:=hS.ext (hE01.trans hE);have hH2:=hH.ext (hE01.trans hE)
   obtain⟨b,o,rfl⟩:∃b o,LA=some ⟨b,o,none⟩:=by
    obtain⟨A',c',hv',hx⟩:=hS2;obtain⟨b,o,rfl,_⟩:=hx (fun e=>by have:=List.map_eq_nil_iff.1 e;subst this;simp at hlt);simp only[Value.slice.injEq]at hv';exact⟨b,o,hv'.1⟩
   obtain⟨r0,r1⟩:=qQP hS2 hlt;have hsz:=hE.size;have hos:=others_succ l size hv k;have holen:=others_len l size hv k;unfold mayB at hos;generalize qZi l size hv k=os at *;go_wp2_with fail
   refine(fits_any _ (qQk l k) size).mono ?_
   rintro e w2 ⟨rfl,hE2⟩;have hX:Ext w1 w2:=(hE.alloc _).trans hE2;have hE12:=(Er wr).alloc (.cells #[.bool (qQk l k).up,.int .i64 (qQk l k).free] 55);have hown2:=own_chg (own_chg hown hE12.chg (S:=fun _=>False) (fun _ h=>h.elim)) (Ext.chg (S:=fun _=>False) hE2) (fun _ h=>h.elim);have hH3:=hH.ext (hE01.trans hX);have hsz3:=hX.size;clear r0 r1 hE2 hE12 hown hE hS2 hH2 hsz;cases hf:(qQk l k).fits size
   ·rw[hf]at hos;have HO:=Hh hos;clear hos;go_wp2_with fail
    go_roundw
    case rel=>exact⟨k+1,by omega,by go_num,by rw[HO.out];simpa using hown2,hX⟩
    case measure=>simp[intOf];omega
   ·rw[hf]at hos;go_wp2_with fail
    refine(contains_any w2 hvv hv hH3 (by omega) (k:Int)).mono ?_
    rintro e w3 ⟨rfl,rfl⟩;cases hcn:hv.contains (k:Int)
    ·rw[hcn]at hos;have HO:=Hh hos;clear hos
     go_wp2_with (at_builtin;refine wpList_append_own _ rfl _ _ 24 rfl w1.heap.size 3 i0 (.int .i64 0) 1 8 underlying24 hi hz0 hz1 hz2 rfl (by decide) _ _ _ rfl (hown2.alloc _) ⟨w3.heap.size,0,none⟩ 1 1 [.int .i64 (k:Int)] rfl rfl ?c1 ?c2 ?c3 ?c4 ?c5 ?_)
     case c1=>exact qXh
     case c2=>simp[Value.oneCell']
     case c3=>unfold maxLen;omega
     case c4=>omega
     case c5=>simp;omega
     intro v1 w4 hown4 hgrow4 _;have hge:=qZV (hown2.alloc (.cells #[.int .i64 (k:Int)] 3));have hE4:Ext w1 w4:=Chg.mono ((hX.alloc _).chg_trans (Chg.of_grown hgrow4)) fun j hj h=>by have:=hge j h;omega
     clear hgrow4 hge
     go_wp2
     go_roundw
     case rel=>exact⟨k+1,by omega,by go_num,by rw[HO.out];simpa[ival]using hown4,hE4⟩
     case measure=>simp[intOf];omega
    ·rw[hcn]at hos;have HO:=Hh hos;clear hos;go_wp2_with fail
     go_roundw
     case rel=>exact⟨k+1,by omega,by go_num,by rw[HO.out];simpa using hown2,hX⟩
     case measure=>simp[intOf];omega
  ·obtain rfl:k=l.length:=by omega
   have hos:∀x∈qZi l size hv l.length,x<l.length:=fun x hx=>(others_lt hx).1
   have hor:(qZi l size hv l.length).Pairwise (· < ·):=List.Pairwise.filter _ List.pairwise_lt_range;have holen:=others_len l size hv l.length;have hsz:=hE.size;obtain⟨oA,oc,hoe,hov⟩:=qJg hown;subst hoe
   have hsort:Calls prog 111 #[.slice oA (qZi l size hv l.length).length oc,.func (.func 112) #[] #[.pointer (some ⟨w.heap.size,0,none⟩)]] wr fun e w'=>e=.returned (.tuple #[]) ∧
    ∃ys:List Nat,ys.Perm (qZi l size hv l.length)∧ys.Pairwise (qXi l)∧w'.ownsRow w1.heap.size 3 1 (.slice oA (qZi l size hv l.length).length oc) (qZi l size hv l.length).length (ys.map ival)∧Chg (fun k=>w1.heap.size≤k) wr w':=by
    by_cases h0:l=[]
    ·have hon:qZi l size hv l.length=[]:=by subst h0;rfl
     rw[hon]at hown⊢;refine(stable_nil wr oA oc _).mono ?_
     rintro e w' ⟨rfl,rfl⟩;exact⟨rfl,[],List.Perm.refl _,List.Pairwise.nil,hown,Chg.refl _ _⟩
    ·have hS2:=hS.ext (hE01.trans hE)
     obtain⟨b,o,rfl⟩:∃b o,LA=some ⟨b,o,none⟩:=by
      obtain⟨A',c',hv',hx⟩:=hS2;obtain⟨b,o,rfl,_⟩:=hx (fun e=>h0 (List.map_eq_nil_iff.1 e));simp only[Value.slice.injEq]at hv';exact⟨b,o,hv'.1⟩
     have hc4:wr.cell? ⟨w.heap.size,0,none⟩=some (.slice (some ⟨b,o,none⟩) l.length lc):=(Ext.cell (p:=⟨w.heap.size,0,none⟩) hE (qQv c4)).trans c4;have hbl:=(hS.ext hE01).block_lt (fun r hr=>by obtain⟨s,_,rfl⟩:=List.mem_map.1 hr;simp[Spot.cells]) b o l.length lc rfl (fun e=>h0 (List.map_eq_nil_iff.1 e));exact stable_any wr w.heap.size b o l.length lc _ w1.heap.size _ l _ hc4 hS2 (qQv c4) hbl hown hos hor hl (by omega)
   clear hown;obtain⟨rA,rc,rfl,hrv⟩:=qJg hrown;generalize hosl:qZi l size hv l.length=os at *;go_wp2_with fail
   refine hsort.mono ?_;clear hsort;rintro e w5 ⟨rfl,ys,hyp,hyA,hyo,hC5⟩;have hyl:=hyp.length_eq;have hr5:w5.ownsRow w0.heap.size 3 1 (.slice rA hv.length rc) hv.length (hv.map (Value.int .i64)):=pown_keep hrown fun k hk=>(hC5.block k (by have:=hE.size;omega) (by show ¬ w1.heap.size≤k;omega)).trans (Ext.block hE hk)
   have hX5:Ext w w5:=Chg.mono (hE01.chg_trans (hE.chg_trans hC5)) fun j hj h=>by have h':w1.heap.size≤j:=h;have:=hE01.size;omega
   have hyl5:ys.length≤12:=by omega
   by_cases hcl:(hv.length:Int)<copies
   ·obtain⟨d,hd⟩:∃d:Nat,copies=((hv.length+d:Nat):Int):=⟨(copies - hv.length).toNat,by omega⟩;subst hd;have hdt:((((hv.length+d:Nat):Int) - hv.length).toNat)=d:=by omega
    rcases hov with⟨rfl,hn0,rfl⟩|⟨og,rfl,hob,hon,hoc⟩
    ·obtain⟨R6,hR6⟩:∃R,R=hv++(if(hv.length:Int)<((hv.length+d:Nat):Int)then(ys.take (((hv.length+d:Nat):Int) - hv.length).toNat).map Int.ofNat else []):=⟨_,rfl⟩;have hy0:ys=[]:=List.eq_nil_of_length_eq_zero (by omega);have hRe:R6=hv:=by rw[hR6,hy0];simp
     have HR6:=Hh hR6;clear hR6;have hm:(min ((hv.length:Int)+(d:Int) - (hv.length:Int)) 0).toNat=0:=by omega
     have hm1:0≤min ((hv.length:Int)+(d:Int) - (hv.length:Int)) 0:=by omega
     have hm2:min ((hv.length:Int)+(d:Int) - (hv.length:Int)) 0≤0:=by omega
     have hr6:w5.ownsRow w0.heap.size 3 1 (.slice rA hv.length rc) R6.length (R6.map (Value.int .i64)):=by rw[hRe];exact hr5
     go_wp2_with (at_builtin;refine qX2 rfl _ _ 24 rfl w0.heap.size 3 i0 1 underlying24 hi _ _ _ rfl hr5 ?hx ?_)
     case hx=>first|(show Value.slice none _ _=_;rw[hm])|(go_simp;done)|(go_simp;simp[hm])
     refine(qJy hr6 (by rw[hRe];omega)).mono ?_
     rintro e w7 ⟨rfl,hr7,hC7⟩;have hge:=qZV hr6;have hX7:Ext w w7:=Chg.mono (hX5.chg_trans hC7) fun j hj h=>by have:=hge j h;have:=hE0.size;omega
     clear hC7 hge;go_wp2_with fail
     go_ret2
     have hsl6:(qXt R6).length=R6.length:=by unfold qXt;simp
     refine⟨.slice rA hv.length rc,qXt R6,?_,⟨ys,(by rw[hosl];exact hyp),hyA,(List.mergeSort_perm _ _).trans (by rw[HR6.out]),?_⟩,?_,hX7⟩
     ·rw[hsl6,hRe];simp
     ·exact sortI_le' R6
     ·rw[hsl6];exact own_base hr7 hE0.size
    ·obtain⟨mm,hmm⟩:∃mm:Nat,mm=min d os.length:=⟨_,rfl⟩;obtain⟨R6,hR6⟩:∃R,R=hv++(if(hv.length:Int)<((hv.length+d:Nat):Int)then(ys.take (((hv.length+d:Nat):Int) - hv.length).toNat).map Int.ofNat else []):=⟨_,rfl⟩
     have hRe:R6.map (Value.int .i64)=hv.map (Value.int .i64)++(ys.map ival).take mm:=by
      rw[hR6,if_pos hcl,hdt,List.map_append,List.map_map,hmm,←hyl,←List.map_take]
      congr 1
      rw[show ys.take (min d ys.length)=ys.take d by rw[List.take_eq_take_iff];omega];rfl
     have hRl:R6.length=hv.length+mm:=by have:=congrArg List.length hRe;simp at this;omega
     have HR6:=Hh hR6;clear hR6;have hm:(min ((hv.length:Int)+(d:Int) - (hv.length:Int)) (os.length:Int)).toNat=mm:=by omega
     have hm1:0≤min ((hv.length:Int)+(d:Int) - (hv.length:Int)) (os.length:Int):=by omega
     have hm2:min ((hv.length:Int)+(d:Int) - (hv.length:Int)) (os.length:Int)≤(oc:Int):=by omega
     have hcells:∀j u,((ys.map ival).take mm)[j]? = some u→w5.cell? (Addr.add ⟨og,0,none⟩ j)=some u:=fun j u hj=>by
      have hj2:j<mm:=by have:=(List.getElem?_eq_some_iff.1 hj).1;simp at this;omega
      have:=hyo.cellAt j (by omega)
      rw[Go.WideShapes.add_plain,Nat.zero_add,this,←hj,List.getElem?_take,if_pos hj2]
     have hlen6:((ys.map ival).take mm).length=mm:=by simp;omega
     have hone:∀u∈(ys.map ival).take mm,u.oneCell'=true:=fun u hu=>by
      obtain⟨q,_,rfl⟩:=List.mem_map.1 (List.mem_of_mem_take hu);rfl
     have hs05:w0.heap.size≤w5.heap.size:=by have:=hE1.size;have:=hE.size;have:=hC5.size;omega
     have hmo:mm≤os.length:=by omega
     clear hmm
     go_wp2_with (at_builtin;refine wpList_append_own _ rfl _ _ 24 rfl w0.heap.size 3 i0 (.int .i64 0) 1 8 underlying24 hi hz0 hz1 hz2 rfl (by decide) _ _ _ rfl hr5 ⟨og,0,none⟩ mm oc ((ys.map ival).take mm) ?hx (by omega) hcells hone (by unfold maxLen;omega) (by omega) hs05 ?_)
     case hx=>go_simp
     intro v6 w6 hr6 hg6 _;rw[←hRe,←hRl]at hr6;have hX6:Ext w w6:=Chg.mono (hX5.chg_trans (Chg.of_grown hg6)) fun j hj h=>by have:=qZV hr5 j h;have:=hE0.size;omega
     clear hg6 hRe;have HRl:=Hh hRl;clear hRl hcells hone hlen6 hm hm1 hm2;obtain⟨sA,sc,rfl,hsv⟩:=qJg hr6;go_wp2_with fail
     refine(qJy hr6 (by have:=HRl.out;omega)).mono ?_
     rintro e w7 ⟨rfl,hr7,hC7⟩;have hge:=qZV hr6;have hX7:Ext w w7:=Chg.mono (hX6.chg_trans hC7) fun j hj h=>by have:=hge j h;have:=hE0.size;omega
     clear hC7 hge;have hsl6:(qXt R6).length=R6.length:=by unfold qXt;simp
     have HSL:=Hh hsl6;clear hsl6;go_wp2_with fail
     go_ret2
     refine⟨.slice sA R6.length sc,qXt R6,?_,⟨ys,(by rw[hosl];exact hyp),hyA,(List.mergeSort_perm _ _).trans (by rw[HR6.out]),?_⟩,?_,hX7⟩
     ·rw[HSL.out];simp
     ·exact sortI_le' R6
     ·rw[HSL.out];exact own_base hr7 hE0.size
   ·obtain⟨R6,hR6⟩:∃R,R=hv++(if(hv.length:Int)<copies then(ys.take (copies - hv.length).toNat).map Int.ofNat else []):=⟨_,rfl⟩;have hRe:R6=hv:=by rw[hR6,if_neg hcl,List.append_nil]
    have HR6:=Hh hR6;clear hR6;have hr6:w5.ownsRow w0.heap.size 3 1 (.slice rA hv.length rc) R6.length (R6.map (Value.int .i64)):=by rw[hRe];exact hr5
    go_wp2_with fail
    refine(qJy hr6 (by rw[hRe];omega)).mono ?_
    rintro e w7 ⟨rfl,hr7,hC7⟩;have hge:=qZV hr6;have hX7:Ext w w7:=Chg.mono (hX5.chg_trans hC7) fun j hj h=>by have:=hge j h;have:=hE0.size;omega
    clear hC7 hge;go_wp2_with fail
    go_ret2
    have hsl6:(qXt R6).length=R6.length:=by unfold qXt;simp
    refine⟨.slice rA hv.length rc,qXt R6,?_,⟨ys,(by rw[hosl];exact hyp),hyA,(List.mergeSort_perm _ _).trans (by rw[HR6.out]),?_⟩,?_,hX7⟩
    ·rw[hsl6,hRe,decide_eq_true (by omega:copies≤(hv.length:Int))];rfl
    ·exact sortI_le' R6
    ·rw[hsl6];exact own_base hr7 hE0.size
open Go.RowKit Go.Sort
theorem own_empty'(w:World)(e:TypeId)(size:Nat){g:Nat}(hg:g=w.heap.size):(w.alloc (.cells #[] e)).ownsRow g e size (.slice (some ⟨g,0,none⟩) 0 0) 0 []:=by
 subst hg;refine⟨by simp,.inr ⟨w.heap.size,0,#[],rfl,Nat.le_refl _,At.new w e #[],Nat.le_refl _,by simp[maxLen],by simp,by simp⟩⟩
theorem nodup_le{α : Type}[DecidableEq α]:∀ {r s:List α},r.Nodup→(∀x∈r,x∈s)→r.length≤s.length
 | [],_,_,_=>Nat.zero_le _
 | a::r,s,hn,h=>by
  obtain⟨ha,hn'⟩:=List.nodup_cons.1 hn;have hs:=h a (List.mem_cons_self ..)
  have:=nodup_le (s:=s.erase a) hn' fun x hx=>(List.mem_erase_of_ne (fun e=>ha (by rw[←e];exact hx))).2 (h x (List.mem_cons_of_mem _ hx))
  rw[List.length_erase_of_mem hs]at this;have hp:0<s.length:=List.length_pos_of_mem hs;simp only[List.length_cons];omega
theorem qXJ{w:World}{A:Option Addr}{n c k i:Nat}{l:List Spot}(h:Sln w (.slice A n c) k (l.map Spot.cells))(hl:i<l.length):∃b o,A=some ⟨b,o,none⟩:=by
 obtain⟨A',c',hv,hx⟩:=h;simp only[Value.slice.injEq]at hv;obtain⟨b,o,rfl,_⟩:=hx (fun e=>by have:=List.map_eq_nil_iff.1 e;subst this;simp at hl);exact⟨b,o,hv.1⟩
def SlnC(w:World)(v:Value)(k:Nat)(xs:List (List Value)):Prop:=Sln w v k xs∧∃A c,v=.slice A xs.length c∧xs.length≤c∧c≤maxLen∧(A=none→c=0)
theorem spot_info:(prog.info? 120).map (fun i=>(i.zero,i.size,i.bytes))=some (some (.agg #[.bool false,.int .i64 0]),2,16):=by kernel_rfl
theorem spots_anyR(w:World)(v:Value)(l:List Spot)(hS:SlnC w v 2 (l.map Spot.cells)) :
 Calls prog 19 #[v] w fun e w'=>∃v1 v2:Value,e=.returned (.tuple #[v1,v2])∧Sln w' v1 2 ((l.take 12).map Spot.cells)∧Ext w w'∧(∃A c,v1=.slice A (l.take 12).length c∧(A=none→c=0))∧Sln w' v2 2 ((l.take 12).map Spot.cells):=by
 obtain⟨i0,hi,hz0,hz1,hz2⟩:=info_parts spot_info;obtain⟨hSl,A,c,rfl,hlc,hcm,hn0⟩:=hS;rw[List.length_map]at hSl hlc⊢;unfold maxLen at hcm;obtain⟨k,hk⟩:∃k,k=min l.length 12:=⟨_,rfl⟩;have hm:min (l.length:Int) 12=(k:Int):=by omega
 have hkc:(k:Int)≤(c:Int):=by omega
 have hk20:k≤12:=by omega
 have hkl:k≤l.length:=by omega
 have hS1:Sln w (.slice A k c) 2 ((l.take k).map Spot.cells):=by
  rw[List.map_take];exact hSl.pre hkl
 have hlen:(l.take k).length=k:=by rw[List.length_take];omega
 have he:l.take 12=l.take k:=by rw[List.take_eq_take_iff];omega
 rw[he];generalize l.take k=ks at hS1 hlen;subst hlen;clear hk hSl he;have HN:=Hh hn0;clear hn0
 go_enter func19,ntmps19
 go_wp2_with fail
 have hO0:=own_empty' w 120 2 rfl;have hE0:=(Er w).alloc (.cells #[] 120);generalize w.alloc (.cells #[] 120)=W at hO0 hE0⊢
 go_loopw [4,15] (fun ov iv wr=>∃j:Nat,j≤ks.length∧iv=.int .i64 (j:Int)∧wr.ownsRow w.heap.size 120 2 ov j (((ks.take j).map Spot.cells).flatten)∧Ext w wr) (fun _ iv _=>ks.length - (intOf iv).toNat)
 case atStart=>exact⟨0,Nat.zero_le _,rfl,by simpa using hO0,hE0⟩
 case round =>
  clear hO0 hE0;obtain⟨j,hj,rfl,hown,hE⟩:=hrel;have hsz:=hE.size
  by_cases hlt:j<ks.length
  ·have hS2:=hS1.ext hE;obtain⟨b,o,rfl⟩:=qXJ hS2 hlt;obtain⟨r0,r1⟩:=qQP hS2 hlt
   have hnx:((ks.take (j+1)).map Spot.cells).flatten=((ks.take j).map Spot.cells).flatten++[.bool (qQk ks j).up,.int .i64 (qQk ks j).free]:=by
    have he:qQk ks j=ks[j]:=by unfold qQk;simp[List.getD_eq_getElem?_getD,hlt]
    rw[he,List.take_add_one,List.getElem?_eq_getElem hlt,List.map_append,List.flatten_append];simp[Spot.cells]
   have HNX:=Hh hnx;clear hnx;generalize ((ks.take j).map Spot.cells).flatten=xs at hown HNX;generalize qQk ks j=s at r0 r1 HNX
   go_wp2_with (at_builtin;refine wpList_append_own _ rfl _ _ 38 rfl w.heap.size 120 i0 (.agg #[.bool false,.int .i64 0]) 2 16 underlying38 hi hz0 hz1 hz2 rfl (by decide) _ _ _ rfl ((hown.alloc _).alloc _) ⟨wr.heap.size+1,0,none⟩ 1 1 [.bool s.up,.int .i64 s.free] ?hx rfl ?c1 ?c2 ?c3 ?c4 ?c5 ?_)
   case hx=>rfl
   case c1 =>
    intro q x hx;have hA:=At.new (wr.alloc (.cells #[.bool s.up,.int .i64 s.free] 55)) 120 #[.bool s.up,.int .i64 s.free];have hq:=hA.cell q;rw[show(wr.alloc (.cells #[.bool s.up,.int .i64 s.free] 55)).heap.size=wr.heap.size+1 by simp]at hq;rw[Go.WideShapes.add_plain,Nat.zero_add,hq];simpa using hx
   case c2=>simp[Value.oneCell']
   case c3=>unfold maxLen;omega
   case c4=>omega
   case c5=>simp;omega
   intro v1 w4 hown4 hgrow4 _;have hge:=qZV hown;have hE4:Ext w w4:=Chg.mono (((hE.alloc (.cells #[.bool s.up,.int .i64 s.free] 55)).alloc (.cells #[.bool s.up,.int .i64 s.free] 120)).chg_trans (Chg.of_grown hgrow4)) fun j hj h=>by have:=hge j h;omega
   clear hgrow4 hge hown hE
   go_wp2
   go_roundw
   case rel=>exact⟨j+1,by omega,by go_num,by rw[HNX.out];exact hown4,hE4⟩
   case measure=>simp[intOf];omega
  ·obtain rfl:j=ks.length:=by omega
   go_wp2_with fail
   go_ret2
   refine⟨_,_,rfl,hS1.ext hE,hE,⟨_,_,rfl,HN.out⟩,?_⟩
   rw[List.take_length]at hown;exact Sln.of_own (base:=w.heap.size) (e:=120) (n:=ks.length) hown (fun r hr=>by obtain⟨s,_,rfl⟩:=List.mem_map.1 hr;rfl) (by simp)
def qQ9(l:List Spot)(size:Int)(ch:List Int):Nat→Int
 | 0 => -1
 | n+1=>if((qQk l n).fits size && !(ch.contains (n:Int))&&(decide (qQ9 l size ch n<0)||decide ((qQk l (qQ9 l size ch n).toNat).free<(qQk l n).free)))=true then(n:Int)else qQ9 l size ch n
def qQF(l:List Spot)(size copies:Int)(hv:List Int):Nat→List Int
 | 0=>hv
 | t+1=>if 0≤qQ9 l size (qQF l size copies hv t) l.length∧((qQF l size copies hv t).length:Int)<copies then qQF l size copies hv t++[qQ9 l size (qQF l size copies hv t) l.length]else qQF l size copies hv t
def qX6(ch:List Int):Nat→List Int
 | 0=>[]
 | n+1=>if ch.contains (n:Int)=true then qX6 ch n++[(n:Int)]else qX6 ch n
theorem qXN(l:List Spot)(size:Int)(ch:List Int):∀n,(qQ9 l size ch n = -1∧∀i,i<n→mayB l size ch i=false)∨∃b:Nat,qQ9 l size ch n=(b:Int)∧b<n∧mayB l size ch b=true∧∀i,i<n→mayB l size ch i=true→i=b∨qXi l b i
 | 0=>.inl ⟨rfl,fun i hi=>by omega⟩
 | n+1=>by
  have hm:((qQk l n).fits size && !(ch.contains (n:Int)))=mayB l size ch n:=rfl;unfold qQ9;rw[hm];rcases qXN l size ch n with⟨h1,h2⟩|⟨b,h1,h2,h3,h4⟩
  ·rw[h1];cases hn:mayB l size ch n with
   | false =>
    refine .inl ⟨by simp,fun i hi=>?_⟩
    by_cases e:i=n
    ·rw[e];exact hn
    ·exact h2 i (by omega)
   | true =>
    refine .inr ⟨n,by simp,by omega,hn,fun i hi hmi=>?_⟩
    by_cases e:i=n
    ·exact .inl e
    ·rw[h2 i (by omega)]at hmi;cases hmi
  ·rw[h1];have hb0:¬ ((b:Int)<0):=by omega
   cases hn:mayB l size ch n with
   | false =>
    refine .inr ⟨b,by simp,by omega,h3,fun i hi hmi=>?_⟩
    by_cases e:i=n
    ·rw[e,hn]at hmi;cases hmi
    ·exact h4 i (by omega) hmi
   | true =>
    by_cases hf:(qQk l b).free<(qQk l n).free
    ·refine .inr ⟨n,by simp[hf],by omega,hn,fun i hi hmi=>?_⟩
     by_cases e:i=n
     ·exact .inl e
     ·right
      rcases h4 i (by omega) hmi with e2|e2
      ·rw[e2];exact .inl hf
      ·rcases e2 with e3|⟨e3,_⟩
       ·exact .inl (by omega)
       ·exact .inl (by omega)
    ·refine .inr ⟨b,by simp[hf];omega,by omega,h3,fun i hi hmi=>?_⟩
     by_cases e:i=n
     ·right
      rw[e]
      by_cases e2:(qQk l n).free<(qQk l b).free
      ·exact .inl e2
      ·exact .inr ⟨by omega,h2⟩
     ·exact h4 i (by omega) hmi
theorem qX7(ch:List Int):∀n (x:Int),x∈qX6 ch n↔(0≤x∧x<n)∧x∈ch
 | 0,x=>by simp[qX6];omega
 | n+1,x=>by
  unfold qX6
  by_cases h:ch.contains (n:Int)=true
  ·rw[if_pos h,List.mem_append,qX7 ch n x,List.mem_singleton];rw[List.contains_iff_mem]at h
   constructor
   ·rintro(⟨h1,h2⟩|rfl)
    ·exact⟨by omega,h2⟩
    ·exact⟨by omega,h⟩
   ·rintro⟨h1,h2⟩
    by_cases e:x=n
    ·exact .inr e
    ·exact .inl ⟨by omega,h2⟩
  ·rw[if_neg h,qX7 ch n x];have h':(n:Int) ∉ ch:=by simpa using h
   constructor
   ·rintro⟨h1,h2⟩
    exact⟨by omega,h2⟩
   ·rintro⟨h1,h2⟩
    refine⟨⟨h1.1,?_⟩,h2⟩
    by_cases e:x=n
    ·rw[e]at h2;exact absurd h2 h'
    ·omega
theorem outI_asc(ch:List Int):∀n,(qX6 ch n).Pairwise (· < ·)
 | 0=>by simp[qX6]
 | n+1=>by
  unfold qX6;split
  ·refine List.pairwise_append.2 ⟨outI_asc ch n,List.pairwise_singleton _ _,fun a ha b hb=>?_⟩;rw[List.mem_singleton.1 hb];exact((qX7 ch n a).1 ha).1.2
  ·exact outI_asc ch n
open Go.RowKit Go.Sort
theorem rin_any(w:World)(x:Int)(v:Value)(l:List Int)(hS:Sl w v (l.map (Value.int .i64)))(hl:l.length≤1000000) :
 Calls prog 89 #[.int .i64 x,v] w fun e w'=>e=.returned (.bool (l.contains x))∧Ext w w':=by
 obtain⟨A,c,rfl,hx⟩:=hS;rw[List.length_map];have HS:Hid (Sl w (.slice A l.length c) (l.map (Value.int .i64))):=Hh ⟨A,c,by rw[List.length_map],hx⟩;clear hx
 go_enter func89,ntmps89
 go_wp2_with fail
 go_loopw [9] (fun iv wr=>∃k:Nat,k≤l.length∧iv=.int .i64 (k:Int)∧(∀y∈l.take k,y≠x)∧Ext w wr) (fun iv _=>l.length - (intOf iv).toNat)
 case atStart=>exact⟨0,by omega,rfl,by simp,Er _⟩
 case round =>
  obtain⟨k,hk,rfl,hno,hE⟩:=hrel
  by_cases hlt:k<l.length
  ·obtain⟨s,hs⟩:∃s,l[k]? = some s:=⟨_,List.getElem?_eq_getElem hlt⟩;obtain⟨A',c',ha,hc⟩:=HS.out.ext hE;have hne:l.map (Value.int .i64)≠[]:=fun e=>by rw[List.map_eq_nil_iff.1 e]at hlt;simp at hlt
   obtain⟨b,o,rfl,hcc⟩:=hc hne;injection ha with ha q1 q2;clear q1 q2;subst ha;have c1:=hcc k (.int .i64 s) (by rw[List.getElem?_map,hs];rfl);clear hc hcc hne;have hmem:s∈l:=List.mem_of_getElem? hs
   by_cases hq:s=x
   ·subst hq;have HM:=Hh hmem;clear hs hmem;have t1:decide (s=s)=true:=by simp
    go_wp2_with fail
    go_ret
    refine⟨?_,hE⟩
    have:=HM.out
    simp[this]
   ·have hno':∀y∈l.take (k+1),y≠x:=fun y hy=>by
     rw[List.take_add_one,hs]at hy;rcases List.mem_append.1 hy with h|h
     ·exact hno y h
     ·simp at h;rw[h];exact hq
    have t1:decide (s=x)=false:=by simpa using hq
    clear hs hmem hno;go_wp2_with fail
    go_roundw
    case rel=>exact⟨k+1,by omega,by go_num,hno',hE⟩
    case measure=>simp[intOf];omega
  ·obtain rfl:k=l.length:=by omega
   have hcon:l.contains x=false:=by
    rw[List.take_length]at hno;cases h:l.contains x with
    | false=>rfl
    | true=>exact absurd rfl (hno x (List.contains_iff_mem.1 h))
   go_wp2_with fail
   go_ret
   refine⟨?_,hE⟩
   rw[hcon];rfl
end Go.Proofs.YtiojjokfeknhcaaGreat
