/-
  Part 13 of what the law leans on.
-/
import Derived.Test.YtkkbfdencgdbhaaGreatDoorSA3
import Derived.Test.YtkkbfdencgdbhaaGreatDoorSA11
import Derived.Test.YtkkbfdencgdbhaaGreatDoorSA12
set_option linter.unusedVariables false
set_option linter.unusedSimpArgs false
set_option linter.unusedSectionVars false
namespace Go.Proofs.YtkkbfdencgdbhaaGreatDoor
open Go.RowKit Go.Sort Go.Shelf
theorem keys_sorts(m:Nat):AnyZ.SortsIn Tryz.prog Tryz.sorted_ren Fence.wide m :=
 ⟨fun blk off cap ss W hH hblk hsz=>callsIn_wide.2 (AnyM.slices_Sort_string Tryz.sort blk off cap ss W hH hblk hsz),
  fun p cap W=>callsIn_wide.2 (AnyM.slices_Sort_string_none Tryz.sort p cap W)⟩
theorem keys_any(mb:Option Nat)(W:World):Calls Tryz.prog 137 #[.map mb] W fun e w' =>
 e=.returned (.func (.func 179) #[] #[.pointer (some ⟨W.heap.size,0,none⟩)])∧w'=W.alloc (.cells #[.map mb] 110) :=
 (callsIn_wide (n:=5)).1 (AnyZ.keys_in Tryz.fkeys Fence.wide 5 trivial rfl mb W)
set_option maxHeartbeats 1000000 in
theorem sortedOwn_any{H:Type}(b nn:Nat)(D0:DataW H)(R:Value→Option (DataW H×List MemPlace))(w:World)(hown:w.ownsMap Tryz.prog 9 R b nn D0)(hmax:Maps.size D0≤maxLen)(hbytes:Maps.size D0 * 16≤140737488355328) :
 Calls Tryz.prog 73 #[.func (.func 179) #[] #[.pointer (some ⟨w.heap.size,0,none⟩)]] (w.alloc (.cells #[.map (some b)] 110)) fun e w'=>∃(v:Value) (ss:List (List UInt8)),e=.returned v∧ss.Perm (strKeys D0) ∧
  w'.ownsRow (w.alloc (.cells #[.map (some b)] 110)).heap.size 9 1 v ss.length ((ss.mergeSort (fun x y=>decide (x≤y))).map encStr)∧(v=.slice none 0 0↔ss=[])∧Below (w.alloc (.cells #[.map (some b)] 110)).heap.size (w.alloc (.cells #[.map (some b)] 110)) w':=by
 have hbl:=hown.lt
 have hseq:SeqGives Fence.wide 2 Tryz.prog 179 #[.pointer (some ⟨w.heap.size,0,none⟩)] encStr (fun ss=>ss.Perm (strKeys D0)) (Maps.size D0) (w.alloc (.cells #[.map (some b)] 110)) :=
  AnyZ.keys_gives (ρ := Tryz.fkeys_ren) { Tryz.fkeys with } Fence.wide _ trivial rfl (by omega) w.heap.size b nn D0 _ (by simp) (by simp) (by
   obtain⟨es,clock,hb,Ft,hs,hD⟩:=hown
   exact⟨es,clock,(Below.heap_alloc _ _ b hbl).trans hb,Ft,hs,hD⟩)
 exact(callsIn_wide (n:=5)).1 (AnyZ.sorted_in Tryz.sorted Fence.wide 5 trivial trivial trivial trivial rfl (by omega) (keys_sorts _) (enters_of Tryz.func122 (by kernel_rfl) rfl) 179 #[.pointer (some ⟨w.heap.size,0,none⟩)] trivial (enters_of Tryz.func179 (by kernel_rfl) rfl) _ _ hmax hbytes _ hseq)
theorem sorted_any{L:List (ByteArray×Fl)}(w:World)(m:Nat)(h:MapAt strWay Fl.val w m L)(hr:Rises blt L)(hk:∀p∈L,p.1.size≤maxLen)(hl:L.length≤1048576) :
 Calls Tryz.prog 73 #[.func (.func 179) #[] #[.pointer (some ⟨w.heap.size,0,none⟩)]] (w.alloc (.cells #[.map (some m)] 110)) fun e w' =>
  ∃v,e=.returned v∧Sl w' v (L.map fun p=>.string p.1)∧Ext w w':=by
 obtain⟨D,hown,hD,hsz⟩:=own_of_map h key_files (by unfold maxLen;omega) hk
 refine(sortedOwn_any m _ D _ w hown (by unfold maxLen;omega) (by omega)).mono ?_
 rintro e w' ⟨v,ss,rfl,hss,hrow,_,hb⟩
 have hp:=hss.trans hD
 rw[mergeSort_rises hr hp]at hrow
 exact⟨v,rfl,Sl.of_own hrow,((Ext.refl w).alloc _).trans (Ext.of_below hb)⟩
theorem all_any(w:World)(d m:Nat)(D:Dk)(hD:DkAt w d m D)(hr:Rises blt D.files)(hk:∀p∈D.files,p.1.size≤maxLen)(hl:D.files.length≤1048576) :
 Calls Tryz.prog 94 #[.pointer (some ⟨d,0,none⟩)] w fun e w'=>∃v,e=.returned v∧Sl w' v (D.files.map fun p=>.string p.1)∧Ext w w':=by
 have c4:w.cell? ⟨d,4,none⟩=some (.map (some m)):=hD.1.cell 4
 have hM:=hD.2
 go_enter Tryz.func94,Tryz.ntmps94
 go_wp2_with fail
 refine(keys_any _ _).mono ?_
 rintro e w' ⟨rfl,rfl⟩
 go_wp2_with fail
 refine(sorted_any w m hM hr hk hl).mono ?_
 rintro e w' ⟨v,rfl,hS,hE⟩
 go_wp2_with fail
 go_ret
 exact⟨v,rfl,hS,hE⟩
end Go.Proofs.YtkkbfdencgdbhaaGreatDoor
namespace Go.Proofs.YtkkbfdencgdbhaaGreatDoor
open Go.RowKit Go.Sort
end Go.Proofs.YtkkbfdencgdbhaaGreatDoor
namespace Go.Proofs.YtkkbfdencgdbhaaGreatDoor
open Go.RowKit Go.Sort
def Dk.read(D:Dk)(n:ByteArray):ByteArray×Int :=
 if D.e≠0 then(ByteArray.empty,D.e)else if(D.get n).nt then((D.get n).nx,0)else(ByteArray.empty,5)
set_option maxRecDepth 100000 in
set_option maxHeartbeats 400000 in
theorem read_any(w:World)(d m:Nat)(D:Dk)(hD:DkAt w d m D)(hO:D.Ok)(n:ByteArray) :
 Calls Tryz.prog 215 #[.pointer (some ⟨d,0,none⟩),.string n] w fun e w' =>
  e=.returned (.tuple #[.string (D.read n).1,.int .i64 (D.read n).2])∧Chg (fun k=>k=d) w w'∧DkAt w' d m D.tick:=by
 have ct:=try_any w d m D hD hO.a0 hO.a1
 by_cases he:D.e=0
 ·have he1:(D.e == 0)=true:=by simpa using he
  have he2:(D.e != 0)=false:=by simpa using he
  go_enter Tryz.func215,Tryz.ntmps215
  go_wp2_with fail
  refine ct.mono ?_
  rintro e w1 ⟨rfl,hC1,hD1⟩
  clear ct
  have e4:w1.cell? ⟨d,4,none⟩=some (.map (some m)):=hD1.1.cell 4
  have cl:(Instr.lookup 110 (.map (some m)) (.string n) false).run Tryz.prog w1=.ok (.agg #[.bool (D.get n).nt,.string (D.get n).nx,.bool (D.get n).st,.string (D.get n).sx]) w1:=hD1.look n
  cases ht:(D.get n).nt
  ·have hfin:D.read n=(ByteArray.empty,5):=by unfold Dk.read;rw[if_neg (by simpa using he),if_neg (by simp[ht])]
   have H:=Lib.hid hfin
   clear hfin
   go_wp2_with fail
   go_ret2
   rw[H.out]
   exact⟨rfl,hC1.alloc _,hD1.alloc _⟩
  ·have hfin:D.read n=((D.get n).nx,0):=by unfold Dk.read;rw[if_neg (by simpa using he),if_pos ht]
   have H:=Lib.hid hfin
   clear hfin
   go_wp2_with fail
   go_ret2
   rw[H.out]
   exact⟨rfl,hC1.alloc _,hD1.alloc _⟩
 ·have he1:(D.e == 0)=false:=by simpa using he
  have he2:(D.e != 0)=true:=by simpa using he
  have hfin:D.read n=(ByteArray.empty,D.e):=by unfold Dk.read;rw[if_pos he]
  have H:=Lib.hid hfin
  clear hfin
  go_enter Tryz.func215,Tryz.ntmps215
  go_wp2_with fail
  refine ct.mono ?_
  rintro e w1 ⟨rfl,hC1,hD1⟩
  go_wp2_with fail
  go_ret2
  rw[H.out]
  exact⟨rfl,hC1,hD1⟩
theorem DkAt.apart{w:World}{d m:Nat}{D:Dk}(hD:DkAt w d m D){ns:List ByteArray}{v:Value}(hS:Sl w v (ns.map Value.string)) :
 ∀b o n c,v=.slice (some ⟨b,o,none⟩) n c→ns.map Value.string≠[]→¬ (b=d∨b=m):=by
 rintro b o n c rfl hne
 obtain⟨A,c',hv,hx⟩:=hS
 obtain⟨b',o',rfl,hc⟩:=hx hne
 injection hv with hv1
 injection hv1 with hv1
 injection hv1 with hb ho
 subst hb ho
 cases ns with
 | nil=>exact absurd rfl hne
 | cons s r =>
  have h0:=hc 0 (.string s) rfl
  rw[Nat.add_zero]at h0
  rintro(rfl|rfl)
  ·have:=hD.1.cell o
   rw[h0]at this
   match o,this with
   | 0,h=>simp at h
   | 1,h=>simp at h
   | 2,h=>simp at h
   | 3,h=>simp at h
   | 4,h=>simp at h
   | k+5,h=>simp at h
  ·obtain⟨es,clk,hb,_⟩:=hD.2
   simp[World.cell?,hb]at h0
def Dk.sync1(D:Dk)(n:ByteArray):Dk:=(D.put n ⟨(D.get n).nt,(D.get n).nx,(D.get n).nt,(D.get n).nx⟩).2
def Dk.syncL(D:Dk)(ns:List ByteArray):Dk:=ns.foldl Dk.sync1 D
theorem Dk.Ok.sync1{D:Dk}(h:D.Ok){n:ByteArray}(hn:n.size≤maxLen):(D.sync1 n).Ok:=h.put hn (h.t n).1 (h.t n).1
theorem Dk.Ok.syncL{D:Dk}(h:D.Ok){ns:List ByteArray}(hn:∀n∈ns,n.size≤maxLen):(D.syncL ns).Ok:=by
 unfold Dk.syncL
 induction ns generalizing D with
 | nil=>exact h
 | cons n r ih=>exact ih (h.sync1 (hn n (List.mem_cons_self ..))) (fun n' h'=>hn n' (List.mem_cons_of_mem _ h'))
theorem syncL_take{D:Dk}{ns:List ByteArray}{k:Nat}{n:ByteArray}(h:ns[k]? = some n):D.syncL (ns.take (k+1))=(D.syncL (ns.take k)).sync1 n:=by
 unfold Dk.syncL
 rw[List.take_add_one,h]
 simp
def Dk.sync(D:Dk)(ns:List ByteArray):Int×Dk :=
 if D.e≠0 then(D.e,D.tick)else(0,D.tick.syncL (if ns=[]then D.files.map (·.1)else ns))
section sync
variable(w:World)(d m:Nat)(D:Dk)(hD:DkAt w d m D)(hO:D.Ok)
include hD hO
set_option maxRecDepth 100000 in
set_option maxHeartbeats 1000000 in
theorem sync_some(v:Value)(ns:List ByteArray)(hS:Sl w v (ns.map Value.string))(hn:∀n∈ns,n.size≤maxLen)(hl:ns.length≤1048576)(he:D.e=0)(hne:ns≠[]) :
 Calls Tryz.prog 172 #[.pointer (some ⟨d,0,none⟩),v] w fun e w' =>
  e=.returned (.int .i64 0)∧Chg (fun k=>k=d∨k=m) w w'∧DkAt w' d m (D.tick.syncL ns):=by
 have ct:=try_any w d m D hD hO.a0 hO.a1
 have he1:(D.e == 0)=true:=by simpa using he
 have he2:(D.e != 0)=false:=by simpa using he
 have hap:=hD.apart hS
 go_enter Tryz.func172,Tryz.ntmps172
 go_wp2_with fail
 refine ct.mono ?_
 rintro e w1 ⟨rfl,hC1,hD1⟩
 clear ct
 have hS1:=hS.chg hC1 (fun b o n c hv h hb=>hap b o n c hv h (.inl hb))
 clear hS
 obtain⟨A,c,rfl,hx⟩:=hS1
 rw[List.length_map]
 have hlen0:(ns.length:Int)≤1048576:=by omega
 have hlen:((ns.length:Int) == 0)=false:=by
  have:ns.length≠0:=fun h=>hne (List.eq_nil_of_length_eq_zero h)
  simp;omega
 have hlen2:(ns.length == 0)=false:=by
  have:ns.length≠0:=fun h=>hne (List.eq_nil_of_length_eq_zero h)
  simp;omega
 go_wp2_with fail
 go_loopw [23] (fun i wr=>∃k:Nat,k≤ns.length∧i=.int .i64 k∧DkAt wr d m (D.tick.syncL (ns.take k))∧Chg (fun k=>k=d∨k=m) w1 wr) (fun i _=>ns.length - (intOf i).toNat)
 case atStart=>exact⟨0,Nat.zero_le _,rfl,by simpa[Dk.syncL]using hD1,Chg.refl _ _⟩
 case round =>
  obtain⟨k,hk,rfl,hDk,hCk⟩:=hrel
  by_cases hlt:k<ns.length
  ·have hne':ns.map Value.string≠[]:=by intro e;rw[List.map_eq_nil_iff]at e;subst e;simp at hlt
   obtain⟨b,o,rfl,hc⟩:=hx hne'
   replace hap:=hap b o _ _ (by rw[List.length_map]) hne'
   have hs:ns[k]? = some ns[k]:=List.getElem?_eq_getElem hlt
   have hcw:=hc k (.string ns[k]) (by rw[List.getElem?_map,hs];rfl)
   have hcell:wr.cell? ⟨b,o+k,none⟩=some (.string ns[k]):=(hCk.cell (cell_lt hcw) hap).trans hcw
   have hOk:(D.tick.syncL (ns.take k)).Ok:=hO.tick.syncL fun n h=>hn n (List.mem_of_mem_take h)
   have hstep:=syncL_take (D:=D.tick) hs
   have hsz:ns[k].size≤maxLen:=hn _ (List.getElem_mem hlt)
   have HS:=Lib.hid hstep
   clear hstep hcw
   generalize ns[k]=s at hs hcell HS hsz
   generalize D.tick.syncL (ns.take k)=Dk at hDk hOk HS
   have e4:wr.cell? ⟨d,4,none⟩=some (.map (some m)):=hDk.1.cell 4
   have cl:(Instr.lookup 110 (.map (some m)) (.string s) false).run Tryz.prog wr=.ok (.agg #[.bool (Dk.get s).nt,.string (Dk.get s).nx,.bool (Dk.get s).st,.string (Dk.get s).sx]) wr:=hDk.look s
   go_wp2_with fail
   refine(put_any _ d m Dk (hDk.alloc _) hOk s _ _ _ _ (hOk.t s).1 (hOk.t s).1).mono ?_
   rintro e w2 ⟨rfl,hC2,hD2⟩
   go_wp2_with fail
   go_roundw
   case rel=>exact⟨k+1,by omega,by go_num,by rw[HS.out];exact hD2,(hCk.alloc _).trans hC2 (fun _ _ h=>h)⟩
   case measure=>simp[intOf];omega
  ·go_wp2_with fail
   go_ret
   rw[List.take_of_length_le (by omega)]at hDk
   exact⟨rfl,(hC1.mono (fun _ _ h=>.inl h)).trans hCk (fun _ _ h=>h),hDk⟩
set_option maxRecDepth 100000 in
set_option maxHeartbeats 1000000 in
theorem sync_all(he:D.e=0)(cc:Nat)(hfl:D.files.length≤1048576) :
 Calls Tryz.prog 172 #[.pointer (some ⟨d,0,none⟩),.slice none 0 cc] w fun e w' =>
  e=.returned (.int .i64 0)∧Chg (fun k=>k=d∨k=m) w w'∧DkAt w' d m (D.tick.syncL (D.files.map (·.1))):=by
 have ct:=try_any w d m D hD hO.a0 hO.a1
 have he1:(D.e == 0)=true:=by simpa using he
 have he2:(D.e != 0)=false:=by simpa using he
 go_enter Tryz.func172,Tryz.ntmps172
 go_wp2_with fail
 refine ct.mono ?_
 rintro e w1 ⟨rfl,hC1,hD1⟩
 clear ct
 go_wp2_with fail
 refine(all_any _ d m D.tick hD1 hO.srt hO.keys hfl).mono ?_
 rintro e w2 ⟨v,rfl,hS1,hE⟩
 replace hD1:=hD1.ext hE
 have hn:∀n∈D.files.map (·.1),n.size≤maxLen:=fun n h=>by
  obtain⟨p,hp,rfl⟩:=List.mem_map.1 h
  exact hO.keys p hp
 have hl:(D.files.map (·.1)).length≤1048576:=by simpa using hfl
 replace hS1:Sl w2 v ((D.files.map (·.1)).map Value.string):=by rw[List.map_map];exact hS1
 obtain⟨ns,hns⟩:∃ns,ns=D.files.map (·.1):=⟨_,rfl⟩
 rw[←hns]at hS1 hn hl
 have HN:=Lib.hid hns
 clear hns
 have hap:=hD1.apart hS1
 obtain⟨A,c,rfl,hx⟩:=hS1
 rw[List.length_map]
 have hlen0:(ns.length:Int)≤1048576:=by omega
 go_wp2_with fail
 go_loopw [23] (fun i wr=>∃k:Nat,k≤ns.length∧i=.int .i64 k∧DkAt wr d m (D.tick.syncL (ns.take k))∧Chg (fun k=>k=d∨k=m) w2 wr) (fun i _=>ns.length - (intOf i).toNat)
 case atStart=>exact⟨0,Nat.zero_le _,rfl,by simpa[Dk.syncL]using hD1,Chg.refl _ _⟩
 case round =>
  obtain⟨k,hk,rfl,hDk,hCk⟩:=hrel
  by_cases hlt:k<ns.length
  ·have hne':ns.map Value.string≠[]:=by intro e;rw[List.map_eq_nil_iff]at e;subst e;simp at hlt
   obtain⟨b,o,rfl,hc⟩:=hx hne'
   replace hap:=hap b o _ _ (by rw[List.length_map]) hne'
   have hs:ns[k]? = some ns[k]:=List.getElem?_eq_getElem hlt
   have hcw:=hc k (.string ns[k]) (by rw[List.getElem?_map,hs];rfl)
   have hcell:wr.cell? ⟨b,o+k,none⟩=some (.string ns[k]):=(hCk.cell (cell_lt hcw) hap).trans hcw
   have hOk:(D.tick.syncL (ns.take k)).Ok:=hO.tick.syncL fun n h=>hn n (List.mem_of_mem_take h)
   have hstep:=syncL_take (D:=D.tick) hs
   have hsz:ns[k].size≤maxLen:=hn _ (List.getElem_mem hlt)
   have HS:=Lib.hid hstep
   clear hstep hcw
   generalize ns[k]=s at hs hcell HS hsz
   generalize D.tick.syncL (ns.take k)=Dk at hDk hOk HS
   have e4:wr.cell? ⟨d,4,none⟩=some (.map (some m)):=hDk.1.cell 4
   have cl:(Instr.lookup 110 (.map (some m)) (.string s) false).run Tryz.prog wr=.ok (.agg #[.bool (Dk.get s).nt,.string (Dk.get s).nx,.bool (Dk.get s).st,.string (Dk.get s).sx]) wr:=hDk.look s
   go_wp2_with fail
   refine(put_any _ d m Dk (hDk.alloc _) hOk s _ _ _ _ (hOk.t s).1 (hOk.t s).1).mono ?_
   rintro e w2 ⟨rfl,hC2,hD2⟩
   go_wp2_with fail
   go_roundw
   case rel=>exact⟨k+1,by omega,by go_num,by rw[HS.out];exact hD2,(hCk.alloc _).trans hC2 (fun _ _ h=>h)⟩
   case measure=>simp[intOf];omega
  ·go_wp2_with fail
   go_ret
   rw[List.take_of_length_le (by omega),HN.out]at hDk
   exact⟨rfl,((hC1.mono (fun _ _ h=>.inl h)).ext_trans hE).trans hCk (fun _ _ h=>h),hDk⟩
theorem sync_err(v:Value)(he:D.e≠0) :
 Calls Tryz.prog 172 #[.pointer (some ⟨d,0,none⟩),v] w fun e w' =>
  e=.returned (.int .i64 D.e)∧Chg (fun k=>k=d) w w'∧DkAt w' d m D.tick:=by
 have ct:=try_any w d m D hD hO.a0 hO.a1
 have he1:(D.e == 0)=false:=by simpa using he
 have he2:(D.e != 0)=true:=by simpa using he
 go_enter Tryz.func172,Tryz.ntmps172
 go_wp2_with fail
 refine ct.mono ?_
 rintro e w1 ⟨rfl,hC1,hD1⟩
 go_wp2_with fail
 go_ret
 exact⟨rfl,hC1,hD1⟩
theorem sync_any(v:Value)(ns:List ByteArray)(hS:Sl w v (ns.map Value.string))(hn:∀n∈ns,n.size≤maxLen)(hl:ns.length≤1048576)(hfl:D.files.length≤1048576)(hv:ns=[]→∃c,v=.slice none 0 c) :
 Calls Tryz.prog 172 #[.pointer (some ⟨d,0,none⟩),v] w fun e w' =>
  e=.returned (.int .i64 (D.sync ns).1)∧Chg (fun k=>k=d∨k=m) w w'∧DkAt w' d m (D.sync ns).2:=by
 unfold Dk.sync
 by_cases he:D.e=0
 ·rw[if_neg (by simpa using he)]
  by_cases hne:ns=[]
  ·obtain⟨c,rfl⟩:=hv hne
   rw[if_pos hne]
   exact sync_all w d m D hD hO he c hfl
  ·rw[if_neg hne]
   exact sync_some w d m D hD hO v ns hS hn hl he hne
 ·rw[if_pos he]
  refine(sync_err w d m D hD hO v he).mono ?_
  rintro e w' ⟨h1,h2,h3⟩
  exact⟨h1,h2.mono (fun _ _ h=>.inl h),h3⟩
end sync
end Go.Proofs.YtkkbfdencgdbhaaGreatDoor
namespace Go.Proofs.YtkkbfdencgdbhaaGreatDoor
open Go.RowKit Go.Sort
end Go.Proofs.YtkkbfdencgdbhaaGreatDoor
