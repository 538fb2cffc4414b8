/-
  Part 11 of what the law leans on.
-/
import Derived.Test.YtkkbfdencgdbhaaGreatDoorSA1
import Derived.Test.YtkkbfdencgdbhaaGreatDoorChecked
import Derived.BigQuiet
import Derived.WalkSpells
import Derived.WalkLawsBesides
import Derived.StillTailTactics
import Derived.Lib.QuietBelow
set_option linter.unusedVariables false
set_option linter.unusedSimpArgs false
set_option linter.unusedSectionVars false
namespace Go.Proofs.YtkkbfdencgdbhaaGreatDoor
open Go.RowKit
section meter
variable(b o:Nat)(room used:Int)(w:World)(h0:w.cell? ⟨b,o,none⟩=some (.int .i64 room))(h1:w.cell? ⟨b,o+1,none⟩=some (.int .i64 used))
 (hf:w.frozen? ⟨b,o+1,none⟩=false) (hu0:0≤used) (hu1:used≤room) (hr1:room≤9223372036854775807)
include h0 h1 hu0 hu1 hr1
theorem free_any:Calls Tryz.prog 213 #[.pointer (some ⟨b,o,none⟩)] w fun e w'=>e=.returned (.int .i64 (room - used))∧∃n,w'=w.drewN n:=by
 go_enter Tryz.func213,Tryz.ntmps213
 go_wp2
 go_quiet (fail)
 go_wp2
 go_ret
 exact⟨rfl,_,rfl⟩
theorem fits_any(n:Int):Calls Tryz.prog 180 #[.pointer (some ⟨b,o,none⟩),.int .i64 n] w fun e w'=>e=.returned (.bool (decide (n≤room - used)))∧∃n,w'=w.drewN n:=by
 go_enter Tryz.func180,Tryz.ntmps180
 go_wp2_with (go_at_call 213;refine(free_any _ _ _ _ _ h0 h1 hu0 hu1 hr1).mono ?_;rintro e w' ⟨rfl,k,rfl⟩)
 go_ret
 exact⟨rfl,_,rfl⟩
omit h0 hu0 hu1 hr1 in
theorem used_any:Calls Tryz.prog 142 #[.pointer (some ⟨b,o,none⟩)] w fun e w'=>e=.returned (.int .i64 used)∧w'=w:=by
 go_enter Tryz.func142,Tryz.ntmps142
 go_wp2
 go_ret
 exact⟨rfl,rfl⟩
include hf
theorem take_ok(n:Int)(hn:0≤n)(hn1:n≤room - used):Calls Tryz.prog 140 #[.pointer (some ⟨b,o,none⟩),.int .i64 n] w fun e w'=>e=.returned (.int .i64 0)∧∃k,w'=(w.drewN k).setCell ⟨b,o+1,none⟩ (.int .i64 (used+n)):=by
 have hd:decide (n≤room - used)=true:=by simpa using hn1
 go_enter Tryz.func140,Tryz.ntmps140
 go_wp2_with (go_at_call 180;refine(fits_any _ _ _ _ _ h0 h1 hu0 hu1 hr1 _).mono ?_;rintro e w' ⟨rfl,k,rfl⟩)
 go_ret
 exact⟨rfl,_,rfl⟩
omit hf in
theorem take_full(n:Int)(hn:0≤n)(hn1:room - used<n):Calls Tryz.prog 140 #[.pointer (some ⟨b,o,none⟩),.int .i64 n] w fun e w'=>e=.returned (.int .i64 7)∧∃k,w'=w.drewN k:=by
 have hd:decide (n≤room - used)=false:=by simp;omega
 go_enter Tryz.func140,Tryz.ntmps140
 go_wp2_with (go_at_call 180;refine(fits_any _ _ _ _ _ h0 h1 hu0 hu1 hr1 _).mono ?_;rintro e w' ⟨rfl,k,rfl⟩)
 go_ret
 exact⟨rfl,_,rfl⟩
omit h0 hu0 in
theorem give_ok(n:Int)(hn:0≤n)(hn1:n≤used):Calls Tryz.prog 141 #[.pointer (some ⟨b,o,none⟩),.int .i64 n] w fun e w'=>e=.returned (.int .i64 0)∧w'=w.setCell ⟨b,o+1,none⟩ (.int .i64 (used - n)):=by
 have hd:decide (n<0)=false:=by simp;omega
 have hd2:decide (used<n)=false:=by simp;omega
 go_enter Tryz.func141,Tryz.ntmps141
 go_wp2
 go_ret
 exact⟨rfl,rfl⟩
end meter
section luck
variable(b o:Nat)(w:World)
theorem try_lost(h0:w.cell? ⟨b,o,none⟩=some (.bool true)):Calls Tryz.prog 207 #[.pointer (some ⟨b,o,none⟩)] w fun e w'=>e=.returned (.int .i64 14)∧w'=w:=by
 go_enter Tryz.func207,Tryz.ntmps207
 go_wp2
 go_ret
 exact⟨rfl,rfl⟩
theorem try_calm(h0:w.cell? ⟨b,o,none⟩=some (.bool false))(h1:w.cell? ⟨b,o+1,none⟩=some (.int .i64 0)):Calls Tryz.prog 207 #[.pointer (some ⟨b,o,none⟩)] w fun e w'=>e=.returned (.int .i64 0)∧w'=w:=by
 go_enter Tryz.func207,Tryz.ntmps207
 go_wp2
 go_ret
 exact⟨rfl,rfl⟩
theorem try_last(h0:w.cell? ⟨b,o,none⟩=some (.bool false))(h1:w.cell? ⟨b,o+1,none⟩=some (.int .i64 1))(hf:w.frozen? ⟨b,o+1,none⟩=false):Calls Tryz.prog 207 #[.pointer (some ⟨b,o,none⟩)] w fun e w'=>e=.returned (.int .i64 8)∧w'=w.setCell ⟨b,o+1,none⟩ (.int .i64 0):=by
 go_enter Tryz.func207,Tryz.ntmps207
 go_wp2
 go_ret
 exact⟨rfl,rfl⟩
theorem try_more(armed:Int)(ha:2≤armed)(ha1:armed≤9223372036854775807)(h0:w.cell? ⟨b,o,none⟩=some (.bool false))(h1:w.cell? ⟨b,o+1,none⟩=some (.int .i64 armed))(hf:w.frozen? ⟨b,o+1,none⟩=false):Calls Tryz.prog 207 #[.pointer (some ⟨b,o,none⟩)] w fun e w'=>e=.returned (.int .i64 0)∧w'=w.setCell ⟨b,o+1,none⟩ (.int .i64 (armed - 1)):=by
 have hd:((armed - 1:Int) == 0)=false:=by simp;omega
 have hd1:((armed:Int) == 1)=false:=by simp;omega
 go_enter Tryz.func207,Tryz.ntmps207
 go_wp2
 go_ret
 exact⟨rfl,rfl⟩
end luck
theorem made_any(room:Int)(w:World):Calls Tryz.prog 65 #[.int .i64 room] w fun e w'=>e=.returned (.agg #[.int .i64 (max room 0),.int .i64 0])∧Ext w w':=by
 go_enter Tryz.func65,Tryz.ntmps65
 go_wp2
 ·have e:max room 0=0:=by omega
  exact bodyPost_ret (v:=.agg #[.int .i64 0,.int .i64 0]) (by simp[results,Tryz.results65,go_sem]) rfl ⟨by rw[e],(Ext.refl _).alloc _⟩
 ·have e:max room 0=room:=by omega
  exact bodyPost_ret (v:=.agg #[.int .i64 room,.int .i64 0]) (by simp[results,Tryz.results65,go_sem]) rfl ⟨by rw[e],(Ext.refl _).alloc _⟩
section pick
end pick
end Go.Proofs.YtkkbfdencgdbhaaGreatDoor
namespace Go.Proofs.YtkkbfdencgdbhaaGreatDoor
open Go.RowKit Go.Sort
structure Fl where
 nt:Bool
 nx:ByteArray
 st:Bool
 sx:ByteArray
 deriving DecidableEq
def Fl.val(f:Fl):Value:=.agg #[.bool f.nt,.string f.nx,.bool f.st,.string f.sx]
def Fl.zero:Fl:=⟨false,ByteArray.empty,false,ByteArray.empty⟩
def wt(a b:ByteArray):Int:=max (a.size:Int) (b.size:Int)
theorem wt_nonneg(a b:ByteArray):0≤wt a b:=by unfold wt;omega
theorem wt_le(a b:ByteArray)(ha:a.size≤maxLen)(hb:b.size≤maxLen):wt a b≤9223372036854775807:=by unfold wt;unfold maxLen at ha hb;omega
theorem weight_any(n1 n2:Bool)(s1 s2:ByteArray)(w:World)(_h1:s1.size≤maxLen)(_h2:s2.size≤maxLen) :
 Calls Tryz.prog 139 #[.agg #[.bool n1,.string s1,.bool n2,.string s2]] w fun e w'=>e=.returned (.int .i64 (wt s1 s2))∧Ext w w':=by
 unfold maxLen at _h1 _h2
 go_enter Tryz.func139,Tryz.ntmps139
 go_wp2
 all_goals (go_ret;exact⟨ret_i64 (by unfold wt;omega),(Ext.refl _).alloc _⟩)
theorem weight_re(n1 n2:Bool)(s1 s2:ByteArray)(W:World)(h1:s1.size≤maxLen)(h2:s2.size≤maxLen)(dd:Nat)(os:Array Obj) :
 Calls Tryz.prog 139 #[.agg #[.bool n1,.string s1,.bool n2,.string s2]] (grow (redrawn W dd) os) fun e w''=>e=.returned (.int .i64 (wt s1 s2))∧∃p:Regrown,w''=grow (redrawn W p.d) p.os :=
 Calls.ext_of (weight_any n1 n2 s1 s2 _ h1 h2)
structure Dk where
 room:Int
 used:Int
 lost:Bool
 armed:Int
 files:List (ByteArray×Fl)
def DkAt(w:World)(d m:Nat)(D:Dk):Prop :=
 At w d 112 #[.int .i64 D.room,.int .i64 D.used,.bool D.lost,.int .i64 D.armed,.map (some m)]∧MapAt strWay Fl.val w m D.files
def Dk.get(D:Dk)(n:ByteArray):Fl:=(lget n D.files).getD Fl.zero
def putf(L:List (ByteArray×Fl))(n:ByteArray)(f:Fl):List (ByteArray×Fl):=if f.nt||f.st then(n,f)::ldel n L else ldel n L
theorem zero_file(w:World):(zeroValue 168).run Tryz.prog w=.ok Fl.zero.val w:=by kernel_rfl
theorem map_files:Tryz.prog.underlying 110=some (.map 9 168):=by kernel_rfl
theorem key_files:Tryz.prog.underlying 9=some .string:=by kernel_rfl
theorem DkAt.look{w:World}{d m:Nat}{D:Dk}(h:DkAt w d m D)(n:ByteArray) :
 (Instr.lookup 110 (.map (some m)) (.string n) false).run Tryz.prog w=.ok (.agg #[.bool (D.get n).nt,.string (D.get n).nx,.bool (D.get n).st,.string (D.get n).sx]) w:=by
 have:=h.2.lookup (K:=strWay) map_files key_files zero_file n
 rw[show(Instr.lookup 110 (.map (some m)) (.string n) false)=(Instr.lookup 110 (.map (some m)) (strWay.val n) false)from rfl,this]
 unfold Dk.get
 cases lget n D.files <;> rfl
theorem files_upd{w:World}{m:Nat}{L:List (ByteArray×Fl)}(h:MapAt strWay Fl.val w m L)(n:ByteArray)(x y:Bool)(s1 s2:ByteArray) :
 ∃w',(Instr.mapUpdate 110 (.map (some m)) (.string n) (.agg #[.bool x,.string s1,.bool y,.string s2])).run Tryz.prog w=.ok () w'∧MapAt strWay Fl.val w' m ((n,⟨x,s1,y,s2⟩)::ldel n L)∧Chg (· = m) w w' :=
 h.update (K:=strWay) map_files key_files n ⟨x,s1,y,s2⟩
theorem DkAt.ext{w w':World}{d m:Nat}{D:Dk}(h:DkAt w d m D)(he:Ext w w'):DkAt w' d m D:=⟨h.1.ext he,h.2.ext he⟩
theorem DkAt.alloc{w:World}{d m:Nat}{D:Dk}(h:DkAt w d m D)(o:Obj):DkAt (w.alloc o) d m D:=⟨h.1.alloc o,h.2.alloc o⟩
theorem At.nd{w:World}{d:Nat}{t:TypeId}{room used armed:Int}{lost:Bool}{mv:Value}(h:At w d t #[.int .i64 room,.int .i64 used,.bool lost,.int .i64 armed,mv])(u:Int) :
 At (w.setCell ⟨d,1,none⟩ (.int .i64 u)) d t #[.int .i64 room,.int .i64 u,.bool lost,.int .i64 armed,mv]:=h.set 1 _
def nuse(used g:Int):Int:=if 0<g then used+g else used - min (-g) used
section put
variable(w:World)(d m:Nat)(D:Dk)(hD:DkAt w d m D)(n:ByteArray)(n1 n2:Bool)(s1 s2:ByteArray)(h1:s1.size≤maxLen)(h2:s2.size≤maxLen)
 (g1:(D.get n).nx.size≤maxLen) (g2:(D.get n).sx.size≤maxLen) (hu0:0≤D.used) (hu1:D.used≤D.room) (hr:D.room≤9223372036854775807)
include hD h1 h2 g1 g2 hu0 hu1 hr
set_option maxRecDepth 100000 in
set_option maxHeartbeats 400000 in
theorem put_full(hg:D.room - D.used<wt s1 s2 - wt (D.get n).nx (D.get n).sx)(hg0:0<wt s1 s2 - wt (D.get n).nx (D.get n).sx) :
 Calls Tryz.prog 96 #[.pointer (some ⟨d,0,none⟩),.string n,.agg #[.bool n1,.string s1,.bool n2,.string s2]] w fun e w'=>e=.returned (.int .i64 7)∧Ext w w':=by
 have k1:=wt_nonneg s1 s2
 have k2:=wt_le s1 s2 h1 h2
 have k3:=wt_nonneg (D.get n).nx (D.get n).sx
 have k4:=wt_le (D.get n).nx (D.get n).sx g1 g2
 go_enter Tryz.func96,Tryz.ntmps96
 go_wp2
 have hB:=At.new w 168 #[.bool n1,.string s1,.bool n2,.string s2]
 have hE:=(Ext.refl w).alloc (.cells #[.bool n1,.string s1,.bool n2,.string s2] 168)
 replace hD:=hD.alloc (.cells #[.bool n1,.string s1,.bool n2,.string s2] 168)
 generalize w.alloc (.cells #[.bool n1,.string s1,.bool n2,.string s2] 168)=W at hB hE hD⊢
 generalize w.heap.size=bx at hB⊢
 refine wp_region_quiet_ext (by kernel_rfl) (by kernel_rfl) ?_
 have c0:=hB.cell_regrown 0
 have c1:=hB.cell_regrown 1
 have c2:=hB.cell_regrown 2
 have c3:=hB.cell_regrown 3
 have c4:=hD.1.cell_regrown 4
 have cl:=fun dd os=>(hD.ext (ext_regrown W dd os)).look n
 have cw1:=weight_re n1 n2 s1 s2 W h1 h2
 have cw2:=weight_re (D.get n).nt (D.get n).st (D.get n).nx (D.get n).sx W g1 g2
 repeat (go_big_quiet_step (first|with_reducible exact cw1 _ _|with_reducible exact cw2 _ _))
 refine wpQuiet_nil ?_
 intro W2 hE2
 clear c0 c1 c2 c3 c4 cl cw1 cw2
 replace hD:=hD.ext hE2
 replace hE:=hE.trans hE2
 have d0:=hD.1.cell 0
 have d1:=hD.1.cell 1
 go_wp2_with (go_at_call 140;refine(take_full _ _ _ _ _ d0 d1 hu0 hu1 hr _ (Int.le_of_lt hg0) hg).mono ?_;rintro e w' ⟨rfl,k,rfl⟩)
 go_ret
 exact⟨rfl,hE.drewN _⟩
set_option maxRecDepth 100000 in
set_option maxHeartbeats 1000000 in
theorem put_ok(hg:wt s1 s2 - wt (D.get n).nx (D.get n).sx≤D.room - D.used∨wt s1 s2 - wt (D.get n).nx (D.get n).sx≤0) :
 Calls Tryz.prog 96 #[.pointer (some ⟨d,0,none⟩),.string n,.agg #[.bool n1,.string s1,.bool n2,.string s2]] w fun e w'=>e=.returned (.int .i64 0)∧Chg (fun k=>k=d∨k=m) w w' ∧
  DkAt w' d m { D with used:=nuse D.used (wt s1 s2 - wt (D.get n).nx (D.get n).sx),files:=putf D.files n ⟨n1,s1,n2,s2⟩ } := by
 have k1:=wt_nonneg s1 s2
 have k2:=wt_le s1 s2 h1 h2
 have k3:=wt_nonneg (D.get n).nx (D.get n).sx
 have k4:=wt_le (D.get n).nx (D.get n).sx g1 g2
 go_enter Tryz.func96,Tryz.ntmps96
 go_wp2
 have hB:=At.new w 168 #[.bool n1,.string s1,.bool n2,.string s2]
 have hE:=(Ext.refl w).alloc (.cells #[.bool n1,.string s1,.bool n2,.string s2] 168)
 replace hD:=hD.alloc (.cells #[.bool n1,.string s1,.bool n2,.string s2] 168)
 generalize w.alloc (.cells #[.bool n1,.string s1,.bool n2,.string s2] 168)=W at hB hE hD⊢
 generalize w.heap.size=bx at hB⊢
 refine wp_region_quiet_ext (by kernel_rfl) (by kernel_rfl) ?_
 have c0:=hB.cell_regrown 0
 have c1:=hB.cell_regrown 1
 have c2:=hB.cell_regrown 2
 have c3:=hB.cell_regrown 3
 have c4:=hD.1.cell_regrown 4
 have cl:=fun dd os=>(hD.ext (ext_regrown W dd os)).look n
 have cw1:=weight_re n1 n2 s1 s2 W h1 h2
 have cw2:=weight_re (D.get n).nt (D.get n).st (D.get n).nx (D.get n).sx W g1 g2
 repeat (go_big_quiet_step (first|with_reducible exact cw1 _ _|with_reducible exact cw2 _ _))
 refine wpQuiet_nil ?_
 intro W2 hE2
 clear c0 c1 c2 c3 c4 cl cw1 cw2
 replace hD:=hD.ext hE2
 replace hE:=hE.trans hE2
 replace hB:=hB.ext hE2
 have d0:=hD.1.cell 0
 have d1:=hD.1.cell 1
 have df:=hD.1.frozen 1
 by_cases hg0:0<wt s1 s2 - wt (D.get n).nx (D.get n).sx
 ·have hn:nuse D.used (wt s1 s2 - wt (D.get n).nx (D.get n).sx)=D.used+(wt s1 s2 - wt (D.get n).nx (D.get n).sx):=if_pos hg0
  replace hg:wt s1 s2 - wt (D.get n).nx (D.get n).sx≤D.room - D.used:=by omega
  go_wp2_with fail
  refine(take_ok _ _ _ _ _ d0 d1 df hu0 hu1 hr _ (Int.le_of_lt hg0) hg).mono ?_
  rintro e w' ⟨rfl,k,rfl⟩
  have hD3:DkAt ((W2.drewN k).setCell ⟨d,0+1,none⟩ (.int .i64 (D.used+(wt s1 s2 - wt (D.get n).nx (D.get n).sx)))) d m { D with used:=nuse D.used (wt s1 s2 - wt (D.get n).nx (D.get n).sx) } := by
   rw[hn];exact⟨(hD.1.drewN k).nd _,(hD.2.drewN k).setCell _ _⟩
  have hE3:Chg (fun k=>k=d∨k=m) w ((W2.drewN k).setCell ⟨d,0+1,none⟩ (.int .i64 (D.used+(wt s1 s2 - wt (D.get n).nx (D.get n).sx)))):=(hE.chg.drewN k).setCell (.inl (.inl rfl)) _
  have hB3:At ((W2.drewN k).setCell ⟨d,0+1,none⟩ (.int .i64 (D.used+(wt s1 s2 - wt (D.get n).nx (D.get n).sx)))) bx 168 #[.bool n1,.string s1,.bool n2,.string s2]:=(hB.drewN k).far (hB.ne hD.1 (by decide)) _
  generalize (W2.drewN k).setCell ⟨d,0+1,none⟩ (.int .i64 (D.used+(wt s1 s2 - wt (D.get n).nx (D.get n).sx)))=W3 at hD3 hE3 hB3⊢
  clear hn hD hE hB d0 d1 df hE2 hg hg0 k1 k2 k3 k4
  have b0:=hB3.cell 0
  have b2:=hB3.cell 2
  have e4:=hD3.1.cell 4
  cases n1
  ·cases n2
   ·obtain⟨W4,hrun,hM4,hE4⟩:=hD3.2.delete (K:=strWay) map_files key_files n
    have hrun':∀ty,(Builtin.delete_ #[110,9] ty #[.map (some m),.string n]).run Tryz.prog W3=.ok (.tuple #[]) W4:=hrun
    clear hrun
    go_wp2
    go_ret
    exact⟨rfl,hE3.trans hE4 (fun k _ h=>.inr h),hD3.1.chg hE4 (fun h=>hD3.2.ne_at hD3.1 h.symm),hM4⟩
   ·skip
    have hq:=fun wx=>run_eql_map_nil (P:=Tryz.prog) wx 110 9 168 (some m) map_files
    have b1:=hB3.cell 1
    have b3:=hB3.cell 3
    go_wp2_with fail
    obtain⟨W4,hrun,hM4,hE4⟩:=files_upd (w:=W3.drew) hD3.2 n false true s1 s2
    go_region
    all_goals
     go_wp2
     go_ret
     exact⟨rfl,hE3.drew.trans hE4 (fun k _ h=>.inr h),hD3.1.drew.chg hE4 (fun h=>hD3.2.ne_at hD3.1 h.symm),hM4⟩
  ·skip
   have hq:=fun wx=>run_eql_map_nil (P:=Tryz.prog) wx 110 9 168 (some m) map_files
   have b1:=hB3.cell 1
   have b3:=hB3.cell 3
   go_wp2_with fail
   obtain⟨W4,hrun,hM4,hE4⟩:=files_upd (w:=W3.drew) hD3.2 n true n2 s1 s2
   go_region
   all_goals
    go_wp2
    go_ret
    exact⟨rfl,hE3.drew.trans hE4 (fun k _ h=>.inr h),hD3.1.drew.chg hE4 (fun h=>hD3.2.ne_at hD3.1 h.symm),hM4⟩
 ·clear hg
  have d1':W2.drew.cell? ⟨d,0+1,none⟩=some (.int .i64 D.used):=d1
  have cu:=used_any d 0 D.used W2.drew d1'
  go_wp2_with fail
  go_still_tail 10,(by kernel_rfl)
  rcases(show D.used < -(wt s1 s2 - wt (D.get n).nx (D.get n).sx) ∨ -(wt s1 s2 - wt (D.get n).nx (D.get n).sx)≤D.used by omega)with hm|hm
  ·have hn:nuse D.used (wt s1 s2 - wt (D.get n).nx (D.get n).sx)=D.used - D.used:=by unfold nuse;rw[if_neg (by omega)];omega
   still_call cu
   repeat still_step
   refine wpStill_nil ?_
   go_wp2_with fail
   all_goals
    refine(give_ok d 0 D.room D.used W2.drew d1' df hu1 hr _ (by omega) (by omega)).mono ?_
    rintro e w' ⟨rfl,rfl⟩
    have hD3:DkAt (W2.drew.setCell ⟨d,0+1,none⟩ (.int .i64 (D.used - D.used))) d m { D with used:=nuse D.used (wt s1 s2 - wt (D.get n).nx (D.get n).sx) } := by
     rw[hn];exact⟨hD.1.drew.nd _,hD.2.drew.setCell _ _⟩
    have hE3:Chg (fun k=>k=d∨k=m) w (W2.drew.setCell ⟨d,0+1,none⟩ (.int .i64 (D.used - D.used))):=hE.chg.drew.setCell (.inl (.inl rfl)) _
    have hB3:At (W2.drew.setCell ⟨d,0+1,none⟩ (.int .i64 (D.used - D.used))) bx 168 #[.bool n1,.string s1,.bool n2,.string s2]:=hB.drew.far (hB.ne hD.1 (by decide)) _
    generalize W2.drew.setCell ⟨d,0+1,none⟩ (.int .i64 (D.used - D.used))=W3 at hD3 hE3 hB3⊢
    clear hn hD hE hB d0 d1 d1' df hE2 hg0 k1 k2 k3 k4 cu hm
    have b0:=hB3.cell 0
    have b2:=hB3.cell 2
    have e4:=hD3.1.cell 4
    cases n1
    ·cases n2
     ·obtain⟨W4,hrun,hM4,hE4⟩:=hD3.2.delete (K:=strWay) map_files key_files n
      have hrun':∀ty,(Builtin.delete_ #[110,9] ty #[.map (some m),.string n]).run Tryz.prog W3=.ok (.tuple #[]) W4:=hrun
      clear hrun
      go_wp2
      go_ret
      exact⟨rfl,hE3.trans hE4 (fun k _ h=>.inr h),hD3.1.chg hE4 (fun h=>hD3.2.ne_at hD3.1 h.symm),hM4⟩
     ·skip
      have hq:=fun wx=>run_eql_map_nil (P:=Tryz.prog) wx 110 9 168 (some m) map_files
      have b1:=hB3.cell 1
      have b3:=hB3.cell 3
      go_wp2_with fail
      obtain⟨W4,hrun,hM4,hE4⟩:=files_upd (w:=W3.drew) hD3.2 n false true s1 s2
      go_region
      all_goals
       go_wp2
       go_ret
       exact⟨rfl,hE3.drew.trans hE4 (fun k _ h=>.inr h),hD3.1.drew.chg hE4 (fun h=>hD3.2.ne_at hD3.1 h.symm),hM4⟩
    ·skip
     have hq:=fun wx=>run_eql_map_nil (P:=Tryz.prog) wx 110 9 168 (some m) map_files
     have b1:=hB3.cell 1
     have b3:=hB3.cell 3
     go_wp2_with fail
     obtain⟨W4,hrun,hM4,hE4⟩:=files_upd (w:=W3.drew) hD3.2 n true n2 s1 s2
     go_region
     all_goals
      go_wp2
      go_ret
      exact⟨rfl,hE3.drew.trans hE4 (fun k _ h=>.inr h),hD3.1.drew.chg hE4 (fun h=>hD3.2.ne_at hD3.1 h.symm),hM4⟩
  ·have hn:nuse D.used (wt s1 s2 - wt (D.get n).nx (D.get n).sx)=D.used - -(wt s1 s2 - wt (D.get n).nx (D.get n).sx):=by unfold nuse;rw[if_neg (by omega)];omega
   still_call cu
   repeat still_step
   refine wpStill_nil ?_
   go_wp2_with fail
   all_goals
    refine(give_ok d 0 D.room D.used W2.drew d1' df hu1 hr _ (by omega) (by omega)).mono ?_
    rintro e w' ⟨rfl,rfl⟩
    have hD3:DkAt (W2.drew.setCell ⟨d,0+1,none⟩ (.int .i64 (D.used - -(wt s1 s2 - wt (D.get n).nx (D.get n).sx)))) d m { D with used:=nuse D.used (wt s1 s2 - wt (D.get n).nx (D.get n).sx) } := by
     rw[hn];exact⟨hD.1.drew.nd _,hD.2.drew.setCell _ _⟩
    have hE3:Chg (fun k=>k=d∨k=m) w (W2.drew.setCell ⟨d,0+1,none⟩ (.int .i64 (D.used - -(wt s1 s2 - wt (D.get n).nx (D.get n).sx)))):=hE.chg.drew.setCell (.inl (.inl rfl)) _
    have hB3:At (W2.drew.setCell ⟨d,0+1,none⟩ (.int .i64 (D.used - -(wt s1 s2 - wt (D.get n).nx (D.get n).sx)))) bx 168 #[.bool n1,.string s1,.bool n2,.string s2]:=hB.drew.far (hB.ne hD.1 (by decide)) _
    generalize W2.drew.setCell ⟨d,0+1,none⟩ (.int .i64 (D.used - -(wt s1 s2 - wt (D.get n).nx (D.get n).sx)))=W3 at hD3 hE3 hB3⊢
    clear hn hD hE hB d0 d1 d1' df hE2 hg0 k1 k2 k3 k4 cu hm
    have b0:=hB3.cell 0
    have b2:=hB3.cell 2
    have e4:=hD3.1.cell 4
    cases n1
    ·cases n2
     ·obtain⟨W4,hrun,hM4,hE4⟩:=hD3.2.delete (K:=strWay) map_files key_files n
      have hrun':∀ty,(Builtin.delete_ #[110,9] ty #[.map (some m),.string n]).run Tryz.prog W3=.ok (.tuple #[]) W4:=hrun
      clear hrun
      go_wp2
      go_ret
      exact⟨rfl,hE3.trans hE4 (fun k _ h=>.inr h),hD3.1.chg hE4 (fun h=>hD3.2.ne_at hD3.1 h.symm),hM4⟩
     ·skip
      have hq:=fun wx=>run_eql_map_nil (P:=Tryz.prog) wx 110 9 168 (some m) map_files
      have b1:=hB3.cell 1
      have b3:=hB3.cell 3
      go_wp2_with fail
      obtain⟨W4,hrun,hM4,hE4⟩:=files_upd (w:=W3.drew) hD3.2 n false true s1 s2
      go_region
      all_goals
       go_wp2
       go_ret
       exact⟨rfl,hE3.drew.trans hE4 (fun k _ h=>.inr h),hD3.1.drew.chg hE4 (fun h=>hD3.2.ne_at hD3.1 h.symm),hM4⟩
    ·skip
     have hq:=fun wx=>run_eql_map_nil (P:=Tryz.prog) wx 110 9 168 (some m) map_files
     have b1:=hB3.cell 1
     have b3:=hB3.cell 3
     go_wp2_with fail
     obtain⟨W4,hrun,hM4,hE4⟩:=files_upd (w:=W3.drew) hD3.2 n true n2 s1 s2
     go_region
     all_goals
      go_wp2
      go_ret
      exact⟨rfl,hE3.drew.trans hE4 (fun k _ h=>.inr h),hD3.1.drew.chg hE4 (fun h=>hD3.2.ne_at hD3.1 h.symm),hM4⟩
end put
end Go.Proofs.YtkkbfdencgdbhaaGreatDoor
namespace Go.Proofs.YtkkbfdencgdbhaaGreatDoor
open Go.RowKit Go.Sort
def tryE(lost:Bool)(armed:Int):Int:=if lost then 14 else if armed=1 then 8 else 0
def tryA(lost:Bool)(armed:Int):Int:=if lost then armed else if 0<armed then armed - 1 else armed
def Dk.tick(D:Dk):Dk := { D with armed:=tryA D.lost D.armed }
def Dk.e(D:Dk):Int:=tryE D.lost D.armed
def Dk.grow(D:Dk)(n:ByteArray)(f:Fl):Int:=wt f.nx f.sx - wt (D.get n).nx (D.get n).sx
def lputf(L:List (ByteArray×Fl))(n:ByteArray)(f:Fl):List (ByteArray×Fl):=if f.nt||f.st then lput blt n f L else ldel n L
theorem lputf_perm{L:List (ByteArray×Fl)}(h:Rises blt L)(n:ByteArray)(f:Fl):(putf L n f).Perm (lputf L n f):=by
 unfold putf lputf
 split
 ·exact(lput_perm blt_ordd h).symm
 ·exact List.Perm.refl _
def Dk.put(D:Dk)(n:ByteArray)(f:Fl):Int×Dk :=
 if 0<D.grow n f∧D.room - D.used<D.grow n f then(7,D)
 else(0, { D with used:=nuse D.used (D.grow n f),files:=lputf D.files n f })
structure Dk.Ok (D:Dk):Prop where
 u0:0≤D.used
 u1:D.used≤D.room
 r1:D.room≤9223372036854775807
 a0:0≤D.armed
 a1:D.armed≤9223372036854775807
 srt:Rises blt D.files
 keys:∀p∈D.files,p.1.size≤maxLen
 t:∀n,(D.get n).nx.size≤maxLen∧(D.get n).sx.size≤maxLen
theorem DkAt.chg_armed{w:World}{d m:Nat}{D:Dk}(h:DkAt w d m D)(a:Int) :
 DkAt (w.setCell ⟨d,2+1,none⟩ (.int .i64 a)) d m { D with armed:=a } := ⟨h.1.set 3 _,h.2.setCell _ _⟩
theorem try_any(w:World)(d m:Nat)(D:Dk)(hD:DkAt w d m D)(ha:0≤D.armed)(ha1:D.armed≤9223372036854775807) :
 Calls Tryz.prog 207 #[.pointer (some ⟨d,2,none⟩)] w fun e w'=>e=.returned (.int .i64 D.e)∧Chg (fun k=>k=d) w w'∧DkAt w' d m D.tick:=by
 obtain⟨room,used,lost,armed,files⟩:=D
 simp only at ha ha1
 have c2:w.cell? ⟨d,2,none⟩=some (.bool lost):=hD.1.cell 2
 have c3:w.cell? ⟨d,2+1,none⟩=some (.int .i64 armed):=hD.1.cell 3
 have f3:w.frozen? ⟨d,2+1,none⟩=false:=hD.1.frozen 3
 unfold Dk.e Dk.tick tryE tryA
 cases lost
 ·rcases(show armed=0∨armed=1∨2≤armed by omega)with rfl|rfl|h
  ·refine(try_calm d 2 w c2 c3).mono ?_
   rintro e w' ⟨rfl,rfl⟩
   exact⟨rfl,Chg.refl _ _,hD⟩
  ·refine(try_last d 2 w c2 c3 f3).mono ?_
   rintro e w' ⟨rfl,rfl⟩
   exact⟨rfl,(Chg.refl (fun k=>k=d) _).setCell (.inl rfl) _,hD.chg_armed 0⟩
  ·refine(try_more d 2 w armed h ha1 c2 c3 f3).mono ?_
   rintro e w' ⟨rfl,rfl⟩
   refine⟨by rw[if_neg (by simp),if_neg (by simp only;omega)],(Chg.refl (fun k=>k=d) _).setCell (.inl rfl) _,?_⟩
   rw[if_neg (by simp),if_pos (by simp only;omega)]
   exact hD.chg_armed _
 ·refine(try_lost d 2 w c2).mono ?_
  rintro e w' ⟨rfl,rfl⟩
  exact⟨rfl,Chg.refl _ _,hD⟩
theorem put_any(w:World)(d m:Nat)(D:Dk)(hD:DkAt w d m D)(hO:D.Ok)(n:ByteArray)(n1 n2:Bool)(s1 s2:ByteArray)(h1:s1.size≤maxLen)(h2:s2.size≤maxLen) :
 Calls Tryz.prog 96 #[.pointer (some ⟨d,0,none⟩),.string n,.agg #[.bool n1,.string s1,.bool n2,.string s2]] w fun e w' =>
  e=.returned (.int .i64 (D.put n ⟨n1,s1,n2,s2⟩).1)∧Chg (fun k=>k=d∨k=m) w w'∧DkAt w' d m (D.put n ⟨n1,s1,n2,s2⟩).2:=by
 unfold Dk.put Dk.grow
 simp only
 split
 ·rename_i h
  refine(put_full w d m D hD n n1 n2 s1 s2 h1 h2 (hO.t n).1 (hO.t n).2 hO.u0 hO.u1 hO.r1 h.2 h.1).mono ?_
  rintro e w' ⟨rfl,he⟩
  exact⟨rfl,he.chg,hD.ext he⟩
 ·rename_i h
  refine(put_ok w d m D hD n n1 n2 s1 s2 h1 h2 (hO.t n).1 (hO.t n).2 hO.u0 hO.u1 hO.r1 (by omega)).mono ?_
  rintro e w' ⟨rfl,hc,hd⟩
  exact⟨rfl,hc,hd.1,hd.2.perm (lputf_perm hO.srt _ _)⟩
theorem Dk.Ok.tick{D:Dk}(h:D.Ok):D.tick.Ok:=by
 refine⟨h.u0,h.u1,h.r1,?_,?_,h.srt,h.keys,h.t⟩
 ·have:=h.a0
  unfold Dk.tick tryA;simp only;split
  ·exact h.a0
  ·split <;> omega
 ·have:=h.a1
  unfold Dk.tick tryA;simp only;split
  ·exact h.a1
  ·split <;> omega
theorem get_lputf{D:Dk}(n n':ByteArray)(f:Fl)(u:Int):Dk.get { D with used:=u,files:=lputf D.files n f } n'=if n'=n then(if f.nt||f.st then f else Fl.zero)else D.get n':=by
 unfold Dk.get lputf
 simp only
 split
 ·rw[lget_lput blt_ordd];split <;> rfl
 ·rw[lget_ldel];split <;> rfl
theorem Dk.Ok.put{D:Dk}(h:D.Ok){n:ByteArray}(hn:n.size≤maxLen){f:Fl}(h1:f.nx.size≤maxLen)(h2:f.sx.size≤maxLen):(D.put n f).2.Ok:=by
 unfold Dk.put
 split
 ·exact h
 ·rename_i hg
  have a:=h.u0;have b:=h.u1;have c:=h.r1
  refine⟨?_,?_,h.r1,h.a0,h.a1,?_,?_,fun n'=>?_⟩
  ·simp only[nuse];split <;> omega
  ·simp only[nuse];split <;> omega
  ·simp only[lputf];split
   ·exact Rises.put blt_ordd h.srt
   ·exact h.srt.del _
  ·simp only[lputf]
   intro p hp
   split at hp
   ·rcases mem_lput hp with rfl|hp
    ·exact hn
    ·exact h.keys p hp
   ·exact h.keys p (List.mem_filter.1 hp).1
  ·simp only
   rw[get_lputf]
   split
   ·split
    ·exact⟨h1,h2⟩
    ·exact⟨Nat.zero_le _,Nat.zero_le _⟩
   ·exact h.t n'
def Dk.change(D:Dk)(n:ByteArray)(g:ByteArray→ByteArray):Int×Dk :=
 if D.e≠0 then(D.e,D.tick)else if n.data.toList.isEmpty then(1,D.tick)
 else D.tick.put n { D.get n with nt:=true,nx:=g (D.get n).nx }
theorem wclo_any(t s:ByteArray)(bx:Nat)(w:World)(hc:w.cell? ⟨bx,0,none⟩=some (.string s)) :
 Calls Tryz.prog 235 #[.string t,.pointer (some ⟨bx,0,none⟩)] w fun e w'=>e=.returned (.string s)∧w'=w:=by
 go_enter Tryz.func235,Tryz.ntmps235
 go_wp2
 go_ret
 exact⟨rfl,rfl⟩
theorem aclo_any(t s:ByteArray)(bx:Nat)(w:World)(hc:w.cell? ⟨bx,0,none⟩=some (.string s))(hl:t.size+s.size≤9223372036854775807) :
 Calls Tryz.prog 206 #[.string t,.pointer (some ⟨bx,0,none⟩)] w fun e w'=>e=.returned (.string (t++s))∧w'=w:=by
 go_enter Tryz.func206,Tryz.ntmps206
 go_wp2
 go_ret
 exact⟨rfl,rfl⟩
section change
variable(w:World)(d m:Nat)(D:Dk)(hD:DkAt w d m D)(hO:D.Ok)(n s:ByteArray)(hs:s.size≤maxLen)(bx:Nat)(hc:At w bx 9 #[.string s])
include hD hO hs hc
set_option maxRecDepth 100000 in
set_option maxHeartbeats 400000 in
theorem change_write:Calls Tryz.prog 205 #[.pointer (some ⟨d,0,none⟩),.string n,.func (.func 235) #[] #[.pointer (some ⟨bx,0,none⟩)]] w fun e w' =>
 e=.returned (.int .i64 (D.change n fun _=>s).1)∧Chg (fun k=>k=d∨k=m) w w'∧DkAt w' d m (D.change n fun _=>s).2:=by
 by_cases he:D.e=0
 ·have he1:(D.e == 0)=true:=by simpa using he
  have he2:(D.e != 0)=false:=by simpa using he
  have ct:=try_any w d m D hD hO.a0 hO.a1
  go_enter Tryz.func205,Tryz.ntmps205
  go_wp2_with fail
  refine ct.mono ?_
  rintro e w1 ⟨rfl,hC1,hD1⟩
  have e4:w1.cell? ⟨d,4,none⟩=some (.map (some m)):=hD1.1.cell 4
  have cl:(Instr.lookup 110 (.map (some m)) (.string n) false).run Tryz.prog w1=.ok (.agg #[.bool (D.get n).nt,.string (D.get n).nx,.bool (D.get n).st,.string (D.get n).sx]) w1:=hD1.look n
  replace hc:At w1 bx 9 #[.string s]:=hc.chg hC1 (hc.ne hD.1 (by decide))
  have hbl:=hc.lt
  have c0:=hc.cell 0
  cases hn:n.toList.isEmpty
  ·have hfin:D.change n (fun _=>s)=D.tick.put n ⟨true,s,(D.get n).st,(D.get n).sx⟩:=by unfold Dk.change;rw[if_neg (by simpa using he),if_neg (by rw[←ByteArray.toList_eq,hn];exact Bool.false_ne_true)]
   have H:=Lib.hid hfin
   clear hfin
   go_wp2_with fail
   refine(wclo_any _ s bx _ (by exact(hc.alloc _).cell 0)).mono ?_
   rintro e w2 ⟨rfl,rfl⟩
   go_wp2_with fail
   refine(put_any _ d m D.tick (hD1.alloc _) hO.tick n true (D.get n).st s (D.get n).sx hs (hO.t n).2).mono ?_
   rintro e w2 ⟨rfl,hC2,hD2⟩
   go_wp2_with fail
   go_ret
   rw[H.out]
   exact⟨rfl,((hC1.mono (fun k _ h=>.inl h)).alloc _).trans hC2 (fun k _ h=>h),hD2⟩
  ·have hfin:D.change n (fun _=>s)=(1,D.tick):=by unfold Dk.change;rw[if_neg (by simpa using he),if_pos (by rw[←ByteArray.toList_eq];exact hn)]
   go_wp2_with fail
   go_ret
   rw[hfin]
   exact⟨rfl,hC1.mono (fun k _ h=>.inl h),hD1⟩
 ·have he1:(D.e == 0)=false:=by simpa using he
  have he2:(D.e != 0)=true:=by simpa using he
  have ct:=try_any w d m D hD hO.a0 hO.a1
  go_enter Tryz.func205,Tryz.ntmps205
  go_wp2_with fail
  refine ct.mono ?_
  rintro e w1 ⟨rfl,hC1,hD1⟩
  go_wp2_with fail
  go_ret
  unfold Dk.change
  rw[if_pos he]
  exact⟨rfl,hC1.mono (fun k _ h=>.inl h),hD1⟩
variable(hl:(D.get n).nx.size+s.size≤9223372036854775807)
omit hs in
include hl in
set_option maxRecDepth 100000 in
set_option maxHeartbeats 400000 in
theorem change_append:Calls Tryz.prog 205 #[.pointer (some ⟨d,0,none⟩),.string n,.func (.func 206) #[] #[.pointer (some ⟨bx,0,none⟩)]] w fun e w' =>
 e=.returned (.int .i64 (D.change n fun x=>x++s).1)∧Chg (fun k=>k=d∨k=m) w w'∧DkAt w' d m (D.change n fun x=>x++s).2:=by
 by_cases he:D.e=0
 ·have he1:(D.e == 0)=true:=by simpa using he
  have he2:(D.e != 0)=false:=by simpa using he
  have ct:=try_any w d m D hD hO.a0 hO.a1
  go_enter Tryz.func205,Tryz.ntmps205
  go_wp2_with fail
  refine ct.mono ?_
  rintro e w1 ⟨rfl,hC1,hD1⟩
  have e4:w1.cell? ⟨d,4,none⟩=some (.map (some m)):=hD1.1.cell 4
  have cl:(Instr.lookup 110 (.map (some m)) (.string n) false).run Tryz.prog w1=.ok (.agg #[.bool (D.get n).nt,.string (D.get n).nx,.bool (D.get n).st,.string (D.get n).sx]) w1:=hD1.look n
  replace hc:At w1 bx 9 #[.string s]:=hc.chg hC1 (hc.ne hD.1 (by decide))
  have hbl:=hc.lt
  have c0:=hc.cell 0
  cases hn:n.toList.isEmpty
  ·have hfin:D.change n (fun x=>x++s)=D.tick.put n ⟨true,(D.get n).nx++s,(D.get n).st,(D.get n).sx⟩:=by unfold Dk.change;rw[if_neg (by simpa using he),if_neg (by rw[←ByteArray.toList_eq,hn];exact Bool.false_ne_true)]
   have H:=Lib.hid hfin
   clear hfin
   go_wp2_with fail
   refine(aclo_any _ s bx _ (by exact(hc.alloc _).cell 0) hl).mono ?_
   rintro e w2 ⟨rfl,rfl⟩
   go_wp2_with fail
   refine(put_any _ d m D.tick (hD1.alloc _) hO.tick n true (D.get n).st ((D.get n).nx++s) (D.get n).sx (by rw[ByteArray.size_append];exact hl) (hO.t n).2).mono ?_
   rintro e w2 ⟨rfl,hC2,hD2⟩
   go_wp2_with fail
   go_ret
   rw[H.out]
   exact⟨rfl,((hC1.mono (fun k _ h=>.inl h)).alloc _).trans hC2 (fun k _ h=>h),hD2⟩
  ·have hfin:D.change n (fun x=>x++s)=(1,D.tick):=by unfold Dk.change;rw[if_neg (by simpa using he),if_pos (by rw[←ByteArray.toList_eq];exact hn)]
   go_wp2_with fail
   go_ret
   rw[hfin]
   exact⟨rfl,hC1.mono (fun k _ h=>.inl h),hD1⟩
 ·have he1:(D.e == 0)=false:=by simpa using he
  have he2:(D.e != 0)=true:=by simpa using he
  have ct:=try_any w d m D hD hO.a0 hO.a1
  go_enter Tryz.func205,Tryz.ntmps205
  go_wp2_with fail
  refine ct.mono ?_
  rintro e w1 ⟨rfl,hC1,hD1⟩
  go_wp2_with fail
  go_ret
  unfold Dk.change
  rw[if_pos he]
  exact⟨rfl,hC1.mono (fun k _ h=>.inl h),hD1⟩
end change
theorem write_any(w:World)(d m:Nat)(D:Dk)(hD:DkAt w d m D)(hO:D.Ok)(n s:ByteArray)(hs:s.size≤maxLen) :
 Calls Tryz.prog 210 #[.pointer (some ⟨d,0,none⟩),.string n,.string s] w fun e w' =>
  e=.returned (.int .i64 (D.change n fun _=>s).1)∧Chg (fun k=>k=d∨k=m) w w'∧DkAt w' d m (D.change n fun _=>s).2:=by
 go_enter Tryz.func210,Tryz.ntmps210
 go_wp2_with fail
 refine(change_write _ d m D (hD.alloc _) hO n s hs _ (At.new w _ _)).mono ?_
 rintro e w' ⟨rfl,hC,hD'⟩
 go_wp2_with fail
 go_ret
 exact⟨rfl,((Chg.refl _ _).alloc _).trans hC (fun _ _ h=>h),hD'⟩
theorem append_any(w:World)(d m:Nat)(D:Dk)(hD:DkAt w d m D)(hO:D.Ok)(n s:ByteArray)(hl:(D.get n).nx.size+s.size≤9223372036854775807) :
 Calls Tryz.prog 170 #[.pointer (some ⟨d,0,none⟩),.string n,.string s] w fun e w' =>
  e=.returned (.int .i64 (D.change n fun x=>x++s).1)∧Chg (fun k=>k=d∨k=m) w w'∧DkAt w' d m (D.change n fun x=>x++s).2:=by
 go_enter Tryz.func170,Tryz.ntmps170
 go_wp2_with fail
 refine(change_append _ d m D (hD.alloc _) hO n s _ (At.new w _ _) hl).mono ?_
 rintro e w' ⟨rfl,hC,hD'⟩
 go_wp2_with fail
 go_ret
 exact⟨rfl,((Chg.refl _ _).alloc _).trans hC (fun _ _ h=>h),hD'⟩
end Go.Proofs.YtkkbfdencgdbhaaGreatDoor
