/-
  Part 4 of what the law leans on.
-/
import Derived.Test.YtkkbfdencgdbhaaGreatDoorSA1
import Derived.Test.YtkkbfdencgdbhaaGreatDoorSA2
import Derived.Test.YtkkbfdencgdbhaaGreatDoorChecked
import Derived.BigQuiet
import Derived.WalkSpells
import Derived.WalkLawsBesides
import Derived.Deep.LoopGhost
import Derived.Laws.BitsAllLaws
set_option linter.unusedVariables false
set_option linter.unusedSimpArgs false
set_option linter.unusedSectionVars false
namespace Go.Proofs.YtkkbfdencgdbhaaGreatDoor
open Go.RowKit
def crcT:List Nat:=[0,498536548,997073096,651767980,1994146192,1802195444,1303535960,1342533948,3988292384,4027552580,3604390888,3412177804,2607071920,2262029012,2685067896,3183342108]
def crcH(r:Nat):Nat:=(r / 16) ^^^ crcT.getD (r % 16) 0
def crc1(r:Nat)(c:UInt8):Nat:=crcH (crcH (r ^^^ c.toNat))
def crcF(r:Nat)(l:List UInt8):Nat:=l.foldl crc1 r
def crc(l:List UInt8):Nat:=4294967295 - crcF 4294967295 l
theorem crcT_lt:∀i,crcT.getD i 0<4294967296:=by
 intro i
 by_cases h:i<16
 ·revert i;decide
 ·rw[List.getD_eq_getElem?_getD,List.getElem?_eq_none (by simp[crcT];omega)];decide
theorem crcH_lt{r:Nat}(h:r<4294967296):crcH r<4294967296:=Nat.xor_lt_two_pow (n:=32) (by omega) (crcT_lt _)
theorem crc1_lt{r:Nat}{c:UInt8}(h:r<4294967296):crc1 r c<4294967296 :=
 crcH_lt (crcH_lt (Nat.xor_lt_two_pow (n:=32) h (by have:=c.toNat_lt;omega)))
theorem crcF_lt{r:Nat}(h:r<4294967296)(l:List UInt8):crcF r l<4294967296:=by
 unfold crcF
 induction l generalizing r with
 | nil=>exact h
 | cons c t ih=>exact ih (crc1_lt h)
theorem crcF_append(r:Nat)(a b:List UInt8):crcF r (a++b)=crcF (crcF r a) b:=List.foldl_append ..
theorem crc_lt(l:List UInt8):crc l<4294967296:=by unfold crc;omega
def Tab(w:World):Prop:=∀i,i<16→w.cell? ⟨0,i,none⟩=some (.int .u32 (crcT.getD i 0:Nat))
theorem Tab.chg{S:Nat→Prop}{w w':World}(h:Tab w)(hc:Chg S w w')(hn:¬ S 0):Tab w':=fun i hi=>by
 have h1:=h i hi
 have hl:0<w.heap.size:=by
  rcases Nat.lt_or_ge 0 w.heap.size with hlt|hge
  ·exact hlt
  ·have e:w.heap[0]? = none:=Array.getElem?_eq_none hge
   simp[World.cell?,e]at h1
 exact(hc.cell (p:=⟨0,i,none⟩) hl hn).trans h1
theorem Tab.ext{w w':World}(h:Tab w)(hc:Ext w w'):Tab w':=h.chg hc (fun h=>h)
theorem Tab.alloc{w:World}(h:Tab w)(o:Obj):Tab (w.alloc o):=h.ext ((Ext.refl w).alloc o)
theorem Tab.lt{w:World}(h:Tab w):0<w.heap.size:=by
 have h1:=h 0 (by decide)
 rcases Nat.lt_or_ge 0 w.heap.size with hlt|hge
 ·exact hlt
 ·have e:w.heap[0]? = none:=Array.getElem?_eq_none hge
  simp[World.cell?,e]at h1
theorem crc_half(r:Nat)(h:r<4294967296):bits .xor .u32 ((r:Int) / 16) ((crcT.getD (r % 16) 0:Nat):Int)=((crcH r:Nat):Int):=by
 rw[show(r:Int) / 16=((r / 16:Nat):Int)by omega,u32_xor_nat _ _ (by omega) (crcT_lt _)]
 rfl
theorem and15(r:Nat)(h:r<4294967296):bits .and .u32 (r:Int) 15=((r % 16:Nat):Int):=by
 rw[show(15:Int)=((15:Nat):Int)from rfl,u32_and_nat _ _ h (by decide),show 15=2 ^ 4 - 1 from rfl,Nat.and_two_pow_sub_one_eq_mod]
theorem crc_facts{w:World}(hT:Tab w)(r:Nat)(hr:r<4294967296)(c:UInt8):∃x m t y m2 t2:Nat,
 bits .xor .u32 (r:Int) ((c.toNat:Int) % 4294967296)=(x:Int)∧bits .and .u32 (x:Int) 15=(m:Int)∧m<16∧w.cell? ⟨0,m,none⟩=some (.int .u32 (t:Int)) ∧
 bits .xor .u32 ((x:Int) / 16) (t:Int)=(y:Int)∧bits .and .u32 (y:Int) 15=(m2:Int)∧m2<16∧w.cell? ⟨0,m2,none⟩=some (.int .u32 (t2:Int)) ∧
 bits .xor .u32 ((y:Int) / 16) (t2:Int)=((crc1 r c:Nat):Int):=by
 have hc:=c.toNat_lt
 have hx:r ^^^ c.toNat<4294967296:=Nat.xor_lt_two_pow (n:=32) hr (by omega)
 have hy:=crcH_lt hx
 refine⟨r ^^^ c.toNat,(r ^^^ c.toNat) % 16,crcT.getD ((r ^^^ c.toNat) % 16) 0,crcH (r ^^^ c.toNat),crcH (r ^^^ c.toNat) % 16,crcT.getD (crcH (r ^^^ c.toNat) % 16) 0,?_,and15 _ hx,Nat.mod_lt _ (by decide),hT _ (Nat.mod_lt _ (by decide)),crc_half _ hx,and15 _ hy,Nat.mod_lt _ (by decide),hT _ (Nat.mod_lt _ (by decide)),crc_half _ hy⟩
 rw[show(c.toNat:Int) % 4294967296=(c.toNat:Int)by omega,u32_xor_nat _ _ hr (by omega)]
theorem xor_ones(r:Nat)(h:r<4294967296):4294967295 ^^^ r=4294967295 - r:=by
 have h1:(BitVec.allOnes 32 ^^^ BitVec.ofNat 32 r) = ~~~ BitVec.ofNat 32 r:=BitVec.allOnes_xor
 have h2:=congrArg BitVec.toNat h1
 rw[BitVec.toNat_xor,BitVec.toNat_not,BitVec.toNat_allOnes,BitVec.toNat_ofNat,Nat.mod_eq_of_lt (by omega)]at h2
 simpa using h2
theorem crc_not(r:Nat)(h:r<4294967296):bits .xor .u32 IntKind.u32.max (r:Int)=((4294967295 - r:Nat):Int):=by
 rw[show IntKind.u32.max=((4294967295:Nat):Int)by decide,u32_xor_nat _ _ (by decide) h,xor_ones r h]
set_option maxRecDepth 100000 in
set_option maxHeartbeats 1000000 in
theorem sum_any(w:World)(v:Value)(ss:List ByteArray)(hS:Sl w v (ss.map Value.string))(hl:ss.length≤1000)(hs:∀s∈ss,s.size≤maxLen)(hT:Tab w) :
 Calls Tryz.prog 23 #[v] w fun e w'=>e=.returned (.int .u32 (crc (ss.flatMap fun s=>s.data.toList):Nat))∧w'=w:=by
 obtain⟨A,c,rfl,hx⟩:=hS
 rw[List.length_map]
 go_enter Tryz.func23,Tryz.ntmps23
 go_wp2_with fail
 go_loop [3,9] (fun rv iv=>∃k:Nat,k≤ss.length∧iv=.int .i64 (k:Int)∧rv=.int .u32 (crcF 4294967295 ((ss.take k).flatMap fun s=>s.data.toList):Nat)) (fun _ iv=>ss.length - (intOf iv).toNat)
 case atStart=>exact⟨0,Nat.zero_le _,rfl,rfl⟩
 case round =>
  obtain⟨k,hk,rfl,rfl⟩:=hrel
  have hlt0:=crcF_lt (r:=4294967295) (by decide) ((ss.take k).flatMap fun s=>s.data.toList)
  generalize hH:crcF 4294967295 ((ss.take k).flatMap fun s=>s.data.toList)=r0 at hlt0⊢
  have HH:=Lib.hid hH
  clear hH
  by_cases hlt:k<ss.length
  ·obtain⟨b,o,rfl,hc⟩:=hx (by intro e;simp at e;subst e;simp at hlt)
   obtain⟨s,hsk⟩:∃s,ss[k]? = some s:=⟨_,List.getElem?_eq_getElem hlt⟩
   have r0c:w.cell? ⟨b,o+k,none⟩=some (.string s):=hc k _ (by rw[List.getElem?_map,hsk];rfl)
   have hsz:s.size≤9223372036854775807:=by have:=hs _ (List.mem_of_getElem? hsk);unfold maxLen at this;omega
   have hsn:crcF 4294967295 ((ss.take (k+1)).flatMap fun s=>s.data.toList)=crcF r0 s.data.toList:=by
    rw[List.take_add_one,hsk]
    simp only[Option.toList_some,List.flatMap_append,List.flatMap_cons,List.flatMap_nil,List.append_nil]
    rw[crcF_append,HH.out]
   have HSN:=Lib.hid hsn
   clear hsn hsk hc
   go_wp2_with fail
   go_loop [3,6] (fun rv iv=>∃j:Nat,j≤s.size∧iv=.int .i64 (j:Int)∧rv=.int .u32 (crcF r0 (s.data.toList.take j):Nat)) (fun _ iv=>s.size - (intOf iv).toNat)
   case atStart=>exact⟨0,Nat.zero_le _,rfl,rfl⟩
   case round =>
    obtain⟨j,hj,rfl,rfl⟩:=hrel
    have hlt1:=crcF_lt hlt0 (s.data.toList.take j)
    generalize hJ:crcF r0 (s.data.toList.take j)=r1 at hlt1⊢
    have HJ:=Lib.hid hJ
    clear hJ
    by_cases hltj:j<s.size
    ·have hb:s.data.toList[j]? = some (s[j]'hltj):=by
      rw[Array.getElem?_toList]
      exact Array.getElem?_eq_getElem hltj
     obtain⟨x,m,t,y,m2,t2,e1,e2,e3,e4,e5,e6,e7,e8,e9⟩:=crc_facts hT r1 hlt1 (s[j]'hltj)
     have hsn:crcF r0 (s.data.toList.take (j+1))=crc1 r1 (s[j]'hltj):=by
      rw[List.take_add_one,hb]
      simp only[Option.toList_some]
      rw[crcF_append,HJ.out];rfl
     have HSJ:=Lib.hid hsn
     clear hsn hb
     generalize crc1 r1 (s[j]'hltj)=z at e9 HSJ
     go_wp2_with fail
     go_round
     case rel=>exact⟨j+1,by omega,by go_num,by rw[HSJ.out]⟩
     case measure=>simp[intOf];omega
    ·have hje:j=s.size:=by omega
     have hfin:r1=crcF r0 s.data.toList:=by rw[←HJ.out,hje,List.take_of_length_le (by simp)]
     have HF:=Lib.hid hfin
     clear hfin
     go_wp2_with fail
     go_round
     case rel=>exact⟨k+1,by omega,by go_num,by rw[HSN.out,HF.out]⟩
     case measure=>simp[intOf];omega
  ·have hke:k=ss.length:=by omega
   have hfin:crc (ss.flatMap fun s=>s.data.toList)=4294967295 - r0:=by
    unfold crc
    rw[←HH.out,hke,List.take_of_length_le (Nat.le_refl _)]
   have HF:=Lib.hid hfin
   have e1:=crc_not r0 hlt0
   clear hfin
   go_wp2_with fail
   go_ret
   exact⟨by rw[HF.out,←e1];rfl,rfl⟩
def num4(n:Nat):List UInt8:=[UInt8.ofNat (n / 16777216 % 256),UInt8.ofNat (n / 65536 % 256),UInt8.ofNat (n / 256 % 256),UInt8.ofNat (n % 256)]
theorem num4_length(n:Nat):(num4 n).length=4:=rfl
theorem num4_conv(w:World)(n:Nat)(hn:n<4294967296) :
 (convert 61 9 (.slice (some ⟨w.heap.size,0,none⟩) 4 4)).run Tryz.prog (w.alloc (.cells #[.int .u8 ((n:Int) / 16777216),.int .u8 ((n:Int) / 65536 % 256),.int .u8 ((n:Int) / 256 % 256),.int .u8 ((n:Int) % 256)] 5)) =
   .ok (.string ⟨(num4 n).toArray⟩) (w.alloc (.cells #[.int .u8 ((n:Int) / 16777216),.int .u8 ((n:Int) / 65536 % 256),.int .u8 ((n:Int) / 256 % 256),.int .u8 ((n:Int) % 256)] 5)):=by
 refine run_convert_bytes_back _ 61 9 5 ⟨w.heap.size,0,none⟩ _ (num4 n) Tryz.underlying61 Tryz.underlying5 Tryz.underlying9 fun j hj=>?_
 have hc:=(At.new w 5 #[.int .u8 ((n:Int) / 16777216),.int .u8 ((n:Int) / 65536 % 256),.int .u8 ((n:Int) / 256 % 256),.int .u8 ((n:Int) % 256)]).cell j
 rw[num4_length]at hj
 have e1:(UInt8.ofNat (n / 16777216 % 256)).toNat=n / 16777216:=by simp[UInt8.toNat_ofNat'];omega
 have e2:(UInt8.ofNat (n / 65536 % 256)).toNat=n / 65536 % 256:=by simp[UInt8.toNat_ofNat']
 have e3:(UInt8.ofNat (n / 256 % 256)).toNat=n / 256 % 256:=by simp[UInt8.toNat_ofNat']
 have e4:(UInt8.ofNat (n % 256)).toNat=n % 256:=by simp[UInt8.toNat_ofNat']
 rcases(show j=0∨j=1∨j=2∨j=3 by omega)with rfl|rfl|rfl|rfl
 ·refine hc.trans ?_;show some (Value.int .u8 ((n:Int) / 16777216))=some (.int .u8 ((UInt8.ofNat (n / 16777216 % 256)).toNat:Int));rw[e1];rfl
 ·refine hc.trans ?_;show some (Value.int .u8 ((n:Int) / 65536 % 256))=some (.int .u8 ((UInt8.ofNat (n / 65536 % 256)).toNat:Int));rw[e2];rfl
 ·refine hc.trans ?_;show some (Value.int .u8 ((n:Int) / 256 % 256))=some (.int .u8 ((UInt8.ofNat (n / 256 % 256)).toNat:Int));rw[e3];rfl
 ·refine hc.trans ?_;show some (Value.int .u8 ((n:Int) % 256))=some (.int .u8 ((UInt8.ofNat (n % 256)).toNat:Int));rw[e4];rfl
set_option maxRecDepth 100000 in
theorem num4_any(w:World)(n:Nat)(hn:n<4294967296) :
 Calls Tryz.prog 212 #[.int .u32 (n:Int)] w fun e w'=>e=.returned (.string ⟨(num4 n).toArray⟩)∧Ext w w':=by
 have hrun:=num4_conv w n hn
 go_enter Tryz.func212,Tryz.ntmps212
 go_wp2_with fail
 go_ret
 exact⟨rfl,(Ext.refl w).alloc _⟩
def val4(a b c d:UInt8):Nat:=a.toNat * 16777216+b.toNat * 65536+c.toNat * 256+d.toNat
theorem or_add(k:Nat){a b:Nat}(hb:b<2 ^ k):(a * 2 ^ k) ||| b=a * 2 ^ k+b:=by
 have:=Nat.two_pow_add_eq_or_of_lt (i:=k) (b:=b) hb a
 rw[Nat.mul_comm a];exact this.symm
theorem bits4(x y z u:Nat)(hx:x<256)(hy:y<256)(hz:z<256)(hu:u<256):bits .or .u32 (bits .or .u32 (bits .or .u32 ((x:Int) % 4294967296 * 16777216 % 4294967296) ((y:Int) % 4294967296 * 65536 % 4294967296)) ((z:Int) % 4294967296 * 256 % 4294967296)) ((u:Int) % 4294967296)=((x * 16777216+y * 65536+z * 256+u:Nat):Int):=by
 have e1:((x:Int) % 4294967296 * 16777216 % 4294967296)=((x * 16777216:Nat):Int):=by omega
 have e2:((y:Int) % 4294967296 * 65536 % 4294967296)=((y * 65536:Nat):Int):=by omega
 have e3:((z:Int) % 4294967296 * 256 % 4294967296)=((z * 256:Nat):Int):=by omega
 have e4:((u:Int) % 4294967296)=((u:Nat):Int):=by omega
 have o1:(x * 16777216) ||| (y * 65536)=x * 16777216+y * 65536:=or_add 24 (by omega)
 have o2:(x * 16777216+y * 65536) ||| (z * 256)=x * 16777216+y * 65536+z * 256:=by
  have:=or_add 16 (a:=x * 256+y) (b:=z * 256) (by omega)
  have e:(x * 256+y) * 2 ^ 16=x * 16777216+y * 65536:=by omega
  rwa[e]at this
 have o3:(x * 16777216+y * 65536+z * 256) ||| u=x * 16777216+y * 65536+z * 256+u:=by
  have:=or_add 8 (a:=x * 65536+y * 256+z) (b:=u) (by omega)
  have e:(x * 65536+y * 256+z) * 2 ^ 8=x * 16777216+y * 65536+z * 256:=by omega
  rwa[e]at this
 rw[e1,e2,e3,e4,u32_or_nat _ _ (by omega) (by omega),o1,u32_or_nat _ _ (by omega) (by omega),o2,u32_or_nat _ _ (by omega) (by omega),o3]
theorem val4_bits(a b c d:UInt8):bits .or .u32 (bits .or .u32 (bits .or .u32 ((a.toNat:Int) % 4294967296 * 16777216 % 4294967296) ((b.toNat:Int) % 4294967296 * 65536 % 4294967296)) ((c.toNat:Int) % 4294967296 * 256 % 4294967296)) ((d.toNat:Int) % 4294967296)=((val4 a b c d:Nat):Int) :=
 bits4 _ _ _ _ a.toNat_lt b.toNat_lt c.toNat_lt d.toNat_lt
set_option maxRecDepth 100000 in
theorem val4_any(w:World)(a b c d:UInt8) :
 Calls Tryz.prog 236 #[.string ⟨#[a,b,c,d]⟩] w fun e w'=>e=.returned (.int .u32 (val4 a b c d:Nat))∧Ext w w':=by
 have e1:=val4_bits a b c d
 go_enter Tryz.func236,Tryz.ntmps236
 go_wp2_with fail
 go_quiet (fail)
 go_wp2
 go_ret
 exact⟨by rw[←e1];rfl,(Ext.refl w).drewN _⟩
theorem val4_num4(n:Nat)(hn:n<4294967296):∃a b c d,num4 n=[a,b,c,d]∧val4 a b c d=n:=by
 refine⟨_,_,_,_,rfl,?_⟩
 unfold val4
 have e1:(UInt8.ofNat (n / 16777216 % 256)).toNat=n / 16777216:=by simp[UInt8.toNat_ofNat'];omega
 have e2:(UInt8.ofNat (n / 65536 % 256)).toNat=n / 65536 % 256:=by simp[UInt8.toNat_ofNat']
 have e3:(UInt8.ofNat (n / 256 % 256)).toNat=n / 256 % 256:=by simp[UInt8.toNat_ofNat']
 have e4:(UInt8.ofNat (n % 256)).toNat=n % 256:=by simp[UInt8.toNat_ofNat']
 rw[e1,e2,e3,e4]
 omega
def frameL(c:List UInt8):List UInt8:=num4 c.length++num4 (crc (num4 c.length++c))++c
theorem frameL_length(c:List UInt8):(frameL c).length=8+c.length:=by simp[frameL,num4_length];omega
set_option maxRecDepth 100000 in
theorem join_one(w:World)(v:Value)(c:ByteArray)(hS:Sl w v [.string c]) :
 Calls Tryz.prog 211 #[v,.string ⟨#[]⟩] w fun e w'=>e=.returned (.string c)∧w'=w:=by
 obtain⟨A,k,rfl,hx⟩:=hS
 obtain⟨b,o,rfl,hc⟩:=hx (by simp)
 have h0:w.cell? ⟨b,o,none⟩=some (.string c):=hc 0 _ rfl
 go_enter Tryz.func211,Tryz.ntmps211
 go_wp2_with fail
 go_ret
 exact⟨rfl,rfl⟩
theorem sl_two(w:World)(t:TypeId)(x y:Value)(c:Nat):Sl (w.alloc (.cells #[x,y] t)) (.slice (some ⟨w.heap.size,0,none⟩) 2 c) [x,y] :=
 ⟨_,c,rfl,fun _=>⟨_,_,rfl,fun i z hi=>by
  have h:=(At.new w t #[x,y]).cell i
  rw[Nat.zero_add,h]
  simpa using hi⟩⟩
theorem pair_small{b c:ByteArray}(hb:b.size=4)(hs:c.size≤1048576):∀s∈[b,c],s.size≤maxLen:=by
 intro s h
 unfold maxLen
 rcases List.mem_cons.1 h with rfl|h
 ·omega
 ·rcases List.mem_cons.1 h with rfl|h
  ·omega
  ·cases h
set_option maxRecDepth 100000 in
theorem frame_any(w:World)(v:Value)(c:ByteArray)(hS:Sl w v [.string c])(hs:c.size≤1048576)(hT:Tab w) :
 Calls Tryz.prog 177 #[v] w fun e w'=>e=.returned (.string ⟨(frameL c.data.toList).toArray⟩)∧Ext w w':=by
 go_enter Tryz.func177,Tryz.ntmps177
 go_wp2_with fail
 refine(join_one w v c hS).mono ?_
 rintro e w1 ⟨rfl,rfl⟩
 go_wp2_with fail
 obtain⟨B,hB⟩:∃B:ByteArray,(⟨(num4 c.size).toArray⟩:ByteArray)=B:=⟨_,rfl⟩
 have hb:B.size=4:=by rw[←hB];rfl
 have c1:=num4_any w1 c.size (by omega)
 rw[hB]at c1
 have HB:=Lib.hid hB
 refine c1.mono ?_
 rintro e w2 ⟨rfl,hE2⟩
 clear c1 hB
 go_wp2_with fail
 have c2:=sum_any _ _ [B,c] (sl_two w2 9 _ _ 2) (by simp) (pair_small hb hs) ((hT.ext hE2).alloc _)
 simp only[List.flatMap_cons,List.flatMap_nil,List.append_nil]at c2
 have hlt:=crc_lt (B.data.toList++c.data.toList)
 obtain⟨x,hx⟩:∃x,crc (B.data.toList++c.data.toList)=x:=⟨_,rfl⟩
 rw[hx]at c2 hlt
 refine c2.mono ?_
 rintro e w3 ⟨rfl,rfl⟩
 have HX:=Lib.hid hx
 clear hx c2
 go_wp2_with fail
 obtain⟨C,hC⟩:∃C:ByteArray,(⟨(num4 x).toArray⟩:ByteArray)=C:=⟨_,rfl⟩
 have hcs:C.size=4:=by rw[←hC];rfl
 have c3:=num4_any (w2.alloc (.cells #[.string B,.string c] 9)) x hlt
 rw[hC]at c3
 have HC:=Lib.hid hC
 refine c3.mono ?_
 rintro e w4 ⟨rfl,hE4⟩
 clear c3 hC
 have g1:decide (9223372036854775807<B.size+C.size)=false:=by simp;omega
 have g2:decide (9223372036854775807<(B++C).size+c.size)=false:=by simp[ByteArray.size_append];omega
 go_wp2_with fail
 go_ret
 refine⟨?_,(hE2.alloc _).trans hE4⟩
 have hfin:B++C++c=(⟨(frameL c.data.toList).toArray⟩:ByteArray):=by
  rw[←HC.out,←HB.out,←HX.out,←HB.out]
  apply ByteArray.ext
  simp[frameL]
 exact congrArg (fun z=>Ending.returned (Value.string z)) hfin
end Go.Proofs.YtkkbfdencgdbhaaGreatDoor
