/-
  Part 35 of what the law leans on.
-/
import Derived.Test.YtkkbfdencgdbhaaGreatDoorSA27
import Derived.Test.YtkkbfdencgdbhaaGreatDoorSA34
set_option linter.unusedVariables false
set_option linter.unusedSimpArgs false
set_option linter.unusedSectionVars false
namespace Go.Proofs.YtkkbfdencgdbhaaGreatDoor
open Go.RowKit
def lastA(k:Int)(l:Last):List UInt8:=[k,l.seq,l.r.err].flatMap ienc++[l.r.blob].flatMap uenc++[l.r.size].flatMap ienc++[l.r.sum].flatMap uenc++[(l.r.names.length:Int)].flatMap ienc
def lastEnc(p:Int×Last):List UInt8:=lastA p.1 p.2++p.2.r.names.flatMap senc
def Mach.scl(M:Mach):List (Int×Last):=M.cl.mergeSort fun a b=>decide (a.1≤b.1)
def Mach.head(M:Mach):List UInt8:=[M.n].flatMap ienc++[(⟨M.P.enc.toArray⟩:ByteArray)].flatMap senc++[(M.cl.length:Int)].flatMap ienc
def Mach.enc(M:Mach):List UInt8:=M.head++M.scl.flatMap lastEnc
theorem Mach.scl_perm(M:Mach):M.scl.Perm M.cl:=List.mergeSort_perm _ _
theorem Mach.scl_asc{M:Mach}(h:(M.cl.map (·.1)).Nodup):(M.scl.map (·.1)).Pairwise (· < ·):=by
 have h1:M.scl.Pairwise fun a b=>a.1≤b.1:=by
  have:=List.pairwise_mergeSort (le:=fun a b:Int×Last=>decide (a.1≤b.1)) (fun a b c h h'=>by simp at *;omega) (fun a b=>by simp;omega) M.cl
  exact this.imp fun h=>by simpa using h
 have h2:(M.scl.map (·.1)).Nodup:=(M.scl_perm.map (·.1)).nodup_iff.2 h
 rw[List.pairwise_map]
 have h3:M.scl.Pairwise fun a b=>a.1≠b.1:=by
  have:=h2
  unfold List.Nodup at this
  rwa[List.pairwise_map]at this
 exact(h1.and h3).imp fun hh=>by omega
structure MW (n:Nat) (M:Mach):Prop where
 cat:PInv n M.P
 n2:n≤2147483648
 L:M.P.L.length<50
 num:0≤M.n∧M.n≤1099511627776
 cl:∀p∈M.cl,(1≤p.1∧p.1≤1073741824)∧(1≤p.2.seq∧p.2.seq≤1073741824)∧RsOk 1000 p.2.r
 len:M.cl.length≤100
 nd:(M.cl.map (·.1)).Nodup
theorem MInv.w{n:Nat}{M:Mach}(h:MInv n M)(hn:n<50):MW n M :=
 ⟨h.cat,by omega,by have:=h.cat.len;omega,by have:=h.num;omega,fun p hp=>⟨(h.cl p hp).1,(h.cl p hp).2.1,(h.cl p hp).2.2.le (by omega)⟩,by have:=h.len;omega,h.nd⟩
theorem penc_len{n:Nat}{P:Pm}(hi:PInv n P)(hn:P.L.length<50):P.enc.length≤15200:=by
 have:=enc_pre2 hi hn 12
 rw[List.take_of_length_le (by have:=hi.vlen;omega)]at this
 exact this
theorem lastA_length(k:Int)(l:Last):(lastA k l).length≤70:=by
 have:=ienc_length k
 have:=ienc_length l.seq
 have:=ienc_length l.r.err
 have:=uenc_length l.r.blob
 have:=ienc_length l.r.size
 have:=uenc_length l.r.sum
 have:=ienc_length l.r.names.length
 unfold lastA
 simp;omega
theorem nms_length{l:List ByteArray}(h:∀m∈l,m.size≤32):(l.flatMap senc).length≤l.length * 42 :=
 flatLe senc 42 l fun m hm=>by have:=senc_length m;have:=h m hm;omega
theorem lastEnc_length{p:Int×Last}(h:RsOk 1000 p.2.r):(lastEnc p).length≤42070:=by
 have h1:=lastA_length p.1 p.2
 have h2:=nms_length h.nm
 have h3:=h.len
 unfold lastEnc
 rw[List.length_append]
 omega
theorem head_length{n:Nat}{M:Mach}(h:MW n M):M.head.length≤15300:=by
 have h1:=penc_len h.cat h.L
 have h2:=ienc_length M.n
 have h3:=senc_length (⟨M.P.enc.toArray⟩:ByteArray)
 have h4:(⟨M.P.enc.toArray⟩:ByteArray).size=M.P.enc.length:=by show M.P.enc.toArray.size=_;simp
 have h5:=ienc_length M.cl.length
 unfold Mach.head
 simp;omega
theorem menc_pre{n:Nat}{M:Mach}(h:MW n M)(k:Nat):(M.head++(M.scl.take k).flatMap lastEnc).length≤4300000:=by
 have h1:=head_length h
 have h2:=flatLe lastEnc 42070 (M.scl.take k) fun p hp=>lastEnc_length (h.cl p (M.scl_perm.mem_iff.1 (List.mem_of_mem_take hp))).2.2
 have h3:(M.scl.take k).length≤M.scl.length:=List.length_take_le' _ _
 have h4:=M.scl_perm.length_eq
 have h5:=h.len
 have h6:(M.scl.take k).length * 42070≤100 * 42070:=Nat.mul_le_mul_right _ (by omega)
 rw[List.length_append]
 omega
theorem scl_get{n:Nat}{M:Mach}(h:MW n M){k:Nat}{p:Int×Last}(hp:M.scl[k]? = some p):lget p.1 M.cl=some p.2∧p∈M.cl:=by
 have hm:=M.scl_perm.mem_iff.1 (List.mem_of_getElem? hp)
 refine⟨?_,hm⟩
 have hnd:=h.nd
 generalize M.cl=L at hm hnd
 induction L with
 | nil=>cases hm
 | cons q r ih =>
  unfold lget
  rw[List.find?_cons]
  by_cases hq:q.1=p.1
  ·have e:decide (q.1=p.1)=true:=by simpa using hq
   rw[e]
   rcases List.mem_cons.1 hm with rfl|hm
   ·rfl
   ·exfalso
    rw[List.map_cons,List.nodup_cons]at hnd
    exact hnd.1 (hq ▸ List.mem_map.2 ⟨p,hm,rfl⟩)
  ·have e:decide (q.1=p.1)=false:=by simpa using hq
   rw[e]
   have hm2:p∈r:=by
    rcases List.mem_cons.1 hm with rfl|hm
    ·exact absurd rfl hq
    ·exact hm
   rw[List.map_cons,List.nodup_cons]at hnd
   exact ih hm2 hnd.2
end Go.Proofs.YtkkbfdencgdbhaaGreatDoor
