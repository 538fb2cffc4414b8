/-
  Part 20 of what the law leans on.
-/
import Derived.Test.YtkkbfdencgdbhaaGreatDoorSA8
import Derived.Test.YtkkbfdencgdbhaaGreatDoorSA16
import Derived.Test.YtkkbfdencgdbhaaGreatDoorSA19
set_option linter.unusedVariables false
set_option linter.unusedSimpArgs false
set_option linter.unusedSectionVars false
namespace Go.Proofs.YtkkbfdencgdbhaaGreatDoor
open Go.RowKit Go.Sort
def cpEnc(c:Cp):List UInt8:=[c.there].flatMap benc++[c.vol,c.at_].flatMap ienc
def blA(b:Bl):List UInt8:=[b.id].flatMap uenc++[b.name].flatMap senc++[!b.dead].flatMap benc++[b.size].flatMap ienc++[b.sum].flatMap uenc++lenc b.disks
def blEnc(b:Bl):List UInt8:=blA b++cpEnc b.a++cpEnc b.b++[b.pins].flatMap ienc
def vlEnc(v:Vl):List UInt8:=[v.closed,v.erase].flatMap benc++[v.gen].flatMap ienc
def Pm.enc(P:Pm):List UInt8:=[(P.L.length:Int)].flatMap ienc++P.L.flatMap blEnc++P.vols.flatMap vlEnc
theorem senc_length(s:ByteArray):(senc s).length≤10+s.size:=by
 have:=ienc_length s.size
 unfold senc
 simp;omega
theorem lenc_length(l:List Int):(lenc l).length≤10+10 * l.length:=by
 have:=ienc_length l.length
 have:=iflat_length l
 unfold lenc
 simp only[List.length_append];omega
theorem cpEnc_length(c:Cp):(cpEnc c).length≤21:=by
 have:=ienc_length c.vol
 have:=ienc_length c.at_
 unfold cpEnc
 simp[benc_length];omega
theorem blA_length{n:Nat}{b:Bl}(h:BlOk n b):(blA b).length≤200:=by
 have:=uenc_length b.id
 have:=senc_length b.name
 have:=h.name.2
 have:=ienc_length b.size
 have:=uenc_length b.sum
 have:=lenc_length b.disks
 have:=rises_len h.rises
 unfold blA
 simp[benc_length];omega
theorem blEnc_length{n:Nat}{b:Bl}(h:BlOk n b):(blEnc b).length≤300:=by
 have:=blA_length h
 have:=cpEnc_length b.a
 have:=cpEnc_length b.b
 have:=ienc_length b.pins
 unfold blEnc
 simp;omega
theorem vlEnc_length(v:Vl):(vlEnc v).length≤12:=by
 have:=ienc_length v.gen
 unfold vlEnc
 simp[benc_length];omega
theorem flatLe{α : Type}(f : α → List UInt8)(k:Nat):∀l:List α,(∀x∈l,(f x).length≤k)→(l.flatMap f).length≤l.length * k
 | [],_=>Nat.zero_le _
 | x::r,h=>by
  have h1:=h x (List.mem_cons_self ..)
  have h2:=flatLe f k r fun y hy=>h y (List.mem_cons_of_mem _ hy)
  rw[List.flatMap_cons,List.length_append,List.length_cons,Nat.add_mul]
  omega
theorem enc_pre{n:Nat}{P:Pm}(hi:PInv n P)(hn:P.L.length<50)(k:Nat):([(P.L.length:Int)].flatMap ienc++(P.L.take k).flatMap blEnc).length≤15010:=by
 have h1:=ienc_length P.L.length
 have h2:=flatLe blEnc 300 (P.L.take k) fun b hb=>blEnc_length (hi.bl b (List.mem_of_mem_take hb))
 have h3:(P.L.take k).length≤P.L.length:=List.length_take_le' _ _
 have h5:(P.L.take k).length * 300≤50 * 300:=Nat.mul_le_mul_right _ (by omega)
 simp only[List.flatMap_cons,List.flatMap_nil,List.append_nil,List.length_append]
 omega
theorem enc_pre2{n:Nat}{P:Pm}(hi:PInv n P)(hn:P.L.length<50)(k:Nat):(([(P.L.length:Int)].flatMap ienc++P.L.flatMap blEnc)++(P.vols.take k).flatMap vlEnc).length≤15200:=by
 have h1:=enc_pre hi hn P.L.length
 rw[List.take_length]at h1
 have h2:=flatLe vlEnc 12 (P.vols.take k) fun v _=>vlEnc_length v
 have h3:(P.vols.take k).length≤P.vols.length:=List.length_take_le' _ _
 have h4:=hi.vlen
 have h5:(P.vols.take k).length * 12≤12 * 12:=Nat.mul_le_mul_right _ (by omega)
 rw[List.length_append]
 omega
theorem enc_step{α : Type}{l:List α}{k:Nat}{x : α}(h:l[k]? = some x)(f : α → List UInt8)(bs:List UInt8):bs++(l.take (k+1)).flatMap f=(bs++(l.take k).flatMap f)++f x:=by
 rw[List.take_add_one,h,List.flatMap_append,List.append_assoc]
 simp
end Go.Proofs.YtkkbfdencgdbhaaGreatDoor
