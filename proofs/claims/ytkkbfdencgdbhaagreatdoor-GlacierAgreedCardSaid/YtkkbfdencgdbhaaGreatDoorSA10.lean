/-
  Part 10 of what the law leans on.
-/
import Derived.Test.YtkkbfdencgdbhaaGreatDoorSA7
import Derived.Test.YtkkbfdencgdbhaaGreatDoorSA8
import Derived.Test.YtkkbfdencgdbhaaGreatDoorSA9
import Derived.Lib.LazyBuf
set_option linter.unusedVariables false
set_option linter.unusedSimpArgs false
set_option linter.unusedSectionVars false
namespace Go.Proofs.YtkkbfdencgdbhaaGreatDoor
open Go.RowKit
end Go.Proofs.YtkkbfdencgdbhaaGreatDoor
namespace Go.Proofs.YtkkbfdencgdbhaaGreatDoor
open Go.RowKit
def segL(n:Nat):List UInt8:=[115,101,103,45]++Lib.repeatL [48] (7 - (Lib.decDigits n).length)++Lib.decDigits n
def segN(n:Nat):ByteArray:=⟨(segL n).toArray⟩
theorem digits_len:∀n,n<100→1≤(Lib.decDigits n).length∧(Lib.decDigits n).length≤2:=by decide +kernel
set_option maxRecDepth 100000 in
theorem name_any(w:World)(n:Nat)(h1:1≤n)(h2:n<100) :
 Calls Tryz.prog 25 #[.int .i64 (n:Int)] w fun e w'=>e=.returned (.string (segN n))∧Ext w w':=by
 obtain⟨d1,d2⟩:=digits_len n h2
 have ci:=Tryz.strconv_Itoa_small n h2 w
 obtain⟨C,hC⟩:∃C:ByteArray,(⟨(Lib.decDigits n).toArray⟩:ByteArray)=C:=⟨_,rfl⟩
 have hcs:C.size=(Lib.decDigits n).length:=by rw[←hC];rfl
 rw[hC]at ci
 have HC:=Lib.hid hC
 clear hC
 have g1:decide ((n:Int)<1)=false:=by simp;omega
 have g2:decide ((9999999:Int)<(n:Int))=false:=by simp;omega
 go_enter Tryz.func25,Tryz.ntmps25
 go_wp2_with fail
 refine ci.mono ?_
 rintro e w1 ⟨rfl,rfl⟩
 clear ci
 have hc1:1≤C.size:=by omega
 have hc2:C.size≤2:=by omega
 have HD:=Lib.hid hcs
 clear hcs d1 d2
 go_wp2_with fail
 have cr:=Tryz.strings_Repeat (⟨#[48]⟩:ByteArray) (7 - C.size) w1 (by omega) (by show 1 * (7 - C.size)≤_;omega)
 rw[show((7 - C.size:Nat):Int)=7 - (C.size:Int)by omega]at cr
 obtain⟨R,hR⟩:∃R:ByteArray,(⟨(Lib.repeatL (⟨#[48]⟩:ByteArray).data.toList (7 - C.size)).toArray⟩:ByteArray)=R:=⟨_,rfl⟩
 have hrs:R.size=7 - C.size:=by
  rw[←hR]
  show(Lib.repeatL [48] (7 - C.size)).length=_
  rw[Lib.repeatL_length];simp
 rw[hR]at cr
 have HR:=Lib.hid hR
 clear hR
 refine cr.mono ?_
 rintro e w2 ⟨rfl,hB⟩
 clear cr
 have hr7:R.size≤6:=by omega
 clear hrs
 go_wp2_with fail
 go_ret
 refine⟨?_,Ext.of_below hB⟩
 have hfin:(⟨#[115,101,103,45]⟩:ByteArray)++R++C=segN n:=by
  rw[←HR.out,HD.out,←HC.out]
  exact bytes_ext (by simp[segN,segL])
 exact congrArg (fun z=>Ending.returned (Value.string z)) hfin
end Go.Proofs.YtkkbfdencgdbhaaGreatDoor
