/-
  Part 34 of what the law leans on.
-/
import Derived.Test.YtkkbfdencgdbhaaGreatDoorSA20
import Derived.Test.YtkkbfdencgdbhaaGreatDoorSA28
import Derived.Test.YtkkbfdencgdbhaaGreatDoorSA32
import Derived.Test.YtkkbfdencgdbhaaGreatDoorSA33
set_option linter.unusedVariables false
set_option linter.unusedSimpArgs false
set_option linter.unusedSectionVars false
namespace Go.Proofs.YtkkbfdencgdbhaaGreatDoor
open Go.RowKit
def seCmd(x:Cmd):Cmd := { x with name:=cut x.name 32,disks:=diskOf x.disks }
def seBytes(x:Cmd)(o:ByteArray):List UInt8:=if(seCmd x).good=true then(seCmd x).enc else(cut o 60).data.toList
theorem seCmd_wf{x:Cmd}(h:x.Wf):(seCmd x).Wf:=by
 obtain⟨h1,h2,h3,h4,h5,h6,h7,h8,h9,_⟩:=h
 refine⟨h1,h2,h3,h4,h5,h6,h7,h8,h9,fun d hd=>?_⟩
 have:=rises_in (diskOf_risesB x.disks) d hd
 omega
theorem enc_len{c:Cmd}(h:c.good=true):c.enc.length≤300:=by
 obtain⟨_,_,h3,_,_,h6,_⟩:=Cmd.good_iff.1 h
 have h7:=rises_len h3
 have e:c.enc=ienc c.kind++(ienc c.client++(ienc c.seq++(senc c.name++(uenc c.blob++(ienc c.size++(uenc c.sum++(lenc c.disks++(ienc c.pool++(ienc c.vol++ienc c.at_))))))))):=by
  simp[Cmd.enc,Cmd.enc1,List.append_assoc]
 rw[e]
 simp only[List.length_append]
 have a1:=ienc_length c.kind
 have a2:=ienc_length c.client
 have a3:=ienc_length c.seq
 have a4:=senc_length c.name
 have a5:=uenc_length c.blob
 have a6:=ienc_length c.size
 have a7:=uenc_length c.sum
 have a8:=lenc_length c.disks
 have a9:=ienc_length c.pool
 have a10:=ienc_length c.vol
 have a11:=ienc_length c.at_
 omega
theorem seBytes_len(x:Cmd)(o:ByteArray):(seBytes x o).length≤300:=by
 unfold seBytes
 split
 ·rename_i h;exact enc_len h
 ·have:=cut_size o 60
  have e:(cut o 60).data.toList.length=(cut o 60).size:=by simp
  omega
end Go.Proofs.YtkkbfdencgdbhaaGreatDoor
namespace Go.Proofs.YtkkbfdencgdbhaaGreatDoor
open Go.RowKit Go.Sort
set_option maxRecDepth 100000 in
set_option maxHeartbeats 2000000 in
theorem sbytes_any(w:World)(x:Cmd)(dv:Value)(o:ByteArray)(hx:x.In dv w)(hd:x.disks.length≤17592186043904)(ho:o.size≤maxLen) :
 Calls Tryz.prog 10 #[cmdVal x dv,.string o] w fun e w'=>e=.returned (.string ⟨(seBytes x o).toArray⟩)∧Ext w w':=by
 have HX:=Lib.hid hx
 obtain⟨hsl,hcap⟩:=hx.sl
 have HSL:=Lib.hid hsl
 clear hsl hx
 unfold cmdVal
 go_enter Tryz.func10,Tryz.ntmps10
 have hB:=At.new w 39 (cmdCells x dv)
 have hE:=(Ext.refl w).alloc (.cells (cmdCells x dv) 39)
 go_upto_region 1 with fail
 obtain⟨xb,hxb⟩:∃xb,w.heap.size=xb:=⟨_,rfl⟩
 rw[hxb]at hB⊢
 have HXB:=Lib.hid (show w.heap.size≤xb by omega)
 generalize w.alloc _=W at hB hE⊢
 clear hxb hcap
 have b3:=hB.cell 3
 have f3:=hB.frozen 3
 simp[cmdCells]at b3
 have HC:=Lib.hid (fun W=>cut_any x.name 32 W HX.out.nm (by omega))
 go_wp2_with fail
 refine(HC.out _).mono ?_
 rintro e w1 ⟨rfl,rfl⟩
 go_upto_region 2 with fail
 clear b3 f3 HC
 have hch:Chg (· = xb) w1 (w1.setCell ⟨xb,3,none⟩ (.string (cut x.name 32))):=Chg.setCell (S:=(· = xb)) (p:=⟨xb,3,none⟩) (Ext.refl w1).chg (.inl rfl) _
 have hB2:At (w1.setCell ⟨xb,3,none⟩ (.string (cut x.name 32))) xb 39 (cmdCells { x with name:=cut x.name 32 } dv):=hB.set 3 _
 have hE2:Ext w (w1.setCell ⟨xb,3,none⟩ (.string (cut x.name 32))):=hE.chg_trans hch |>.mono (fun k hk e=>by have:=HXB.out;have e':k=xb:=e;omega)
 clear hB hE hch
 generalize w1.setCell ⟨xb,3,none⟩ (.string (cut x.name 32))=W2 at hB2 hE2⊢
 have b7:=hB2.cell 7
 simp[cmdCells]at b7
 have HD:=Lib.hid (disk_any W2 dv x.disks (HSL.out.ext hE2) hd)
 go_wp2_with fail
 refine HD.out.mono ?_
 rintro e w3 ⟨v,rfl,hO,hE3⟩
 obtain⟨dA,dc,rfl⟩:=own_slc hO
 have hB3:=hB2.ext hE3
 have hE3:=hE2.trans hE3
 clear b7 HD hB2 hE2
 have b7:=hB3.cell 7
 have f7:=hB3.frozen 7
 simp[cmdCells]at b7
 go_upto_region 3 with fail
 clear b7 f7
 have hch:Chg (· = xb) w3 (w3.setCell ⟨xb,7,none⟩ (.slice dA (diskOf x.disks).length dc)):=Chg.setCell (S:=(· = xb)) (p:=⟨xb,7,none⟩) (Ext.refl w3).chg (.inl rfl) _
 have hB4:At (w3.setCell ⟨xb,7,none⟩ (.slice dA (diskOf x.disks).length dc)) xb 39 (cmdCells (seCmd x) (.slice dA (diskOf x.disks).length dc)):=hB3.set 7 _
 have hO4:=own_keep (own_base0 hO) hch fun k hk e=>own_apart' (own_base0 hO) hB3 (by decide) k hk e
 have hE4:Ext w (w3.setCell ⟨xb,7,none⟩ (.slice dA (diskOf x.disks).length dc)):=hE3.chg_trans hch |>.mono (fun k hk e=>by have:=HXB.out;have e':k=xb:=e;omega)
 clear hB3 hO hE3 hch
 generalize w3.setCell ⟨xb,7,none⟩ (.slice dA (diskOf x.disks).length dc)=W4 at hB4 hO4 hE4⊢
 have hsl4:Sl W4 (.slice dA (diskOf x.disks).length dc) ((seCmd x).disks.map (Value.int .i64)):=Sl.of_own hO4
 have hdl:(seCmd x).disks.length≤6:=rises_len (diskOf_risesB x.disks)
 have hnl:(seCmd x).name.size≤32:=cut_size x.name 32
 have HG:=Lib.hid (good_any W4 (seCmd x) (.slice dA (diskOf x.disks).length dc) hsl4 (by omega) (by omega))
 have HRB:=Lib.hid hB4.range
 have HS4:=Lib.hid hsl4
 have HDL:=Lib.hid (And.intro hdl hnl)
 clear hsl4 hO4 hdl hnl
 go_wp2_with (refine wpList_load_mid rfl 39 _ rfl xb 0 rfl _ _ HRB.out Tryz.underlying39 rfl ccmd_info ?_)
 refine HG.out.mono ?_
 rintro e w5 ⟨rfl,hE5⟩
 have hB5:=hB4.ext hE5
 have hE6:=hE4.trans hE5
 rcases Bool.eq_false_or_eq_true (seCmd x).good with hg|hg
 ·have HS:Hid (seBytes x o=(seCmd x).enc):=Lib.hid (by unfold seBytes;rw[if_pos hg])
  rw[hg]
  have HW:=Lib.hid (kwrite_any w5 (seCmd x) (.slice dA (diskOf x.disks).length dc) (seCmd_wf HX.out.wf) (HS4.out.ext hE5) (by have:=HDL.out.1;omega) (by have:=HDL.out.2;omega))
  have HRB5:=Lib.hid hB5.range
  clear hg hB4 hB5 HG HRB hE4 hE5
  go_wp2_with (refine wpList_load_mid rfl 39 _ rfl xb 0 rfl _ _ HRB5.out Tryz.underlying39 rfl ccmd_info ?_)
  refine HW.out.mono ?_
  rintro e w6 ⟨rfl,hE7⟩
  go_wp2_with fail
  go_ret
  exact⟨by rw[HS.out];rfl,hE6.trans hE7⟩
 ·have HS:Hid (seBytes x o=(cut o 60).data.toList):=Lib.hid (by unfold seBytes;rw[if_neg (by rw[hg];decide)])
  rw[hg]
  have HC:=Lib.hid (fun W=>cut_any o 60 W ho (by omega))
  clear hg hB4 hB5 HG HRB hE4 hE5
  go_wp2_with fail
  refine(HC.out _).mono ?_
  rintro e w6 ⟨rfl,rfl⟩
  go_wp2_with fail
  go_ret
  exact⟨by rw[HS.out];rfl,hE6⟩
end Go.Proofs.YtkkbfdencgdbhaaGreatDoor
namespace Go.Proofs.YtkkbfdencgdbhaaGreatDoor
open Go.RowKit Go.Sort
end Go.Proofs.YtkkbfdencgdbhaaGreatDoor
namespace Go.Proofs.YtkkbfdencgdbhaaGreatDoor
open Go.RowKit Go.Sort
section
variable{w w':World}{B B' S:Nat→Prop}
theorem MachIn.up{m:Nat}{M:Mach}(h:MachIn w B m M):∀b,w.heap.size≤b→B b:=by
 obtain⟨c,mb,mn,mc,rows,h⟩:=h
 exact h.cat.up
end
end Go.Proofs.YtkkbfdencgdbhaaGreatDoor
