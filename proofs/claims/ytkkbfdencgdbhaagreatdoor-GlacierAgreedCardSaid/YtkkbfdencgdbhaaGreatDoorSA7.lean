/-
  Part 7 of what the law leans on.
-/
import Derived.Test.YtkkbfdencgdbhaaGreatDoorSA4
import Derived.Test.YtkkbfdencgdbhaaGreatDoorSA5
set_option linter.unusedVariables false
set_option linter.unusedSimpArgs false
set_option linter.unusedSectionVars false
namespace Go.Proofs.YtkkbfdencgdbhaaGreatDoor
open Go.RowKit
theorem bytes_ext{a b:ByteArray}(h:a.data.toList=b.data.toList):a=b:=by
 apply ByteArray.ext
 exact Array.toList_inj.1 h
theorem extract_list(s:ByteArray)(i j:Nat):(s.extract i j).data.toList=(s.data.toList.drop i).take (j - i):=by
 rw[ByteArray.data_extract,Array.toList_extract]
theorem frame_parts{s c:ByteArray}{rest:List UInt8}(hs:s.data.toList=frameL c.data.toList++rest) :
 s.extract 0 4=⟨(num4 c.size).toArray⟩∧s.extract 4 8=⟨(num4 (crc (num4 c.size++c.data.toList))).toArray⟩∧s.extract 8 (8+c.size)=c∧s.size=8+c.size+rest.length:=by
 have hl:c.data.toList.length=c.size:=rfl
 unfold frameL at hs
 rw[hl]at hs
 have l1:=num4_length c.size
 have l2:=num4_length (crc (num4 c.size++c.data.toList))
 generalize num4 (crc (num4 c.size++c.data.toList))=B at *
 generalize num4 c.size=A at *
 refine⟨bytes_ext ?_,bytes_ext ?_,bytes_ext ?_,?_⟩
 ·rw[extract_list,hs];simp[l1,List.take_append]
 ·rw[extract_list,hs]
  simp only[List.append_assoc]
  rw[List.drop_append_of_le_length (by omega),List.drop_eq_nil_of_le (by omega),List.nil_append,List.take_append_of_le_length (by omega),List.take_of_length_le (by omega)]
 ·rw[extract_list,hs]
  rw[show A++B++c.data.toList++rest=(A++B)++(c.data.toList++rest)by simp]
  rw[List.drop_append_of_le_length (by simp[l1,l2]),List.drop_eq_nil_of_le (by simp[l1,l2]),List.nil_append,List.take_append_of_le_length (by rw[hl];omega),List.take_of_length_le (by rw[hl];omega)]
 ·have:=congrArg List.length hs
  simp[l1,l2]at this
  have h2:s.size=s.data.size:=rfl
  have h3:c.size=c.data.size:=rfl
  omega
set_option maxRecDepth 100000 in
set_option maxHeartbeats 1000000 in
theorem open_frame(w:World)(s c:ByteArray)(rest:List UInt8)(hs:s.data.toList=frameL c.data.toList++rest)(hc:c.size≤1048576)(hsz:s.size≤9223372036854775807)(hT:Tab w) :
 Calls Tryz.prog 216 #[.string s] w fun e w'=>e=.returned (.tuple #[.string c,.int .i64 (8+c.size:Nat),.int .i64 0])∧Ext w w':=by
 obtain⟨x1,x2,x3,x4⟩:=frame_parts hs
 obtain⟨a,b,k,d,e1,e2⟩:=val4_num4 c.size (by omega)
 obtain⟨a',b',k',d',e3,e4⟩:=val4_num4 (crc (num4 c.size++c.data.toList)) (crc_lt _)
 have hA4:(⟨(num4 c.size).toArray⟩:ByteArray).size=4:=rfl
 have hx6:(⟨(num4 c.size).toArray⟩:ByteArray).data.toList=num4 c.size:=rfl
 have X1:=x1
 rw[e1]at x1
 rw[e3]at x2
 have hlt:=crc_lt (num4 c.size++c.data.toList)
 generalize (⟨(num4 c.size).toArray⟩:ByteArray)=A4 at X1 hA4 hx6
 have hx5:crc (A4.data.toList++c.data.toList)=crc (num4 c.size++c.data.toList):=by rw[hx6]
 generalize crc (num4 c.size++c.data.toList)=x at e3 e4 hx5 hlt
 clear hx6
 have HX:=Lib.hid hx5
 have HX4:=Lib.hid e4
 have hA5:(⟨#[a,b,k,d]⟩:ByteArray)=A4:=by rw[←x1,X1]
 rw[hA5]at x1
 clear hs hx5 e4 e3 X1 hlt
 have g1:¬ ((s.size:Int)<8):=by omega
 have g2:¬ ((1048576:Int)<(c.size:Int)):=by omega
 have g3:¬ ((s.size:Int)<8+(c.size:Int)):=by omega
 clear x4
 go_enter Tryz.func216,Tryz.ntmps216
 go_wp2_with fail
 have cc:=val4_any w a b k d
 rw[e2,hA5]at cc
 refine cc.mono ?_
 rintro e w1 ⟨rfl,hE1⟩
 clear cc
 go_wp2_with fail
 have hST:GQ.St (fun _=>False) (fun _ _=>True) [⟨3,0,NewAt w1.heap.size 9 #[.string A4,.string c] (slB 2 2)⟩]:=⟨fun _ _ _ h _=>h,by
  intro gx hx
  rcases List.mem_cons.1 hx with rfl|hx
  ·exact fun b _ _ _ h hE=>NewAt.ext (b:=b) h hE
  cases hx⟩
 refine wp_region_phi (Γ := Nat→Value) (sgφ [.val (.string s),.val (.string A4),.val (.string c),.g 0,.val (.int .u32 (x:Int)),.val (.string s),.val (.string ⟨#[a',b',k',d']⟩),.val (.int .u32 (x:Int)),.val (.bool false)])
  (GQ w1 (fun _=>False) 1000 (fun _ _=>True) [⟨3,0,NewAt w1.heap.size 9 #[.string A4,.string c] (slB 2 2)⟩])
  (by kernel_rfl) (by kernel_rfl) (by kernel_rfl) (fun _=>undef) (GQ.start _ _ _ _ _ _ (trivial)) ?steps ?fin
 case steps =>
  show StepsTo _ _ _ _ _ _ 9
  refine⟨⟨⟨⟨⟨⟨⟨⟨⟨trivial,?s0⟩,?s1⟩,?s2⟩,?s3⟩,?s4⟩,?s5⟩,?s6⟩,?s7⟩,?s8⟩
  case s0 =>
   refine sg_val (x:=.string s) rfl rfl rfl (GQ.keep (j:=0) (by decide) rfl) fun γ L v a w st=>?_
   have f0:=st.far 0 (by kernel_rfl)
   simp at f0
   go_simp
  case s1 =>
   refine sg_val (x:=.string A4) rfl rfl rfl (GQ.keep (j:=1) (by decide) rfl) fun γ L v a w st=>?_
   have e0:=st.val 0 26 rfl (by kernel_rfl)
   rw[(st.φ 0 (by kernel_rfl):v 0=_)]at e0
   simp at e0
   go_simp
   try (intro hh;omega)
  case s2 =>
   refine sg_val (x:=.string c) rfl rfl rfl (GQ.keep (j:=2) (by decide) rfl) fun γ L v a w st=>?_
   have f7:=st.far 7 (by kernel_rfl)
   simp at f7
   go_simp
  case s3 =>
   refine sg_new (k:=0) rfl rfl rfl (by kernel_rfl) fun γ L v a w st=>?_
   have e1:=st.val 1 27 rfl (by kernel_rfl)
   rw[(st.φ 1 (by kernel_rfl):v 1=_)]at e1
   simp at e1
   have e2:=st.val 2 28 rfl (by kernel_rfl)
   rw[(st.φ 2 (by kernel_rfl):v 2=_)]at e2
   simp at e2
   refine⟨.slice (some ⟨w.heap.size,0,none⟩) 2 2,w.alloc (.cells #[.string A4,.string c] 9),by go_simp,st.inv.new hST ((Ext.refl w).alloc _) (by decide) rfl ?_⟩
   intro gx hx hxj
   rcases List.mem_cons.1 hx with rfl|hx
   ·exact⟨rfl,w.heap.size,st.inv.chg.size,rfl,At.new w _ _⟩
   cases hx
  case s4 =>
   refine sg_callv' (x:=.int .u32 (x:Int)) (f:=23) rfl rfl rfl fun γ L v a w st=>?_
   have e3:=st.val 3 29 rfl (by kernel_rfl)
   rw[(st.φ 3 (by kernel_rfl):v 3=_)]at e3
   have hg3:=st.inv.gh ⟨3,0,NewAt w1.heap.size 9 #[.string A4,.string c] (slB 2 2)⟩ (by simp) (st.dep 3 (by kernel_rfl))
   refine⟨#[γ 0],by go_simp,?_⟩
   refine Calls.mono (sum_any w (γ 0) [A4,c] (NewAt.sl (b:=true) hg3) (by simp) (pair_small hA4 hc) (hT.ext (hE1.trans (st.inv.off (fun _ h=>h))))) ?_
   rintro e w' ⟨rfl,rfl⟩
   simp only[List.flatMap_cons,List.flatMap_nil,List.append_nil]
   rw[HX.out]
   have hE:=Ext.refl w'
   exact⟨rfl,st.inv.call hST hE (by decide) rfl st.off⟩
  case s5 =>
   refine sg_val (x:=.string s) rfl rfl rfl (GQ.keep (j:=5) (by decide) rfl) fun γ L v a w st=>?_
   have f0:=st.far 0 (by kernel_rfl)
   simp at f0
   go_simp
  case s6 =>
   refine sg_val (x:=.string ⟨#[a',b',k',d']⟩) rfl rfl rfl (GQ.keep (j:=6) (by decide) rfl) fun γ L v a w st=>?_
   have e5:=st.val 5 31 rfl (by kernel_rfl)
   rw[(st.φ 5 (by kernel_rfl):v 5=_)]at e5
   simp at e5
   go_simp
   try (intro hh;omega)
  case s7 =>
   refine sg_callv' (x:=.int .u32 (x:Int)) (f:=236) rfl rfl rfl fun γ L v a w st=>?_
   have e6:=st.val 6 32 rfl (by kernel_rfl)
   rw[(st.φ 6 (by kernel_rfl):v 6=_)]at e6
   simp at e6
   refine⟨#[.string ⟨#[a',b',k',d']⟩],by go_simp,?_⟩
   refine Calls.mono (val4_any w a' b' k' d') ?_
   rintro e w' ⟨rfl,hE⟩
   rw[HX4.out]
   exact⟨rfl,st.inv.call hST hE (by decide) rfl st.off⟩
  case s8 =>
   refine sg_val (x:=.bool false) rfl rfl rfl (GQ.keep (j:=8) (by decide) rfl) fun γ L v a w st=>?_
   have e4:=st.val 4 30 rfl (by kernel_rfl)
   rw[(st.φ 4 (by kernel_rfl):v 4=_)]at e4
   simp at e4
   have e7:=st.val 7 33 rfl (by kernel_rfl)
   rw[(st.φ 7 (by kernel_rfl):v 7=_)]at e7
   simp at e7
   go_simp
 case fin =>
  intro γ L v wr hall hG hφ
  have h8:v 8=(.bool false):=hφ 8 (by decide)
  have hE:=hG.off (fun _ h=>h)
  clear hall hφ hG
  change Exit.then _ _ _ (putAll _ v _ 9) wr
  simp only[putAll,dstOf,Act.put]
  simp only[List.getElem?_toArray,List.getElem?_cons_zero,List.getElem?_cons_succ,Option.bind_some,List.setIfInBounds_toArray,List.set_cons_zero,List.set_cons_succ]
  rw[h8]
  clear h8
  go_wp2_with fail
  refine bodyPost_ret (v:=.tuple #[.string c,.int .i64 (8+c.size:Nat),.int .i64 0]) (by simp[results,Tryz.results216,go_sem,x3]) rfl ?_
  exact⟨rfl,hE1.trans hE⟩
set_option maxRecDepth 100000 in
theorem only_frame(w:World)(s c:ByteArray)(hs:s.data.toList=frameL c.data.toList)(hc:c.size≤1048576)(hT:Tab w) :
 Calls Tryz.prog 214 #[.string s] w fun e w'=>e=.returned (.tuple #[.string c,.int .i64 0])∧Ext w w':=by
 have hs':s.data.toList=frameL c.data.toList++[]:=by rw[List.append_nil];exact hs
 have hsz:=(frame_parts hs').2.2.2
 simp only[List.length_nil,Nat.add_zero]at hsz
 have hc1:=open_frame w s c [] hs' hc (by omega) hT
 rw[←hsz]at hc1
 clear hsz hs hs'
 go_enter Tryz.func214,Tryz.ntmps214
 go_wp2_with fail
 refine hc1.mono ?_
 rintro e w1 ⟨rfl,hE1⟩
 clear hc1
 go_wp2_with fail
 go_ret2
 exact⟨rfl,hE1⟩
end Go.Proofs.YtkkbfdencgdbhaaGreatDoor
