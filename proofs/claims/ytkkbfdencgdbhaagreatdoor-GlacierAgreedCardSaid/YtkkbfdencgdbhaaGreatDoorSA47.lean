/-
  Part 47 of what the law leans on.
-/
import Derived.Test.YtkkbfdencgdbhaaGreatDoorSA46
set_option linter.unusedVariables false
set_option linter.unusedSimpArgs false
set_option linter.unusedSectionVars false
namespace Go.Proofs.YtkkbfdencgdbhaaGreatDoor
open Go.RowKit Go.Sort
section
variable{W:World}{K:Ka}{N:Nd}(h:NdAt W K N)
include h
set_option maxRecDepth 100000 in
set_option maxHeartbeats 8000000 in
theorem onmore_any(hN:NdOk N)(m:Ms)(ev:Value)(old new:List En)(hM:MoreOk N m old new)(hev:W.ownsRow 0 49 3 ev m.es.length (enRows m.es))(hevK:∀k,some k=ev.ownBlock→¬ K.has k)(hT:Tab W)(hTK:¬ K.has 0)(hok:NdOk { N.addN new with commit:=max N.commit (min m.cm (moreLast m)) }) :
 Calls Tryz.prog 114 #[.pointer (some ⟨K.r,0,none⟩),.agg (m.cells ev)] W fun e w'=>e=.returned (.tuple #[])∧NdTo K W w' (N.more m new):=by
 obtain⟨A,ec,rfl,hecap⟩:=q_slc hev
 have hE0:=(Ext.refl W).alloc (.cells (m.cells (.slice A m.es.length ec)) 129)
 have hX0:=At.new W 129 (m.cells (.slice A m.es.length ec))
 have hA0:=h.ext hE0
 have hO0:=own_ext hev hE0
 have hxK:∀k,K.has k→k≠W.heap.size:=fun k hk e=>by have:=h.has_lt k hk;omega
 have HM:=Lib.hid hM
 have HEVK:=Lib.hid hevK
 have HT0:=Lib.hid (hT.ext hE0)
 have HTK:=Lib.hid hTK
 have HOK:=Lib.hid hok
 have hbase:=hN.ts.base
 have hidx:=hM.idx
 have hcm:=hM.cm
 clear hM hevK hT hTK hok hev h
 go_enter Tryz.func114,Tryz.ntmps114
 go_upto_region 1 with fail
 generalize W.alloc (.cells (m.cells (.slice A m.es.length ec)) 129)=W1 at hE0 hX0 hA0 hO0 HT0⊢
 obtain⟨x,hx⟩:∃x,x=W.heap.size:=⟨_,rfl⟩
 rw[←hx]at hX0 hxK⊢
 have HXK:=Lib.hid hxK
 have HE0:=Lib.hid hE0
 have x4:=hX0.cell 4
 have x5:=hX0.cell 5
 simp[Ms.cells]at x4 x5
 have d5:=hA0.nd.cell 5
 simp[ndCells]at d5
 have HX0:=Lib.hid hX0
 have HA0:=Lib.hid hA0
 have HO0:=Lib.hid hO0
 clear hx hxK hE0 hX0 hA0 hO0
 go_region
 go_upto_if 19 with fail
 have hE2:=(Ext.refl W1).drew
 have hA2:=HA0.out.ext hE2
 have hX2:=HX0.out.ext hE2
 have HE2:=Lib.hid hE2
 generalize W1.drew=W2 at hE2 hA2 hX2 HE2⊢
 clear x4 x5 d5
 obtain⟨fb,hfb⟩:∃fb:Bool,decide (N.s.base<m.idx)=fb:=⟨_,rfl⟩
 rw[hfb]
 go_cut []from 20 to 46 (fun wx=>Ext W2 wx)
 case first =>
  cases fb
  ·clear hfb
   go_wp2_with fail
   go_meet
   case rel=>exact Ext.refl W2
  ·have hgt:N.s.base<m.idx:=of_decide_eq_true hfb
   clear hfb
   have hta:N.s.termAt m.idx=some m.lt:=by
    rcases HM.out.ahead with e|e
    ·omega
    ·exact e
   have HTA:=Lib.hid hta
   clear hta
   go_wp2_with fail
   have hST:GQ.St (fun _=>False) (fun _ _=>True) []:=⟨fun _ _ _ h _=>h,by
    intro gx hx
    cases hx⟩
   refine wp_region_phi (Γ := Nat→Value) (sgφ [.val (.pointer (some ⟨K.r,0,none⟩)),.val (.pointer (some ⟨K.r,0,none⟩)),.val (.pointer (some ⟨K.r,3,none⟩)),.val (.pointer (some ⟨x,4,none⟩)),.val (.int .i64 m.idx),.val (.tuple #[.int .i64 m.lt,.bool true]),.val (.tuple #[.int .i64 m.lt,.bool true]),.val (.int .i64 m.lt),.val (.bool true),.val (.int .i64 m.lt),.val (.bool true)])
    (GQ W2 (fun _=>False) 1000 (fun _ _=>True) [])
    (by kernel_rfl) (by kernel_rfl) (by kernel_rfl) (fun _=>undef) (GQ.start _ _ _ _ _ _ (trivial)) ?steps ?fin
   case steps =>
    show StepsTo _ _ _ _ _ _ 11
    refine⟨⟨⟨⟨⟨⟨⟨⟨⟨⟨⟨trivial,?s0⟩,?s1⟩,?s2⟩,?s3⟩,?s4⟩,?s5⟩,?s6⟩,?s7⟩,?s8⟩,?s9⟩,?s10⟩
    case s0 =>
     refine sg_val (x:=.pointer (some ⟨K.r,0,none⟩)) rfl rfl rfl (GQ.keep (j:=0) (by decide) rfl) fun γ L v a w st=>?_
     have f0:=st.far 0 (by kernel_rfl)
     simp at f0
     go_simp
    case s1 =>
     refine sg_val (x:=.pointer (some ⟨K.r,0,none⟩)) rfl rfl rfl (GQ.keep (j:=1) (by decide) rfl) fun γ L v a w st=>?_
     have e0:=st.val 0 21 rfl (by kernel_rfl)
     rw[(st.φ 0 (by kernel_rfl):v 0=_)]at e0
     simp at e0
     go_simp
    case s2 =>
     refine sg_val (x:=.pointer (some ⟨K.r,3,none⟩)) rfl rfl rfl (GQ.keep (j:=2) (by decide) rfl) fun γ L v a w st=>?_
     have e1:=st.val 1 22 rfl (by kernel_rfl)
     rw[(st.φ 1 (by kernel_rfl):v 1=_)]at e1
     simp at e1
     go_simp
    case s3 =>
     refine sg_val (x:=.pointer (some ⟨x,4,none⟩)) rfl rfl rfl (GQ.keep (j:=3) (by decide) rfl) fun γ L v a w st=>?_
     have f3:=st.far 3 (by kernel_rfl)
     simp at f3
     go_simp
    case s4 =>
     refine sg_val (x:=.int .i64 m.idx) rfl rfl rfl (GQ.keep (j:=4) (by decide) rfl) fun γ L v a w st=>?_
     have e3:=st.val 3 24 rfl (by kernel_rfl)
     rw[(st.φ 3 (by kernel_rfl):v 3=_)]at e3
     simp at e3
     have hw1:=hA2.ext (st.inv.off (fun _ h=>h))
     have hx1:=hX2.ext (st.inv.off (fun _ h=>h))
     have hcl:=hx1.cell 4
     simp[Ms.cells]at hcl
     go_simp
    case s5 =>
     refine sg_callv' (x:=.tuple #[.int .i64 m.lt,.bool true]) (f:=92) rfl rfl rfl fun γ L v a w st=>?_
     have e2:=st.val 2 23 rfl (by kernel_rfl)
     rw[(st.φ 2 (by kernel_rfl):v 2=_)]at e2
     simp at e2
     have e4:=st.val 4 25 rfl (by kernel_rfl)
     rw[(st.φ 4 (by kernel_rfl):v 4=_)]at e4
     simp at e4
     have hw1:=hA2.ext (st.inv.off (fun _ h=>h))
     have hx1:=hX2.ext (st.inv.off (fun _ h=>h))
     have hta:=ttermat_any w K.r 3 N.s K.lv hw1.ts hN.ts m.idx (by omega)
     rw[HTA.out]at hta
     refine⟨#[.pointer (some ⟨K.r,3,none⟩),.int .i64 m.idx],by go_simp,?_⟩
     refine Calls.mono (hta) ?_
     rintro e w' ⟨he,rfl⟩
     have hE:Ext w' w':=Ext.refl w'
     subst he
     exact⟨rfl,st.inv.call hST hE (by decide) rfl st.off⟩
    case s6 =>
     refine sg_val (x:=.tuple #[.int .i64 m.lt,.bool true]) rfl rfl rfl (GQ.keep (j:=6) (by decide) rfl) fun γ L v a w st=>?_
     have e5:=st.val 5 26 rfl (by kernel_rfl)
     rw[(st.φ 5 (by kernel_rfl):v 5=_)]at e5
     simp at e5
     go_simp
    case s7 =>
     refine sg_val (x:=.int .i64 m.lt) rfl rfl rfl (GQ.keep (j:=7) (by decide) rfl) fun γ L v a w st=>?_
     have e6:=st.val 6 20 rfl (by kernel_rfl)
     rw[(st.φ 6 (by kernel_rfl):v 6=_)]at e6
     simp at e6
     go_simp
    case s8 =>
     refine sg_val (x:=.bool true) rfl rfl rfl (GQ.keep (j:=8) (by decide) rfl) fun γ L v a w st=>?_
     have e6:=st.val 6 20 rfl (by kernel_rfl)
     rw[(st.φ 6 (by kernel_rfl):v 6=_)]at e6
     simp at e6
     go_simp
    case s9 =>
     refine sg_val (x:=.int .i64 m.lt) rfl rfl rfl (GQ.keep (j:=9) (by decide) rfl) fun γ L v a w st=>?_
     have e7:=st.val 7 27 rfl (by kernel_rfl)
     rw[(st.φ 7 (by kernel_rfl):v 7=_)]at e7
     simp at e7
     go_simp
    case s10 =>
     refine sg_val (x:=.bool true) rfl rfl rfl (GQ.keep (j:=10) (by decide) rfl) fun γ L v a w st=>?_
     have e8:=st.val 8 28 rfl (by kernel_rfl)
     rw[(st.φ 8 (by kernel_rfl):v 8=_)]at e8
     simp at e8
     go_simp
   case fin =>
    intro γ L v wr hall hG hφ
    have h9:v 9=(.int .i64 m.lt):=hφ 9 (by decide)
    have h10:v 10=(.bool true):=hφ 10 (by decide)
    have hE:=hG.off (fun _ h=>h)
    clear hall hφ hG
    change Exit.then _ _ _ (putAll _ v _ 11) wr
    simp only[putAll,dstOf,Act.put]
    simp only[List.getElem?_toArray,List.getElem?_cons_zero,List.getElem?_cons_succ,Option.bind_some,List.setIfInBounds_toArray,List.set_cons_zero,List.set_cons_succ]
    rw[h9,h10]
    clear h9 h10
    have hxr:=hX2.ext hE
    have x5:=hxr.cell 5
    simp[Ms.cells]at x5
    generalize v 0=z0
    generalize v 1=z1
    generalize v 2=z2
    generalize v 3=z3
    generalize v 4=z4
    generalize v 5=z5
    generalize v 6=z6
    generalize v 7=z7
    generalize v 8=z8
    go_wp2_with fail
    go_meet
    case rel=>exact hE
 case rest =>
  rename World=>w3
  have hA3:=hA2.ext hcut
  have hX3:=hX2.ext hcut
  have hE3:Ext W1 w3:=HE2.out.trans hcut
  have hO3:=own_ext HO0.out hE3
  have x8:=hX3.cell 8
  simp[Ms.cells]at x8
  have HA3:=Lib.hid hA3
  have HX3:=Lib.hid hX3
  have HO3:=Lib.hid hO3
  have HE3:=Lib.hid (HE0.out.trans hE3)
  have HT3:=Lib.hid (HT0.out.ext hE3)
  clear hcut hA2 hX2 hE2 HE2 hA3 hX3 hE3 hO3 hfb HA0 HX0 HO0 HE0
  go_upto_block 0 with fail
  go_cut []from 51 to 86 (fun wx=>NdTo K w3 wx (N.addN new)∧At wx x 129 (m.cells (.slice A m.es.length ec))∧wx.ownsRow 0 49 3 (.slice A m.es.length ec) m.es.length (enRows m.es))
  case first =>
   go_wp2_with fail
   go_loopw [50] (fun iv wr=>∃j:Nat,j≤old.length∧iv=.int .i64 (j:Int)∧Ext w3 wr) (fun iv _=>m.es.length - (intOf iv).toNat)
   case atStart=>exact⟨0,Nat.zero_le _,rfl,Ext.refl _⟩
   case round =>
    obtain⟨j,hj,rfl,hEj⟩:=hrel
    rename World=>wr
    have hlen:=HM.out.len
    have hel:m.es.length=old.length+new.length:=by rw[HM.out.es,List.length_append]
    have HEL:=Lib.hid hel
    by_cases hjl:j<m.es.length
    ·obtain⟨y,hy⟩:∃y,m.es[j]? = some y:=⟨_,List.getElem?_eq_getElem hjl⟩
     have HY:=Lib.hid hy
     have hby:=HM.out.bd y (List.mem_of_getElem? hy)
     have hS:Sln wr (.slice A m.es.length ec) 3 (m.es.map En.row):=Sln.of_own (by rw[←enRows_eq];exact own_ext HO3.out hEj) (en_three _) (by rw[List.length_map])
     obtain⟨g,p,c',hv,r0,r1,r2⟩:=ens_some hS hy
     simp only[Value.slice.injEq]at hv
     obtain⟨rfl, -,rfl⟩:=hv
     clear hS hy hel
     go_upto_region 8 with fail
     have hEy:=(Ext.refl wr).alloc (.cells #[.int .i64 y.i,.int .i64 y.t,.string y.c] 49)
     have hY0:=At.new wr 49 #[.int .i64 y.i,.int .i64 y.t,.string y.c]
     have hA4:=HA3.out.ext (hEj.trans hEy)
     have hX4:=HX3.out.ext (hEj.trans hEy)
     have HE4:=Lib.hid (hEj.trans hEy)
     generalize wr.alloc (.cells #[.int .i64 y.i,.int .i64 y.t,.string y.c] 49)=w4 at hEy hY0 hA4 hX4 HE4⊢
     generalize wr.heap.size=yb at hY0⊢
     have y0:=hY0.cell 0
     simp at y0
     have b5:=hA4.nd.cell 5
     simp[ndCells]at b5
     have hyb:N.s.base<y.i∧((j<old.length∧N.s.termAt y.i=some y.t)∨(j=old.length∧N.s.termAt y.i=none)):=by
      have hy2:=HY.out
      rw[HM.out.es]at hy2
      by_cases hjo:j<old.length
      ·rw[List.getElem?_append_left hjo]at hy2
       obtain⟨a,b⟩:=HM.out.oldE y (List.mem_of_getElem? hy2)
       exact⟨a,.inl ⟨hjo,b⟩⟩
      ·have hje:j=old.length:=by omega
       rw[hje,List.getElem?_append_right (Nat.le_refl _),Nat.sub_self]at hy2
       cases hnw:new with
       | nil=>rw[hnw]at hy2;cases hy2
       | cons z r =>
        rw[hnw]at hy2
        have hyz:z=y:=by simpa using hy2
        obtain⟨a,b,_⟩:=HM.out.newE z r hnw
        rw[hyz]at a b
        exact⟨a,.inr ⟨hje,b⟩⟩
     obtain⟨hyb1,hyb2⟩:=hyb
     have tle:decide (y.i≤N.s.base)=false:=by simp;omega
     go_region
     go_wp2_with fail
     have hE5:=(Ext.refl w4).drew
     have hA5:=hA4.ext hE5
     have hX5:=hX4.ext hE5
     have hY5:=hY0.ext hE5
     have HE5:=Lib.hid (HE4.out.trans hE5)
     generalize w4.drew=w5 at hE5 hA5 hX5 hY5 HE5⊢
     clear hE5 hEy hY0 hA4 hX4 HE4 y0 b5 tle r0 r1 r2
     rcases hyb2 with⟨hjo,hty⟩|⟨hjo,hty⟩
     ·have HTY:=Lib.hid hty
      clear hty
      have hST:GQ.St (fun _=>False) (fun _ _=>True) []:=⟨fun _ _ _ h _=>h,by
       intro gx hx
       cases hx⟩
      refine wp_region_phi (Γ := Nat→Value) (sgφ [.val (.pointer (some ⟨K.r,0,none⟩)),.val (.pointer (some ⟨K.r,0,none⟩)),.val (.pointer (some ⟨K.r,3,none⟩)),.val (.pointer (some ⟨yb,0,none⟩)),.val (.int .i64 y.i),.val (.tuple #[.int .i64 y.t,.bool true]),.val (.tuple #[.int .i64 y.t,.bool true]),.val (.int .i64 y.t),.val (.bool true),.val (.int .i64 y.t),.val (.bool true)])
       (GQ w5 (fun _=>False) 1000 (fun _ _=>True) [])
       (by kernel_rfl) (by kernel_rfl) (by kernel_rfl) (fun _=>undef) (GQ.start _ _ _ _ _ _ (trivial)) ?steps ?fin
      case steps =>
       show StepsTo _ _ _ _ _ _ 11
       refine⟨⟨⟨⟨⟨⟨⟨⟨⟨⟨⟨trivial,?s0⟩,?s1⟩,?s2⟩,?s3⟩,?s4⟩,?s5⟩,?s6⟩,?s7⟩,?s8⟩,?s9⟩,?s10⟩
       case s0 =>
        refine sg_val (x:=.pointer (some ⟨K.r,0,none⟩)) rfl rfl rfl (GQ.keep (j:=0) (by decide) rfl) fun γ L v a w st=>?_
        have f0:=st.far 0 (by kernel_rfl)
        simp at f0
        go_simp
       case s1 =>
        refine sg_val (x:=.pointer (some ⟨K.r,0,none⟩)) rfl rfl rfl (GQ.keep (j:=1) (by decide) rfl) fun γ L v a w st=>?_
        have e0:=st.val 0 64 rfl (by kernel_rfl)
        rw[(st.φ 0 (by kernel_rfl):v 0=_)]at e0
        simp at e0
        go_simp
       case s2 =>
        refine sg_val (x:=.pointer (some ⟨K.r,3,none⟩)) rfl rfl rfl (GQ.keep (j:=2) (by decide) rfl) fun γ L v a w st=>?_
        have e1:=st.val 1 65 rfl (by kernel_rfl)
        rw[(st.φ 1 (by kernel_rfl):v 1=_)]at e1
        simp at e1
        go_simp
       case s3 =>
        refine sg_val (x:=.pointer (some ⟨yb,0,none⟩)) rfl rfl rfl (GQ.keep (j:=3) (by decide) rfl) fun γ L v a w st=>?_
        have f7:=st.far 7 (by kernel_rfl)
        simp at f7
        go_simp
       case s4 =>
        refine sg_val (x:=.int .i64 y.i) rfl rfl rfl (GQ.keep (j:=4) (by decide) rfl) fun γ L v a w st=>?_
        have e3:=st.val 3 67 rfl (by kernel_rfl)
        rw[(st.φ 3 (by kernel_rfl):v 3=_)]at e3
        simp at e3
        have hw1:=hA5.ext (st.inv.off (fun _ h=>h))
        have hy1:=hY5.ext (st.inv.off (fun _ h=>h))
        have hcl:=hy1.cell 0
        simp at hcl
        go_simp
       case s5 =>
        refine sg_callv' (x:=.tuple #[.int .i64 y.t,.bool true]) (f:=92) rfl rfl rfl fun γ L v a w st=>?_
        have e2:=st.val 2 66 rfl (by kernel_rfl)
        rw[(st.φ 2 (by kernel_rfl):v 2=_)]at e2
        simp at e2
        have e4:=st.val 4 68 rfl (by kernel_rfl)
        rw[(st.φ 4 (by kernel_rfl):v 4=_)]at e4
        simp at e4
        have hw1:=hA5.ext (st.inv.off (fun _ h=>h))
        have hy1:=hY5.ext (st.inv.off (fun _ h=>h))
        have hta:=ttermat_any w K.r 3 N.s K.lv hw1.ts hN.ts y.i (by omega)
        rw[HTY.out]at hta
        refine⟨#[.pointer (some ⟨K.r,3,none⟩),.int .i64 y.i],by go_simp,?_⟩
        refine Calls.mono (hta) ?_
        rintro e w' ⟨he,rfl⟩
        have hE:Ext w' w':=Ext.refl w'
        subst he
        exact⟨rfl,st.inv.call hST hE (by decide) rfl st.off⟩
       case s6 =>
        refine sg_val (x:=.tuple #[.int .i64 y.t,.bool true]) rfl rfl rfl (GQ.keep (j:=6) (by decide) rfl) fun γ L v a w st=>?_
        have e5:=st.val 5 69 rfl (by kernel_rfl)
        rw[(st.φ 5 (by kernel_rfl):v 5=_)]at e5
        simp at e5
        go_simp
       case s7 =>
        refine sg_val (x:=.int .i64 y.t) rfl rfl rfl (GQ.keep (j:=7) (by decide) rfl) fun γ L v a w st=>?_
        have e6:=st.val 6 63 rfl (by kernel_rfl)
        rw[(st.φ 6 (by kernel_rfl):v 6=_)]at e6
        simp at e6
        go_simp
       case s8 =>
        refine sg_val (x:=.bool true) rfl rfl rfl (GQ.keep (j:=8) (by decide) rfl) fun γ L v a w st=>?_
        have e6:=st.val 6 63 rfl (by kernel_rfl)
        rw[(st.φ 6 (by kernel_rfl):v 6=_)]at e6
        simp at e6
        go_simp
       case s9 =>
        refine sg_val (x:=.int .i64 y.t) rfl rfl rfl (GQ.keep (j:=9) (by decide) rfl) fun γ L v a w st=>?_
        have e7:=st.val 7 70 rfl (by kernel_rfl)
        rw[(st.φ 7 (by kernel_rfl):v 7=_)]at e7
        simp at e7
        go_simp
       case s10 =>
        refine sg_val (x:=.bool true) rfl rfl rfl (GQ.keep (j:=10) (by decide) rfl) fun γ L v a w st=>?_
        have e8:=st.val 8 71 rfl (by kernel_rfl)
        rw[(st.φ 8 (by kernel_rfl):v 8=_)]at e8
        simp at e8
        go_simp
      case fin =>
       intro γ L v wr hall hG hφ
       have h9:v 9=(.int .i64 y.t):=hφ 9 (by decide)
       have h10:v 10=(.bool true):=hφ 10 (by decide)
       have hE:=hG.off (fun _ h=>h)
       clear hall hφ hG
       change Exit.then _ _ _ (putAll _ v _ 11) wr
       simp only[putAll,dstOf,Act.put]
       simp only[List.getElem?_toArray,List.getElem?_cons_zero,List.getElem?_cons_succ,Option.bind_some,List.setIfInBounds_toArray,List.set_cons_zero,List.set_cons_succ]
       rw[h9,h10]
       clear h9 h10
       have hYr:=hY5.ext hE
       have y1:=hYr.cell 1
       simp at y1
       generalize v 0=z0
       generalize v 1=z1
       generalize v 2=z2
       generalize v 3=z3
       generalize v 4=z4
       generalize v 5=z5
       generalize v 6=z6
       generalize v 7=z7
       generalize v 8=z8
       go_wp2_with fail
       go_roundw
       case rel=>exact⟨j+1,by omega,by go_num,HE5.out.trans hE⟩
       case measure=>simp[intOf];omega
     ·have HTY:=Lib.hid hty
      clear hty
      have hST:GQ.St (fun _=>False) (fun _ _=>True) []:=⟨fun _ _ _ h _=>h,by
       intro gx hx
       cases hx⟩
      refine wp_region_phi (Γ := Nat→Value) (sgφ [.val (.pointer (some ⟨K.r,0,none⟩)),.val (.pointer (some ⟨K.r,0,none⟩)),.val (.pointer (some ⟨K.r,3,none⟩)),.val (.pointer (some ⟨yb,0,none⟩)),.val (.int .i64 y.i),.val (.tuple #[.int .i64 0,.bool false]),.val (.tuple #[.int .i64 0,.bool false]),.val (.int .i64 0),.val (.bool false),.val (.int .i64 0),.val (.bool false)])
       (GQ w5 (fun _=>False) 1000 (fun _ _=>True) [])
       (by kernel_rfl) (by kernel_rfl) (by kernel_rfl) (fun _=>undef) (GQ.start _ _ _ _ _ _ (trivial)) ?steps ?fin
      case steps =>
       show StepsTo _ _ _ _ _ _ 11
       refine⟨⟨⟨⟨⟨⟨⟨⟨⟨⟨⟨trivial,?s0⟩,?s1⟩,?s2⟩,?s3⟩,?s4⟩,?s5⟩,?s6⟩,?s7⟩,?s8⟩,?s9⟩,?s10⟩
       case s0 =>
        refine sg_val (x:=.pointer (some ⟨K.r,0,none⟩)) rfl rfl rfl (GQ.keep (j:=0) (by decide) rfl) fun γ L v a w st=>?_
        have f0:=st.far 0 (by kernel_rfl)
        simp at f0
        go_simp
       case s1 =>
        refine sg_val (x:=.pointer (some ⟨K.r,0,none⟩)) rfl rfl rfl (GQ.keep (j:=1) (by decide) rfl) fun γ L v a w st=>?_
        have e0:=st.val 0 64 rfl (by kernel_rfl)
        rw[(st.φ 0 (by kernel_rfl):v 0=_)]at e0
        simp at e0
        go_simp
       case s2 =>
        refine sg_val (x:=.pointer (some ⟨K.r,3,none⟩)) rfl rfl rfl (GQ.keep (j:=2) (by decide) rfl) fun γ L v a w st=>?_
        have e1:=st.val 1 65 rfl (by kernel_rfl)
        rw[(st.φ 1 (by kernel_rfl):v 1=_)]at e1
        simp at e1
        go_simp
       case s3 =>
        refine sg_val (x:=.pointer (some ⟨yb,0,none⟩)) rfl rfl rfl (GQ.keep (j:=3) (by decide) rfl) fun γ L v a w st=>?_
        have f7:=st.far 7 (by kernel_rfl)
        simp at f7
        go_simp
       case s4 =>
        refine sg_val (x:=.int .i64 y.i) rfl rfl rfl (GQ.keep (j:=4) (by decide) rfl) fun γ L v a w st=>?_
        have e3:=st.val 3 67 rfl (by kernel_rfl)
        rw[(st.φ 3 (by kernel_rfl):v 3=_)]at e3
        simp at e3
        have hw1:=hA5.ext (st.inv.off (fun _ h=>h))
        have hy1:=hY5.ext (st.inv.off (fun _ h=>h))
        have hcl:=hy1.cell 0
        simp at hcl
        go_simp
       case s5 =>
        refine sg_callv' (x:=.tuple #[.int .i64 0,.bool false]) (f:=92) rfl rfl rfl fun γ L v a w st=>?_
        have e2:=st.val 2 66 rfl (by kernel_rfl)
        rw[(st.φ 2 (by kernel_rfl):v 2=_)]at e2
        simp at e2
        have e4:=st.val 4 68 rfl (by kernel_rfl)
        rw[(st.φ 4 (by kernel_rfl):v 4=_)]at e4
        simp at e4
        have hw1:=hA5.ext (st.inv.off (fun _ h=>h))
        have hy1:=hY5.ext (st.inv.off (fun _ h=>h))
        have hta:=ttermat_any w K.r 3 N.s K.lv hw1.ts hN.ts y.i (by omega)
        rw[HTY.out]at hta
        refine⟨#[.pointer (some ⟨K.r,3,none⟩),.int .i64 y.i],by go_simp,?_⟩
        refine Calls.mono (hta) ?_
        rintro e w' ⟨he,rfl⟩
        have hE:Ext w' w':=Ext.refl w'
        subst he
        exact⟨rfl,st.inv.call hST hE (by decide) rfl st.off⟩
       case s6 =>
        refine sg_val (x:=.tuple #[.int .i64 0,.bool false]) rfl rfl rfl (GQ.keep (j:=6) (by decide) rfl) fun γ L v a w st=>?_
        have e5:=st.val 5 69 rfl (by kernel_rfl)
        rw[(st.φ 5 (by kernel_rfl):v 5=_)]at e5
        simp at e5
        go_simp
       case s7 =>
        refine sg_val (x:=.int .i64 0) rfl rfl rfl (GQ.keep (j:=7) (by decide) rfl) fun γ L v a w st=>?_
        have e6:=st.val 6 63 rfl (by kernel_rfl)
        rw[(st.φ 6 (by kernel_rfl):v 6=_)]at e6
        simp at e6
        go_simp
       case s8 =>
        refine sg_val (x:=.bool false) rfl rfl rfl (GQ.keep (j:=8) (by decide) rfl) fun γ L v a w st=>?_
        have e6:=st.val 6 63 rfl (by kernel_rfl)
        rw[(st.φ 6 (by kernel_rfl):v 6=_)]at e6
        simp at e6
        go_simp
       case s9 =>
        refine sg_val (x:=.int .i64 0) rfl rfl rfl (GQ.keep (j:=9) (by decide) rfl) fun γ L v a w st=>?_
        have e7:=st.val 7 70 rfl (by kernel_rfl)
        rw[(st.φ 7 (by kernel_rfl):v 7=_)]at e7
        simp at e7
        go_simp
       case s10 =>
        refine sg_val (x:=.bool false) rfl rfl rfl (GQ.keep (j:=10) (by decide) rfl) fun γ L v a w st=>?_
        have e8:=st.val 8 71 rfl (by kernel_rfl)
        rw[(st.φ 8 (by kernel_rfl):v 8=_)]at e8
        simp at e8
        go_simp
      case fin =>
       intro γ L v wr hall hG hφ
       have h9:v 9=(.int .i64 0):=hφ 9 (by decide)
       have h10:v 10=(.bool false):=hφ 10 (by decide)
       have hE:=hG.off (fun _ h=>h)
       clear hall hφ hG
       change Exit.then _ _ _ (putAll _ v _ 11) wr
       simp only[putAll,dstOf,Act.put]
       simp only[List.getElem?_toArray,List.getElem?_cons_zero,List.getElem?_cons_succ,Option.bind_some,List.setIfInBounds_toArray,List.set_cons_zero,List.set_cons_succ]
       rw[h9,h10]
       clear h9 h10
       have hXr:=hX5.ext hE
       have x8:=hXr.cell 8
       simp[Ms.cells]at x8
       have hjle:j≤m.es.length:=by omega
       have hEr:=HE5.out.trans hE
       have hAr:=HA3.out.ext hEr
       have hXr2:=HX3.out.ext hEr
       have hOr:=own_ext HO3.out hEr
       have hTr:=HT3.out.ext hEr
       have hSr:Sln wr (.slice (some ⟨g,p,none⟩) m.es.length ec) 3 (m.es.map En.row):=Sln.of_own (by rw[←enRows_eq];exact hOr) (en_three _) (by rw[List.length_map])
       have hel2:=HEL.out
       have hSn:Sln wr (.slice (some ⟨g,p+old.length * 3,none⟩) (m.es.length - old.length) (ec - old.length)) 3 (new.map En.row):=by
        obtain⟨A',c',e1,h3⟩:=hSr
        obtain⟨b',o',e2,h4⟩:=h3 (fun e=>by have:=congrArg List.length e;simp at this;rw[this]at hjl;simp at hjl)
        rw[e2]at e1
        simp only[Value.slice.injEq,Option.some.injEq,Addr.mk.injEq,and_true]at e1
        refine⟨_,ec - old.length,by rw[List.length_map,hel2,Nat.add_sub_cancel_left],fun _=>⟨g,p+old.length * 3,rfl,fun i row hi k u hk=>?_⟩⟩
        have hi2:(m.es.map En.row)[old.length+i]? = some row:=by
         rw[HM.out.es,List.map_append,List.getElem?_append_right (by rw[List.length_map];omega),List.length_map,Nat.add_sub_cancel_left]
         exact hi
        have h5:=h4 (old.length+i) row hi2 k u hk
        rw[←e1.1.1,←e1.1.2]at h5
        rw[←h5,show p+old.length * 3+i * 3+k=p+(old.length+i) * 3+k by omega]
       obtain⟨y0,yr,hny⟩:∃y0 yr,new=y0::yr:=by
        cases hnw:new with
        | nil=>rw[hnw]at hel2;simp at hel2;omega
        | cons a b=>exact⟨a,b,rfl⟩
       have hby:=HM.out.newE y0 yr hny
       have hlen2:=HM.out.len
       have hvd:∀b o n c,Value.slice (some ⟨g,p+old.length * 3,none⟩) (m.es.length - old.length) (ec - old.length)=.slice (some ⟨b,o,none⟩) n c→¬ (b=K.d∨b=K.m):=fun b o n c e hk=>by
        simp only[Value.slice.injEq,Option.some.injEq,Addr.mk.injEq,and_true]at e
        refine HEVK.out b (by rw[←e.1.1];rfl) ?_
        rcases hk with hk|hk
        ·exact .inr (.inl hk)
        ·exact .inr (.inr (.inl hk))
       have hrep:=replace_any hAr hN (.slice (some ⟨g,p+old.length * 3,none⟩) (m.es.length - old.length) (ec - old.length)) new y0 yr hny hSn hby.2.2 (by omega) (fun z hz=>by have:=HM.out.bd z (by rw[HM.out.es];exact List.mem_append_right _ hz);omega) hvd hTr HM.out.room
       have HRP:=Lib.hid hrep
       have hnn:N.addL new=N.addN new:=by unfold Nd.addN;rw[if_neg (by rw[hny];exact fun e=>by cases e)]
       have HREL:=Lib.hid (show ∀(w7:World) (K7:Ka),K7.r=K.r→K7.d=K.d→K7.m=K.m→NdAt w7 K7 (N.addL new)→Chg K.has wr w7→(∀k,K7.has k→K.has k∨wr.heap.size≤k)→NdTo K w3 w7 (N.addN new)∧At w7 x 129 (m.cells (.slice (some ⟨g,p,none⟩) m.es.length ec))∧w7.ownsRow 0 49 3 (.slice (some ⟨g,p,none⟩) m.es.length ec) m.es.length (enRows m.es)from fun w7 K7 q1 q2 q3 q4 q5 q6=>⟨NdTo.ext_next hEr ⟨K7,q1,q2,q3,by rw[←hnn];exact q4,q5,q6⟩,hXr2.chg q5 (fun hk=>HXK.out x hk rfl),q_keep hOr q5 (fun k hk=>HEVK.out k hk)⟩)
       clear hSr hel2 hSn hny hby hlen2 hvd hrep hnn hEr hAr hXr2 hOr hTr
       generalize v 0=z0
       generalize v 1=z1
       generalize v 2=z2
       generalize v 3=z3
       generalize v 4=z4
       generalize v 5=z5
       generalize v 6=z6
       generalize v 7=z7
       generalize v 8=z8
       go_wp2_with fail
       refine HRP.out.mono ?_
       rintro e w7 ⟨rfl,hT7⟩
       obtain⟨K7,q1,q2,q3,q4,q5,q6⟩:=hT7
       have HR:=Lib.hid (HREL.out w7 K7 q1 q2 q3 q4 q5 q6)
       clear q4 q5 q6
       go_wp2_with fail
       go_meet
       case rel=>exact HR.out
    ·have hjo:j=old.length:=by omega
     have hnl:new=[]:=List.eq_nil_of_length_eq_zero (by omega)
     have hAw:=HA3.out.ext hEj
     have hXw:=HX3.out.ext hEj
     have hOw:=own_ext HO3.out hEj
     have hNN:N.addN new=N:=by rw[hnl];rfl
     have HR:=Lib.hid (show NdTo K w3 wr (N.addN new)∧At wr x 129 (m.cells (.slice A m.es.length ec))∧wr.ownsRow 0 49 3 (.slice A m.es.length ec) m.es.length (enRows m.es)from⟨by rw[hNN];exact NdTo.ext HA3.out hEj,hXw,hOw⟩)
     clear hnl hAw hXw hOw hNN hel hjo
     go_wp2_with fail
     go_meet
     case rel=>exact HR.out
  case rest =>
   rename World=>w6
   obtain⟨⟨K6,q1,q2,q3,hA6,hC6,hKK6⟩,hX6,hO6⟩:=hcut
   have hlen:=HM.out.len
   have x4:=hX6.cell 4
   have x8':=hX6.cell 8
   simp[Ms.cells]at x4 x8'
   obtain⟨L,hL⟩:∃L,L=moreLast m:=⟨_,rfl⟩
   have HL:=Lib.hid hL
   have HA6:=Lib.hid hA6
   have HX6:=Lib.hid hX6
   have HO6:=Lib.hid hO6
   have HC6:=Lib.hid hC6
   have HK6:=Lib.hid hKK6
   have HQ:=Lib.hid (And.intro q1 (And.intro q2 q3))
   clear hL hA6 hX6 hO6 hC6 hKK6 q1 q2 q3 x8 HA3 HX3 HO3 HT3
   go_upto_if 93 with fail
   generalize Value.agg (m.cells (Value.slice A m.es.length ec))=av
   obtain⟨fb2,hfb2⟩:∃b:Bool,decide (0<m.es.length)=b:=⟨_,rfl⟩
   rw[hfb2]
   go_cut [10]from 94 to 100 (fun la wx=>la=.int .i64 L∧wx=w6)
   case first =>
    cases fb2
    ·have hLi:L=m.idx:=by
      rw[HL.out]
      unfold moreLast
      have hnil:m.es=[]:=List.eq_nil_of_length_eq_zero (by have:=of_decide_eq_false hfb2;omega)
      rw[hnil]
      rfl
     have HLI:=Lib.hid hLi
     clear hLi hfb2
     go_wp2_with fail
     go_meet
     case rel=>exact⟨by rw[HLI.out],rfl⟩
    ·have hlp:0<m.es.length:=of_decide_eq_true hfb2
     obtain⟨y,hy⟩:∃y,m.es[m.es.length - 1]? = some y:=⟨_,List.getElem?_eq_getElem (by omega)⟩
     have hS:Sln w6 (.slice A m.es.length ec) 3 (m.es.map En.row):=Sln.of_own (by rw[←enRows_eq];exact HO6.out) (en_three _) (by rw[List.length_map])
     obtain⟨g,p,c',hv,r0,r1,r2⟩:=ens_some hS hy
     obtain⟨g',c2,hv2, -⟩:=q_some HO6.out (by omega)
     rw[hv]at hv2
     simp only[Value.slice.injEq,Option.some.injEq,Addr.mk.injEq,and_true]at hv2
     obtain⟨⟨rfl,rfl⟩, -⟩:=hv2
     simp only[Value.slice.injEq]at hv
     obtain⟨rfl, -,rfl⟩:=hv
     rw[Nat.zero_add]at r0
     have hLi:L=y.i:=by
      rw[HL.out]
      unfold moreLast
      rw[List.getLast?_eq_getElem?,hy]
     have HLI:=Lib.hid hLi
     have e1:((m.es.length:Int) - 1).toNat=m.es.length - 1:=by omega
     clear hLi hS hy hfb2 r1 r2
     go_wp2_with fail
     go_meet
     case rel=>exact⟨by rw[HLI.out],rfl⟩
   case rest =>
    obtain⟨rfl,rfl⟩:=hcut
    have d11:=HA6.out.nd.cell 11
    have f11:=HA6.out.nd.frozen 11
    have hlt6:=HA6.out.nd.lt
    rw[HQ.out.1]at d11 f11 hlt6
    have hcmt:(N.addN new).commit=N.commit:=by unfold Nd.addN Nd.addL;split <;> rfl
    simp[ndCells,hcmt]at d11
    have x6:=HX6.out.cell 6
    simp[Ms.cells]at x6
    clear hcmt
    go_wp2_with fail
    go_region
    have hA7:NdAt (wc.setCell ⟨K6.r,11,none⟩ (.int .i64 (max N.commit (min m.cm L)))) K6 { N.addN new with commit:=max N.commit (min m.cm L) } := HA6.out.set rfl rfl rfl rfl rfl rfl rfl
    have hC7:Chg K6.has wc (wc.setCell ⟨K6.r,11,none⟩ (.int .i64 (max N.commit (min m.cm L)))):=chg_r K6 wc 11 _
    rw[HQ.out.1]at hA7 hC7
    have hX7:At (wc.setCell ⟨K.r,11,none⟩ (.int .i64 (max N.commit (min m.cm L)))) x 129 (m.cells (.slice A m.es.length ec)):=HX6.out.far (p:=⟨K.r,11,none⟩) (fun e=>HXK.out K.r (.inl rfl) e.symm) _
    have hA8:=hA7.ext ((Ext.refl _).drew)
    have hC8:=hC7.ext_trans ((Ext.refl _).drew)
    have hX8:=hX7.ext ((Ext.refl _).drew)
    have hok:NdOk { N.addN new with commit:=max N.commit (min m.cm L) } := by rw[HL.out];exact HOK.out
    generalize (wc.setCell ⟨K.r,11,none⟩ (.int .i64 (max N.commit (min m.cm L)))).drew=w8 at hA8 hC8 hX8⊢
    have x1:=hX8.cell 1
    simp[Ms.cells]at x1
    have ca:=answer_any hA8 hok m.frm true L
    rw[HQ.out.1]at ca
    have HF:=Lib.hid (show ∀w9,NdTo K6 w8 w9 (({ N.addN new with commit:=max N.commit (min m.cm L) } : Nd).send (haveM m.frm true L))→NdTo K W w9 (N.more m new)from fun w9 hT=>by
     have e:N.more m new=({ N.addN new with commit:=max N.commit (min m.cm L) } : Nd).send (haveM m.frm true L):=by rw[HL.out];rfl
     rw[e]
     obtain⟨q1,q2,q3⟩:=HQ.out
     exact NdTo.ext_next HE3.out (NdTo.next q1 q2 q3 HC6.out HK6.out (NdTo.next rfl rfl rfl hC8 (fun _ h=>.inl h) hT)))
    clear hA7 hC7 hX7 hA8 hC8 hX8 hok
    go_wp2_with fail
    refine ca.mono ?_
    rintro e w9 ⟨rfl,hT⟩
    have HFF:=Lib.hid (HF.out w9 hT)
    clear hT
    go_wp2_with fail
    first|go_end0|refine bodyPost_ret (results_none rfl _ _ _) rfl ?_
    exact⟨rfl,HFF.out⟩
end
end Go.Proofs.YtkkbfdencgdbhaaGreatDoor
namespace Go.Proofs.YtkkbfdencgdbhaaGreatDoor
open Go.RowKit Go.Sort
section
variable{W:World}{K:Ka}{N:Nd}
theorem lacks_may(h:NdAt W K N)(hN:NdOk N)(i:Nat)(hi:i<N.nx.length)(ht:∃t,N.s.termAt (N.nx.getD i 0 - 1)=some t) :
 Calls Tryz.prog 157 #[.pointer (some ⟨K.r,0,none⟩),.int .i64 (i:Int)] W fun e w'=>e=.returned (.tuple #[])∧NdTo K W w' (N.lacks i):=by
 obtain⟨x,hx⟩:∃x,N.nx[i]? = some x:=⟨_,List.getElem?_eq_getElem hi⟩
 obtain⟨t,ht⟩:=ht
 rw[List.getD_eq_getElem?_getD,hx,Option.getD_some]at ht
 exact lacks_any h hN i hi x t hx ht
variable(h:NdAt W K N)
include h
set_option maxRecDepth 100000 in
set_option maxHeartbeats 8000000 in
theorem onhave_any(hN:NdOk N)(m:Ms)(A:Option Addr)(el ec:Nat)(i:Nat)(hfr:m.frm=(i:Int))(him:i<N.mt.length)(hin:i<N.nx.length)(hk:m.ok=true)(hix:m.idx≤N.s.last.1)(hi0:0≤m.idx)
 (h1:NdOk (N.hasIt i m.idx)) (h3:NdOk (N.had i m.idx)) (ht:∃t,(N.had i m.idx).s.termAt ((N.had i m.idx).nx.getD i 0 - 1)=some t) :
 Calls Tryz.prog 116 #[.pointer (some ⟨K.r,0,none⟩),.agg (m.cells (.slice A el ec))] W fun e w'=>e=.returned (.tuple #[])∧NdTo K W w' (N.haveIn i m.idx):=by
 obtain⟨ev,hev⟩:∃ev,ev=Value.slice A el ec:=⟨_,rfl⟩
 have hE0:=(Ext.refl W).alloc (.cells (m.cells (.slice A el ec)) 129)
 have hX0:=At.new W 129 (m.cells (.slice A el ec))
 have hA0:=h.ext hE0
 have hxK:∀k,K.has k→k≠W.heap.size:=fun k hk e=>by have:=h.has_lt k hk;omega
 have HH1:=Lib.hid h1
 have HH3:=Lib.hid h3
 have HT:=Lib.hid ht
 have HIX:=Lib.hid hix
 clear h1 h3 ht hix h
 go_enter Tryz.func116,Tryz.ntmps116
 go_upto_region 1 with fail
 generalize W.alloc (.cells (m.cells (.slice A el ec)) 129)=W1 at hE0 hX0 hA0⊢
 rw[←hev]at hX0⊢
 obtain⟨x,hx⟩:∃x,x=W.heap.size:=⟨_,rfl⟩
 rw[←hx]at hX0 hxK⊢
 generalize Value.agg (m.cells ev)=av
 have HXK:=Lib.hid hxK
 have HE0:=Lib.hid hE0
 have x1:=hX0.cell 1
 have x7:=hX0.cell 7
 have x4:=hX0.cell 4
 simp[Ms.cells,hfr,hk]at x1 x7 x4
 have ct:=nlast_any hA0 hN
 have HX0:=Lib.hid hX0
 have HA0:=Lib.hid hA0
 have HFR:=Lib.hid hfr
 clear hx hxK hE0 hX0 hA0 hev hfr hk
 go_wp2_with fail
 refine ct.mono ?_
 rintro e w1 ⟨rfl,hE1⟩
 clear ct
 have hA1:=HA0.out.ext hE1
 have hX1:=HX0.out.ext hE1
 have HE1:=Lib.hid (HE0.out.trans hE1)
 obtain⟨L,hL⟩:∃L,L=N.s.last.1:=⟨_,rfl⟩
 rw[←hL]
 have x4':=hX1.cell 4
 simp[Ms.cells]at x4'
 have tle:m.idx≤L:=by rw[hL];exact HIX.out
 have HL:=Lib.hid hL
 obtain⟨g,cap,hmv,hcap,hgl,hfz,hcells⟩:=q_some hA1.ms (by omega)
 have d15:=hA1.nd.cell 15
 simp[ndCells,hmv]at d15
 obtain⟨y,hy⟩:∃y,N.mt[i]? = some y:=⟨_,List.getElem?_eq_getElem him⟩
 have hci:w1.cell? ⟨g,i,none⟩=some (.int .i64 y):=by rw[hcells (by decide) i (by omega),List.getElem?_map,hy];rfl
 have fzi:=hfz i
 have HA1:=Lib.hid hA1
 have HX1:=Lib.hid hX1
 have HMV:=Lib.hid hmv
 have HY:=Lib.hid hy
 clear hE1 hA1 hX1 hL HA0 HX0 HE0 x1 x7 x4 hcells hfz hmv hy
 go_wp2_with fail
 go_region
 have hgd:N.mt.getD i 0=y:=by rw[List.getD_eq_getElem?_getD,HY.out];rfl
 have hA2:NdAt (w1.setCell ⟨g,i,none⟩ (.int .i64 (max y m.idx))) K (N.hasIt i m.idx):=by
  have:=HA1.out.setmt HMV.out him (max y m.idx)
  unfold Nd.hasIt
  rw[hgd]
  exact this
 have hC2:Chg K.has w1 (w1.setCell ⟨g,i,none⟩ (.int .i64 (max y m.idx))):=(Chg.refl K.has w1).setCell (p:=⟨g,i,none⟩) (.inl (.inr (.inr (.inr (.inr (.inr (.inl (by rw[HMV.out];rfl)))))))) _
 have hgx:x≠g:=fun e=>HXK.out g (.inr (.inr (.inr (.inr (.inr (.inl (by rw[HMV.out];rfl))))))) e.symm
 have hX2:At (w1.setCell ⟨g,i,none⟩ (.int .i64 (max y m.idx))) x 129 (m.cells ev):=HX1.out.far (p:=⟨g,i,none⟩) hgx _
 have hA3:=hA2.ext ((Ext.refl _).drew)
 have hC3:=hC2.ext_trans ((Ext.refl _).drew)
 have hX3:=hX2.ext ((Ext.refl _).drew)
 generalize (w1.setCell ⟨g,i,none⟩ (.int .i64 (max y m.idx))).drew=w3 at hA3 hC3 hX3⊢
 have cadv:=advance_any hA3 HH1.out
 have HC3:=Lib.hid hC3
 have HX3:=Lib.hid hX3
 have HMT:=Lib.hid (show(N.hasIt i m.idx).mt[i]? = some (max y m.idx)by unfold Nd.hasIt;rw[hgd];simp[him])
 clear hgd hA2 hC2 hgx hX2 hA3 hC3 hX3 d15 hci fzi HA1 HX1 HY tle x4'
 go_wp2_with fail
 refine cadv.mono ?_
 rintro e w4 ⟨rfl,hA4,hC4⟩
 clear cadv
 have hX4:=HX3.out.chg hC4 (fun hk=>HXK.out x hk rfl)
 obtain⟨N2,hN2⟩:∃N2,N2=(N.hasIt i m.idx).advance:=⟨_,rfl⟩
 rw[←hN2]at hA4
 have hm2:N2.mt[i]? = some (max y m.idx):=by rw[hN2];exact HMT.out
 have hnx2:N2.nx=N.nx:=by rw[hN2];rfl
 have hml2:i<N2.mt.length:=(List.getElem?_eq_some_iff.1 hm2).1
 obtain⟨q,hq⟩:∃q,N2.nx[i]? = some q:=⟨_,List.getElem?_eq_getElem (by rw[hnx2];exact hin)⟩
 have hqb:0≤q∧q≤1099511627776:=hN.nx q (by rw[←hnx2];exact List.mem_of_getElem? hq)
 have hyb:0≤max y m.idx∧max y m.idx≤1099511627776:=HH1.out.mt _ (List.mem_of_getElem? HMT.out)
 obtain⟨g1,cap1,hmv1,hcap1,hgl1,hfz1,hcells1⟩:=q_some hA4.ms (by omega)
 obtain⟨g2,cap2,hnv,hcap2,hgl2,hfz2,hcells2⟩:=q_some hA4.ns (by rw[hnx2];omega)
 have d15:=hA4.nd.cell 15
 have d16:=hA4.nd.cell 16
 simp[ndCells,hmv1]at d15
 simp[ndCells,hnv]at d16
 have hc1:w4.cell? ⟨g1,i,none⟩=some (.int .i64 (max y m.idx)):=by rw[hcells1 (by decide) i (by omega),List.getElem?_map,hm2];rfl
 have hin2:i<N2.nx.length:=by rw[hnx2];exact hin
 have hc2:w4.cell? ⟨g2,i,none⟩=some (.int .i64 q):=by rw[hcells2 (by decide) i (by omega),List.getElem?_map,hq];rfl
 have fz2:=hfz2 i
 have hw1:=IntWalk.i64_in (max y m.idx+1) (by omega)
 have HA4:=Lib.hid hA4
 have HX4:=Lib.hid hX4
 have HC4:=Lib.hid hC4
 have HNV:=Lib.hid hnv
 have HQ:=Lib.hid hq
 have HM2:=Lib.hid hm2
 have HN2:=Lib.hid hN2
 have HWI:=Lib.hid hw1
 generalize hz:max y m.idx=z at hc1 hw1 HM2 hyb
 have HZ:=Lib.hid hz
 clear hz hA4 hX4 hC4 hnv hq hm2 hN2 hcells1 hcells2 hfz1 hfz2 hnx2 hmv1 HMT
 go_wp2_with fail
 go_region
 have hN3:N2.goes i=N.had i m.idx:=by unfold Nd.had;rw[HN2.out]
 have hgq:N2.nx.getD i 0=q:=by rw[List.getD_eq_getElem?_getD,HQ.out];rfl
 have hgz:N2.mt.getD i 0=z:=by rw[List.getD_eq_getElem?_getD,HM2.out];rfl
 have hA5:NdAt (w4.setCell ⟨g2,i,none⟩ (.int .i64 (max q (z+1)))) K (N.had i m.idx):=by
  have:=HA4.out.setnx HNV.out hin2 (max q (z+1))
  rw[←hN3]
  unfold Nd.goes
  rw[hgq,hgz]
  exact this
 have hC5:Chg K.has w4 (w4.setCell ⟨g2,i,none⟩ (.int .i64 (max q (z+1)))):=(Chg.refl K.has w4).setCell (p:=⟨g2,i,none⟩) (.inl (.inr (.inr (.inr (.inr (.inr (.inr (.inl (by rw[HNV.out];rfl))))))))) _
 have hgx:x≠g2:=fun e=>HXK.out g2 (.inr (.inr (.inr (.inr (.inr (.inr (.inl (by rw[HNV.out];rfl)))))))) e.symm
 have hX5:At (w4.setCell ⟨g2,i,none⟩ (.int .i64 (max q (z+1)))) x 129 (m.cells ev):=HX4.out.far (p:=⟨g2,i,none⟩) hgx _
 have hA6:=hA5.ext ((Ext.refl _).drew)
 have hC6:=hC5.ext_trans ((Ext.refl _).drew)
 have hX6:=hX5.ext ((Ext.refl _).drew)
 generalize (w4.setCell ⟨g2,i,none⟩ (.int .i64 (max q (z+1)))).drew=w6 at hA6 hC6 hX6⊢
 have hp:(N.had i m.idx).nx[i]? = some (max q (z+1)):=by
  rw[←hN3]
  unfold Nd.goes
  rw[hgq,hgz]
  simp[hin2]
 have hpd:(N.had i m.idx).nx.getD i 0=max q (z+1):=by rw[List.getD_eq_getElem?_getD,hp];rfl
 have hin3:i<(N.had i m.idx).nx.length:=(List.getElem?_eq_some_iff.1 hp).1
 have HC6:=Lib.hid ((HC3.out.trans HC4.out fun k _ e=>e).trans hC6 fun k _ e=>e)
 have hhv:N.haveIn i m.idx=if max q (z+1)≤L∧m.idx=max q (z+1) - 1 then(N.had i m.idx).lacks i else N.had i m.idx:=by unfold Nd.haveIn;rw[hpd,HL.out]
 have HHV:=Lib.hid hhv
 have HC:=Lib.hid (HE1.out)
 obtain⟨p,hpz⟩:∃p,p=max q (z+1):=⟨_,rfl⟩
 have hpb:0≤p∧p≤1099511627777:=by omega
 rw[←hpz]at hp hpd HHV
 have hwp:=IntWalk.i64_in (p - 1) (by omega)
 obtain⟨g3,cap3,hnv3,hcap3,hgl3,hfz3,hcells3⟩:=q_some hA6.ns (by omega)
 have e16:=hA6.nd.cell 16
 simp[ndCells,hnv3]at e16
 have hc3:w6.cell? ⟨g3,i,none⟩=some (.int .i64 p):=by rw[hcells3 (by decide) i (by omega),List.getElem?_map,hp];rfl
 have x4:=hX6.cell 4
 simp[Ms.cells]at x4
 have clk:=lacks_may hA6.drew' HH3.out i hin3 HT.out
 have HA6:=Lib.hid hA6
 have HX6:=Lib.hid hX6
 clear hN3 hgq hgz hA5 hC5 hgx hX5 hA6 hC6 hX6 hp hpd hhv hpz hcells3 hfz3 hnv3 HC3 HC4 HX4 HA4 HX3 HNV HQ HM2 HN2 HWI HZ hc1 hc2 d15 d16 fz2 hw1 hyb hqb HE1
 go_upto_region 10 with fail
 obtain⟨fk,hfk⟩:∃fk,fk=(decide (p≤L)&&(m.idx == p - 1)):=⟨_,rfl⟩
 have HFK:=Lib.hid hfk
 clear hfk
 go_cut [108]from 87 to 108 (fun tv wx=>tv=.bool fk∧wx=w6.drew)
 case first =>
  rcases Bool.eq_false_or_eq_true (decide (p≤L))with tb|tb
  ·have HB:=Lib.hid tb
   go_wp2_with fail
   go_region
   go_wp2_with fail
   go_meet
   case rel=>exact⟨by rw[HFK.out,HB.out];rfl,rfl⟩
  ·have HB:=Lib.hid tb
   go_wp2_with fail
   go_region
   go_wp2_with fail
   go_meet
   case rel=>exact⟨by rw[HFK.out,HB.out];rfl,rfl⟩
 case rest =>
  obtain⟨rfl,rfl⟩:=hcut
  clear e16 hc3 x4 hwp
  have HR:=Lib.hid (show ∀w9,NdTo K w6.drew w9 (N.haveIn i m.idx)→NdTo K W w9 (N.haveIn i m.idx)from fun w9 hT=>NdTo.ext_next HC.out (NdTo.next rfl rfl rfl (HC6.out.ext_trans ((Ext.refl _).drew)) (fun _ h=>.inl h) hT))
  cases fk
  ·have hne:N.haveIn i m.idx=N.had i m.idx:=by
    rw[HHV.out,if_neg]
    rintro⟨c1,c2⟩
    have:=HFK.out
    rw[decide_eq_true c1,c2]at this
    simp at this
   have HE:=Lib.hid hne
   clear hne clk
   go_wp2_with fail
   first|go_end0|refine bodyPost_ret (results_none rfl _ _ _) rfl ?_
   exact⟨rfl,HR.out _ (by rw[HE.out];exact NdTo.refl HA6.out.drew')⟩
  ·have hne:N.haveIn i m.idx=(N.had i m.idx).lacks i:=by
    have h2:=HFK.out
    obtain⟨c1,c2⟩:=Bool.and_eq_true_iff.1 h2.symm
    rw[HHV.out,if_pos ⟨of_decide_eq_true c1,by simpa using c2⟩]
   have HE:=Lib.hid hne
   clear hne
   go_wp2_with fail
   refine clk.mono ?_
   rintro e w9 ⟨rfl,hT⟩
   have HFF:=Lib.hid (HR.out w9 (by rw[HE.out];exact hT))
   clear hT
   go_wp2_with fail
   first|go_end0|refine bodyPost_ret (results_none rfl _ _ _) rfl ?_
   exact⟨rfl,HFF.out⟩
end
end Go.Proofs.YtkkbfdencgdbhaaGreatDoor
namespace Go.Proofs.YtkkbfdencgdbhaaGreatDoor
open Go.RowKit Go.Sort
structure Comes_ (N:Nd) (m:Ms):Prop where
 dst:m.dst=(N.id:Int)
 frm:0≤m.frm∧m.frm<(N.n:Int)
 ne:m.frm≠(N.id:Int)
def Ka.bare(K:Ka):Ka := { K with vv:=.slice none 0 0,mv:=.slice none 0 0,nv:=.slice none 0 0 }
theorem Ka.bare_has{K:Ka}{k:Nat}(h:K.bare.has k):K.has k:=by
 rcases h with e|e|e|e|e|e|e|e|⟨v,hv,e⟩
 ·exact .inl e
 ·exact .inr (.inl e)
 ·exact .inr (.inr (.inl e))
 ·exact .inr (.inr (.inr (.inl e)))
 ·cases e
 ·cases e
 ·cases e
 ·exact .inr (.inr (.inr (.inr (.inr (.inr (.inr (.inl e)))))))
 ·exact .inr (.inr (.inr (.inr (.inr (.inr (.inr (.inr ⟨v,hv,e⟩)))))))
inductive Arm (N:Nd) (m:Ms):Nd→Prop
 | ask (hk:m.kind=1) (h0:N.s.term<m.term) (ht:m.term≤1099511627776) (hlt:m.lt=N.s.last.2) (hli:N.s.last.1≤m.idx) (hr:N.fs.tot+100≤4194304) (ho1:NdOk ((N.keep m.term 0).follow (-1))) (ho2:NdOk (((N.keep m.term 0).follow (-1)).voted1 m.frm)) (hrr:((N.keep m.term 0).follow (-1)).fs.tot+100≤4194304):Arm N m (N.askIn m)
 | vote (hk:m.kind=2) (ht:m.term=N.s.term) (hr:N.role=1) (ho:m.ok=true) (i:Nat) (hi:m.frm=(i:Int)) (hiv:i<N.votes.length) (hok:NdOk { N with votes:=N.votes.set i true }) (hlast:0≤N.s.last.1∧N.s.last.1<1099511627776) (hlen:N.s.log.length<1000) (hroom:N.fs.tot+osz N.fs.lg+100≤4194304) (hlead:NdOk ({ N with votes:=N.votes.set i true } : Nd).lead) (hl:∀K1:Ka,LackOk K1 (({ N with votes:=N.votes.set i true } : Nd).lead.add ByteArray.empty)) (hok2:NdOk (({ N with votes:=N.votes.set i true } : Nd).lead.add ByteArray.empty).sendAll):Arm N m (N.voteIn i)
 | late (hk:m.kind=2) (ht:m.term=N.s.term) (hr:N.role≠1) (ho:m.ok=true):Arm N m N
 | more (hk:m.kind=3) (ht:m.term=N.s.term) (old new:List En) (hM:MoreOk (N.heard m.frm) m old new) (ho1:NdOk (N.heard m.frm)) (ho2:NdOk { (N.heard m.frm).addN new with commit:=max (N.heard m.frm).commit (min m.cm (moreLast m)) }):Arm N m (N.moreIn m new)
 | have_ (hk:m.kind=4) (ht:m.term=N.s.term) (hr:N.role=2) (ho:m.ok=true) (i:Nat) (hi:m.frm=(i:Int)) (him:i<N.mt.length) (hin:i<N.nx.length) (hix:m.idx≤N.s.last.1) (hi0:0≤m.idx) (h1:NdOk (N.hasIt i m.idx)) (h3:NdOk (N.had i m.idx)) (htm:∃t,(N.had i m.idx).s.termAt ((N.had i m.idx).nx.getD i 0 - 1)=some t):Arm N m (N.haveIn i m.idx)
set_option maxRecDepth 100000 in
set_option maxHeartbeats 8000000 in
theorem step_any{W:World}{K:Ka}{N N':Nd}(h:NdAt W K N)(hN:NdOk N)(m:Ms)(A:Option Addr)(el ec:Nat)(hel:el=m.es.length)(hown:W.ownsRow 0 49 3 (.slice A el ec) m.es.length (enRows m.es))(hevK:∀k,some k=(Value.slice A el ec).ownBlock→¬ K.has k)(hcm:Comes_ N m)(hT:Tab W)(hTK:¬ K.has 0)(hA:Arm N m N') :
 Calls Tryz.prog 67 #[.pointer (some ⟨K.r,0,none⟩),.agg (m.cells (.slice A el ec))] W fun e w'=>e=.returned (.tuple #[])∧NdTo K W w' N':=by
 obtain⟨ev,hev⟩:∃ev,ev=Value.slice A el ec:=⟨_,rfl⟩
 have hE0:=(Ext.refl W).alloc (.cells (m.cells (.slice A el ec)) 129)
 have hX0:=At.new W 129 (m.cells (.slice A el ec))
 have hA0:=h.ext hE0
 have hxK:∀k,K.has k→k≠W.heap.size:=fun k hk e=>by have:=h.has_lt k hk;omega
 have HT0:=Lib.hid (hT.ext hE0)
 have HO0:=Lib.hid (own_ext hown hE0)
 have HEVK:=Lib.hid hevK
 have HEL:=Lib.hid hel
 have HTK:=Lib.hid hTK
 have HA:=Lib.hid hA
 have HCM:=Lib.hid hcm
 clear hT hTK hA h hown hevK hel
 go_enter Tryz.func67,Tryz.ntmps67
 go_upto_region 1 with fail
 generalize W.alloc (.cells (m.cells (.slice A el ec)) 129)=W1 at hE0 hX0 hA0 HT0 HO0⊢
 rw[←hev]at hX0⊢
 obtain⟨x,hx⟩:∃x,x=W.heap.size:=⟨_,rfl⟩
 rw[←hx]at hX0 hxK⊢
 generalize Value.agg (m.cells ev)=av
 have HXK:=Lib.hid hxK
 have HE0:=Lib.hid hE0
 have HEV:=Lib.hid hev
 have x1:=hX0.cell 1
 have x2:=hX0.cell 2
 simp[Ms.cells,hcm.dst]at x1 x2
 have d1:=hA0.nd.cell 1
 have d2:=hA0.nd.cell 2
 have d18:=hA0.nd.cell 18
 simp[ndCells]at d1 d2 d18
 have t1:(m.frm == (N.id:Int))=false:=by simpa using hcm.ne
 have t2:decide (m.frm<0)=false:=by have:=hcm.frm;simp;omega
 have t3:decide ((N.n:Int)≤m.frm)=false:=by have:=hcm.frm;simp;omega
 have HX0:=Lib.hid hX0
 have HA0:=Lib.hid hA0
 clear hx hxK hE0 hX0 hA0 hev hcm
 go_region
 go_upto_region 2 with fail
 have hE2:=HE0.out.trans ((Ext.refl W1).drew)
 have hA2:=HA0.out.drew'
 have hX2:=HX0.out.ext ((Ext.refl W1).drew)
 have HT2:=Lib.hid (HT0.out.ext ((Ext.refl W1).drew))
 have HO2:=Lib.hid (own_ext HO0.out ((Ext.refl W1).drew))
 clear x1 x2 d1 d2 d18 t1 t2 t3 HT0 HO0 HE0 HX0 HA0
 generalize W1.drew=W2 at hE2 hA2 hX2 HT2 HO2⊢
 have HE2:=Lib.hid hE2
 have HA2:=Lib.hid hA2
 have HX2:=Lib.hid hX2
 have x3:=hX2.cell 3
 simp[Ms.cells]at x3
 have d3:=hA2.nd.cell 3
 simp[ndCells]at d3
 clear hE2 hA2 hX2
 cases HA.out with
 | ask hk h0 ht hlt hli hr ho1 ho2 hrr =>
  have tg:decide (N.s.term<m.term)=true:=by simpa using h0
  have htm:0≤m.term:=by have:=hN.ts.term;omega
  have HK:=Lib.hid hk
  have HF:=Lib.hid (And.intro h0 (And.intro hlt hli))
  have HO1:=Lib.hid ho1
  have HO2':=Lib.hid ho2
  have HRR:=Lib.hid hrr
  have HR:=Lib.hid hr
  clear hk h0 hlt hli ho1 ho2 hrr hr
  go_region
  go_upto_region 3 with fail
  have hA3:=HA2.out.drew'
  have hX3:=HX2.out.ext ((Ext.refl W2).drew)
  have HT3:=Lib.hid (HT2.out.ext ((Ext.refl W2).drew))
  have HE3:=Lib.hid (HE2.out.trans ((Ext.refl W2).drew))
  clear x3 d3 tg HT2 HO2 HE2 HX2 HA2
  generalize W2.drew=W3 at hA3 hX3 HT3 HE3⊢
  have x3:=hX3.cell 3
  simp[Ms.cells]at x3
  have ck:=keep_any hA3 m.term 0 (by omega) (by omega) HR.out HT3.out
  have HX3:=Lib.hid hX3
  clear hA3 hX3
  go_wp2_with fail
  refine ck.mono ?_
  rintro e w4 ⟨rfl,hA4,hC4⟩
  clear ck x3
  have HX4:=Lib.hid (HX3.out.chg hC4 (fun hk=>HXK.out x hk rfl))
  have HT4:=Lib.hid (HT3.out.chg hC4 HTK.out)
  have HC4:=Lib.hid hC4
  have cf:=follow_any hA4 (-1)
  clear hA4 hC4
  go_wp2_with fail
  refine cf.mono ?_
  rintro e w5 ⟨rfl,hA5,hC5⟩
  clear cf
  have hX5:=HX4.out.chg hC5 (fun hk=>HXK.out x (.inl hk) rfl)
  have HT5:=Lib.hid (HT4.out.chg hC5 (fun hk=>HTK.out (.inl hk)))
  have hA5':NdAt w5 K.bare ((N.keep m.term 0).follow (-1)):=hA5
  have x0:=hX5.cell 0
  simp[Ms.cells,HK.out]at x0
  have hfr:=HCM.out.frm
  have hnn:=hN.n
  have co:=onask_any hA5' HO1.out m A el ec (by omega) rfl HF.out.2.1 HF.out.2.2 (Int.le_refl _) HRR.out HT5.out (fun hk=>HTK.out (Ka.bare_has hk)) HO2'.out
  rw[←HEV.out]at co
  have HX5:=Lib.hid hX5
  have HCO:=Lib.hid co
  have HC5:=Lib.hid hC5
  clear hA5 hA5' hX5 hC5 co hfr hnn
  go_wp2_with (refine wpList_load_mid rfl 129 _ rfl x 0 rfl (m.cells ev).toList _ HX5.out.range Tryz.underlying129 rfl msg_size ?_)
  refine HCO.out.mono ?_
  rintro e w9 ⟨rfl,hT9⟩
  have HF9:=Lib.hid (NdTo.ext_next HE3.out (NdTo.next (K':=K) rfl rfl rfl HC4.out (fun _ h=>.inl h) (NdTo.next (K':=K.bare) rfl rfl rfl (HC5.out.mono (fun k _ e=>.inl e)) (fun k hk=>.inl (Ka.bare_has hk)) hT9)))
  clear hT9
  go_wp2_with fail
  first|go_end0|refine bodyPost_ret (results_none rfl _ _ _) rfl ?_
  exact⟨rfl,HF9.out⟩
 | vote hk ht hr ho i hi hiv hok hlast hlen hroom hlead hl hok2 =>
  have tg:decide (N.s.term<m.term)=false:=by simp;omega
  have HK:=Lib.hid hk
  have HTM:=Lib.hid ht
  have HR:=Lib.hid hr
  have HO:=Lib.hid ho
  have HI:=Lib.hid hi
  have HOK:=Lib.hid hok
  have HLA:=Lib.hid hlast
  have HRM:=Lib.hid hroom
  have HLEAD:=Lib.hid hlead
  have HL:=Lib.hid hl
  have HOK2:=Lib.hid hok2
  clear hk ht hr ho hi hok hlast hroom hlead hl hok2
  go_region
  go_upto_region 5 with fail
  have hA3:=HA2.out.drew'
  have hX3:=HX2.out.ext ((Ext.refl W2).drew)
  have HT3:=Lib.hid (HT2.out.ext ((Ext.refl W2).drew))
  have HO3:=Lib.hid (own_ext HO2.out ((Ext.refl W2).drew))
  have HE3:=Lib.hid (HE2.out.trans ((Ext.refl W2).drew))
  clear x3 d3 tg HT2 HO2 HE2 HX2 HA2
  generalize W2.drew=W3 at hA3 hX3 HT3 HO3 HE3⊢
  have x0:=hX3.cell 0
  have x3:=hX3.cell 3
  have x7:=hX3.cell 7
  simp[Ms.cells,HK.out,HTM.out,HO.out]at x0 x3 x7
  have d3:=hA3.nd.cell 3
  have d9:=hA3.nd.cell 9
  simp[ndCells,HR.out]at d3 d9
  have HA3:=Lib.hid hA3
  have HX3:=Lib.hid hX3
  clear hA3 hX3
  go_wp2_with fail
  go_region
  go_upto_region 10 with fail
  have hA4:=HA3.out.drew'
  have hX4:=HX3.out.ext ((Ext.refl W3).drew)
  have HT4:=Lib.hid (HT3.out.ext ((Ext.refl W3).drew))
  have HE4:=Lib.hid (HE3.out.trans ((Ext.refl W3).drew))
  clear x0 x3 x7 d3 d9 HT3 HO3 HE3 HX3 HA3
  generalize W3.drew=W4 at hA4 hX4 HT4 HE4⊢
  obtain⟨g,cap,hvv,hcap,hgl,hfz,hcells⟩:=q_some hA4.vs (by omega)
  have d14:=hA4.nd.cell 14
  simp[ndCells,hvv]at d14
  have hci:W4.cell? ⟨g,i,none⟩=some (.bool (N.votes[i]'hiv)):=by rw[hcells (by decide) i (by omega),List.getElem?_map,List.getElem?_eq_getElem hiv];rfl
  have fzi:=hfz i
  have x1:=hX4.cell 1
  simp[Ms.cells,HI.out]at x1
  have hA5:=hA4.setvt hvv hiv true
  have hgK:K.has g:=.inr (.inr (.inr (.inr (.inl (by rw[hvv];rfl)))))
  have hC5:Chg K.has W4 (W4.setCell ⟨g,i,none⟩ (.bool true)):=(Chg.refl K.has W4).setCell (p:=⟨g,i,none⟩) (.inl hgK) _
  have hT5:=(HT4.out.chg hC5 HTK.out).ext ((Ext.refl _).drew)
  have co:=count_any hA5.drew' HOK.out HLA.out hlen HRM.out hT5 HTK.out HLEAD.out (fun K1 _=>HL.out K1) HOK2.out
  have HCO:=Lib.hid co
  have HC5:=Lib.hid (hC5.ext_trans ((Ext.refl _).drew))
  clear hA4 hX4 hvv hcells hfz hA5 hgK hC5 hT5 co
  go_region
  go_wp2_with fail
  refine HCO.out.mono ?_
  rintro e w9 ⟨rfl,hT9⟩
  have HF9:=Lib.hid (show NdTo K W w9 (N.voteIn i)from NdTo.ext_next HE4.out (NdTo.next (K':=K) rfl rfl rfl HC5.out (fun _ h=>.inl h) hT9))
  clear hT9
  go_wp2_with fail
  first|go_end0|refine bodyPost_ret (results_none rfl _ _ _) rfl ?_
  exact⟨rfl,HF9.out⟩
 | late hk ht hr ho =>
  have tg:decide (N.s.term<m.term)=false:=by simp;omega
  have tr:(N.role == 1)=false:=by simpa using hr
  have HK:=Lib.hid hk
  have HTM:=Lib.hid ht
  have HO:=Lib.hid ho
  clear hk ht hr ho
  go_region
  go_upto_region 5 with fail
  have hA3:=HA2.out.drew'
  have hX3:=HX2.out.ext ((Ext.refl W2).drew)
  have HT3:=Lib.hid (HT2.out.ext ((Ext.refl W2).drew))
  have HO3:=Lib.hid (own_ext HO2.out ((Ext.refl W2).drew))
  have HE3:=Lib.hid (HE2.out.trans ((Ext.refl W2).drew))
  clear x3 d3 tg HT2 HO2 HE2 HX2 HA2
  generalize W2.drew=W3 at hA3 hX3 HT3 HO3 HE3⊢
  have x0:=hX3.cell 0
  have x3:=hX3.cell 3
  have x7:=hX3.cell 7
  simp[Ms.cells,HK.out,HTM.out,HO.out]at x0 x3 x7
  have d3:=hA3.nd.cell 3
  have d9:=hA3.nd.cell 9
  simp[ndCells]at d3 d9
  have HF9:=Lib.hid (show NdTo K W W3.drew N from NdTo.ext_next HE3.out (NdTo.ext hA3 ((Ext.refl _).drew)))
  clear hA3 hX3
  go_wp2_with fail
  go_region
  go_wp2_with fail
  first|go_end0|refine bodyPost_ret (results_none rfl _ _ _) rfl ?_
  exact⟨rfl,HF9.out⟩
 | more hk ht old new hM ho1 ho2 =>
  have tg:decide (N.s.term<m.term)=false:=by simp;omega
  have HK:=Lib.hid hk
  have HTM:=Lib.hid ht
  have HM:=Lib.hid hM
  have HO1:=Lib.hid ho1
  have HO2':=Lib.hid ho2
  clear hk ht hM ho1 ho2
  go_region
  go_upto_region 5 with fail
  have hA3:=HA2.out.drew'
  have hX3:=HX2.out.ext ((Ext.refl W2).drew)
  have HT3:=Lib.hid (HT2.out.ext ((Ext.refl W2).drew))
  have HO3:=Lib.hid (own_ext HO2.out ((Ext.refl W2).drew))
  have HE3:=Lib.hid (HE2.out.trans ((Ext.refl W2).drew))
  clear x3 d3 tg HT2 HO2 HE2 HX2 HA2
  generalize W2.drew=W3 at hA3 hX3 HT3 HO3 HE3⊢
  have x0:=hX3.cell 0
  have x3:=hX3.cell 3
  simp[Ms.cells,HK.out,HTM.out]at x0 x3
  have d3:=hA3.nd.cell 3
  simp[ndCells]at d3
  have HA3:=Lib.hid hA3
  have HX3:=Lib.hid hX3
  clear hA3 hX3
  go_wp2_with fail
  go_region
  go_upto_region 16 with fail
  have hA4:=HA3.out.drew'
  have hX4:=HX3.out.ext ((Ext.refl W3).drew)
  have HT4:=Lib.hid (HT3.out.ext ((Ext.refl W3).drew))
  have HO4:=Lib.hid (own_ext HO3.out ((Ext.refl W3).drew))
  have HE4:=Lib.hid (HE3.out.trans ((Ext.refl W3).drew))
  clear x0 x3 d3 HT3 HO3 HE3 HX3 HA3
  generalize W3.drew=W4 at hA4 hX4 HT4 HO4 HE4⊢
  have cf:=follow_any hA4 m.frm
  have x1:=hX4.cell 1
  simp[Ms.cells]at x1
  have HX4:=Lib.hid hX4
  clear hA4 hX4
  go_wp2_with fail
  refine cf.mono ?_
  rintro e w5 ⟨rfl,hA5,hC5⟩
  clear cf x1
  have hrw:∀k,some k=(Value.slice A el ec).ownBlock→k≠K.r:=fun k hk e=>HEVK.out k hk (.inl e)
  have hX5:=HX4.out.chg hC5 (fun hk=>HXK.out x (.inl hk) rfl)
  have hT5:=HT4.out.chg hC5 (fun hk=>HTK.out (.inl hk))
  have hO5:=q_keep HO4.out hC5 hrw
  have hA5':NdAt w5 K.bare (N.follow m.frm):=hA5
  have d13:=hA5'.nd.cell 13
  have f13:w5.frozen? ⟨K.r,13,none⟩=false:=hA5'.nd.frozen 13
  have hlt:K.r<w5.heap.size:=hA5'.nd.lt
  simp[ndCells,Ka.bare]at d13
  have hA6:NdAt (w5.setCell ⟨K.r,13,none⟩ (.int .i64 0)) K.bare (N.heard m.frm):=hA5'.set rfl rfl rfl rfl rfl rfl rfl
  have hC6:Chg (fun k=>k=K.r) w5 (w5.setCell ⟨K.r,13,none⟩ (.int .i64 0)):=(Chg.refl (fun k=>k=K.r) w5).setCell (p:=⟨K.r,13,none⟩) (.inl rfl) _
  have hX6:=hX5.chg hC6 (fun hk=>HXK.out x (.inl hk) rfl)
  have hT6:=hT5.chg hC6 (fun hk=>HTK.out (.inl hk))
  have hO6:=q_keep hO5 hC6 hrw
  have x0:=hX6.cell 0
  simp[Ms.cells,HK.out]at x0
  have co:=onmore_any hA6 HO1.out m (.slice A el ec) old new HM.out hO6 (fun k hk hs=>HEVK.out k hk (Ka.bare_has hs)) hT6 (fun hk=>HTK.out (Ka.bare_has hk)) HO2'.out
  rw[←HEV.out,show K.bare.r=K.r from rfl]at co
  have HX6:=Lib.hid hX6
  have HCO:=Lib.hid co
  have HC6:=Lib.hid (hC5.trans hC6 (fun k _ e=>e))
  have x0':=x0
  clear hrw hX5 hT5 hO5 hA5 hA5' hA6 hX6 hT6 hO6 hC5 hC6 co x0
  go_wp2_with (refine wpList_load_mid rfl 129 _ rfl x 0 rfl (m.cells ev).toList _ HX6.out.range Tryz.underlying129 rfl msg_size ?_)
  refine HCO.out.mono ?_
  rintro e w9 ⟨rfl,hT9⟩
  have HF9:=Lib.hid (show NdTo K W w9 (N.moreIn m new)from NdTo.ext_next HE4.out (NdTo.next (K':=K.bare) rfl rfl rfl (HC6.out.mono (fun k _ e=>.inl e)) (fun k hk=>.inl (Ka.bare_has hk)) hT9))
  clear hT9
  go_wp2_with fail
  first|go_end0|refine bodyPost_ret (results_none rfl _ _ _) rfl ?_
  exact⟨rfl,HF9.out⟩
 | have_ hk ht hr ho i hi him hin hix hi0 h1 h3 htm =>
  have tg:decide (N.s.term<m.term)=false:=by simp;omega
  have HK:=Lib.hid hk
  have HTM:=Lib.hid ht
  have HR:=Lib.hid hr
  have HC:=Lib.hid (fun(w:World) (hA:NdAt w K N)=>onhave_any hA hN m A el ec i hi him hin ho hix hi0 h1 h3 htm)
  clear hk ht hr ho hi hix h1 h3 htm
  go_region
  go_upto_region 5 with fail
  have hA3:=HA2.out.drew'
  have hX3:=HX2.out.ext ((Ext.refl W2).drew)
  have HT3:=Lib.hid (HT2.out.ext ((Ext.refl W2).drew))
  have HO3:=Lib.hid (own_ext HO2.out ((Ext.refl W2).drew))
  have HE3:=Lib.hid (HE2.out.trans ((Ext.refl W2).drew))
  clear x3 d3 tg HT2 HO2 HE2 HX2 HA2
  generalize W2.drew=W3 at hA3 hX3 HT3 HO3 HE3⊢
  have x0:=hX3.cell 0
  have x3:=hX3.cell 3
  simp[Ms.cells,HK.out,HTM.out]at x0 x3
  have d3:=hA3.nd.cell 3
  have d9:=hA3.nd.cell 9
  simp[ndCells,HR.out]at d3 d9
  have HA3:=Lib.hid hA3
  have HX3:=Lib.hid hX3
  clear hA3 hX3
  go_wp2_with fail
  go_region
  go_upto_region 23 with fail
  have hA4:=HA3.out.drew'
  have hX4:=HX3.out.ext ((Ext.refl W3).drew)
  have HE4:=Lib.hid (HE3.out.trans ((Ext.refl W3).drew))
  clear x0 x3 d3 d9 HT3 HO3 HE3 HX3 HA3
  generalize W3.drew=W4 at hA4 hX4 HE4⊢
  have co:=HC.out W4 hA4
  rw[←HEV.out]at co
  have HCO:=Lib.hid co
  have HX6:=Lib.hid hX4
  clear hA4 hX4 co
  go_wp2_with (refine wpList_load_mid rfl 129 _ rfl x 0 rfl (m.cells ev).toList _ HX6.out.range Tryz.underlying129 rfl msg_size ?_)
  refine HCO.out.mono ?_
  rintro e w9 ⟨rfl,hT9⟩
  have HF9:=Lib.hid (show NdTo K W w9 (N.haveIn i m.idx)from NdTo.ext_next HE4.out hT9)
  clear hT9
  go_wp2_with fail
  first|go_end0|refine bodyPost_ret (results_none rfl _ _ _) rfl ?_
  exact⟨rfl,HF9.out⟩
end Go.Proofs.YtkkbfdencgdbhaaGreatDoor
