/-
  The document's disk (glacierref04): Remove.
-/
import Derived.Test.YteleafbfdfipdaaPp7
namespace Go.Proofs.Yteleafbfdfipdaa
open Go.RowKit Go.Sort

def rm1 (L : List FRow) (n : ByteArray) : List FRow := setL n ⟨false, ⟨#[]⟩, (getF n L).st, (getF n L).sx⟩ L
def rmL (L : List FRow) (ns : List ByteArray) : List FRow := ns.foldl rm1 L
def allIn (L : List FRow) (ns : List ByteArray) : Bool := ns.all fun n => (getF n L).nt
def removeR (lost : Bool) (armed : Int) (L : List FRow) (ns : List ByteArray) : Int × List FRow :=
  if tryE lost armed ≠ 0 then (tryE lost armed, L) else if allIn L ns then (0, rmL L ns) else (5, L)
theorem rmL_take {L : List FRow} {ns : List ByteArray} {k : Nat} {n : ByteArray} (h : ns[k]? = some n) : rmL L (ns.take (k + 1)) = rm1 (rmL L (ns.take k)) n := by
  unfold rmL
  rw [List.take_add_one, h]
  simp
theorem rmL_length (L : List FRow) (ns : List ByteArray) : (rmL L ns).length ≤ L.length + ns.length := by
  unfold rmL
  induction ns generalizing L with
  | nil => simp
  | cons n r ih =>
    have := ih (rm1 L n)
    have h2 := setL_length n ⟨false, ⟨#[]⟩, (getF n L).st, (getF n L).sx⟩ L
    rw [List.foldl_cons, List.length_cons]
    unfold rm1 at this ⊢
    omega
theorem rfield_now (x y z : Value) (n a : Value) (w : World) : (Instr.field 60 (.agg #[n, a, x, y, z]) 1).run Try.prog w = .ok (.agg #[a, x]) w := by kernel_rfl
theorem rfield_there (a x : Value) (w : World) : (Instr.field 58 (.agg #[a, x]) 0).run Try.prog w = .ok a w := by kernel_rfl

set_option maxRecDepth 100000 in
set_option maxHeartbeats 2000000 in
theorem rremove_any (w : World) (lv : Value) (room : Int) (lost : Bool) (armed : Int) (L : List FRow) (h : RkS w lv L) (h0 : 0 ≤ armed) (h1 : armed ≤ 4611686018427387904) (v : Value) (ns : List ByteArray) (hS : Sl w v (ns.map Value.string)) (hn : ns.length ≤ 1000) (hl : L.length ≤ 100000) :
    Calls Try.prog 29 #[.agg #[lv, .int .i64 room, .bool lost, .int .i64 (armed - 1)], v] w fun e w' =>
      ∃ lv', e = .returned (.tuple #[.agg #[lv', .int .i64 room, .bool lost, .int .i64 (tryA lost armed - 1)], .int .i64 (removeR lost armed L ns).1]) ∧ RkIn w' lv' (removeR lost armed L ns).2 ∧ Ext w w' := by
  obtain ⟨A, c, rfl⟩ := rk_slice h.in_
  obtain ⟨NA, nc, hv⟩ : ∃ NA nc, v = .slice NA ns.length nc := by obtain ⟨a, b, h, _⟩ := hS; exact ⟨a, b, by rw [h, List.length_map]⟩
  subst hv
  have hct := fun wx => rtry_any wx (.slice A L.length c) ⟨_, _, _, rfl⟩ room lost armed h0 h1
  obtain ⟨fl, hfl⟩ : ∃ fl, fl = armed - 1 := ⟨_, rfl⟩
  obtain ⟨a2, ha2⟩ : ∃ fl, fl = tryA lost armed - 1 := ⟨_, rfl⟩
  obtain ⟨er, her⟩ : ∃ fl, fl = tryE lost armed := ⟨_, rfl⟩
  rw [← hfl, ← ha2, ← her] at hct
  have HPR : Hid (∀ a b, removeR lost armed L ns = (a, b) → (removeR lost armed L ns).1 = a ∧ (removeR lost armed L ns).2 = b) := Lib.hid (fun a b hh => by rw [hh]; exact ⟨rfl, rfl⟩)
  have HPU : Hid (removeR lost armed L ns = if er ≠ 0 then (er, L) else if allIn L ns then (0, rmL L ns) else (5, L)) := Lib.hid (by rw [her]; rfl)
  generalize hPR : removeR lost armed L ns = PR at HPR HPU ⊢
  clear hPR
  rw [← hfl, ← ha2]
  clear hfl ha2 her h0 h1
  have hE : Ext w ((w.alloc (.cells #[.slice A L.length c, .int .i64 room, .bool lost, .int .i64 fl] 29)).alloc (.cells #[.slice none 0 0, .int .i64 0, .bool false, .int .i64 0] 29)) := ((Ext.refl w).alloc _).alloc _
  have hX : At ((w.alloc (.cells #[.slice A L.length c, .int .i64 room, .bool lost, .int .i64 fl] 29)).alloc (.cells #[.slice none 0 0, .int .i64 0, .bool false, .int .i64 0] 29)) w.heap.size 29 #[.slice A L.length c, .int .i64 room, .bool lost, .int .i64 fl] := (At.new _ _ _).alloc _
  have hZ : At ((w.alloc (.cells #[.slice A L.length c, .int .i64 room, .bool lost, .int .i64 fl] 29)).alloc (.cells #[.slice none 0 0, .int .i64 0, .bool false, .int .i64 0] 29)) (w.heap.size + 1) 29 #[.slice none 0 0, .int .i64 0, .bool false, .int .i64 0] := At.new_eq (by simp) _ _
  go_enter Try.func29, Try.ntmps29
  go_upto_region 1 with fail
  generalize (w.alloc _).alloc _ = W at hE hX hZ ⊢
  have hxz : w.heap.size ≠ w.heap.size + 1 := by omega
  have hwx : w.heap.size ≤ w.heap.size := Nat.le_refl _
  have hwz : w.heap.size ≤ w.heap.size + 1 := by omega
  generalize hzb : w.heap.size + 1 = zb at *
  obtain ⟨xb, hxb⟩ : ∃ xb, xb = w.heap.size := ⟨_, rfl⟩
  rw [← hxb] at hX hxz ⊢
  replace hwx : w.heap.size ≤ xb := by omega
  clear hzb hxb
  have x0 := hX.cell 0
  have x1 := hX.cell 1
  have x2 := hX.cell 2
  have x3 := hX.cell 3
  simp at x0 x1 x2 x3
  go_wp2_with fail
  refine (hct W).mono ?_
  rintro e w1 ⟨rfl, hE1⟩
  replace hX := hX.ext hE1
  replace hZ := hZ.ext hE1
  replace hE := hE.trans hE1
  clear x0 x1 x2 x3 hE1 hct
  have x0 := hX.cell 0
  have x1 := hX.cell 1
  have x2 := hX.cell 2
  have x3 := hX.cell 3
  have fr0 := hX.frozen 0
  have fr1 := hX.frozen 1
  have fr2 := hX.frozen 2
  have fr3 := hX.frozen 3
  simp at x0 x1 x2 x3
  go_upto_region 2 with fail
  have hX2 : At ((((w1.setCell ⟨xb, 0, none⟩ (.slice A L.length c)).setCell ⟨xb, 1, none⟩ (.int .i64 room)).setCell ⟨xb, 2, none⟩ (.bool lost)).setCell ⟨xb, 3, none⟩ (.int .i64 a2)) xb 29 #[.slice A L.length c, .int .i64 room, .bool lost, .int .i64 a2] := at_anew hX (vs := #[.slice A L.length c, .int .i64 room, .bool lost, .int .i64 a2]) rfl
  have hCx : Chg (· = xb) w1 ((((w1.setCell ⟨xb, 0, none⟩ (.slice A L.length c)).setCell ⟨xb, 1, none⟩ (.int .i64 room)).setCell ⟨xb, 2, none⟩ (.bool lost)).setCell ⟨xb, 3, none⟩ (.int .i64 a2)) := chg_setAll w1 xb [.slice A L.length c, .int .i64 room, .bool lost, .int .i64 a2] 0 w1 (Chg.refl _ _)
  have hE2 : Ext w ((((w1.setCell ⟨xb, 0, none⟩ (.slice A L.length c)).setCell ⟨xb, 1, none⟩ (.int .i64 room)).setCell ⟨xb, 2, none⟩ (.bool lost)).setCell ⟨xb, 3, none⟩ (.int .i64 a2)) := ext_anew hwx [.slice A L.length c, .int .i64 room, .bool lost, .int .i64 a2] 0 _ hE
  replace hZ := hZ.chg hCx (fun e => hxz e.symm)
  clear x0 x1 x2 x3 fr0 fr1 fr2 fr3 hX hCx hE
  generalize ((((w1.setCell ⟨xb, 0, none⟩ (.slice A L.length c)).setCell ⟨xb, 1, none⟩ (.int .i64 room)).setCell ⟨xb, 2, none⟩ (.bool lost)).setCell ⟨xb, 3, none⟩ (.int .i64 a2)) = W2 at hX2 hZ hE2 ⊢
  have x0 := hX2.cell 0
  have x1 := hX2.cell 1
  have x2 := hX2.cell 2
  have x3 := hX2.cell 3
  simp at x0 x1 x2 x3
  by_cases he : er = 0
  · have he2 : (er != 0) = false := by simpa using he
    rw [if_neg (by simpa using he)] at HPU
    clear he
    go_wp2_with fail
    clear x0 x1 x2 x3
    go_loopw [23] (fun kv wr => ∃ k : Nat, kv = .int .i64 (k : Int) ∧ k ≤ ns.length ∧ Hid (allIn L ns = allIn L (ns.drop k)) ∧ Ext W2 wr) (fun kv _ => ns.length - (intOf kv).toNat)
    case atStart => exact ⟨0, rfl, Nat.zero_le _, Lib.hid rfl, Ext.refl _⟩
    case round =>
      obtain ⟨k, rfl, hk, HPL, hEr⟩ := hrel
      have hXr := hX2.ext hEr
      have hEw := hE2.trans hEr
      have hSr := hS.ext hEw
      by_cases hlt : k < ns.length
      · obtain ⟨n, hb⟩ : ∃ q, ns[k]? = some q := ⟨_, List.getElem?_eq_getElem hlt⟩
        have hpl := HPL.out
        rw [drop_some hb] at hpl
        replace HPL := Lib.hid hpl
        clear hpl
        obtain ⟨rb, ro, rfl, hcc⟩ : ∃ b o, NA = some ⟨b, o, none⟩ ∧ wr.cell? ⟨b, o + k, none⟩ = some (.string n) := by
          obtain ⟨A', c', hv, hx⟩ := hSr
          simp only [Value.slice.injEq] at hv
          obtain ⟨b, o, rfl, hc⟩ := hx (fun e => by rw [List.map_eq_nil_iff] at e; rw [e] at hb; simp at hb)
          exact ⟨b, o, hv.1, hc k _ (by rw [List.getElem?_map, hb]; rfl)⟩
        clear hb
        go_upto_region 7 with fail
        clear hcc
        have x0 := hXr.cell 0
        have x1 := hXr.cell 1
        have x2 := hXr.cell 2
        have x3 := hXr.cell 3
        simp at x0 x1 x2 x3
        go_wp2_with fail
        refine (rfind_any wr _ room a2 lost L (h.in_.ext hEw) n h.len).mono ?_
        rintro e w3 ⟨rfl, hE3⟩
        have HG : Hid (allIn L (n :: ns.drop (k + 1)) = ((getF n L).nt && allIn L (ns.drop (k + 1)))) := Lib.hid rfl
        generalize getF n L = g at HG ⊢
        obtain ⟨n1, s1, n2, s2⟩ := g
        simp only at HG
        have hc0 := fun wx => rfield_now (.string s1) (.bool n2) (.string s2) (.string n) (.bool n1) wx
        have hc1 := fun wx => rfield_there (.bool n1) (.string s1) wx
        have hX3 := hXr.ext hE3
        have hZ3 := hZ.ext (hEr.trans hE3)
        have hE4 := hEr.trans hE3
        have hE5 := hEw.trans hE3
        clear x0 x1 x2 x3 hXr hEr hEw hSr hE3
        cases n1
        · have hfin : allIn L ns = false := by rw [HPL.out, HG.out]; rfl
          rw [hfin, if_neg Bool.false_ne_true] at HPU
          obtain ⟨p1, p2⟩ := HPR.out _ _ HPU.out
          have HP := Lib.hid (And.intro p1 p2)
          clear p1 p2 hfin
          have x0 := hX3.cell 0
          have x1 := hX3.cell 1
          have x2 := hX3.cell 2
          have x3 := hX3.cell 3
          simp at x0 x1 x2 x3
          have z0 := hZ3.cell 0
          have z1 := hZ3.cell 1
          have z2 := hZ3.cell 2
          have z3 := hZ3.cell 3
          have g0 := hZ3.frozen 0
          have g1 := hZ3.frozen 1
          have g2 := hZ3.frozen 2
          have g3 := hZ3.frozen 3
          simp at z0 z1 z2 z3
          go_wp2_with fail
          have hZ9 := at_anew hZ3 (vs := #[.slice A L.length c, .int .i64 room, .bool lost, .int .i64 a2]) rfl
          refine bodyPost_ret (v := .tuple #[.agg #[.slice A L.length c, .int .i64 room, .bool lost, .int .i64 a2], .int .i64 5]) (results_ct Try.results29 _ rfl (hZ9.loadv Try.underlying29 rfl (by kernel_rfl))) rfl ?_
          have hE9 := ext_anew hwz [.slice A L.length c, .int .i64 room, .bool lost, .int .i64 a2] 0 _ hE5
          obtain ⟨p1, p2⟩ := HP.out
          exact ⟨_, by rw [p1], by rw [p2]; exact h.in_.ext hE9, hE9⟩
        · go_wp2_with fail
          go_roundw
          case rel => exact ⟨k + 1, by go_num, by omega, Lib.hid (by rw [HPL.out, HG.out]; rfl), hE4⟩
          case measure => simp [intOf]; omega
      · obtain rfl : k = ns.length := by omega
        have hfin : allIn L ns = true := by rw [HPL.out, List.drop_length]; rfl
        rw [hfin, if_pos rfl] at HPU
        obtain ⟨p1, p2⟩ := HPR.out _ _ HPU.out
        have HP := Lib.hid (And.intro p1 p2)
        have hZr := hZ.ext hEr
        have hRr := h.in_.ext hEw
        have hl2 := h.len
        clear p1 p2 hfin HPL HPU hX2 hZ hE2 hSr
        go_wp2_with fail
        go_loopw [37] (fun kv wx => ∃ (k : Nat) (B : Option Addr) (c2 : Nat) (Lk : List FRow), kv = .int .i64 (k : Int) ∧ k ≤ ns.length ∧ Lk.length ≤ L.length + k ∧ Hid (rmL L (ns.take k) = Lk) ∧ At wx xb 29 #[.slice B Lk.length c2, .int .i64 room, .bool lost, .int .i64 a2] ∧ RkIn wx (.slice B Lk.length c2) Lk ∧ At wx zb 29 #[.slice none 0 0, .int .i64 0, .bool false, .int .i64 0] ∧ Ext w wx) (fun kv _ => ns.length - (intOf kv).toNat)
        case atStart => exact ⟨0, A, c, L, rfl, Nat.zero_le _, by omega, Lib.hid rfl, hXr, hRr, hZr, hEw⟩
        case round =>
          skip
          clear hXr hRr hZr hEw hEr
          obtain ⟨k, B, c2, Lk, rfl, hk2, hLk, HPL, hX, hR, hZ, hE⟩ := hrel
          have hSr := hS.ext hE
          by_cases hlt : k < ns.length
          · obtain ⟨n, hb⟩ : ∃ q, ns[k]? = some q := ⟨_, List.getElem?_eq_getElem hlt⟩
            have HRT := Lib.hid (rmL_take (L := L) hb)
            obtain ⟨rb, ro, rfl, hcc⟩ : ∃ b o, NA = some ⟨b, o, none⟩ ∧ wr.cell? ⟨b, o + k, none⟩ = some (.string n) := by
              obtain ⟨A', c', hv, hx⟩ := hSr
              simp only [Value.slice.injEq] at hv
              obtain ⟨b, o, rfl, hc⟩ := hx (fun e => by rw [List.map_eq_nil_iff] at e; rw [e] at hb; simp at hb)
              exact ⟨b, o, hv.1, hc k _ (by rw [List.getElem?_map, hb]; rfl)⟩
            clear hb hSr
            go_upto_region 13 with fail
            clear hcc
            have x0 := hX.cell 0
            have x1 := hX.cell 1
            have x2 := hX.cell 2
            have x3 := hX.cell 3
            simp at x0 x1 x2 x3
            go_wp2_with fail
            refine (rfind_any wr _ room a2 lost Lk hR n (by omega)).mono ?_
            rintro e w3 ⟨rfl, hE3⟩
            go_upto_region 14 with fail
            have HRM : Hid (rm1 Lk n = setL n ⟨false, ⟨#[]⟩, (getF n Lk).st, (getF n Lk).sx⟩ Lk) := Lib.hid rfl
            generalize getF n Lk = g at HRM ⊢
            obtain ⟨n1, s1, n2, s2⟩ := g
            simp only at HRM
            have hF := At.new w3 60 #[.string n, .bool n1, .string s1, .bool n2, .string s2]
            have hX3 := (hX.ext hE3).alloc (.cells #[.string n, .bool n1, .string s1, .bool n2, .string s2] 60)
            have hZ3 := (hZ.ext hE3).alloc (.cells #[.string n, .bool n1, .string s1, .bool n2, .string s2] 60)
            have hE4 := (hE.trans hE3).alloc (.cells #[.string n, .bool n1, .string s1, .bool n2, .string s2] 60)
            have hR4 := hR.ext (hE3.alloc (.cells #[.string n, .bool n1, .string s1, .bool n2, .string s2] 60))
            have hfx : xb ≠ w3.heap.size := fun e => by have := (hX.ext hE3).lt; omega
            have hfz : zb ≠ w3.heap.size := fun e => by have := (hZ.ext hE3).lt; omega
            have hfr : ∀ b o n c, Value.slice B Lk.length c2 = .slice (some ⟨b, o, none⟩) n c → Lk.map frow ≠ [] → ¬ b = w3.heap.size := fun b o n c e hne => by
              have := Sln.block_lt (Sln.ext hR hE3) (fun r hr => by obtain ⟨p, _, rfl⟩ := List.mem_map.1 hr; simp [frow]) b o n c e hne
              omega
            have hwf : w.heap.size ≤ w3.heap.size := (hE.trans hE3).size
            clear x0 x1 x2 x3 hX hZ hE hE3 hR
            generalize w3.heap.size = fb at *
            generalize w3.alloc _ = w4 at *
            have q1 := hF.cell 1
            have q2 := hF.cell 2
            have k1 := hF.frozen 1
            have k2 := hF.frozen 2
            simp at q1 q2
            go_upto_region 15 with fail
            have hF5 : At ((w4.setCell ⟨fb, 1, none⟩ (.bool false)).setCell ⟨fb, 2, none⟩ (.string ⟨#[]⟩)) fb 60 #[.string n, .bool false, .string ⟨#[]⟩, .bool n2, .string s2] := (hF.set 1 _).set 2 _
            have hX5 : At ((w4.setCell ⟨fb, 1, none⟩ (.bool false)).setCell ⟨fb, 2, none⟩ (.string ⟨#[]⟩)) xb 29 #[.slice B Lk.length c2, .int .i64 room, .bool lost, .int .i64 a2] := (hX3.far hfx _).far hfx _
            have hZ5 : At ((w4.setCell ⟨fb, 1, none⟩ (.bool false)).setCell ⟨fb, 2, none⟩ (.string ⟨#[]⟩)) zb 29 #[.slice none 0 0, .int .i64 0, .bool false, .int .i64 0] := (hZ3.far hfz _).far hfz _
            have hE5 : Ext w ((w4.setCell ⟨fb, 1, none⟩ (.bool false)).setCell ⟨fb, 2, none⟩ (.string ⟨#[]⟩)) := (hE4.setCell hwf _).setCell hwf _
            have hR5 : RkIn ((w4.setCell ⟨fb, 1, none⟩ (.bool false)).setCell ⟨fb, 2, none⟩ (.string ⟨#[]⟩)) (.slice B Lk.length c2) Lk := Sln.chg hR4 (((Chg.refl (· = fb) w4).setCell (p := ⟨fb, 1, none⟩) (.inl rfl) _).setCell (p := ⟨fb, 2, none⟩) (.inl rfl) _) hfr
            clear q1 q2 k1 k2 hF hX3 hZ3 hE4 hR4 hfr
            generalize ((w4.setCell ⟨fb, 1, none⟩ (.bool false)).setCell ⟨fb, 2, none⟩ (.string ⟨#[]⟩)) = w6 at hF5 hX5 hZ5 hE5 hR5 ⊢
            have x0 := hX5.cell 0
            have x1 := hX5.cell 1
            have x2 := hX5.cell 2
            have x3 := hX5.cell 3
            simp at x0 x1 x2 x3
            have q0 := hF5.cell 0
            have q1 := hF5.cell 1
            have q2 := hF5.cell 2
            have q3 := hF5.cell 3
            have q4 := hF5.cell 4
            simp at q0 q1 q2 q3 q4
            go_wp2_with fail
            refine (rset_any w6 _ room a2 lost Lk hR5 (by omega) n ⟨false, ⟨#[]⟩, n2, s2⟩).mono ?_
            rintro e w7 ⟨lv3, rfl, hR7, hE7⟩
            obtain ⟨D2, c3, rfl⟩ := rk_slice hR7
            have hlen3 := setL_length n ⟨false, ⟨#[]⟩, n2, s2⟩ Lk
            have HN : Hid (rmL L (ns.take (k + 1)) = setL n ⟨false, ⟨#[]⟩, n2, s2⟩ Lk) := Lib.hid (by rw [HRT.out, HPL.out, HRM.out])
            generalize setL n ⟨false, ⟨#[]⟩, n2, s2⟩ Lk = L3 at HN hR7 hlen3 ⊢
            have hX7 := hX5.ext hE7
            have hZ7 := hZ5.ext hE7
            have hE8 := hE5.trans hE7
            clear x0 x1 x2 x3 q0 q1 q2 q3 q4 hF5 hX5 hZ5 hE5 hR5 hE7
            have x0 := hX7.cell 0
            have x1 := hX7.cell 1
            have x2 := hX7.cell 2
            have x3 := hX7.cell 3
            have fr0 := hX7.frozen 0
            have fr1 := hX7.frozen 1
            have fr2 := hX7.frozen 2
            have fr3 := hX7.frozen 3
            simp at x0 x1 x2 x3
            go_upto_region 16 with fail
            have hX8 : At ((((w7.setCell ⟨xb, 0, none⟩ (.slice D2 L3.length c3)).setCell ⟨xb, 1, none⟩ (.int .i64 room)).setCell ⟨xb, 2, none⟩ (.bool lost)).setCell ⟨xb, 3, none⟩ (.int .i64 a2)) xb 29 #[.slice D2 L3.length c3, .int .i64 room, .bool lost, .int .i64 a2] := at_anew hX7 (vs := #[.slice D2 L3.length c3, .int .i64 room, .bool lost, .int .i64 a2]) rfl
            have hCx : Chg (· = xb) w7 ((((w7.setCell ⟨xb, 0, none⟩ (.slice D2 L3.length c3)).setCell ⟨xb, 1, none⟩ (.int .i64 room)).setCell ⟨xb, 2, none⟩ (.bool lost)).setCell ⟨xb, 3, none⟩ (.int .i64 a2)) := chg_setAll w7 xb [.slice D2 L3.length c3, .int .i64 room, .bool lost, .int .i64 a2] 0 w7 (Chg.refl _ _)
            have hZ8 := hZ7.chg hCx (fun e => hxz e.symm)
            have hR8 := Sln.chg hR7 hCx (rk_apart hR7 hX7 dz_nostr)
            have hE9 : Ext w ((((w7.setCell ⟨xb, 0, none⟩ (.slice D2 L3.length c3)).setCell ⟨xb, 1, none⟩ (.int .i64 room)).setCell ⟨xb, 2, none⟩ (.bool lost)).setCell ⟨xb, 3, none⟩ (.int .i64 a2)) := ext_anew hwx [.slice D2 L3.length c3, .int .i64 room, .bool lost, .int .i64 a2] 0 _ hE8
            clear x0 x1 x2 x3 fr0 fr1 fr2 fr3 hX7 hZ7 hE8 hR7 hCx
            generalize ((((w7.setCell ⟨xb, 0, none⟩ (.slice D2 L3.length c3)).setCell ⟨xb, 1, none⟩ (.int .i64 room)).setCell ⟨xb, 2, none⟩ (.bool lost)).setCell ⟨xb, 3, none⟩ (.int .i64 a2)) = w8 at hX8 hZ8 hR8 hE9 ⊢
            go_wp2_with fail
            go_roundw
            case rel => exact ⟨k + 1, D2, c3, L3, by go_num, by omega, by omega, HN, hX8, hR8, hZ8, hE9⟩
            case measure => simp [intOf]; omega
          · obtain rfl : k = ns.length := by omega
            rw [List.take_length] at HPL
            have x0 := hX.cell 0
            have x1 := hX.cell 1
            have x2 := hX.cell 2
            have x3 := hX.cell 3
            simp at x0 x1 x2 x3
            have z0 := hZ.cell 0
            have z1 := hZ.cell 1
            have z2 := hZ.cell 2
            have z3 := hZ.cell 3
            have g0 := hZ.frozen 0
            have g1 := hZ.frozen 1
            have g2 := hZ.frozen 2
            have g3 := hZ.frozen 3
            simp at z0 z1 z2 z3
            go_wp2_with fail
            have hZ9 := at_anew hZ (vs := #[.slice B Lk.length c2, .int .i64 room, .bool lost, .int .i64 a2]) rfl
            refine bodyPost_ret (v := .tuple #[.agg #[.slice B Lk.length c2, .int .i64 room, .bool lost, .int .i64 a2], .int .i64 0]) (results_ct Try.results29 _ rfl (hZ9.loadv Try.underlying29 rfl (by kernel_rfl))) rfl ?_
            have hE9 := ext_anew hwz [.slice B Lk.length c2, .int .i64 room, .bool lost, .int .i64 a2] 0 _ hE
            obtain ⟨p1, p2⟩ := HP.out
            exact ⟨_, by rw [p1], by rw [p2, HPL.out]; exact Sln.chg hR (chg_setAll wr zb [.slice B Lk.length c2, .int .i64 room, .bool lost, .int .i64 a2] 0 wr (Chg.refl _ _)) (rk_apart hR hZ dz_nostr), hE9⟩
  · have he2 : (er != 0) = true := by simpa using he
    rw [if_pos he] at HPU
    obtain ⟨p1, p2⟩ := HPR.out _ _ HPU.out
    have HP := Lib.hid (And.intro p1 p2)
    clear p1 p2 he
    have z0 := hZ.cell 0
    have z1 := hZ.cell 1
    have z2 := hZ.cell 2
    have z3 := hZ.cell 3
    have g0 := hZ.frozen 0
    have g1 := hZ.frozen 1
    have g2 := hZ.frozen 2
    have g3 := hZ.frozen 3
    simp at z0 z1 z2 z3
    go_wp2_with fail
    have hZ9 := at_anew hZ (vs := #[.slice A L.length c, .int .i64 room, .bool lost, .int .i64 a2]) rfl
    refine bodyPost_ret (v := .tuple #[.agg #[.slice A L.length c, .int .i64 room, .bool lost, .int .i64 a2], .int .i64 er]) (results_ct Try.results29 _ rfl (hZ9.loadv Try.underlying29 rfl (by kernel_rfl))) rfl ?_
    have hE9 := ext_anew hwz [.slice A L.length c, .int .i64 room, .bool lost, .int .i64 a2] 0 _ hE2
    obtain ⟨p1, p2⟩ := HP.out
    exact ⟨_, by rw [p1], by rw [p2]; exact h.in_.ext hE9, hE9⟩
end Go.Proofs.Yteleafbfdfipdaa
