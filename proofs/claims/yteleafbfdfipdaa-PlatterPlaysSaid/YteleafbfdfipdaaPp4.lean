/-
  The document's disk (glacierref04): Put.
-/
import Derived.Test.YteleafbfdfipdaaPp3
import Derived.Lib.QuietBelow
namespace Go.Proofs.Yteleafbfdfipdaa
open Go.RowKit Go.Sort

structure RkS (w : World) (lv : Value) (L : List FRow) : Prop where
  in_ : RkIn w lv L
  len : L.length ≤ 1000000
  sml : ∀ p ∈ L, p.2.nx.size ≤ 1000000 ∧ p.2.sx.size ≤ 1000000
theorem RkS.ext {w w' : World} {lv : Value} {L : List FRow} (h : RkS w lv L) (hE : Ext w w') : RkS w' lv L := ⟨h.in_.ext hE, h.len, h.sml⟩
theorem RkS.slc {w : World} {lv : Value} {L : List FRow} (h : RkS w lv L) : ∃ A n c, lv = .slice A n c := by
  obtain ⟨A, c, hv⟩ := rk_slice h.in_; exact ⟨A, _, c, hv⟩
theorem used_re (W : World) (lv : Value) (room fail : Int) (lost : Bool) (L : List FRow) (h : RkS W lv L) (dd : Nat) (os : Array Obj) :
    Calls Try.prog 9 #[.agg #[lv, .int .i64 room, .bool lost, .int .i64 fail]] (grow (redrawn W dd) os) fun e w'' => e = .returned (.int .i64 (usedL L)) ∧ ∃ p : Regrown, w'' = grow (redrawn W p.d) p.os :=
  Calls.ext_of (rused_any _ lv room fail lost L (h.in_.ext (ext_regrown W dd os)) h.len h.sml)
theorem setGo_length (n : ByteArray) (f : Fl) : ∀ (L : List FRow) (dn : Bool), (setGo n f L dn).length ≤ L.length + 1
  | [], dn => by cases dn <;> simp [setGo]
  | (x, g) :: r, dn => by
    rw [setGo_cons]
    split
    · have := setGo_length n f r dn; simp; omega
    · split
      · have h : ∀ r : List FRow, (setGo n f r true).length ≤ r.length := by
          intro r
          induction r with
          | nil => simp [setGo]
          | cons p r ih => obtain ⟨y, h⟩ := p; rw [setGo_cons]; split <;> simp <;> omega
        have := h r; simp; omega
      · have := setGo_length n f r dn; simp; omega
theorem setL_length (n : ByteArray) (f : Fl) (L : List FRow) : (setL n f L).length ≤ L.length + 1 := setGo_length n f L _
theorem setGo_mem (n : ByteArray) (f : Fl) : ∀ (L : List FRow) (dn : Bool) (p : FRow), p ∈ setGo n f L dn → p = (n, f) ∨ p ∈ L
  | [], dn, p, h => by cases dn <;> simp [setGo] at h; exact .inl h
  | (x, g) :: r, dn, p, h => by
    rw [setGo_cons] at h
    split at h
    · rcases setGo_mem n f r dn p h with h | h
      · exact .inl h
      · exact .inr (List.mem_cons_of_mem _ h)
    · split at h
      · rcases List.mem_cons.1 h with h | h
        · exact .inl h
        · rcases List.mem_cons.1 h with h | h
          · exact .inr (h ▸ List.mem_cons_self ..)
          · rcases setGo_mem n f r true p h with h | h
            · exact .inl h
            · exact .inr (List.mem_cons_of_mem _ h)
      · rcases List.mem_cons.1 h with h | h
        · exact .inr (h ▸ List.mem_cons_self ..)
        · rcases setGo_mem n f r dn p h with h | h
          · exact .inl h
          · exact .inr (List.mem_cons_of_mem _ h)
theorem setL_mem {n : ByteArray} {f : Fl} {L : List FRow} {p : FRow} (h : p ∈ setL n f L) : p = (n, f) ∨ p ∈ L := setGo_mem n f L _ p h
theorem getF_small {L : List FRow} {B : Nat} (h : ∀ p ∈ L, p.2.nx.size ≤ B ∧ p.2.sx.size ≤ B) (n : ByteArray) : (getF n L).nx.size ≤ B ∧ (getF n L).sx.size ≤ B := by
  induction L with
  | nil => rw [getF_nil]; exact ⟨Nat.zero_le _, Nat.zero_le _⟩
  | cons p r ih =>
    obtain ⟨x, g⟩ := p
    rw [getF_cons]
    split
    · exact h _ (List.mem_cons_self ..)
    · exact ih fun q hq => h q (List.mem_cons_of_mem _ hq)
theorem rk_apart {w : World} {v : Value} {L : List FRow} (h : RkIn w v L) {g : Nat} {t : TypeId} {cs : Array Value} (hA : At w g t cs) (hs : ∀ (i : Nat) (s : ByteArray), cs[i]? ≠ some (.string s)) :
    ∀ b o n c, v = .slice (some ⟨b, o, none⟩) n c → L.map frow ≠ [] → ¬ b = g := by
  rintro b o n c rfl hne rfl
  obtain ⟨p, r, rfl⟩ := List.exists_cons_of_ne_nil (fun e => hne (by rw [e]; rfl) : L ≠ [])
  obtain ⟨x, f⟩ := p
  have h0 := (rk_cells h (i := 0) rfl).1
  rw [hA.cell] at h0
  exact hs _ _ h0
theorem dz_nostr {room : Int} {lost : Bool} {fl : Int} {A : Option Addr} {m c : Nat} (i : Nat) (s : ByteArray) : (#[Value.slice A m c, .int .i64 room, .bool lost, .int .i64 fl] : Array Value)[i]? ≠ some (.string s) := by
  match i with
  | 0 => simp
  | 1 => simp
  | 2 => simp
  | 3 => simp
  | k + 4 => simp
/-- what Put makes of a list of files -/
def putR (room : Int) (lost : Bool) (armed : Int) (L : List FRow) (n s : ByteArray) (more : Bool) : Int × List FRow :=
  if tryE lost armed ≠ 0 then (tryE lost armed, L) else if n.toList.isEmpty then (1, L)
  else if max room (usedL L) < usedL (setL n ⟨true, if more then (getF n L).nx ++ s else s, (getF n L).st, (getF n L).sx⟩ L) then (7, L)
  else (0, setL n ⟨true, if more then (getF n L).nx ++ s else s, (getF n L).st, (getF n L).sx⟩ L)

set_option maxRecDepth 100000 in
set_option maxHeartbeats 2000000 in
theorem rput_any (w : World) (lv : Value) (room : Int) (lost : Bool) (armed : Int) (L : List FRow) (h : RkS w lv L) (h0 : 0 ≤ armed) (h1 : armed ≤ 4611686018427387904) (hr : 0 ≤ room ∧ room ≤ 9223372036854775807) (n s : ByteArray) (more : Bool)
    (hsz : s.size ≤ 100000) (hs : ∀ p ∈ L, p.2.nx.size ≤ 100000 ∧ p.2.sx.size ≤ 100000) (hl : L.length ≤ 100000) :
    Calls Try.prog 26 #[.agg #[lv, .int .i64 room, .bool lost, .int .i64 (armed - 1)], .string n, .string s, .bool more] w fun e w' =>
      ∃ lv', e = .returned (.tuple #[.agg #[lv', .int .i64 room, .bool lost, .int .i64 (tryA lost armed - 1)], .int .i64 (putR room lost armed L n s more).1]) ∧ RkIn w' lv' (putR room lost armed L n s more).2 ∧ Ext w w' := by
  obtain ⟨A, c, rfl⟩ := rk_slice h.in_
  have hct := fun wx => rtry_any wx (.slice A L.length c) ⟨_, _, _, rfl⟩ room lost armed h0 h1
  have HPR : Hid (∀ a b, putR room lost armed L n s more = (a, b) → (putR room lost armed L n s more).1 = a ∧ (putR room lost armed L n s more).2 = b) := Lib.hid (fun a b hh => by rw [hh]; exact ⟨rfl, rfl⟩)
  have HPU : Hid (putR room lost armed L n s more = if tryE lost armed ≠ 0 then (tryE lost armed, L) else if n.toList.isEmpty then (1, L)
    else if max room (usedL L) < usedL (setL n ⟨true, if more then (getF n L).nx ++ s else s, (getF n L).st, (getF n L).sx⟩ L) then (7, L)
    else (0, setL n ⟨true, if more then (getF n L).nx ++ s else s, (getF n L).st, (getF n L).sx⟩ L)) := Lib.hid rfl
  generalize hPR : putR room lost armed L n s more = PR at HPR HPU ⊢
  clear hPR
  have H0 := Lib.hid (And.intro h0 (And.intro h1 (And.intro hs hsz)))
  obtain ⟨fl, hfl⟩ : ∃ fl, fl = armed - 1 := ⟨_, rfl⟩
  obtain ⟨a2, ha2⟩ : ∃ fl, fl = tryA lost armed - 1 := ⟨_, rfl⟩
  obtain ⟨er, her⟩ : ∃ fl, fl = tryE lost armed := ⟨_, rfl⟩
  rw [← her] at HPU
  rw [← hfl, ← ha2, ← her] at hct
  rw [← hfl, ← ha2]
  clear hfl ha2 her h0 h1 hs hsz
  have hE : Ext w ((w.alloc (.cells #[.slice A L.length c, .int .i64 room, .bool lost, .int .i64 fl] 29)).alloc (.cells #[.slice none 0 0, .int .i64 0, .bool false, .int .i64 0] 29)) := ((Ext.refl w).alloc _).alloc _
  have hX : At ((w.alloc (.cells #[.slice A L.length c, .int .i64 room, .bool lost, .int .i64 fl] 29)).alloc (.cells #[.slice none 0 0, .int .i64 0, .bool false, .int .i64 0] 29)) w.heap.size 29 #[.slice A L.length c, .int .i64 room, .bool lost, .int .i64 fl] := (At.new _ _ _).alloc _
  have hZ : At ((w.alloc (.cells #[.slice A L.length c, .int .i64 room, .bool lost, .int .i64 fl] 29)).alloc (.cells #[.slice none 0 0, .int .i64 0, .bool false, .int .i64 0] 29)) (w.heap.size + 1) 29 #[.slice none 0 0, .int .i64 0, .bool false, .int .i64 0] := At.new_eq (by simp) _ _
  go_enter Try.func26, Try.ntmps26
  go_upto_region 1 with fail
  generalize (w.alloc _).alloc _ = W at hE hX hZ ⊢
  have hxz : w.heap.size ≠ w.heap.size + 1 := by omega
  have hwx : w.heap.size ≤ w.heap.size := Nat.le_refl _
  have hwz : w.heap.size ≤ w.heap.size + 1 := by omega
  generalize hzb : w.heap.size + 1 = zb at *
  obtain ⟨xb, hxb⟩ : ∃ xb, xb = w.heap.size := ⟨_, rfl⟩
  rw [← hxb] at hX hxz ⊢
  replace hwx : w.heap.size ≤ xb := by omega
  clear hzb hxb
  have x0 := hX.cell 0
  have x1 := hX.cell 1
  have x2 := hX.cell 2
  have x3 := hX.cell 3
  simp at x0 x1 x2 x3
  go_wp2_with fail
  refine (hct W).mono ?_
  rintro e w1 ⟨rfl, hE1⟩
  replace hX := hX.ext hE1
  replace hZ := hZ.ext hE1
  replace hE := hE.trans hE1
  clear x0 x1 x2 x3 hE1 hct
  have x0 := hX.cell 0
  have x1 := hX.cell 1
  have x2 := hX.cell 2
  have x3 := hX.cell 3
  have fr0 := hX.frozen 0
  have fr1 := hX.frozen 1
  have fr2 := hX.frozen 2
  have fr3 := hX.frozen 3
  simp at x0 x1 x2 x3
  go_upto_region 2 with fail
  have hX2 : At ((((w1.setCell ⟨xb, 0, none⟩ (.slice A L.length c)).setCell ⟨xb, 1, none⟩ (.int .i64 room)).setCell ⟨xb, 2, none⟩ (.bool lost)).setCell ⟨xb, 3, none⟩ (.int .i64 a2)) xb 29 #[.slice A L.length c, .int .i64 room, .bool lost, .int .i64 a2] := at_anew hX (vs := #[.slice A L.length c, .int .i64 room, .bool lost, .int .i64 a2]) rfl
  have hCx : Chg (· = xb) w1 ((((w1.setCell ⟨xb, 0, none⟩ (.slice A L.length c)).setCell ⟨xb, 1, none⟩ (.int .i64 room)).setCell ⟨xb, 2, none⟩ (.bool lost)).setCell ⟨xb, 3, none⟩ (.int .i64 a2)) := chg_setAll w1 xb [.slice A L.length c, .int .i64 room, .bool lost, .int .i64 a2] 0 w1 (Chg.refl _ _)
  have hE2 : Ext w ((((w1.setCell ⟨xb, 0, none⟩ (.slice A L.length c)).setCell ⟨xb, 1, none⟩ (.int .i64 room)).setCell ⟨xb, 2, none⟩ (.bool lost)).setCell ⟨xb, 3, none⟩ (.int .i64 a2)) := ext_anew hwx [.slice A L.length c, .int .i64 room, .bool lost, .int .i64 a2] 0 _ hE
  replace hZ := hZ.chg hCx (fun e => hxz e.symm)
  clear x0 x1 x2 x3 fr0 fr1 fr2 fr3 hX hCx hE
  generalize ((((w1.setCell ⟨xb, 0, none⟩ (.slice A L.length c)).setCell ⟨xb, 1, none⟩ (.int .i64 room)).setCell ⟨xb, 2, none⟩ (.bool lost)).setCell ⟨xb, 3, none⟩ (.int .i64 a2)) = W2 at hX2 hZ hE2 ⊢
  have x0 := hX2.cell 0
  have x1 := hX2.cell 1
  have x2 := hX2.cell 2
  have x3 := hX2.cell 3
  simp at x0 x1 x2 x3
  have z0 := hZ.cell 0
  have z1 := hZ.cell 1
  have z2 := hZ.cell 2
  have z3 := hZ.cell 3
  have g0 := hZ.frozen 0
  have g1 := hZ.frozen 1
  have g2 := hZ.frozen 2
  have g3 := hZ.frozen 3
  simp at z0 z1 z2 z3
  by_cases he : er = 0
  · have he2 : (er != 0) = false := by simpa using he
    rw [if_neg (by simpa using he)] at HPU
    by_cases hn : n.toList.isEmpty = true
    · rw [if_pos hn] at HPU
      obtain ⟨p1, p2⟩ := HPR.out _ _ HPU.out
      have HP := Lib.hid (And.intro p1 p2)
      clear p1 p2 he
      go_wp2_with fail
      have hZ9 := at_anew hZ (vs := #[.slice A L.length c, .int .i64 room, .bool lost, .int .i64 a2]) rfl
      refine bodyPost_ret (v := .tuple #[.agg #[.slice A L.length c, .int .i64 room, .bool lost, .int .i64 a2], .int .i64 1]) (results_ct Try.results26 _ rfl (hZ9.loadv Try.underlying29 rfl (by kernel_rfl))) rfl ?_
      have hE9 := ext_anew hwz [.slice A L.length c, .int .i64 room, .bool lost, .int .i64 a2] 0 _ hE2
      obtain ⟨p1, p2⟩ := HP.out
      exact ⟨_, by rw [p1], by rw [p2]; exact h.in_.ext hE9, hE9⟩
    · rw [if_neg hn] at HPU
      have hn2 : n.toList.isEmpty = false := by simpa using hn
      clear he hn z0 z1 z2 z3 g0 g1 g2 g3
      go_wp2_with fail
      refine (rfind_any W2 _ room a2 lost L (h.in_.ext hE2) n h.len).mono ?_
      rintro e w3 ⟨rfl, hE3⟩
      go_upto_region 7 with fail
      have hS3 := getF_small (B := 100000) H0.out.2.2.1 n
      have HG : Hid (getF n L = getF n L) := Lib.hid rfl
      generalize hgf : getF n L = g at hS3 HG HPU ⊢
      clear HG hgf
      obtain ⟨n1, s1, n2, s2⟩ := g
      simp only at hS3
      have hF := At.new w3 60 #[.string n, .bool n1, .string s1, .bool n2, .string s2]
      have hX3 := (hX2.ext hE3).alloc (.cells #[.string n, .bool n1, .string s1, .bool n2, .string s2] 60)
      have hZ3 := (hZ.ext hE3).alloc (.cells #[.string n, .bool n1, .string s1, .bool n2, .string s2] 60)
      have hE4 := (hE2.trans hE3).alloc (.cells #[.string n, .bool n1, .string s1, .bool n2, .string s2] 60)
      have hfx : xb ≠ w3.heap.size := fun e => by have := (hX2.ext hE3).lt; omega
      have hfz : zb ≠ w3.heap.size := fun e => by have := (hZ.ext hE3).lt; omega
      have hwf : w.heap.size ≤ w3.heap.size := (hE2.trans hE3).size
      clear x0 x1 x2 x3 hX2 hZ hE2 hE3
      generalize w3.heap.size = fb at *
      generalize w3.alloc _ = W4 at *
      go_upto_if 28 with fail
      have f2 := hF.cell 2
      simp at f2
      obtain ⟨wo, hwo⟩ : ∃ wo : World, wo = W4 := ⟨_, rfl⟩
      have HJ := Lib.hid (And.intro hF (And.intro hX3 (And.intro hZ3 hE4)))
      obtain ⟨hz1, hz2⟩ := hS3
      have hzs := H0.out.2.2.2
      clear hF hX3 hZ3 hE4
      go_cut [2] from 29 to 33 (fun sv wx => sv = .string (if more then s1 ++ s else s) ∧ wx = wo)
      case first =>
        clear HJ HPU HPR H0
        cases more
        · go_wp2_with fail
          go_meet
          case rel => exact ⟨rfl, hwo.symm⟩
        · go_wp2_with fail
          go_meet
          case rel => exact ⟨rfl, hwo.symm⟩
      case rest =>
        obtain ⟨rfl, hwc⟩ := hcut
        subst hwc
        subst hwo
        obtain ⟨hF, hX, hZ, hE⟩ := HJ.out
        clear HJ f2
        have hstz : (if more then s1 ++ s else s).size ≤ 200000 := by
          split
          · rw [ByteArray.size_append]; omega
          · omega
        generalize hst : (if more then s1 ++ s else s) = st at HPU hstz ⊢
        clear hst
        have q1 := hF.cell 1
        have q2 := hF.cell 2
        have k1 := hF.frozen 1
        have k2 := hF.frozen 2
        simp at q1 q2
        go_upto_region 10 with fail
        have hF2 : At ((wc.setCell ⟨fb, 1, none⟩ (.bool true)).setCell ⟨fb, 2, none⟩ (.string st)) fb 60 #[.string n, .bool true, .string st, .bool n2, .string s2] := (hF.set 1 _).set 2 _
        have hX2 : At ((wc.setCell ⟨fb, 1, none⟩ (.bool true)).setCell ⟨fb, 2, none⟩ (.string st)) xb 29 #[.slice A L.length c, .int .i64 room, .bool lost, .int .i64 a2] := (hX.far hfx _).far hfx _
        have hZ2 : At ((wc.setCell ⟨fb, 1, none⟩ (.bool true)).setCell ⟨fb, 2, none⟩ (.string st)) zb 29 #[.slice none 0 0, .int .i64 0, .bool false, .int .i64 0] := (hZ.far hfz _).far hfz _
        have hE2 : Ext w ((wc.setCell ⟨fb, 1, none⟩ (.bool true)).setCell ⟨fb, 2, none⟩ (.string st)) := (hE.setCell hwf _).setCell hwf _
        clear q1 q2 k1 k2 hF hX hZ hE
        generalize ((wc.setCell ⟨fb, 1, none⟩ (.bool true)).setCell ⟨fb, 2, none⟩ (.string st)) = W5 at hF2 hX2 hZ2 hE2 ⊢
        have x0 := hX2.cell 0
        have x1 := hX2.cell 1
        have x2 := hX2.cell 2
        have x3 := hX2.cell 3
        simp at x0 x1 x2 x3
        have q0 := hF2.cell 0
        have q1 := hF2.cell 1
        have q2 := hF2.cell 2
        have q3 := hF2.cell 3
        have q4 := hF2.cell 4
        simp at q0 q1 q2 q3 q4
        go_wp2_with fail
        refine (rset_any W5 _ room a2 lost L (h.in_.ext hE2) h.len n ⟨true, st, n2, s2⟩).mono ?_
        rintro e w6 ⟨lv2, rfl, hR2, hE6⟩
        have hRS : RkS w6 lv2 (setL n ⟨true, st, n2, s2⟩ L) := ⟨hR2, by have := setL_length n ⟨true, st, n2, s2⟩ L; omega, fun p hp => by
          rcases setL_mem hp with rfl | hp
          · exact ⟨by simp only; omega, by simp only; omega⟩
          · exact h.sml p hp⟩
        obtain ⟨B, c2, rfl⟩ := rk_slice hR2
        generalize hL2 : setL n ⟨true, st, n2, s2⟩ L = L2 at HPU hRS hR2 ⊢
        clear hL2
        go_upto_region 11 with fail
        have hY := At.new w6 29 #[.slice B L2.length c2, .int .i64 room, .bool lost, .int .i64 a2]
        have hX6 := (hX2.ext hE6).alloc (.cells #[.slice B L2.length c2, .int .i64 room, .bool lost, .int .i64 a2] 29)
        have hZ6 := (hZ2.ext hE6).alloc (.cells #[.slice B L2.length c2, .int .i64 room, .bool lost, .int .i64 a2] 29)
        have hEy := (Ext.refl w6).alloc (.cells #[.slice B L2.length c2, .int .i64 room, .bool lost, .int .i64 a2] 29)
        have hE7 := (hE2.trans hE6).trans hEy
        have hRS7 := hRS.ext hEy
        clear x0 x1 x2 x3 q0 q1 q2 q3 q4 hF2 hX2 hZ2 hE2 hE6 hEy hR2 hRS
        generalize w6.heap.size = yb at hY ⊢
        generalize w6.alloc _ = W7 at hY hX6 hZ6 hE7 hRS7 ⊢
        refine wp_region_quiet_ext (by kernel_rfl) (by kernel_rfl) ?_
        have x0 := hX6.cell_regrown 0
        have x1 := hX6.cell_regrown 1
        have x2 := hX6.cell_regrown 2
        have x3 := hX6.cell_regrown 3
        have y0 := hY.cell_regrown 0
        have y1 := hY.cell_regrown 1
        have y2 := hY.cell_regrown 2
        have y3 := hY.cell_regrown 3
        have cu1 := used_re W7 _ room a2 lost L (h.ext hE7)
        have cu2 := used_re W7 _ room a2 lost L2 hRS7
        repeat (go_big_quiet_step (first | with_reducible exact cu1 _ _ | with_reducible exact cu2 _ _))
        refine wpQuiet_nil ?_
        intro W8 hE8
        clear x0 x1 x2 x3 y0 y1 y2 y3 cu1 cu2
        replace hX := hX6.ext hE8
        replace hY := hY.ext hE8
        replace hZ := hZ6.ext hE8
        have hE9 := hE7.trans hE8
        have hRS8 := hRS7.ext hE8
        clear hX6 hZ6 hE7 hRS7 hE8
        have x0 := hX.cell 0
        have x1 := hX.cell 1
        have x2 := hX.cell 2
        have x3 := hX.cell 3
        simp at x0 x1 x2 x3
        have z0 := hZ.cell 0
        have z1 := hZ.cell 1
        have z2 := hZ.cell 2
        have z3 := hZ.cell 3
        have g0 := hZ.frozen 0
        have g1 := hZ.frozen 1
        have g2 := hZ.frozen 2
        have g3 := hZ.frozen 3
        simp at z0 z1 z2 z3
        have y0 := hY.cell 0
        have y1 := hY.cell 1
        have y2 := hY.cell 2
        have y3 := hY.cell 3
        simp at y0 y1 y2 y3

        by_cases hq : max room (usedL L) < usedL L2
        · rw [if_pos hq] at HPU
          obtain ⟨p1, p2⟩ := HPR.out _ _ HPU.out
          have HP := Lib.hid (And.intro p1 p2)
          clear p1 p2
          go_wp2_with fail
          have hZ9 := at_anew hZ (vs := #[.slice A L.length c, .int .i64 room, .bool lost, .int .i64 a2]) rfl
          refine bodyPost_ret (v := .tuple #[.agg #[.slice A L.length c, .int .i64 room, .bool lost, .int .i64 a2], .int .i64 7]) (results_ct Try.results26 _ rfl (hZ9.loadv Try.underlying29 rfl (by kernel_rfl))) rfl ?_
          have hE9 := ext_anew hwz [.slice A L.length c, .int .i64 room, .bool lost, .int .i64 a2] 0 _ hE9
          obtain ⟨p1, p2⟩ := HP.out
          exact ⟨_, by rw [p1], by rw [p2]; exact h.in_.ext hE9, hE9⟩
        · rw [if_neg hq] at HPU
          obtain ⟨p1, p2⟩ := HPR.out _ _ HPU.out
          have HP := Lib.hid (And.intro p1 p2)
          clear p1 p2
          go_wp2_with fail
          have hZ9 := at_anew hZ (vs := #[.slice B L2.length c2, .int .i64 room, .bool lost, .int .i64 a2]) rfl
          refine bodyPost_ret (v := .tuple #[.agg #[.slice B L2.length c2, .int .i64 room, .bool lost, .int .i64 a2], .int .i64 0]) (results_ct Try.results26 _ rfl (hZ9.loadv Try.underlying29 rfl (by kernel_rfl))) rfl ?_
          have hE9 := ext_anew hwz [.slice B L2.length c2, .int .i64 room, .bool lost, .int .i64 a2] 0 _ hE9
          obtain ⟨p1, p2⟩ := HP.out
          exact ⟨_, by rw [p1], by rw [p2]; exact Sln.chg hRS8.in_ (chg_setAll W8 zb [.slice B L2.length c2, .int .i64 room, .bool lost, .int .i64 a2] 0 W8 (Chg.refl _ _)) (rk_apart hRS8.in_ hZ dz_nostr), hE9⟩
  · have he2 : (er != 0) = true := by simpa using he
    rw [if_pos he] at HPU
    obtain ⟨p1, p2⟩ := HPR.out _ _ HPU.out
    have HP := Lib.hid (And.intro p1 p2)
    clear p1 p2 he
    go_wp2_with fail
    have hZ9 := at_anew hZ (vs := #[.slice A L.length c, .int .i64 room, .bool lost, .int .i64 a2]) rfl
    refine bodyPost_ret (v := .tuple #[.agg #[.slice A L.length c, .int .i64 room, .bool lost, .int .i64 a2], .int .i64 er]) (results_ct Try.results26 _ rfl (hZ9.loadv Try.underlying29 rfl (by kernel_rfl))) rfl ?_
    have hE9 := ext_anew hwz [.slice A L.length c, .int .i64 room, .bool lost, .int .i64 a2] 0 _ hE2
    obtain ⟨p1, p2⟩ := HP.out
    exact ⟨_, by rw [p1], by rw [p2]; exact h.in_.ext hE9, hE9⟩
end Go.Proofs.Yteleafbfdfipdaa
