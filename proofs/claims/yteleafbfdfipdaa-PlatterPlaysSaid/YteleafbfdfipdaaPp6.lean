/-
  The document's disk (glacierref04): Spoil.
-/
import Derived.Test.YteleafbfdfipdaaPp5
import Derived.Laws.IdiomStrings
namespace Go.Proofs.Yteleafbfdfipdaa
open Go.RowKit Go.Sort

/-- a text with a byte xored -/
def xorAt (s : ByteArray) (i : Nat) (b : UInt8) : ByteArray := ⟨s.data.set! i (s.data[i]! ^^^ b)⟩
theorem xorAt_eq (s : ByteArray) (j : Nat) (b : UInt8) (hj : j < s.size) : s.extract 0 j ++ ⟨#[s[j] ^^^ b]⟩ ++ s.extract (j + 1) s.size = xorAt s j b := by
  have hj' : j < s.data.size := hj
  have e : xorAt s j b = ⟨s.data.set! j (s[j] ^^^ b)⟩ := by unfold xorAt; rw [getElem!_pos s.data j hj']; rfl
  rw [e]
  apply WideShapes.bytes_inj
  simp only [ByteArray.data_append, ByteArray.data_extract, Array.toList_append, Array.toList_extract, List.extract_eq_take_drop]
  simp only [Array.set!_eq_setIfInBounds, Array.toList_setIfInBounds, List.set_eq_take_append_cons_drop]
  have hl : j < s.data.toList.length := by simpa using hj'
  rw [if_pos hl]
  have hd : List.take (s.size - (j + 1)) (List.drop (j + 1) s.data.toList) = List.drop (j + 1) s.data.toList := List.take_of_length_le (by
    rw [List.length_drop, Array.length_toList]; exact Nat.le_refl _)
  rw [hd]
  simp
theorem bits_xor_u8 (a b : UInt8) : bits .xor .u8 (a.toNat : Int) (b.toNat : Int) = ((a ^^^ b).toNat : Int) := by
  have ha : a.toNat < 256 := a.toNat_lt
  have hb : b.toNat < 256 := b.toNat_lt
  have h1 : (BitVec.ofInt 8 (a.toNat : Int)).toNat = a.toNat := by
    rw [BitVec.ofInt_natCast, BitVec.toNat_ofNat]; exact Nat.mod_eq_of_lt (by omega)
  have h2 : (BitVec.ofInt 8 (b.toNat : Int)).toNat = b.toNat := by
    rw [BitVec.ofInt_natCast, BitVec.toNat_ofNat]; exact Nat.mod_eq_of_lt (by omega)
  have hx : a.toNat ^^^ b.toNat < 2 ^ 8 := Nat.xor_lt_two_pow (by omega) (by omega)
  show IntKind.u8.wrap ((BitVec.ofInt 8 (a.toNat : Int) ^^^ BitVec.ofInt 8 (b.toNat : Int)).toNat : Int) = _
  rw [BitVec.toNat_xor, h1, h2, UInt8.toNat_xor]
  simp [IntKind.wrap, IntKind.bits, IntKind.signed]
  omega
def spoilR (L : List FRow) (n : ByteArray) (i : Int) (b : UInt8) : Bool × List FRow :=
  if (getF n L).nt = true ∧ (getF n L).safe = true ∧ 0 ≤ i ∧ i < (getF n L).nx.size then
    (true, setL n ⟨true, xorAt (getF n L).nx i.toNat b, true, xorAt (getF n L).nx i.toNat b⟩ L) else (false, L)

set_option maxRecDepth 100000 in
set_option maxHeartbeats 1000000 in
theorem rspoil_any (w : World) (lv : Value) (room : Int) (lost : Bool) (fl : Int) (L : List FRow) (h : RkS w lv L) (n : ByteArray) (i : Int) (b : UInt8) (hi : i ≤ 9223372036854775807) :
    Calls Try.prog 35 #[.agg #[lv, .int .i64 room, .bool lost, .int .i64 fl], .string n, .int .i64 i, .int .u8 (b.toNat : Int)] w fun e w' =>
      ∃ lv', e = .returned (.tuple #[.agg #[lv', .int .i64 room, .bool lost, .int .i64 fl], .bool (spoilR L n i b).1]) ∧ RkIn w' lv' (spoilR L n i b).2 ∧ Ext w w' := by
  obtain ⟨A, c, rfl⟩ := rk_slice h.in_
  have HPR : Hid (∀ a b', spoilR L n i b = (a, b') → (spoilR L n i b).1 = a ∧ (spoilR L n i b).2 = b') := Lib.hid (fun a b hh => by rw [hh]; exact ⟨rfl, rfl⟩)
  have HPU : Hid (spoilR L n i b = if (getF n L).nt = true ∧ (getF n L).safe = true ∧ 0 ≤ i ∧ i < (getF n L).nx.size then
    (true, setL n ⟨true, xorAt (getF n L).nx i.toNat b, true, xorAt (getF n L).nx i.toNat b⟩ L) else (false, L)) := Lib.hid rfl
  generalize hPR : spoilR L n i b = PR at HPR HPU ⊢
  clear hPR
  have hE : Ext w ((w.alloc (.cells #[.slice A L.length c, .int .i64 room, .bool lost, .int .i64 fl] 29)).alloc (.cells #[.slice none 0 0, .int .i64 0, .bool false, .int .i64 0] 29)) := ((Ext.refl w).alloc _).alloc _
  have hX : At ((w.alloc (.cells #[.slice A L.length c, .int .i64 room, .bool lost, .int .i64 fl] 29)).alloc (.cells #[.slice none 0 0, .int .i64 0, .bool false, .int .i64 0] 29)) w.heap.size 29 #[.slice A L.length c, .int .i64 room, .bool lost, .int .i64 fl] := (At.new _ _ _).alloc _
  have hZ : At ((w.alloc (.cells #[.slice A L.length c, .int .i64 room, .bool lost, .int .i64 fl] 29)).alloc (.cells #[.slice none 0 0, .int .i64 0, .bool false, .int .i64 0] 29)) (w.heap.size + 1) 29 #[.slice none 0 0, .int .i64 0, .bool false, .int .i64 0] := At.new_eq (by simp) _ _
  go_enter Try.func35, Try.ntmps35
  go_upto_region 1 with fail
  generalize (w.alloc _).alloc _ = W at hE hX hZ ⊢
  have hxz : w.heap.size ≠ w.heap.size + 1 := by omega
  have hwx : w.heap.size ≤ w.heap.size := Nat.le_refl _
  have hwz : w.heap.size ≤ w.heap.size + 1 := by omega
  generalize hzb : w.heap.size + 1 = zb at *
  obtain ⟨xb, hxb⟩ : ∃ xb, xb = w.heap.size := ⟨_, rfl⟩
  rw [← hxb] at hX hxz ⊢
  replace hwx : w.heap.size ≤ xb := by omega
  clear hzb hxb
  have x0 := hX.cell 0
  have x1 := hX.cell 1
  have x2 := hX.cell 2
  have x3 := hX.cell 3
  simp at x0 x1 x2 x3
  go_wp2_with fail
  refine (rfind_any W _ room fl lost L (h.in_.ext hE) n h.len).mono ?_
  rintro e w3 ⟨rfl, hE3⟩
  go_upto_region 2 with fail
  have hgs := getF_small h.sml n
  generalize hgf : getF n L = g at HPU hgs ⊢
  clear hgf
  obtain ⟨n1, s1, n2, s2⟩ := g
  simp only at hgs
  obtain ⟨hg1, hg2⟩ := hgs
  have hF := At.new w3 60 #[.string n, .bool n1, .string s1, .bool n2, .string s2]
  have hX3 := (hX.ext hE3).alloc (.cells #[.string n, .bool n1, .string s1, .bool n2, .string s2] 60)
  have hZ3 := (hZ.ext hE3).alloc (.cells #[.string n, .bool n1, .string s1, .bool n2, .string s2] 60)
  have hE4 := (hE.trans hE3).alloc (.cells #[.string n, .bool n1, .string s1, .bool n2, .string s2] 60)
  have hfx : xb ≠ w3.heap.size := fun e => by have := (hX.ext hE3).lt; omega
  have hfz : zb ≠ w3.heap.size := fun e => by have := (hZ.ext hE3).lt; omega
  have hwf : w.heap.size ≤ w3.heap.size := (hE.trans hE3).size
  clear x0 x1 x2 x3 hX hZ hE hE3
  generalize w3.heap.size = fb at *
  generalize w3.alloc _ = W4 at *
  have x0 := hX3.cell 0
  have x1 := hX3.cell 1
  have x2 := hX3.cell 2
  have x3 := hX3.cell 3
  simp at x0 x1 x2 x3
  have z0 := hZ3.cell 0
  have z1 := hZ3.cell 1
  have z2 := hZ3.cell 2
  have z3 := hZ3.cell 3
  have g0 := hZ3.frozen 0
  have g1 := hZ3.frozen 1
  have g2 := hZ3.frozen 2
  have g3 := hZ3.frozen 3
  simp at z0 z1 z2 z3
  have q0 := hF.cell 0
  have q1 := hF.cell 1
  have q2 := hF.cell 2
  have q3 := hF.cell 3
  have q4 := hF.cell 4
  have k0 := hF.frozen 0
  have k1 := hF.frozen 1
  have k2 := hF.frozen 2
  have k3 := hF.frozen 3
  have k4 := hF.frozen 4
  simp at q0 q1 q2 q3 q4
  obtain ⟨ck, hck⟩ : ∃ ck : Bool, ck = (n1 && (decide (n1 = n2) && decide (s1 = s2)) && decide (0 ≤ i) && decide (i < (s1.size : Int))) := ⟨_, rfl⟩
  obtain ⟨wo, hwo⟩ : ∃ wo : World, wo = W4 := ⟨_, rfl⟩
  have HJ := Lib.hid (And.intro hF (And.intro hX3 (And.intro hZ3 (And.intro hE4 hck))))
  clear hF hX3 hZ3 hE4
  go_cut [36] from 14 to 36 (fun tv wx => tv = .bool (!ck) ∧ wx = wo)
  case first =>
    clear HJ HPU HPR h x0 x1 x2 x3 z0 z1 z2 z3 g0 g1 g2 g3 k0 k1 k2 k3 k4
    cases n1
    · obtain rfl : ck = false := by rw [hck]; rfl
      clear hck
      go_wp2_with fail
      go_meet
      case rel => exact ⟨rfl, hwo.symm⟩
    · cases n2
      · obtain rfl : ck = false := by rw [hck]; rfl
        clear hck
        go_wp2_with fail
        go_meet
        case rel => exact ⟨rfl, hwo.symm⟩
      · by_cases hs : s1 = s2
        · subst hs
          by_cases h0 : i < 0
          · obtain rfl : ck = false := by rw [hck]; simp; omega
            clear hck
            go_wp2_with fail
            go_meet
            case rel => exact ⟨rfl, hwo.symm⟩
          · by_cases h1 : i < (s1.size : Int)
            · obtain rfl : ck = true := by rw [hck]; simp; omega
              clear hck
              go_wp2_with fail
              go_meet
              case rel => exact ⟨by rw [decide_eq_false (by omega)]; rfl, hwo.symm⟩
            · obtain rfl : ck = false := by rw [hck]; simp; omega
              clear hck
              go_wp2_with fail
              go_meet
              case rel => exact ⟨rfl, hwo.symm⟩
        · obtain rfl : ck = false := by rw [hck]; simp [hs]
          have hxl : ¬ s1.toList = s2.toList := fun h => hs (toList_inj.1 h)
          clear hck hs
          go_wp2_with fail
          go_meet
          case rel => exact ⟨rfl, hwo.symm⟩
  case rest =>
    obtain ⟨rfl, hwc⟩ := hcut
    subst hwc
    subst hwo
    obtain ⟨hF, hX, hZ, hE, hck'⟩ := HJ.out
    clear HJ
    have HCK := Lib.hid hck'
    clear hck hck'
    cases ck
    · rw [if_neg (by
        rintro ⟨e1, e2, e3, e4⟩
        have := HCK.out
        simp only [Fl.safe] at e1 e2 e4
        simp at e1 e2
        obtain ⟨e5, e6⟩ := e2
        rw [e1, ← e5, ← e6, e1, decide_eq_true e3, decide_eq_true e4] at this
        simp at this)] at HPU
      obtain ⟨p1, p2⟩ := HPR.out _ _ HPU.out
      have HP := Lib.hid (And.intro p1 p2)
      clear p1 p2
      go_wp2_with fail
      have hZ9 := at_anew hZ (vs := #[.slice A L.length c, .int .i64 room, .bool lost, .int .i64 fl]) rfl
      refine bodyPost_ret (v := .tuple #[.agg #[.slice A L.length c, .int .i64 room, .bool lost, .int .i64 fl], .bool false]) (results_ct Try.results35 _ rfl (hZ9.loadv Try.underlying29 rfl (by kernel_rfl))) rfl ?_
      have hE9 := ext_anew hwz [.slice A L.length c, .int .i64 room, .bool lost, .int .i64 fl] 0 _ hE
      obtain ⟨p1, p2⟩ := HP.out
      exact ⟨_, by rw [p1], by rw [p2]; exact h.in_.ext hE9, hE9⟩
    · have hk := HCK.out
      simp only [Bool.and_eq_true, decide_eq_true_eq, eq_comm (a := true)] at hk
      obtain ⟨⟨⟨hk1, hk2, hk3⟩, hk4⟩, hk5⟩ := hk
      subst hk1 hk2 hk3
      rw [if_pos ⟨rfl, by simp [Fl.safe], hk4, hk5⟩] at HPU
      clear HCK x0 x1 x2 x3
      obtain ⟨j, rfl⟩ : ∃ j : Nat, i = (j : Int) := ⟨i.toNat, by omega⟩
      have hj : j < s1.size := by omega
      clear hk4 hk5
      go_upto_region 4 with fail
      have hconv : (convert 93 9 (.slice (some ⟨wc.heap.size, 0, none⟩) 1 1)).run Try.prog ((wc.alloc (.cells #[.int .u8 (bits BinOp.xor IntKind.u8 (s1[j].toNat : Int) (b.toNat : Int))] 5)).drew) =
          .ok (.string ⟨#[s1[j] ^^^ b]⟩) ((wc.alloc (.cells #[.int .u8 (bits BinOp.xor IntKind.u8 (s1[j].toNat : Int) (b.toNat : Int))] 5)).drew) := by
        refine run_convert_bytes_back _ 93 9 5 ⟨wc.heap.size, 0, none⟩ 1 [s1[j] ^^^ b] Try.underlying93 Try.underlying5 Try.underlying9 (fun k hk => ?_)
        obtain rfl : k = 0 := by simpa using hk
        rw [bits_xor_u8]
        exact (At.new wc _ _).cell 0
      have hfl := hF.lt
      go_region
      have hxo := xorAt_eq s1 j b hj
      have hxn : ((j : Int)).toNat = j := by omega
      rw [hxn] at HPU
      rw [hxo]
      clear hxo hxn
      generalize xorAt s1 j b = xs at HPU ⊢
      have hF2 : At (((wc.setCell ⟨fb, 2, none⟩ (.string xs)).alloc (.cells #[.int .u8 (bits BinOp.xor IntKind.u8 (s1[j].toNat : Int) (b.toNat : Int))] 5)).drew) fb 60 #[.string n, .bool true, .string xs, .bool true, .string s1] := ((hF.set 2 _).alloc _).drew
      have hX2 : At (((wc.setCell ⟨fb, 2, none⟩ (.string xs)).alloc (.cells #[.int .u8 (bits BinOp.xor IntKind.u8 (s1[j].toNat : Int) (b.toNat : Int))] 5)).drew) xb 29 #[.slice A L.length c, .int .i64 room, .bool lost, .int .i64 fl] := ((hX.far hfx _).alloc _).drew
      have hZ2 : At (((wc.setCell ⟨fb, 2, none⟩ (.string xs)).alloc (.cells #[.int .u8 (bits BinOp.xor IntKind.u8 (s1[j].toNat : Int) (b.toNat : Int))] 5)).drew) zb 29 #[.slice none 0 0, .int .i64 0, .bool false, .int .i64 0] := ((hZ.far hfz _).alloc _).drew
      have hE2 : Ext w (((wc.setCell ⟨fb, 2, none⟩ (.string xs)).alloc (.cells #[.int .u8 (bits BinOp.xor IntKind.u8 (s1[j].toNat : Int) (b.toNat : Int))] 5)).drew) := ((hE.setCell hwf _).alloc _).drew
      clear q0 q1 q2 q3 q4 k0 k1 k2 k3 k4 z0 z1 z2 z3 g0 g1 g2 g3 hconv hF hX hZ hE hfl
      generalize World.drew _ = W5 at hF2 hX2 hZ2 hE2 ⊢
      have q0 := hF2.cell 0
      have q1 := hF2.cell 1
      have q2 := hF2.cell 2
      have q3 := hF2.cell 3
      have q4 := hF2.cell 4
      have k0 := hF2.frozen 0
      have k1 := hF2.frozen 1
      have k2 := hF2.frozen 2
      have k3 := hF2.frozen 3
      have k4 := hF2.frozen 4
      simp at q0 q1 q2 q3 q4
      go_upto_region 6 with fail
      have hF3 : At ((W5.setCell ⟨fb, 3, none⟩ (.bool true)).setCell ⟨fb, 4, none⟩ (.string xs)) fb 60 #[.string n, .bool true, .string xs, .bool true, .string xs] := (hF2.set 3 _).set 4 _
      have hX3 : At ((W5.setCell ⟨fb, 3, none⟩ (.bool true)).setCell ⟨fb, 4, none⟩ (.string xs)) xb 29 #[.slice A L.length c, .int .i64 room, .bool lost, .int .i64 fl] := (hX2.far hfx _).far hfx _
      have hZ3 : At ((W5.setCell ⟨fb, 3, none⟩ (.bool true)).setCell ⟨fb, 4, none⟩ (.string xs)) zb 29 #[.slice none 0 0, .int .i64 0, .bool false, .int .i64 0] := (hZ2.far hfz _).far hfz _
      have hE3 : Ext w ((W5.setCell ⟨fb, 3, none⟩ (.bool true)).setCell ⟨fb, 4, none⟩ (.string xs)) := (hE2.setCell hwf _).setCell hwf _
      clear q0 q1 q2 q3 q4 k0 k1 k2 k3 k4 hF2 hX2 hZ2 hE2
      generalize ((W5.setCell ⟨fb, 3, none⟩ (.bool true)).setCell ⟨fb, 4, none⟩ (.string xs)) = W6 at hF3 hX3 hZ3 hE3 ⊢
      have x0 := hX3.cell 0
      have x1 := hX3.cell 1
      have x2 := hX3.cell 2
      have x3 := hX3.cell 3
      simp at x0 x1 x2 x3
      have q0 := hF3.cell 0
      have q1 := hF3.cell 1
      have q2 := hF3.cell 2
      have q3 := hF3.cell 3
      have q4 := hF3.cell 4
      simp at q0 q1 q2 q3 q4
      go_wp2_with fail
      refine (rset_any W6 _ room fl lost L (h.in_.ext hE3) h.len n ⟨true, xs, true, xs⟩).mono ?_
      rintro e w7 ⟨lv2, rfl, hR7, hE7⟩
      obtain ⟨p1, p2⟩ := HPR.out _ _ HPU.out
      have HP := Lib.hid (And.intro p1 p2)
      clear p1 p2
      obtain ⟨B, c2, rfl⟩ := rk_slice hR7
      have hZ7 := hZ3.ext hE7
      have hE8 := hE3.trans hE7
      generalize (setL n ⟨true, xs, true, xs⟩ L) = L2 at HP hR7 ⊢
      clear x0 x1 x2 x3 q0 q1 q2 q3 q4 hF3 hX3 hZ3 hE3 hE7
      have z0 := hZ7.cell 0
      have z1 := hZ7.cell 1
      have z2 := hZ7.cell 2
      have z3 := hZ7.cell 3
      have g0 := hZ7.frozen 0
      have g1 := hZ7.frozen 1
      have g2 := hZ7.frozen 2
      have g3 := hZ7.frozen 3
      simp at z0 z1 z2 z3
      go_wp2_with fail
      have hZ9 := at_anew hZ7 (vs := #[.slice B L2.length c2, .int .i64 room, .bool lost, .int .i64 fl]) rfl
      refine bodyPost_ret (v := .tuple #[.agg #[.slice B L2.length c2, .int .i64 room, .bool lost, .int .i64 fl], .bool true]) (results_ct Try.results35 _ rfl (hZ9.loadv Try.underlying29 rfl (by kernel_rfl))) rfl ?_
      have hE9 := ext_anew hwz [.slice B L2.length c2, .int .i64 room, .bool lost, .int .i64 fl] 0 _ hE8
      obtain ⟨p1, p2⟩ := HP.out
      exact ⟨_, by rw [p1], by rw [p2]; exact Sln.chg hR7 (chg_setAll w7 zb [.slice B L2.length c2, .int .i64 room, .bool lost, .int .i64 fl] 0 w7 (Chg.refl _ _)) (rk_apart hR7 hZ7 dz_nostr), hE9⟩
end Go.Proofs.Yteleafbfdfipdaa
