/-
  The disk: Spoil.
-/
import Derived.Test.YteleafbfdfipdaaPpB
import Derived.Laws.IdiomStrings
import Derived.Lib.SmallJoins
import Derived.Deep.CutRange
import Derived.Deep.CutBlock
namespace Go.Proofs.Yteleafbfdfipdaa
open Go.RowKit Go.Sort

def Dk.spoil (D : Dk) (n : ByteArray) (i : Int) (b : UInt8) : Bool × Dk :=
  if (D.get n).safe = true ∧ 0 ≤ i ∧ i < (D.get n).nx.size then
    (true, { D with files := lput blt n ⟨(D.get n).nt, xorAt (D.get n).nx i.toNat b, (D.get n).nt, xorAt (D.get n).nx i.toNat b⟩ D.files }) else (false, D)
theorem At.frb {w : World} {g : Nat} {t : TypeId} {cs : Array Value} {fr : Nat × Nat} (h : w.heap[g]? = some (.cells cs t fr)) (j : Nat) (hj : j < fr.1) : w.frozen? ⟨g, j, none⟩ = false := by
  simp [World.frozen?, h]; omega
theorem xorAt_get (s : ByteArray) (i : Nat) (b : UInt8) (hi : i < s.size) (C : Array Value) (hC : ∀ j (hj : j < s.data.size), C[j]? = some (.int .u8 (s.data[j].toNat : Int))) (j : Nat) (hj : j < (xorAt s i b).data.toList.length) :
    (C.setIfInBounds i (.int .u8 (bits BinOp.xor IntKind.u8 (s[i].toNat : Int) (b.toNat : Int))))[j]? = some (.int .u8 ((xorAt s i b).data.toList[j].toNat : Int)) := by
  have hs : (xorAt s i b).data.size = s.data.size := by unfold xorAt; simp
  have hj' : j < s.data.size := by rw [← hs]; simpa using hj
  have hi' : i < s.data.size := hi
  have e : (xorAt s i b).data.toList[j] = if i = j then s[i] ^^^ b else s.data[j] := by
    have e1 : (xorAt s i b).data = s.data.setIfInBounds i (s[i] ^^^ b) := by
      unfold xorAt
      simp only [Array.set!_eq_setIfInBounds]
      rw [getElem!_pos s.data i hi']
      rfl
    rw [Array.getElem_toList]
    simp only [e1]
    rw [Array.getElem_setIfInBounds hj']
  rw [e, Array.getElem?_setIfInBounds]
  have hci : i < C.size := by
    have := hC i hi'
    exact (Array.getElem?_eq_some_iff.1 this).1
  by_cases h : i = j
  · subst h
    rw [if_pos rfl, if_pos hci, if_pos rfl, bits_xor_u8]
  · rw [if_neg h, if_neg h]
    exact hC j hj'

set_option maxRecDepth 100000 in
set_option maxHeartbeats 2000000 in
theorem pspoil_any (w : World) (d m : Nat) (D : Dk) (hD : DkAt w d m D) (hO : D.Ok) (n : ByteArray) (i : Int) (b : UInt8) (hi : i ≤ 9223372036854775807) :
    Calls Try.prog 34 #[.pointer (some ⟨d, 0, none⟩), .string n, .int .i64 i, .int .u8 (b.toNat : Int)] w fun e w' =>
      e = .returned (.bool (D.spoil n i b).1) ∧ Chg (fun k => k = d ∨ k = m) w w' ∧ DkAt w' d m (D.spoil n i b).2 := by
  have HPR : Hid (∀ a b', D.spoil n i b = (a, b') → (D.spoil n i b).1 = a ∧ (D.spoil n i b).2 = b') := Lib.hid (fun a b hh => by rw [hh]; exact ⟨rfl, rfl⟩)
  have HPU : Hid (D.spoil n i b = if (D.get n).safe = true ∧ 0 ≤ i ∧ i < (D.get n).nx.size then
    (true, { D with files := lput blt n ⟨(D.get n).nt, xorAt (D.get n).nx i.toNat b, (D.get n).nt, xorAt (D.get n).nx i.toNat b⟩ D.files }) else (false, D)) := Lib.hid rfl
  generalize hPR : D.spoil n i b = PR at HPR HPU ⊢
  clear hPR
  have e4 : w.cell? ⟨d, 4, none⟩ = some (.map (some m)) := hD.1.cell 4
  have cl := hD.look n
  have ht := hO.t n
  generalize D.get n = f at cl ht HPU
  obtain ⟨n1, s1, n2, s2⟩ := f
  simp only at cl ht
  obtain ⟨ht1, ht2⟩ := ht
  unfold maxLen at ht1 ht2
  go_enter Try.func34, Try.ntmps34
  go_upto_region 2 with fail
  have hF := At.new w 81 #[.bool n1, .string s1, .bool n2, .string s2]
  have hE := (Ext.refl w).alloc (.cells #[.bool n1, .string s1, .bool n2, .string s2] 81)
  have hD2 := hD.alloc (.cells #[.bool n1, .string s1, .bool n2, .string s2] 81)
  clear cl e4
  have hwf : w.heap.size ≤ w.heap.size := Nat.le_refl _
  generalize hfb : w.heap.size = fb at hF ⊢
  rw [hfb] at hwf
  replace hwf : w.heap.size ≤ fb := by omega
  have hdf : d ≠ fb := by have := hD.1.lt; omega
  have hmf : m ≠ fb := by have := hD.2.lt; omega
  clear hfb
  generalize w.alloc (.cells #[.bool n1, .string s1, .bool n2, .string s2] 81) = W4 at hF hE hD2 ⊢
  have q0 := hF.cell 0
  have q1 := hF.cell 1
  have q2 := hF.cell 2
  have q3 := hF.cell 3
  have k0 := hF.frozen 0
  have k1 := hF.frozen 1
  have k2 := hF.frozen 2
  have k3 := hF.frozen 3
  simp at q0 q1 q2 q3
  obtain ⟨ck, hck⟩ : ∃ ck : Bool, ck = ((decide (n1 = n2) && decide (s1 = s2)) && decide (0 ≤ i) && decide (i < (s1.size : Int))) := ⟨_, rfl⟩
  obtain ⟨wo, hwo⟩ : ∃ wo : World, wo = W4 := ⟨_, rfl⟩
  have HJ := Lib.hid (And.intro hF (And.intro hD2 (And.intro hE hck)))
  have HD := Lib.hid hD
  have HS := Lib.hid hO.srt
  clear hF hD2 hE hD hO
  go_cut [33] from 11 to 33 (fun tv wx => tv = .bool (!ck) ∧ wx = wo)
  case first =>
    clear HJ HPU HPR k0 k1 k2 k3
    have key : n1 = n2 ∨ (n1 = true ∧ n2 = false) ∨ (n1 = false ∧ n2 = true) := by cases n1 <;> cases n2 <;> simp
    rcases key with rfl | ⟨rfl, rfl⟩ | ⟨rfl, rfl⟩
    · by_cases hs : s1 = s2
      · subst hs
        by_cases h0 : i < 0
        · obtain rfl : ck = false := by rw [hck]; simp; omega
          clear hck
          go_wp2_with fail
          go_meet
          case rel => exact ⟨rfl, hwo.symm⟩
        · by_cases h1 : i < (s1.size : Int)
          · obtain rfl : ck = true := by rw [hck]; simp; omega
            clear hck
            go_wp2_with fail
            go_meet
            case rel => exact ⟨by rw [decide_eq_false (by omega)]; rfl, hwo.symm⟩
          · obtain rfl : ck = false := by rw [hck]; simp; omega
            clear hck
            go_wp2_with fail
            go_meet
            case rel => exact ⟨rfl, hwo.symm⟩
      · obtain rfl : ck = false := by rw [hck]; simp [hs]
        have hxl : ¬ s1.toList = s2.toList := fun h => hs (toList_inj.1 h)
        clear hck hs
        go_wp2_with fail
        go_meet
        case rel => exact ⟨rfl, hwo.symm⟩
    · obtain rfl : ck = false := by rw [hck]; rfl
      clear hck
      go_wp2_with fail
      go_meet
      case rel => exact ⟨rfl, hwo.symm⟩
    · obtain rfl : ck = false := by rw [hck]; rfl
      clear hck
      go_wp2_with fail
      go_meet
      case rel => exact ⟨rfl, hwo.symm⟩
  case rest =>
    obtain ⟨rfl, hwc⟩ := hcut
    subst hwc
    subst hwo
    obtain ⟨hF, hD2, hE, hck'⟩ := HJ.out
    clear HJ
    have HCK := Lib.hid hck'
    clear hck hck'
    cases ck
    · rw [if_neg (by
        rintro ⟨e2, e3, e4⟩
        have := HCK.out
        simp only [Fl.safe] at e2 e4
        simp at e2
        obtain ⟨e5, e6⟩ := e2
        rw [← e5, ← e6, decide_eq_true e3, decide_eq_true e4] at this
        simp at this)] at HPU
      obtain ⟨p1, p2⟩ := HPR.out _ _ HPU.out
      have HP := Lib.hid (And.intro p1 p2)
      clear p1 p2
      go_wp2_with fail
      go_ret
      obtain ⟨p1, p2⟩ := HP.out
      exact ⟨by rw [p1]; rfl, hE.chg, by rw [p2]; exact HD.out.ext hE⟩
    · have hk := HCK.out
      simp only [Bool.and_eq_true, decide_eq_true_eq, eq_comm (a := true)] at hk
      obtain ⟨⟨⟨hk2, hk3⟩, hk4⟩, hk5⟩ := hk
      subst hk2 hk3
      rw [if_pos ⟨by simp [Fl.safe], hk4, hk5⟩] at HPU
      simp only at HPU
      clear HCK
      obtain ⟨j, rfl⟩ : ∃ j : Nat, i = (j : Int) := ⟨i.toNat, by omega⟩
      have hj : j < s1.size := by omega
      have hxn : ((j : Int)).toNat = j := by omega
      rw [hxn] at HPU
      clear hk4 hk5 hxn
      have hcv := run_bytes_of_string (P := Try.prog) wc 9 93 5 s1 Try.underlying9 Try.underlying93 Try.underlying5
      have hC : ∀ j (hj : j < s1.data.size), (bytesRow s1 (grownCap wc s1.size 0 5))[j]? = some (.int .u8 (s1.data[j].toNat : Int)) := fun j hj => bytesRow_at s1 _ j hj
      have hcz : s1.size ≤ (bytesRow s1 (grownCap wc s1.size 0 5)).size := by unfold bytesRow; simp
      have hHC := Lib.hid hC
      have hcap := grownCap_ge wc s1.size 0 5
      generalize grownCap wc s1.size 0 5 = cap at hcv hHC hcz hcap hC
      generalize bytesRow s1 cap = C at hcv hHC hcz hC
      have hB : (wc.alloc (.cells C 5 (C.size, C.size + 1))).drew.heap[wc.heap.size]? = some (.cells C 5 (C.size, C.size + 1)) := by
        show (wc.heap.push _)[wc.heap.size]? = _
        simp
      go_upto_region 5 with fail
      have hE1 := (Ext.refl wc).alloc (.cells C 5 (C.size, C.size + 1))
      have hF1 := (hF.ext hE1).drew
      have hD1 := hD2.ext hE1.drew
      have hEw := (hE.trans hE1).drew
      have hbf : fb ≠ wc.heap.size := fun e => by have := hF.lt; omega
      have hbd : d ≠ wc.heap.size := fun e => by have := hD2.1.lt; omega
      have hbm : m ≠ wc.heap.size := fun e => by have := hD2.2.lt; omega
      have hwb : w.heap.size ≤ wc.heap.size := hE.size
      clear hcv q0 q1 q2 q3 k0 k1 k2 k3 hF hD2 hE hE1
      generalize wc.heap.size = gb at *
      generalize (wc.alloc _).drew = W1 at *
      have cj : W1.cell? ⟨gb, j, none⟩ = some (.int .u8 (s1[j].toNat : Int)) := by
        rw [Go.Joins.cell_of_block hB]; exact hC j hj
      have fj : W1.frozen? ⟨gb, j, none⟩ = false := At.frb hB j (by simp only; omega)
      clear hC
      go_upto_region 6 with fail
      have hB2 := Go.Joins.block_setCell (i := j) hB (.int .u8 (bits BinOp.xor IntKind.u8 (s1[j].toNat : Int) (b.toNat : Int)))
      have hF2 := hF1.far (p := ⟨gb, j, none⟩) hbf (.int .u8 (bits BinOp.xor IntKind.u8 (s1[j].toNat : Int) (b.toNat : Int)))
      have hE2 := hEw.setCell (p := ⟨gb, j, none⟩) hwb (.int .u8 (bits BinOp.xor IntKind.u8 (s1[j].toNat : Int) (b.toNat : Int)))
      have hD2 : DkAt (W1.setCell ⟨gb, j, none⟩ (.int .u8 (bits BinOp.xor IntKind.u8 (s1[j].toNat : Int) (b.toNat : Int)))) d m D := ⟨hD1.1.far hbd _, hD1.2.setCell _ _⟩
      clear hB hF1 hEw hD1 cj fj
      have hget := xorAt_get s1 j b hj C hHC.out
      have hHG := Lib.hid hget
      clear hget
      generalize W1.setCell ⟨gb, j, none⟩ _ = W2 at *
      have hxs : (xorAt s1 j b).data.toList.length = s1.size := by unfold xorAt; simp
      have hconv : (convert 93 9 (.slice (some ⟨gb, 0, none⟩) s1.size cap)).run Try.prog W2 = .ok (.string (xorAt s1 j b)) W2 := by
        have := run_convert_bytes_back (P := Try.prog) W2 93 9 5 ⟨gb, 0, none⟩ cap (xorAt s1 j b).data.toList Try.underlying93 Try.underlying5 Try.underlying9 (fun k hk => by
          rw [Go.WideShapes.add_plain, Nat.zero_add, Go.Joins.cell_of_block hB2]
          exact hHG.out k hk)
        rw [hxs] at this
        exact this
      clear hB2 hHG hHC hxs hcz hcap
      generalize xorAt s1 j b = xs at *
      have q0 := hF2.cell 0
      have q1 := hF2.cell 1
      have q2 := hF2.cell 2
      have q3 := hF2.cell 3
      have k0 := hF2.frozen 0
      have k1 := hF2.frozen 1
      have k2 := hF2.frozen 2
      have k3 := hF2.frozen 3
      simp at q0 q1 q2 q3
      go_upto_region 7 with fail
      have hF3 : At (W2.setCell ⟨fb, 1, none⟩ (.string xs)) fb 81 #[.bool n1, .string xs, .bool n1, .string s1] := hF2.set 1 _
      have hE3 := hE2.setCell (p := ⟨fb, 1, none⟩) hwf (.string xs)
      have hD3 : DkAt (W2.setCell ⟨fb, 1, none⟩ (.string xs)) d m D := ⟨hD2.1.far hdf _, hD2.2.setCell _ _⟩
      clear q0 q1 q2 q3 k0 k1 k2 k3 hF2 hE2 hD2 hconv
      generalize W2.setCell _ _ = W5 at *
      have q0 := hF3.cell 0
      have q1 := hF3.cell 1
      have q2 := hF3.cell 2
      have q3 := hF3.cell 3
      have k0 := hF3.frozen 0
      have k1 := hF3.frozen 1
      have k2 := hF3.frozen 2
      have k3 := hF3.frozen 3
      simp at q0 q1 q2 q3
      go_upto_region 8 with fail
      have hF4 : At ((W5.setCell ⟨fb, 2, none⟩ (.bool n1)).setCell ⟨fb, 3, none⟩ (.string xs)) fb 81 #[.bool n1, .string xs, .bool n1, .string xs] := (hF3.set 2 _).set 3 _
      have hE4 : Ext w ((W5.setCell ⟨fb, 2, none⟩ (.bool n1)).setCell ⟨fb, 3, none⟩ (.string xs)) := (hE3.setCell hwf _).setCell hwf _
      have hD4 : DkAt ((W5.setCell ⟨fb, 2, none⟩ (.bool n1)).setCell ⟨fb, 3, none⟩ (.string xs)) d m D := ⟨(hD3.1.far hdf _).far hdf _, (hD3.2.setCell _ _).setCell _ _⟩
      clear q0 q1 q2 q3 k0 k1 k2 k3 hF3 hE3 hD3
      generalize ((W5.setCell ⟨fb, 2, none⟩ (.bool n1)).setCell ⟨fb, 3, none⟩ (.string xs)) = W6 at *
      have q0 := hF4.cell 0
      have q1 := hF4.cell 1
      have q2 := hF4.cell 2
      have q3 := hF4.cell 3
      simp at q0 q1 q2 q3
      have e4 : W6.cell? ⟨d, 4, none⟩ = some (.map (some m)) := hD4.1.cell 4
      obtain ⟨W9, hrun, hM9, hC9⟩ := files_upd (w := W6.drew) hD4.2 n n1 n1 xs xs
      obtain ⟨p1, p2⟩ := HPR.out _ _ HPU.out
      have HP := Lib.hid (And.intro p1 p2)
      clear p1 p2 HPU HPR
      go_region
      all_goals
        go_wp2_with fail
        go_ret
        obtain ⟨p1, p2⟩ := HP.out
        rw [p1, p2]
        exact ⟨rfl, hE4.drew.chg.trans hC9 (fun _ _ h => .inr h), hD4.1.drew.chg hC9 (fun h => hD4.2.ne_at hD4.1 h.symm), hM9.perm (lput_perm blt_ordd HS.out).symm⟩
end Go.Proofs.Yteleafbfdfipdaa
