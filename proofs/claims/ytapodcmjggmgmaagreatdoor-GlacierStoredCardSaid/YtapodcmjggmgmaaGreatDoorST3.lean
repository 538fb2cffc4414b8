/-
  Part 3 of what the law leans on.
-/
import Derived.Test.YtapodcmjggmgmaaGreatDoorST1
import Derived.Test.YtapodcmjggmgmaaGreatDoorST2
import Derived.Test.YtapodcmjggmgmaaGreatDoorChecked
import Derived.BigQuiet
import Derived.WalkSpells
import Derived.WalkLawsBesides
import Derived.Deep.LoopGhost
import Derived.Laws.BitsAllLaws
import Derived.Orders
import Derived.WalkKit
set_option linter.unusedVariables false
set_option linter.unusedSimpArgs false
set_option linter.unusedSectionVars false
namespace Go.Proofs.YtapodcmjggmgmaaGreatDoor
open Go.RowKit
def crcT : List Nat := [0, 498536548, 997073096, 651767980, 1994146192, 1802195444, 1303535960, 1342533948, 3988292384, 4027552580, 3604390888, 3412177804, 2607071920, 2262029012, 2685067896, 3183342108]
def crcH (r : Nat) : Nat := (r / 16) ^^^ crcT.getD (r % 16) 0
def crc1 (r : Nat) (c : UInt8) : Nat := crcH (crcH (r ^^^ c.toNat))
def crcF (r : Nat) (l : List UInt8) : Nat := l.foldl crc1 r
def crc (l : List UInt8) : Nat := 4294967295 - crcF 4294967295 l
theorem crcT_lt : ∀ i, crcT.getD i 0 < 4294967296 := by
  intro i
  by_cases h : i < 16
  · revert i; decide
  · rw [List.getD_eq_getElem?_getD, List.getElem?_eq_none (by simp [crcT]; omega)]; decide
theorem crcH_lt {r : Nat} (h : r < 4294967296) : crcH r < 4294967296 := Nat.xor_lt_two_pow (n := 32) (by omega) (crcT_lt _)
theorem crc1_lt {r : Nat} {c : UInt8} (h : r < 4294967296) : crc1 r c < 4294967296 :=
  crcH_lt (crcH_lt (Nat.xor_lt_two_pow (n := 32) h (by have := c.toNat_lt; omega)))
theorem crcF_lt {r : Nat} (h : r < 4294967296) (l : List UInt8) : crcF r l < 4294967296 := by
  unfold crcF
  induction l generalizing r with
  | nil => exact h
  | cons c t ih => exact ih (crc1_lt h)
theorem crcF_append (r : Nat) (a b : List UInt8) : crcF r (a ++ b) = crcF (crcF r a) b := List.foldl_append ..
theorem crc_lt (l : List UInt8) : crc l < 4294967296 := by unfold crc; omega
def Tab (w : World) : Prop := ∀ i, i < 16 → w.cell? ⟨0, i, none⟩ = some (.int .u32 (crcT.getD i 0 : Nat))
theorem Tab.chg {S : Nat → Prop} {w w' : World} (h : Tab w) (hc : Chg S w w') (hn : ¬ S 0) : Tab w' := fun i hi => by
  have h1 := h i hi
  have hl : 0 < w.heap.size := by
    rcases Nat.lt_or_ge 0 w.heap.size with hlt | hge
    · exact hlt
    · have e : w.heap[0]? = none := Array.getElem?_eq_none hge
      simp [World.cell?, e] at h1
  exact (hc.cell (p := ⟨0, i, none⟩) hl hn).trans h1
theorem Tab.ext {w w' : World} (h : Tab w) (hc : Ext w w') : Tab w' := h.chg hc (fun h => h)
theorem Tab.alloc {w : World} (h : Tab w) (o : Obj) : Tab (w.alloc o) := h.ext ((Ext.refl w).alloc o)
theorem Tab.lt {w : World} (h : Tab w) : 0 < w.heap.size := by
  have h1 := h 0 (by decide)
  rcases Nat.lt_or_ge 0 w.heap.size with hlt | hge
  · exact hlt
  · have e : w.heap[0]? = none := Array.getElem?_eq_none hge
    simp [World.cell?, e] at h1
theorem crc_half (r : Nat) (h : r < 4294967296) : bits .xor .u32 ((r : Int) / 16) ((crcT.getD (r % 16) 0 : Nat) : Int) = ((crcH r : Nat) : Int) := by
  rw [show (r : Int) / 16 = ((r / 16 : Nat) : Int) by omega, u32_xor_nat _ _ (by omega) (crcT_lt _)]
  rfl
theorem and15 (r : Nat) (h : r < 4294967296) : bits .and .u32 (r : Int) 15 = ((r % 16 : Nat) : Int) := by
  rw [show (15 : Int) = ((15 : Nat) : Int) from rfl, u32_and_nat _ _ h (by decide), show 15 = 2 ^ 4 - 1 from rfl, Nat.and_two_pow_sub_one_eq_mod]
theorem crc_facts {w : World} (hT : Tab w) (r : Nat) (hr : r < 4294967296) (c : UInt8) : ∃ x m t y m2 t2 : Nat,
    bits .xor .u32 (r : Int) ((c.toNat : Int) % 4294967296) = (x : Int) ∧ bits .and .u32 (x : Int) 15 = (m : Int) ∧ m < 16 ∧ w.cell? ⟨0, m, none⟩ = some (.int .u32 (t : Int)) ∧
    bits .xor .u32 ((x : Int) / 16) (t : Int) = (y : Int) ∧ bits .and .u32 (y : Int) 15 = (m2 : Int) ∧ m2 < 16 ∧ w.cell? ⟨0, m2, none⟩ = some (.int .u32 (t2 : Int)) ∧
    bits .xor .u32 ((y : Int) / 16) (t2 : Int) = ((crc1 r c : Nat) : Int) := by
  have hc := c.toNat_lt
  have hx : r ^^^ c.toNat < 4294967296 := Nat.xor_lt_two_pow (n := 32) hr (by omega)
  have hy := crcH_lt hx
  refine ⟨r ^^^ c.toNat, (r ^^^ c.toNat) % 16, crcT.getD ((r ^^^ c.toNat) % 16) 0, crcH (r ^^^ c.toNat), crcH (r ^^^ c.toNat) % 16, crcT.getD (crcH (r ^^^ c.toNat) % 16) 0, ?_, and15 _ hx, Nat.mod_lt _ (by decide), hT _ (Nat.mod_lt _ (by decide)), crc_half _ hx, and15 _ hy, Nat.mod_lt _ (by decide), hT _ (Nat.mod_lt _ (by decide)), crc_half _ hy⟩
  rw [show (c.toNat : Int) % 4294967296 = (c.toNat : Int) by omega, u32_xor_nat _ _ hr (by omega)]
theorem xor_ones (r : Nat) (h : r < 4294967296) : 4294967295 ^^^ r = 4294967295 - r := by
  have h1 : (BitVec.allOnes 32 ^^^ BitVec.ofNat 32 r) = ~~~ BitVec.ofNat 32 r := BitVec.allOnes_xor
  have h2 := congrArg BitVec.toNat h1
  rw [BitVec.toNat_xor, BitVec.toNat_not, BitVec.toNat_allOnes, BitVec.toNat_ofNat, Nat.mod_eq_of_lt (by omega)] at h2
  simpa using h2
theorem crc_not (r : Nat) (h : r < 4294967296) : bits .xor .u32 IntKind.u32.max (r : Int) = ((4294967295 - r : Nat) : Int) := by
  rw [show IntKind.u32.max = ((4294967295 : Nat) : Int) by decide, u32_xor_nat _ _ (by decide) h, xor_ones r h]
set_option maxRecDepth 100000 in
set_option maxHeartbeats 1000000 in
theorem sum_any (w : World) (v : Value) (ss : List ByteArray) (hS : Sl w v (ss.map Value.string)) (hl : ss.length ≤ 1000) (hs : ∀ s ∈ ss, s.size ≤ maxLen) (hT : Tab w) :
    Calls Tryz.prog 13 #[v] w fun e w' => e = .returned (.int .u32 (crc (ss.flatMap fun s => s.data.toList) : Nat)) ∧ w' = w := by
  obtain ⟨A, c, rfl, hx⟩ := hS
  rw [List.length_map]
  go_enter Tryz.func13, Tryz.ntmps13
  go_wp2_with fail
  go_loop [3, 9] (fun rv iv => ∃ k : Nat, k ≤ ss.length ∧ iv = .int .i64 (k : Int) ∧ rv = .int .u32 (crcF 4294967295 ((ss.take k).flatMap fun s => s.data.toList) : Nat)) (fun _ iv => ss.length - (intOf iv).toNat)
  case atStart => exact ⟨0, Nat.zero_le _, rfl, rfl⟩
  case round =>
    obtain ⟨k, hk, rfl, rfl⟩ := hrel
    have hlt0 := crcF_lt (r := 4294967295) (by decide) ((ss.take k).flatMap fun s => s.data.toList)
    generalize hH : crcF 4294967295 ((ss.take k).flatMap fun s => s.data.toList) = r0 at hlt0 ⊢
    have HH := Lib.hid hH
    clear hH
    by_cases hlt : k < ss.length
    · obtain ⟨b, o, rfl, hc⟩ := hx (by intro e; simp at e; subst e; simp at hlt)
      obtain ⟨s, hsk⟩ : ∃ s, ss[k]? = some s := ⟨_, List.getElem?_eq_getElem hlt⟩
      have r0c : w.cell? ⟨b, o + k, none⟩ = some (.string s) := hc k _ (by rw [List.getElem?_map, hsk]; rfl)
      have hsz : s.size ≤ 9223372036854775807 := by have := hs _ (List.mem_of_getElem? hsk); unfold maxLen at this; omega
      have hsn : crcF 4294967295 ((ss.take (k + 1)).flatMap fun s => s.data.toList) = crcF r0 s.data.toList := by
        rw [List.take_add_one, hsk]
        simp only [Option.toList_some, List.flatMap_append, List.flatMap_cons, List.flatMap_nil, List.append_nil]
        rw [crcF_append, HH.out]
      have HSN := Lib.hid hsn
      clear hsn hsk hc
      go_wp2_with fail
      go_loop [3, 6] (fun rv iv => ∃ j : Nat, j ≤ s.size ∧ iv = .int .i64 (j : Int) ∧ rv = .int .u32 (crcF r0 (s.data.toList.take j) : Nat)) (fun _ iv => s.size - (intOf iv).toNat)
      case atStart => exact ⟨0, Nat.zero_le _, rfl, rfl⟩
      case round =>
        obtain ⟨j, hj, rfl, rfl⟩ := hrel
        have hlt1 := crcF_lt hlt0 (s.data.toList.take j)
        generalize hJ : crcF r0 (s.data.toList.take j) = r1 at hlt1 ⊢
        have HJ := Lib.hid hJ
        clear hJ
        by_cases hltj : j < s.size
        · have hb : s.data.toList[j]? = some (s[j]'hltj) := by
            rw [Array.getElem?_toList]
            exact Array.getElem?_eq_getElem hltj
          obtain ⟨x, m, t, y, m2, t2, e1, e2, e3, e4, e5, e6, e7, e8, e9⟩ := crc_facts hT r1 hlt1 (s[j]'hltj)
          have hsn : crcF r0 (s.data.toList.take (j + 1)) = crc1 r1 (s[j]'hltj) := by
            rw [List.take_add_one, hb]
            simp only [Option.toList_some]
            rw [crcF_append, HJ.out]; rfl
          have HSJ := Lib.hid hsn
          clear hsn hb
          generalize crc1 r1 (s[j]'hltj) = z at e9 HSJ
          go_wp2_with fail
          go_round
          case rel => exact ⟨j + 1, by omega, by go_num, by rw [HSJ.out]⟩
          case measure => simp [intOf]; omega
        · have hje : j = s.size := by omega
          have hfin : r1 = crcF r0 s.data.toList := by rw [← HJ.out, hje, List.take_of_length_le (by simp)]
          have HF := Lib.hid hfin
          clear hfin
          go_wp2_with fail
          go_round
          case rel => exact ⟨k + 1, by omega, by go_num, by rw [HSN.out, HF.out]⟩
          case measure => simp [intOf]; omega
    · have hke : k = ss.length := by omega
      have hfin : crc (ss.flatMap fun s => s.data.toList) = 4294967295 - r0 := by
        unfold crc
        rw [← HH.out, hke, List.take_of_length_le (Nat.le_refl _)]
      have HF := Lib.hid hfin
      have e1 := crc_not r0 hlt0
      clear hfin
      go_wp2_with fail
      go_ret
      exact ⟨by rw [HF.out, ← e1]; rfl, rfl⟩
def num4 (n : Nat) : List UInt8 := [UInt8.ofNat (n / 16777216 % 256), UInt8.ofNat (n / 65536 % 256), UInt8.ofNat (n / 256 % 256), UInt8.ofNat (n % 256)]
theorem num4_length (n : Nat) : (num4 n).length = 4 := rfl
theorem num4_conv (w : World) (n : Nat) (hn : n < 4294967296) :
    (convert 65 9 (.slice (some ⟨w.heap.size, 0, none⟩) 4 4)).run Tryz.prog (w.alloc (.cells #[.int .u8 ((n : Int) / 16777216), .int .u8 ((n : Int) / 65536 % 256), .int .u8 ((n : Int) / 256 % 256), .int .u8 ((n : Int) % 256)] 5)) =
      .ok (.string ⟨(num4 n).toArray⟩) (w.alloc (.cells #[.int .u8 ((n : Int) / 16777216), .int .u8 ((n : Int) / 65536 % 256), .int .u8 ((n : Int) / 256 % 256), .int .u8 ((n : Int) % 256)] 5)) := by
  refine run_convert_bytes_back _ 65 9 5 ⟨w.heap.size, 0, none⟩ _ (num4 n) Tryz.underlying65 Tryz.underlying5 Tryz.underlying9 fun j hj => ?_
  have hc := (At.new w 5 #[.int .u8 ((n : Int) / 16777216), .int .u8 ((n : Int) / 65536 % 256), .int .u8 ((n : Int) / 256 % 256), .int .u8 ((n : Int) % 256)]).cell j
  rw [num4_length] at hj
  have e1 : (UInt8.ofNat (n / 16777216 % 256)).toNat = n / 16777216 := by simp [UInt8.toNat_ofNat']; omega
  have e2 : (UInt8.ofNat (n / 65536 % 256)).toNat = n / 65536 % 256 := by simp [UInt8.toNat_ofNat']
  have e3 : (UInt8.ofNat (n / 256 % 256)).toNat = n / 256 % 256 := by simp [UInt8.toNat_ofNat']
  have e4 : (UInt8.ofNat (n % 256)).toNat = n % 256 := by simp [UInt8.toNat_ofNat']
  rcases (show j = 0 ∨ j = 1 ∨ j = 2 ∨ j = 3 by omega) with rfl | rfl | rfl | rfl
  · refine hc.trans ?_; show some (Value.int .u8 ((n : Int) / 16777216)) = some (.int .u8 ((UInt8.ofNat (n / 16777216 % 256)).toNat : Int)); rw [e1]; rfl
  · refine hc.trans ?_; show some (Value.int .u8 ((n : Int) / 65536 % 256)) = some (.int .u8 ((UInt8.ofNat (n / 65536 % 256)).toNat : Int)); rw [e2]; rfl
  · refine hc.trans ?_; show some (Value.int .u8 ((n : Int) / 256 % 256)) = some (.int .u8 ((UInt8.ofNat (n / 256 % 256)).toNat : Int)); rw [e3]; rfl
  · refine hc.trans ?_; show some (Value.int .u8 ((n : Int) % 256)) = some (.int .u8 ((UInt8.ofNat (n % 256)).toNat : Int)); rw [e4]; rfl
set_option maxRecDepth 100000 in
theorem num4_any (w : World) (n : Nat) (hn : n < 4294967296) :
    Calls Tryz.prog 190 #[.int .u32 (n : Int)] w fun e w' => e = .returned (.string ⟨(num4 n).toArray⟩) ∧ Ext w w' := by
  have hrun := num4_conv w n hn
  go_enter Tryz.func190, Tryz.ntmps190
  go_wp2_with fail
  go_ret
  exact ⟨rfl, (Ext.refl w).alloc _⟩
def val4 (a b c d : UInt8) : Nat := a.toNat * 16777216 + b.toNat * 65536 + c.toNat * 256 + d.toNat
theorem or_add (k : Nat) {a b : Nat} (hb : b < 2 ^ k) : (a * 2 ^ k) ||| b = a * 2 ^ k + b := by
  have := Nat.two_pow_add_eq_or_of_lt (i := k) (b := b) hb a
  rw [Nat.mul_comm a]; exact this.symm
theorem bits4 (x y z u : Nat) (hx : x < 256) (hy : y < 256) (hz : z < 256) (hu : u < 256) : bits .or .u32 (bits .or .u32 (bits .or .u32 ((x : Int) % 4294967296 * 16777216 % 4294967296) ((y : Int) % 4294967296 * 65536 % 4294967296)) ((z : Int) % 4294967296 * 256 % 4294967296)) ((u : Int) % 4294967296) = ((x * 16777216 + y * 65536 + z * 256 + u : Nat) : Int) := by
  have e1 : ((x : Int) % 4294967296 * 16777216 % 4294967296) = ((x * 16777216 : Nat) : Int) := by omega
  have e2 : ((y : Int) % 4294967296 * 65536 % 4294967296) = ((y * 65536 : Nat) : Int) := by omega
  have e3 : ((z : Int) % 4294967296 * 256 % 4294967296) = ((z * 256 : Nat) : Int) := by omega
  have e4 : ((u : Int) % 4294967296) = ((u : Nat) : Int) := by omega
  have o1 : (x * 16777216) ||| (y * 65536) = x * 16777216 + y * 65536 := or_add 24 (by omega)
  have o2 : (x * 16777216 + y * 65536) ||| (z * 256) = x * 16777216 + y * 65536 + z * 256 := by
    have := or_add 16 (a := x * 256 + y) (b := z * 256) (by omega)
    have e : (x * 256 + y) * 2 ^ 16 = x * 16777216 + y * 65536 := by omega
    rwa [e] at this
  have o3 : (x * 16777216 + y * 65536 + z * 256) ||| u = x * 16777216 + y * 65536 + z * 256 + u := by
    have := or_add 8 (a := x * 65536 + y * 256 + z) (b := u) (by omega)
    have e : (x * 65536 + y * 256 + z) * 2 ^ 8 = x * 16777216 + y * 65536 + z * 256 := by omega
    rwa [e] at this
  rw [e1, e2, e3, e4, u32_or_nat _ _ (by omega) (by omega), o1, u32_or_nat _ _ (by omega) (by omega), o2, u32_or_nat _ _ (by omega) (by omega), o3]
theorem val4_bits (a b c d : UInt8) : bits .or .u32 (bits .or .u32 (bits .or .u32 ((a.toNat : Int) % 4294967296 * 16777216 % 4294967296) ((b.toNat : Int) % 4294967296 * 65536 % 4294967296)) ((c.toNat : Int) % 4294967296 * 256 % 4294967296)) ((d.toNat : Int) % 4294967296) = ((val4 a b c d : Nat) : Int) :=
  bits4 _ _ _ _ a.toNat_lt b.toNat_lt c.toNat_lt d.toNat_lt
set_option maxRecDepth 100000 in
theorem val4_any (w : World) (a b c d : UInt8) :
    Calls Tryz.prog 150 #[.string ⟨#[a, b, c, d]⟩] w fun e w' => e = .returned (.int .u32 (val4 a b c d : Nat)) ∧ Ext w w' := by
  have e1 := val4_bits a b c d
  go_enter Tryz.func150, Tryz.ntmps150
  go_wp2_with fail
  go_quiet (fail)
  go_wp2
  go_ret
  exact ⟨by rw [← e1]; rfl, (Ext.refl w).drewN _⟩
theorem val4_num4 (n : Nat) (hn : n < 4294967296) : ∃ a b c d, num4 n = [a, b, c, d] ∧ val4 a b c d = n := by
  refine ⟨_, _, _, _, rfl, ?_⟩
  unfold val4
  have e1 : (UInt8.ofNat (n / 16777216 % 256)).toNat = n / 16777216 := by simp [UInt8.toNat_ofNat']; omega
  have e2 : (UInt8.ofNat (n / 65536 % 256)).toNat = n / 65536 % 256 := by simp [UInt8.toNat_ofNat']
  have e3 : (UInt8.ofNat (n / 256 % 256)).toNat = n / 256 % 256 := by simp [UInt8.toNat_ofNat']
  have e4 : (UInt8.ofNat (n % 256)).toNat = n % 256 := by simp [UInt8.toNat_ofNat']
  rw [e1, e2, e3, e4]
  omega
def frameL (c : List UInt8) : List UInt8 := num4 c.length ++ num4 (crc (num4 c.length ++ c)) ++ c
theorem frameL_length (c : List UInt8) : (frameL c).length = 8 + c.length := by simp [frameL, num4_length]; omega
set_option maxRecDepth 100000 in
theorem join_one (w : World) (v : Value) (c : ByteArray) (hS : Sl w v [.string c]) :
    Calls Tryz.prog 189 #[v, .string ⟨#[]⟩] w fun e w' => e = .returned (.string c) ∧ w' = w := by
  obtain ⟨A, k, rfl, hx⟩ := hS
  obtain ⟨b, o, rfl, hc⟩ := hx (by simp)
  have h0 : w.cell? ⟨b, o, none⟩ = some (.string c) := hc 0 _ rfl
  go_enter Tryz.func189, Tryz.ntmps189
  go_wp2_with fail
  go_ret
  exact ⟨rfl, rfl⟩
theorem sl_two (w : World) (t : TypeId) (x y : Value) (c : Nat) : Sl (w.alloc (.cells #[x, y] t)) (.slice (some ⟨w.heap.size, 0, none⟩) 2 c) [x, y] :=
  ⟨_, c, rfl, fun _ => ⟨_, _, rfl, fun i z hi => by
    have h := (At.new w t #[x, y]).cell i
    rw [Nat.zero_add, h]
    simpa using hi⟩⟩
theorem pair_small {b c : ByteArray} (hb : b.size = 4) (hs : c.size ≤ 1048576) : ∀ s ∈ [b, c], s.size ≤ maxLen := by
  intro s h
  unfold maxLen
  rcases List.mem_cons.1 h with rfl | h
  · omega
  · rcases List.mem_cons.1 h with rfl | h
    · omega
    · cases h
set_option maxRecDepth 100000 in
theorem frame_any (w : World) (v : Value) (c : ByteArray) (hS : Sl w v [.string c]) (hs : c.size ≤ 1048576) (hT : Tab w) :
    Calls Tryz.prog 174 #[v] w fun e w' => e = .returned (.string ⟨(frameL c.data.toList).toArray⟩) ∧ Ext w w' := by
  go_enter Tryz.func174, Tryz.ntmps174
  go_wp2_with fail
  refine (join_one w v c hS).mono ?_
  rintro e w1 ⟨rfl, rfl⟩
  go_wp2_with fail
  obtain ⟨B, hB⟩ : ∃ B : ByteArray, (⟨(num4 c.size).toArray⟩ : ByteArray) = B := ⟨_, rfl⟩
  have hb : B.size = 4 := by rw [← hB]; rfl
  have c1 := num4_any w1 c.size (by omega)
  rw [hB] at c1
  have HB := Lib.hid hB
  refine c1.mono ?_
  rintro e w2 ⟨rfl, hE2⟩
  clear c1 hB
  go_wp2_with fail
  have c2 := sum_any _ _ [B, c] (sl_two w2 9 _ _ 2) (by simp) (pair_small hb hs) ((hT.ext hE2).alloc _)
  simp only [List.flatMap_cons, List.flatMap_nil, List.append_nil] at c2
  have hlt := crc_lt (B.data.toList ++ c.data.toList)
  obtain ⟨x, hx⟩ : ∃ x, crc (B.data.toList ++ c.data.toList) = x := ⟨_, rfl⟩
  rw [hx] at c2 hlt
  refine c2.mono ?_
  rintro e w3 ⟨rfl, rfl⟩
  have HX := Lib.hid hx
  clear hx c2
  go_wp2_with fail
  obtain ⟨C, hC⟩ : ∃ C : ByteArray, (⟨(num4 x).toArray⟩ : ByteArray) = C := ⟨_, rfl⟩
  have hcs : C.size = 4 := by rw [← hC]; rfl
  have c3 := num4_any (w2.alloc (.cells #[.string B, .string c] 9)) x hlt
  rw [hC] at c3
  have HC := Lib.hid hC
  refine c3.mono ?_
  rintro e w4 ⟨rfl, hE4⟩
  clear c3 hC
  have g1 : decide (9223372036854775807 < B.size + C.size) = false := by simp; omega
  have g2 : decide (9223372036854775807 < (B ++ C).size + c.size) = false := by simp [ByteArray.size_append]; omega
  go_wp2_with fail
  go_ret
  refine ⟨?_, (hE2.alloc _).trans hE4⟩
  have hfin : B ++ C ++ c = (⟨(frameL c.data.toList).toArray⟩ : ByteArray) := by
    rw [← HC.out, ← HB.out, ← HX.out, ← HB.out]
    apply ByteArray.ext
    simp [frameL]
  exact congrArg (fun z => Ending.returned (Value.string z)) hfin
end Go.Proofs.YtapodcmjggmgmaaGreatDoor
namespace Go.Proofs.YtapodcmjggmgmaaGreatDoor
section
variable {P : Program} {ops : Array Oper} {Q : Exit → Act → World → Prop} {Γ : Type}
def dstOf (ops : Array Oper) (d : Nat) : Option Tmp := (ops[d]?).bind (·.dst)
def putAll (ops : Array Oper) (v : Nat → Value) (a : Act) : Nat → Act
  | 0 => a
  | n + 1 => (putAll ops v a n).put (dstOf ops n) (v n)
def putL (ops : Array Oper) (L : Nat → Bool) (v : Nat → Value) (a : Act) : Nat → Act
  | 0 => a
  | n + 1 => if L n then (putL ops L v a n).put (dstOf ops n) (v n) else putL ops L v a n
def backB (ops : Array Oper) : Bool := (List.range ops.size).all fun j => ((ops[j]?).map fun o => o.after.all fun e => decide (e.on < j) || !Region.binds .any e).getD true
def dstB (ops : Array Oper) (N : Nat) : Bool := (List.range ops.size).all fun j => match dstOf ops j with
  | none => true
  | some t => decide (t < N) && (List.range j).all fun i => dstOf ops i != some t
def needs (ops : Array Oper) (j d : Nat) : Bool := ((ops[j]?).map fun o => o.after.any fun e => Region.binds .any e && e.on == d).getD false
theorem putL_size (L : Nat → Bool) (v : Nat → Value) (a : Act) : ∀ n, (putL ops L v a n).tmps.size = a.tmps.size ∧ (putL ops L v a n).defers = a.defers
  | 0 => ⟨rfl, rfl⟩
  | n + 1 => by
    unfold putL
    split
    · have := putL_size L v a n
      unfold Act.put; split <;> simp [this]
    · exact putL_size L v a n
theorem putL_congr {L L' : Nat → Bool} {v v' : Nat → Value} {a : Act} : ∀ n, (∀ i, i < n → L i = L' i) → (∀ i, i < n → L i = true → v i = v' i) → putL ops L v a n = putL ops L' v' a n
  | 0, _, _ => rfl
  | n + 1, h, h' => by
    unfold putL
    rw [putL_congr n (fun i hi => h i (by omega)) (fun i hi => h' i (by omega)), h n (by omega)]
    split
    · rename_i hn; rw [h' n (by omega) (by rw [h n (by omega)]; exact hn)]
    · rfl
theorem putL_all {L : Nat → Bool} {v : Nat → Value} {a : Act} : ∀ n, (∀ i, i < n → L i = true) → putL ops L v a n = putAll ops v a n
  | 0, _ => rfl
  | n + 1, h => by unfold putL putAll; rw [putL_all n (fun i hi => h i (by omega)), if_pos (h n (by omega))]
theorem putL_far {L : Nat → Bool} {v : Nat → Value} {a : Act} {t : Tmp} : ∀ n, (∀ i, i < n → L i = true → dstOf ops i ≠ some t) → (putL ops L v a n).tmps.getD t undef = a.tmps.getD t undef
  | 0, _ => rfl
  | n + 1, h => by
    have ih := putL_far (v := v) (a := a) n (fun i hi hl => h i (by omega) hl)
    unfold putL
    split
    · rename_i hl
      have h1 := h n (by omega) hl
      unfold Act.put
      split
      · rename_i d hd
        rw [hd] at h1
        have : d ≠ t := fun e => h1 (by rw [e])
        rw [← ih]
        simp [Array.getElem?_setIfInBounds_ne this]
      · exact ih
    · exact ih
theorem dstB_spec {N : Nat} (h : dstB ops N = true) {j : Nat} {t : Tmp} (hj : dstOf ops j = some t) : t < N ∧ ∀ i, i ≠ j → dstOf ops i ≠ some t := by
  have key : ∀ j t, dstOf ops j = some t → j < ops.size ∧ t < N ∧ ∀ i, i < j → dstOf ops i ≠ some t := by
    intro j t hj
    have hjl : j < ops.size := by
      rcases Nat.lt_or_ge j ops.size with h | h
      · exact h
      · unfold dstOf at hj; rw [Array.getElem?_eq_none h] at hj; cases hj
    have := List.all_eq_true.1 h j (List.mem_range.2 hjl)
    rw [hj] at this
    simp only [Bool.and_eq_true, decide_eq_true_eq, List.all_eq_true, List.mem_range, bne_iff_ne] at this
    exact ⟨hjl, this.1, this.2⟩
  refine ⟨(key j t hj).2.1, fun i hi he => ?_⟩
  rcases Nat.lt_or_gt_of_ne hi with h' | h'
  · exact (key j t hj).2.2 i h' he
  · exact (key i t he).2.2 j h' hj
theorem putL_val {N : Nat} (h : dstB ops N = true) {L : Nat → Bool} {v : Nat → Value} {a : Act} (hN : a.tmps.size = N) {d : Nat} {t : Tmp} (hd : dstOf ops d = some t) (hL : L d = true) :
    ∀ n, d < n → (putL ops L v a n).tmps.getD t undef = v d
  | 0, hn => by omega
  | n + 1, hn => by
    obtain ⟨h1, h2⟩ := dstB_spec h hd
    unfold putL
    by_cases e : n = d
    · subst e
      rw [if_pos hL, hd]
      unfold Act.put
      have := (putL_size (ops := ops) L v a n).1
      simp [this, hN, h1]
    · have ih := putL_val (v := v) h hN hd hL n (by omega)
      split
      · unfold Act.put
        split
        · rename_i d' hd'
          have : d' ≠ t := fun e' => h2 n e (by rw [hd', e'])
          rw [← ih]
          simp [Array.getElem?_setIfInBounds_ne this]
        · exact ih
      · exact ih
theorem Act.put_comm' {a : Act} {s t : Option Tmp} {x y : Value} (h : s = none ∨ t = none ∨ s ≠ t) : (a.put s x).put t y = (a.put t y).put s x := by
  cases s with
  | none => rfl
  | some s =>
    cases t with
    | none => rfl
    | some t =>
      have hne : s ≠ t := by rcases h with h | h | h <;> simp at h; exact h
      unfold Act.put
      simp only
      rw [Array.setIfInBounds_comm _ _ hne]
theorem putL_put {N : Nat} (h : dstB ops N = true) {L : Nat → Bool} {v : Nat → Value} {a : Act} {j : Nat} (hj : L j = false) (x : Value) :
    ∀ n, j < n → (putL ops L v a n).put (dstOf ops j) x = putL ops (fun i => i == j || L i) (fun i => if i = j then x else v i) a n
  | 0, hn => by omega
  | n + 1, hn => by
    by_cases e : n = j
    · subst e
      unfold putL
      simp only [hj, Bool.false_eq_true, if_false, beq_self_eq_true, Bool.true_or, if_true]
      rw [putL_congr (L := L) (L' := fun i => i == n || L i) (v := v) (v' := fun i => if i = n then x else v i) n (fun i hi => by simp [Nat.ne_of_lt hi]) (fun i hi _ => by simp [Nat.ne_of_lt hi])]
    · have ih := putL_put h hj x n (by omega) (v := v) (a := a)
      unfold putL
      have e1 : (n == j) = false := by simpa using e
      simp only [e1, Bool.false_or, e, if_false]
      split
      · rw [← ih]
        refine Act.put_comm' ?_
        cases hs : dstOf ops n with
        | none => exact .inl rfl
        | some t => exact .inr (.inr fun e' => (dstB_spec h hs).2 j (Ne.symm e) e'.symm)
      · exact ih
def StepAt (P : Program) (ops : Array Oper) (Q : Exit → Act → World → Prop) (a0 : Act) (φ : Γ → Nat → Value → World → Prop) (G : Γ → (Nat → Bool) → World → Prop) (j : Nat) : Prop :=
  ∀ (γ : Γ) (L : Nat → Bool) (v : Nat → Value) (a : Act) (w : World), (∀ i d, L i = true → needs ops i d = true → L d = true) → L j = false → (∀ d, needs ops j d = true → L d = true) → G γ L w → (∀ d, L d = true → φ γ d (v d) w) →
    (∀ d t, dstOf ops d = some t → L d = true → a.tmps.getD t undef = v d) → (∀ t, (∀ d, L d = true → dstOf ops d ≠ some t) → a.tmps.getD t undef = a0.tmps.getD t undef) →
    wpOp P ops Q j (fun a' w' => ∃ x γ', a' = a.put (dstOf ops j) x ∧ φ γ' j x w' ∧ (∀ d, d ≠ j → L d = true → φ γ d (v d) w → φ γ' d (v d) w') ∧ G γ' (fun i => i == j || L i) w') a w
def StepsTo (P : Program) (ops : Array Oper) (Q : Exit → Act → World → Prop) (a0 : Act) (φ : Γ → Nat → Value → World → Prop) (G : Γ → (Nat → Bool) → World → Prop) : Nat → Prop
  | 0 => True
  | n + 1 => StepsTo P ops Q a0 φ G n ∧ StepAt P ops Q a0 φ G n
theorem StepsTo.at_ {a0 : Act} {φ : Γ → Nat → Value → World → Prop} {G : Γ → (Nat → Bool) → World → Prop} : ∀ {n j : Nat}, StepsTo P ops Q a0 φ G n → j < n → StepAt P ops Q a0 φ G j
  | 0, j, _, h => by omega
  | n + 1, j, h, hj => by
    by_cases e : j = n
    · subst e; exact h.2
    · exact h.1.at_ (by omega)
theorem countFalse_lt {l : Array Bool} {i : Nat} (h : l[i]? = some false) : (l.setIfInBounds i true).toList.count false < l.toList.count false := by
  have hi := (Array.getElem?_eq_some_iff.1 h)
  obtain ⟨hlt, hv⟩ := hi
  rw [Array.toList_setIfInBounds, List.count_set (by simpa using hlt)]
  have : l.toList[i]'(by simpa using hlt) = false := by simpa using hv
  rw [this]
  have hm : false ∈ l.toList := by rw [← this]; exact List.getElem_mem _
  have h1 := List.count_pos_iff.2 hm
  have e1 : (false == false) = true := rfl
  have e2 : (true == false) = false := rfl
  rw [e1, e2, if_pos rfl, if_neg (by simp)]
  omega
theorem wpAny_phi (a0 : Act) (φ : Γ → Nat → Value → World → Prop) (G : Γ → (Nat → Bool) → World → Prop)
    (hback : backB ops = true) (hd : dstB ops a0.tmps.size = true) (steps : StepsTo P ops Q a0 φ G ops.size)
    (fin : ∀ γ L v w, (∀ j, j < ops.size → L j = true) → G γ L w → (∀ d, d < ops.size → φ γ d (v d) w) → Q .normal (putAll ops v a0 ops.size) w) :
    ∀ (fuel : Nat) (listed : Array Bool) (γ : Γ) (v : Nat → Value) (a : Act) (w : World), listed.size = ops.size → listed.toList.count false ≤ fuel →
      (∀ i d, listed.getD i false = true → needs ops i d = true → listed.getD d false = true) → a = putL ops (fun i => listed.getD i false) v a0 ops.size → G γ (fun i => listed.getD i false) w → (∀ d, listed.getD d false = true → φ γ d (v d) w) →
      wpAny P .any ops Q fuel listed a w := by
  have hall : ∀ listed : Array Bool, listed.size = ops.size → Region.ready .any ops listed = [] → ∀ j, j < ops.size → listed.getD j false = true := by
    intro listed hsz hr j
    induction j using Nat.strongRecOn with
    | _ j ih =>
      intro hj
      cases hl : listed.getD j false with
      | true => rfl
      | false =>
        exfalso
        have hm : j ∈ Region.ready .any ops listed := by
          rw [mem_ready]
          refine ⟨?_, ops[j], Array.getElem?_eq_getElem hj, fun e he hbd => ?_⟩
          · have hjl : j < listed.size := by omega
            simp [hjl] at hl ⊢; exact hl
          · have h1 := List.all_eq_true.1 hback j (List.mem_range.2 hj)
            rw [Array.getElem?_eq_getElem hj] at h1
            simp only [Option.map_some, Option.getD_some] at h1
            have h2 := Array.all_eq_true_iff_forall_mem.1 h1 e he
            have h3 : e.on < j := by
              rw [Bool.or_eq_true] at h2
              rcases h2 with h2 | h2
              · simpa using h2
              · rw [hbd] at h2; cases h2
            exact ih e.on h3 (by omega)
        rw [hr] at hm; cases hm
  intro fuel
  induction fuel with
  | zero =>
    intro listed γ v a w hsz hc hdown ha hG hφ
    have hfull : ∀ j, j < ops.size → listed.getD j false = true := by
      intro j hj
      have hjl : j < listed.size := by omega
      cases hl : listed[j] with
      | true => simp [hjl, hl]
      | false =>
        have : false ∈ listed.toList := by rw [← hl]; exact Array.mem_toList_iff.2 (Array.getElem_mem hjl)
        have := List.count_pos_iff.2 this
        omega
    refine ⟨?_, ?_⟩
    · refine List.eq_nil_iff_forall_not_mem.2 fun j hj => ?_
      rw [mem_ready] at hj
      obtain ⟨h0, o, ho, _⟩ := hj
      have hjs := (Array.getElem?_eq_some_iff.1 ho).1
      have hjl : j < listed.size := by omega
      have := hfull j hjs
      simp [hjl] at this h0
      rw [this] at h0; cases h0
    · rw [ha, putL_all _ hfull]
      exact fin γ _ v w hfull hG (fun d hd => hφ d (hfull d hd))
  | succ fuel ih =>
    intro listed γ v a w hsz hc hdown ha hG hφ
    refine ⟨fun hr => ?_, fun i hi => ?_⟩
    · have hfull := hall listed hsz hr
      rw [ha, putL_all _ hfull]
      exact fin γ _ v w hfull hG (fun d hd => hφ d (hfull d hd))
    · rw [mem_ready] at hi
      obtain ⟨h0, o, ho, hdeps⟩ := hi
      have his := (Array.getElem?_eq_some_iff.1 ho).1
      have hil : i < listed.size := by omega
      have hv0 : listed[i]? = some false := by simp [hil] at h0 ⊢; exact h0
      have hLi : listed.getD i false = false := by simp [hil] at h0 ⊢; exact h0
      have hneed : ∀ d, needs ops i d = true → listed.getD d false = true := by
        intro d hn
        unfold needs at hn
        rw [ho] at hn
        simp only [Option.map_some, Option.getD_some] at hn
        obtain ⟨e, he, hb⟩ := Array.any_eq_true'.1 hn
        simp only [Bool.and_eq_true, beq_iff_eq] at hb
        have := hdeps e he hb.1
        rw [hb.2] at this; exact this
      have hfun : (fun k => (listed.setIfInBounds i true).getD k false) = fun k => k == i || listed.getD k false := by
        funext k
        by_cases e : k = i
        · subst e; simp [hil]
        · have e1 : (k == i) = false := by simpa using e
          rw [e1, Bool.false_or, getD_set_ne false (Ne.symm e)]
      refine wpOp_mono ?_ (steps.at_ his γ (fun k => listed.getD k false) v a w hdown hLi hneed hG hφ ?_ ?_)
      · rintro a' w' ⟨x, γ', rfl, hx, hst, hG'⟩
        refine ih (listed.setIfInBounds i true) γ' (fun k => if k = i then x else v k) _ w' (by simpa using hsz) ?_ ?_ ?_ ?_ ?_
        · have := countFalse_lt hv0; omega
        · intro j d hj hn
          rw [show (listed.setIfInBounds i true).getD j false = (j == i || listed.getD j false) from congrFun hfun j] at hj
          rw [show (listed.setIfInBounds i true).getD d false = (d == i || listed.getD d false) from congrFun hfun d]
          by_cases e : j = i
          · subst e; rw [hneed d hn]; simp
          · have e1 : (j == i) = false := by simpa using e
            rw [e1, Bool.false_or] at hj
            rw [hdown j d hj hn]; simp
        · rw [ha, putL_put hd hLi x _ his, hfun]
        · rw [hfun]; exact hG'
        · intro d hdl
          rw [show (listed.setIfInBounds i true).getD d false = (d == i || listed.getD d false) from congrFun hfun d] at hdl
          by_cases e : d = i
          · subst e; simp only [if_true]; exact hx
          · have e1 : (d == i) = false := by simpa using e
            rw [e1, Bool.false_or] at hdl
            simp only [if_neg e]
            exact hst d e hdl (hφ d hdl)
      · intro d t hdt hL
        rw [ha]
        have hds : d < ops.size := by
          rcases Nat.lt_or_ge d ops.size with h | h
          · exact h
          · unfold dstOf at hdt; rw [Array.getElem?_eq_none h] at hdt; cases hdt
        exact putL_val hd rfl hdt hL _ hds
      · intro t ht
        rw [ha]
        exact putL_far _ fun i _ hL => ht i hL
theorem wp_region_phi {id : Nat} {a : Act} {w : World} (φ : Γ → Nat → Value → World → Prop) (G : Γ → (Nat → Bool) → World → Prop) (hm : P.follows .mixedOrders = true)
    (hback : backB ops = true) (hd : dstB ops a.tmps.size = true) (γ : Γ) (hG : G γ (fun _ => false) w.drew) (steps : StepsTo P ops Q a φ G ops.size)
    (fin : ∀ γ L v w, (∀ j, j < ops.size → L j = true) → G γ L w → (∀ d, d < ops.size → φ γ d (v d) w) → Q .normal (putAll ops v a ops.size) w) : (Code.region id ops true).wp P Q a w := by
  have hz : (fun i => (Array.replicate ops.size false).getD i false) = fun _ => false := by
    funext i
    by_cases h : i < ops.size <;> simp [h]
  refine wp_region_any hm (wpAny_phi a φ G hback hd steps fin _ _ γ (fun _ => undef) a _ (by simp) (by simp) ?_ ?_ ?_ ?_)
  · intro i d h; rw [show (Array.replicate ops.size false).getD i false = false from congrFun hz i] at h; cases h
  · rw [hz]
    have : ∀ n, putL ops (fun _ => false) (fun _ => undef) a n = a := by
      intro n; induction n with
      | zero => rfl
      | succ n ih => unfold putL; simpa using ih
    exact (this _).symm
  · rw [hz]; exact hG
  · intro d h; rw [show (Array.replicate ops.size false).getD d false = false from congrFun hz d] at h; cases h
theorem wpOp_value {j : Nat} {o : Oper} {a : Act} {w w' : World} {x : Value} {K : Act → World → Prop} (ho : ops[j]? = some o) (hg : o.guard = none) (h : (execOp a.eval o).run P w = .ok (.value x) w') (hK : K (a.put (dstOf ops j) x) w') : wpOp P ops Q j K a w := by
  unfold wpOp
  rw [ho]
  simp only [Region.wanted, hg, if_true]
  refine .inl ?_
  unfold Oper.wp
  rw [h]
  have : dstOf ops j = o.dst := by unfold dstOf; rw [ho]; rfl
  rw [this] at hK
  exact hK
theorem wpOp_skip {j : Nat} {o : Oper} {a : Act} {w w' : World} {K : Act → World → Prop} (ho : ops[j]? = some o) (hg : o.guard = none) (h : (execOp a.eval o).run P w = .ok .skip w') (hK : K (a.put (dstOf ops j) undef) w') : wpOp P ops Q j K a w := by
  unfold wpOp
  rw [ho]
  simp only [Region.wanted, hg, if_true]
  refine .inl ?_
  unfold Oper.wp
  rw [h]
  have : dstOf ops j = o.dst := by unfold dstOf; rw [ho]; rfl
  rw [this] at hK
  exact hK
theorem wpOp_calls {j : Nat} {o : Oper} {a : Act} {w w' : World} {f : FuncId} {args : Array Value} {K : Act → World → Prop} (ho : ops[j]? = some o) (hg : o.guard = none) (h : (execOp a.eval o).run P w = .ok (.enter f args) w')
    (hK : Calls P f args w' fun e w'' => ∃ x, e = .returned x ∧ K (a.put (dstOf ops j) x) w'') : wpOp P ops Q j K a w := by
  unfold wpOp
  rw [ho]
  simp only [Region.wanted, hg, if_true]
  refine .inl ?_
  unfold Oper.wp
  rw [h]
  have hd : dstOf ops j = o.dst := by unfold dstOf; rw [ho]; rfl
  rw [hd] at hK
  refine Calls.mono hK ?_
  rintro e w'' ⟨x, rfl, hx⟩
  exact hx
end
end Go.Proofs.YtapodcmjggmgmaaGreatDoor
namespace Go.Proofs.YtapodcmjggmgmaaGreatDoor
inductive Sg
  | val (v : Value)
  | g (k : Nat)
  | any
def Sg.isG (k : Nat) : Sg → Bool
  | .g i => i == k
  | _ => false
def sgφ (sp : List Sg) (γ : Nat → Value) (d : Nat) (v : Value) (_w : World) : Prop := match sp.getD d .any with
  | .val x => v = x
  | .g k => v = γ k
  | .any => True
def upd (γ : Nat → Value) (k : Nat) (x : Value) : Nat → Value := fun i => if i = k then x else γ i
theorem sgφ_upd {sp : List Sg} {γ : Nat → Value} {j k : Nat} {x : Value} (hk : ((List.range sp.length).all fun d => d == j || !(sp.getD d .any).isG k) = true) {d : Nat} (hd : d ≠ j) {v : Value} {w w' : World} (h : sgφ sp γ d v w) : sgφ sp (upd γ k x) d v w' := by
  unfold sgφ at *
  cases hs : sp.getD d .any with
  | val y => rw [hs] at h; exact h
  | any => trivial
  | g i =>
    rw [hs] at h
    have hl : d < sp.length := by
      rcases Nat.lt_or_ge d sp.length with hl | hl
      · exact hl
      · rw [List.getD_eq_getElem?_getD, List.getElem?_eq_none hl] at hs; cases hs
    have := List.all_eq_true.1 hk d (List.mem_range.2 hl)
    rw [hs] at this
    simp [Sg.isG, hd] at this
    simp only [upd, this, if_false]
    exact h
section
variable {P : Program} {ops : Array Oper} {Q : Exit → Act → World → Prop} {a0 : Act} {sp : List Sg} {G : (Nat → Value) → (Nat → Bool) → World → Prop} {j : Nat} {o : Oper}
structure StIn (ops : Array Oper) (a0 : Act) (sp : List Sg) (G : (Nat → Value) → (Nat → Bool) → World → Prop) (j : Nat) (γ : Nat → Value) (L : Nat → Bool) (v : Nat → Value) (a : Act) (w : World) : Prop where
  off : L j = false
  dep : ∀ d, needs ops j d = true → L d = true
  down : ∀ i d, L i = true → needs ops i d = true → L d = true
  inv : G γ L w
  φ : ∀ d, needs ops j d = true → sgφ sp γ d (v d) w
  val : ∀ d t, dstOf ops d = some t → needs ops j d = true → a.tmps.getD t undef = v d
  far : ∀ t, ((List.range ops.size).all fun d => dstOf ops d != some t) = true → a.tmps.getD t undef = a0.tmps.getD t undef
  late : ∀ t, ((List.range ops.size).all fun d => dstOf ops d != some t || d == j || needs ops d j) = true → a.tmps.getD t undef = a0.tmps.getD t undef
theorem StIn.mk' {γ : Nat → Value} {L : Nat → Bool} {v : Nat → Value} {a : Act} {w : World} (hdown : ∀ i d, L i = true → needs ops i d = true → L d = true) (hLj : L j = false) (hneed : ∀ d, needs ops j d = true → L d = true) (hG : G γ L w) (hφ : ∀ d, L d = true → sgφ sp γ d (v d) w)
    (hval : ∀ d t, dstOf ops d = some t → L d = true → a.tmps.getD t undef = v d) (h0 : ∀ t, (∀ d, L d = true → dstOf ops d ≠ some t) → a.tmps.getD t undef = a0.tmps.getD t undef) : StIn ops a0 sp G j γ L v a w :=
  ⟨hLj, hneed, hdown, hG, fun d hd => hφ d (hneed d hd), fun d t hd hn => hval d t hd (hneed d hn), fun t ht => h0 t fun d _ hd => by
    have hds : d < ops.size := by
      rcases Nat.lt_or_ge d ops.size with h | h
      · exact h
      · unfold dstOf at hd; rw [Array.getElem?_eq_none h] at hd; cases hd
    have := List.all_eq_true.1 ht d (List.mem_range.2 hds)
    rw [hd] at this
    simp at this, fun t ht => h0 t fun d hLd hd => by
    have hds : d < ops.size := by
      rcases Nat.lt_or_ge d ops.size with h | h
      · exact h
      · unfold dstOf at hd; rw [Array.getElem?_eq_none h] at hd; cases hd
    have := List.all_eq_true.1 ht d (List.mem_range.2 hds)
    rw [hd] at this
    simp at this
    rcases this with rfl | this
    · rw [hLj] at hLd; cases hLd
    · rw [hdown d j hLd this] at hLj; cases hLj⟩
theorem sg_val {x : Value} (ho : ops[j]? = some o) (hg : o.guard = none) (hs : sp.getD j .any = .val x) (hG : ∀ γ L w, G γ L w → L j = false → G γ (fun i => i == j || L i) w)
    (h : ∀ γ L v a w, StIn ops a0 sp G j γ L v a w → (execOp a.eval o).run P w = .ok (.value x) w) : StepAt P ops Q a0 (sgφ sp) G j := by
  intro γ L v a w hdown hLj hneed hGw hφ hval h0
  refine wpOp_value ho hg (h γ L v a w (StIn.mk' hdown hLj hneed hGw hφ hval h0)) ⟨x, γ, rfl, ?_, fun d _ _ hh => hh, hG γ L w hGw hLj⟩
  unfold sgφ
  rw [hs]
theorem sg_skip (ho : ops[j]? = some o) (hg : o.guard = none) (hs : sp.getD j .any = .any)
    (h : ∀ γ L v a w, StIn ops a0 sp G j γ L v a w → ∃ w', (execOp a.eval o).run P w = .ok .skip w' ∧ G γ (fun i => i == j || L i) w') : StepAt P ops Q a0 (sgφ sp) G j := by
  intro γ L v a w hdown hLj hneed hGw hφ hval h0
  obtain ⟨w', hrun, hG'⟩ := h γ L v a w (StIn.mk' hdown hLj hneed hGw hφ hval h0)
  refine wpOp_skip ho hg hrun ⟨undef, γ, rfl, ?_, fun d _ _ hh => hh, hG'⟩
  unfold sgφ
  rw [hs]; trivial
theorem sg_call {k : Nat} {f : FuncId} (ho : ops[j]? = some o) (hg : o.guard = none) (hs : sp.getD j .any = .g k) (hk : ((List.range sp.length).all fun d => d == j || !(sp.getD d .any).isG k) = true)
    (h : ∀ γ L v a w, StIn ops a0 sp G j γ L v a w → ∃ args, (execOp a.eval o).run P w = .ok (.enter f args) w ∧ Calls P f args w fun r w' => ∃ x, r = .returned x ∧ G (upd γ k x) (fun i => i == j || L i) w') : StepAt P ops Q a0 (sgφ sp) G j := by
  intro γ L v a w hdown hLj hneed hGw hφ hval h0
  obtain ⟨args, hrun, hcall⟩ := h γ L v a w (StIn.mk' hdown hLj hneed hGw hφ hval h0)
  refine wpOp_calls ho hg hrun (hcall.mono ?_)
  rintro r w' ⟨x, rfl, hG'⟩
  refine ⟨x, rfl, x, upd γ k x, rfl, ?_, fun d hd _ hh => sgφ_upd hk hd hh, hG'⟩
  unfold sgφ
  rw [hs]
  simp [upd]
end
end Go.Proofs.YtapodcmjggmgmaaGreatDoor
namespace Go.Proofs.YtapodcmjggmgmaaGreatDoor
open Go.RowKit
section
variable {P : Program} {ops : Array Oper} {Q : Exit → Act → World → Prop} {a0 : Act} {sp : List Sg} {G : (Nat → Value) → (Nat → Bool) → World → Prop} {j : Nat} {o : Oper}
theorem sg_new {k : Nat} (ho : ops[j]? = some o) (hg : o.guard = none) (hs : sp.getD j .any = .g k) (hk : ((List.range sp.length).all fun d => d == j || !(sp.getD d .any).isG k) = true)
    (h : ∀ γ L v a w, StIn ops a0 sp G j γ L v a w → ∃ x w', (execOp a.eval o).run P w = .ok (.value x) w' ∧ G (upd γ k x) (fun i => i == j || L i) w') : StepAt P ops Q a0 (sgφ sp) G j := by
  intro γ L v a w hdown hLj hneed hGw hφ hval h0
  obtain ⟨x, w', hrun, hG'⟩ := h γ L v a w (StIn.mk' hdown hLj hneed hGw hφ hval h0)
  refine wpOp_value ho hg hrun ⟨x, upd γ k x, rfl, ?_, fun d hd _ hh => sgφ_upd hk hd hh, hG'⟩
  unfold sgφ
  rw [hs]
  simp [upd]
theorem sg_callv' {x : Value} {f : FuncId} (ho : ops[j]? = some o) (hg : o.guard = none) (hs : sp.getD j .any = .val x)
    (h : ∀ γ L v a w, StIn ops a0 sp G j γ L v a w → ∃ args, (execOp a.eval o).run P w = .ok (.enter f args) w ∧ Calls P f args w fun r w' => r = .returned x ∧ G γ (fun i => i == j || L i) w') : StepAt P ops Q a0 (sgφ sp) G j := by
  intro γ L v a w hdown hLj hneed hGw hφ hval h0
  obtain ⟨args, hrun, hcall⟩ := h γ L v a w (StIn.mk' hdown hLj hneed hGw hφ hval h0)
  refine wpOp_calls ho hg hrun (hcall.mono ?_)
  rintro r w' ⟨rfl, hG'⟩
  refine ⟨x, rfl, x, γ, rfl, ?_, fun d _ _ hh => hh, hG'⟩
  unfold sgφ
  rw [hs]
theorem run_append_sln {a : Act} {w : World} {base : Nat} {e : TypeId} {size : Nat} {v : Value} {n : Nat} {xs : List Value} (hown : w.ownsRow base e size v n xs) {vx : Value} {rows : List (List Value)} (hS : Sln w vx size rows)
    (hrs : ∀ r ∈ rows, r.length = size) (hone : ∀ r ∈ rows, r.all Value.oneCell' = true) {z : Value} {bytes : Nat}
    (t : TypeId) (ht : P.underlying t = some (.slice e)) (hinfo : (P.info? e).map (fun i => (i.zero, i.size, i.bytes)) = some (some z, size, bytes))
    (hzs : z.cells.size = size) (hsz : 0 < size) (hby : bytes ≤ 128) (hn : n + rows.length < 1000000000000) (hbase : base ≤ w.heap.size)
    (s x : Operand) (ho : o.op = .call { callee := .builtin .append, args := #[s, x], argTypes := #[t, t] }) (hs : a.eval s = v) (hx : a.eval x = vx) :
    ∃ v' w', (execOp a.eval o).run P w = .ok (.value v') w' ∧ w'.ownsRow base e size v' (n + rows.length) (xs ++ rows.flatten) ∧ Chg (fun k => some k = v.ownBlock) w w' := by
  obtain ⟨i, hi, h0, h1, h2⟩ : ∃ i, P.info? e = some i ∧ i.zero = some z ∧ i.size = size ∧ i.bytes = bytes := by
    cases hp : P.info? e with
    | none => rw [hp] at hinfo; cases hinfo
    | some i =>
      rw [hp] at hinfo
      simp only [Option.map_some, Option.some.injEq, Prod.mk.injEq] at hinfo
      exact ⟨i, rfl, hinfo.1, hinfo.2.1, hinfo.2.2⟩
  have hby2 : (n + rows.length) * bytes ≤ 140737488355328 := by
    have : (n + rows.length) * bytes ≤ 1000000000000 * 128 := Nat.mul_le_mul (by omega) hby
    omega
  obtain ⟨A, c, rfl, hc⟩ := hS
  have fin : ∀ v' w', (Builtin.append_ #[t, t] o.type #[v, .slice A rows.length c]).run P w = .ok v' w' → (execOp a.eval o).run P w = .ok (.value v') w' := fun v' w' hrun => by
    unfold execOp
    simp only [ho, resolve, invoke, builtin, Sem.run_bind, Sem.run_pure, Result.andThen_ok, List.map_toArray, List.map_cons, List.map_nil, hs, hx, hrun]
  cases rows with
  | nil =>
    cases A with
    | none =>
      have hrun : (Builtin.append_ #[t, t] o.type #[v, .slice none 0 c]).run P w = .ok v w := by
        rcases hown.2 with ⟨rfl, rfl⟩ | ⟨g, cap, cur, rfl, _, _, hnc, _⟩
        · simp [Builtin.append_, run_underlying ht, sizeOf, typeInfo, hi, Builtin.lenOf, Builtin.firstCells]
        · simp [Builtin.append_, run_underlying ht, sizeOf, typeInfo, hi, Builtin.lenOf, Builtin.firstCells, hnc, storeCells]
      exact ⟨v, w, fin _ _ hrun, by simpa using hown, Chg.refl _ _⟩
    | some ad =>
      obtain ⟨v', w', hrun, h3, h4, _⟩ := run_append_own (P := P) (w := w) base t o.type e i z size bytes ht hi h0 h1 h2 hzs hsz v n xs hown ad 0 c [] (by simp) (fun j u hu => by simp at hu) (fun u hu => by cases hu) (by unfold maxLen; simp at hn; omega) (by simpa using hby2) hbase
      exact ⟨v', w', fin _ _ hrun, by simpa using h3, Chg.of_grown h4⟩
  | cons r rs =>
    obtain ⟨b, o', rfl, hcc⟩ := hc (by simp)
    obtain ⟨v', w', hrun, h3, h4, _⟩ := run_append_own (P := P) (w := w) base t o.type e i z size bytes ht hi h0 h1 h2 hzs hsz v n xs hown ⟨b, o', none⟩ (r :: rs).length c (r :: rs).flatten (flat_len hrs) (fun j u hu => by
      obtain ⟨i', r', k, e1, e2, e3⟩ := flat_of hrs hu
      have := hcc i' r' e1 k u e2
      rw [Go.WideShapes.add_plain, e3, ← Nat.add_assoc]
      exact this) (fun u hu => by
      obtain ⟨r', hr', hu'⟩ := List.mem_flatten.1 hu
      exact List.all_eq_true.1 (hone r' hr') u hu') (by unfold maxLen; omega) hby2 hbase
    exact ⟨v', w', fin _ _ hrun, h3, Chg.of_grown h4⟩
theorem ex_append {K : Value → World → Prop} {a : Act} {w : World} {base : Nat} {e : TypeId} {size : Nat} {v : Value} {n : Nat} {xs : List Value} (hown : w.ownsRow base e size v n xs) {vx : Value} {rows : List (List Value)} (hS : Sln w vx size rows)
    (hrs : ∀ r ∈ rows, r.length = size) (hone : ∀ r ∈ rows, r.all Value.oneCell' = true) {z : Value} {bytes : Nat}
    (t : TypeId) (ht : P.underlying t = some (.slice e)) (hinfo : (P.info? e).map (fun i => (i.zero, i.size, i.bytes)) = some (some z, size, bytes))
    (hzs : z.cells.size = size) (hsz : 0 < size) (hby : bytes ≤ 128) (hn : n + rows.length < 1000000000000) (hbase : base ≤ w.heap.size)
    (s x : Operand) (ho : o.op = .call { callee := .builtin .append, args := #[s, x], argTypes := #[t, t] }) (hs : a.eval s = v) (hx : a.eval x = vx)
    (h : ∀ v' w', w'.ownsRow base e size v' (n + rows.length) (xs ++ rows.flatten) → Chg (fun k => some k = v.ownBlock) w w' → K v' w') :
    ∃ v' w', (execOp a.eval o).run P w = .ok (.value v') w' ∧ K v' w' := by
  obtain ⟨v', w', h1, h2, h3⟩ := run_append_sln hown hS hrs hone t ht hinfo hzs hsz hby hn hbase s x ho hs hx
  exact ⟨v', w', h1, h v' w' h2 h3⟩
end
end Go.Proofs.YtapodcmjggmgmaaGreatDoor
namespace Go.Proofs.YtapodcmjggmgmaaGreatDoor
open Go.RowKit
structure Gh where
  on : Nat
  k : Nat
  p : Bool → Value → World → Prop
structure GQ (W : World) (S : Nat → Prop) (jw : Nat) (PW : Bool → World → Prop) (gs : List Gh) (γ : Nat → Value) (L : Nat → Bool) (w : World) : Prop where
  chg : Chg S W w
  pw : PW (L jw) w
  gh : ∀ x ∈ gs, L x.on = true → x.p (L jw) (γ x.k) w
section
variable {W w w' : World} {S : Nat → Prop} {jw j : Nat} {PW : Bool → World → Prop} {gs : List Gh} {γ : Nat → Value} {L : Nat → Bool}
theorem GQ.keep (hjw : jw ≠ j) (hgs : (gs.map (·.on)).contains j = false) : ∀ γ L w, GQ W S jw PW gs γ L w → L j = false → GQ W S jw PW gs γ (fun i => i == j || L i) w := by
  intro γ L w h _
  have e1 : (jw == j) = false := by simpa using hjw
  refine ⟨h.chg, by simpa [e1] using h.pw, fun x hx hl => ?_⟩
  have e2 : (x.on == j) = false := by
    cases hc : x.on == j with
    | false => rfl
    | true =>
      have : (gs.map (·.on)).contains j = true := by
        rw [List.contains_iff_mem]
        exact List.mem_map.2 ⟨x, hx, by simpa using hc⟩
      rw [this] at hgs; cases hgs
  simp only [e2, Bool.false_or] at hl
  simpa [e1] using h.gh x hx hl
structure GQ.St (S : Nat → Prop) (PW : Bool → World → Prop) (gs : List Gh) : Prop where
  pw : ∀ b w w', PW b w → Ext w w' → PW b w'
  gh : ∀ x ∈ gs, ∀ b v w w', x.p b v w → Ext w w' → x.p b v w'
theorem GQ.ext (h : GQ W S jw PW gs γ L w) (hs : GQ.St S PW gs) (hE : Ext w w') : GQ W S jw PW gs γ L w' :=
  ⟨h.chg.ext_trans hE, hs.pw _ _ _ h.pw hE, fun x hx hl => hs.gh x hx _ _ _ _ (h.gh x hx hl) hE⟩
theorem GQ.call (h : GQ W S jw PW gs γ L w) (hs : GQ.St S PW gs) (hE : Ext w w') (hjw : jw ≠ j) (hgs : (gs.map (·.on)).contains j = false) (hj : L j = false) : GQ W S jw PW gs γ (fun i => i == j || L i) w' :=
  GQ.keep hjw hgs γ L w' (h.ext hs hE) hj
theorem GQ.new (h : GQ W S jw PW gs γ L w) (hs : GQ.St S PW gs) (hE : Ext w w') (hjw : jw ≠ j) {v : Value} {k : Nat} (hk : (gs.all fun x => x.on == j || x.k != k) = true)
    (hv : ∀ x ∈ gs, x.on = j → x.k = k ∧ x.p (L jw) v w') : GQ W S jw PW gs (upd γ k v) (fun i => i == j || L i) w' := by
  have e1 : (jw == j) = false := by simpa using hjw
  refine ⟨h.chg.ext_trans hE, by simpa [e1] using hs.pw _ _ _ h.pw hE, fun x hx hl => ?_⟩
  simp only [e1, Bool.false_or]
  by_cases e : x.on = j
  · obtain ⟨h1, h2⟩ := hv x hx e
    simpa [upd, h1] using h2
  · have e2 : (x.on == j) = false := by simpa using e
    simp only [e2, Bool.false_or] at hl
    have h3 := List.all_eq_true.1 hk x hx
    simp only [e2, Bool.false_or, bne_iff_ne, ne_eq] at h3
    have := hs.gh x hx _ _ _ _ (h.gh x hx hl) hE
    simpa [upd, h3] using this
theorem GQ.write (h : GQ W S jw PW gs γ L w) (hC : Chg S w w') (hP : PW true w') (hg : ∀ x ∈ gs, x.on ≠ jw → L x.on = true → x.p true (γ x.k) w') (hgs : (gs.map (·.on)).contains jw = false) : GQ W S jw PW gs γ (fun i => i == jw || L i) w' := by
  refine ⟨h.chg.trans hC (fun _ _ h => h), by simpa using hP, fun x hx hl => ?_⟩
  have e : x.on ≠ jw := by
    rintro e
    have : (gs.map (·.on)).contains jw = true := by
      rw [List.contains_iff_mem]
      exact List.mem_map.2 ⟨x, hx, e⟩
    rw [this] at hgs; cases hgs
  have e2 : (x.on == jw) = false := by simpa using e
  simp only [e2, Bool.false_or] at hl
  simpa using hg x hx e hl
theorem GQ.off (h : GQ W S jw PW gs γ L w) (hS : ∀ k, ¬ S k) : Ext W w := h.chg.mono fun k _ hk => hS k hk
end
def NewAt (B : Nat) (t : TypeId) (cs : Array Value) (f : Nat → Value) : Bool → Value → World → Prop := fun _ v w => ∃ b, B ≤ b ∧ v = f b ∧ At w b t cs
theorem NewAt.ext {B : Nat} {t : TypeId} {cs : Array Value} {f : Nat → Value} {b : Bool} {v : Value} {w w' : World} (h : NewAt B t cs f b v w) (hE : Ext w w') : NewAt B t cs f b v w' := by
  obtain ⟨g, h1, h2, h3⟩ := h
  exact ⟨g, h1, h2, h3.ext hE⟩
theorem NewAt.chg {B : Nat} {t : TypeId} {cs : Array Value} {f : Nat → Value} {b b' : Bool} {v : Value} {w w' : World} {S : Nat → Prop} (h : NewAt B t cs f b v w) (hC : Chg S w w') (hS : ∀ k, S k → k < B) : NewAt B t cs f b' v w' := by
  obtain ⟨g, h1, h2, h3⟩ := h
  exact ⟨g, h1, h2, h3.chg hC (fun hk => by have := hS _ hk; omega)⟩
def slB (n c : Nat) (b : Nat) : Value := .slice (some ⟨b, 0, none⟩) n c
def ptB (b : Nat) : Value := .pointer (some ⟨b, 0, none⟩)
theorem NewAt.sl {B : Nat} {t : TypeId} {xs : List Value} {b : Bool} {v : Value} {w : World} {c : Nat} (h : NewAt B t xs.toArray (slB xs.length c) b v w) : Sl w v xs := by
  obtain ⟨g, _, rfl, h3⟩ := h
  exact ⟨_, c, rfl, fun _ => ⟨_, _, rfl, fun i y hi => by
    have := h3.cell i
    rw [Nat.zero_add, this]
    simpa using hi⟩⟩
theorem GQ.start (W : World) (S : Nat → Prop) (jw : Nat) (PW : Bool → World → Prop) (gs : List Gh) (γ : Nat → Value) (h : PW false W.drew) : GQ W S jw PW gs γ (fun _ => false) W.drew :=
  ⟨(Chg.refl S W).drew, h, fun _ _ hl => by cases hl⟩
end Go.Proofs.YtapodcmjggmgmaaGreatDoor
namespace Go.Proofs.YtapodcmjggmgmaaGreatDoor
open Go.RowKit
theorem bytes_ext {a b : ByteArray} (h : a.data.toList = b.data.toList) : a = b := by
  apply ByteArray.ext
  exact Array.toList_inj.1 h
theorem extract_list (s : ByteArray) (i j : Nat) : (s.extract i j).data.toList = (s.data.toList.drop i).take (j - i) := by
  rw [ByteArray.data_extract, Array.toList_extract]
theorem frame_parts {s c : ByteArray} {rest : List UInt8} (hs : s.data.toList = frameL c.data.toList ++ rest) :
    s.extract 0 4 = ⟨(num4 c.size).toArray⟩ ∧ s.extract 4 8 = ⟨(num4 (crc (num4 c.size ++ c.data.toList))).toArray⟩ ∧ s.extract 8 (8 + c.size) = c ∧ s.size = 8 + c.size + rest.length := by
  have hl : c.data.toList.length = c.size := rfl
  unfold frameL at hs
  rw [hl] at hs
  have l1 := num4_length c.size
  have l2 := num4_length (crc (num4 c.size ++ c.data.toList))
  generalize num4 (crc (num4 c.size ++ c.data.toList)) = B at *
  generalize num4 c.size = A at *
  refine ⟨bytes_ext ?_, bytes_ext ?_, bytes_ext ?_, ?_⟩
  · rw [extract_list, hs]; simp [l1, List.take_append]
  · rw [extract_list, hs]
    simp only [List.append_assoc]
    rw [List.drop_append_of_le_length (by omega), List.drop_eq_nil_of_le (by omega), List.nil_append, List.take_append_of_le_length (by omega), List.take_of_length_le (by omega)]
  · rw [extract_list, hs]
    rw [show A ++ B ++ c.data.toList ++ rest = (A ++ B) ++ (c.data.toList ++ rest) by simp]
    rw [List.drop_append_of_le_length (by simp [l1, l2]), List.drop_eq_nil_of_le (by simp [l1, l2]), List.nil_append, List.take_append_of_le_length (by rw [hl]; omega), List.take_of_length_le (by rw [hl]; omega)]
  · have := congrArg List.length hs
    simp [l1, l2] at this
    have h2 : s.size = s.data.size := rfl
    have h3 : c.size = c.data.size := rfl
    omega
set_option maxRecDepth 100000 in
set_option maxHeartbeats 1000000 in
theorem open_frame (w : World) (s c : ByteArray) (rest : List UInt8) (hs : s.data.toList = frameL c.data.toList ++ rest) (hc : c.size ≤ 1048576) (hsz : s.size ≤ 9223372036854775807) (hT : Tab w) :
    Calls Tryz.prog 109 #[.string s] w fun e w' => e = .returned (.tuple #[.string c, .int .i64 (8 + c.size : Nat), .int .i64 0]) ∧ Ext w w' := by
  obtain ⟨x1, x2, x3, x4⟩ := frame_parts hs
  obtain ⟨a, b, k, d, e1, e2⟩ := val4_num4 c.size (by omega)
  obtain ⟨a', b', k', d', e3, e4⟩ := val4_num4 (crc (num4 c.size ++ c.data.toList)) (crc_lt _)
  have hA4 : (⟨(num4 c.size).toArray⟩ : ByteArray).size = 4 := rfl
  have hx6 : (⟨(num4 c.size).toArray⟩ : ByteArray).data.toList = num4 c.size := rfl
  have X1 := x1
  rw [e1] at x1
  rw [e3] at x2
  have hlt := crc_lt (num4 c.size ++ c.data.toList)
  generalize (⟨(num4 c.size).toArray⟩ : ByteArray) = A4 at X1 hA4 hx6
  have hx5 : crc (A4.data.toList ++ c.data.toList) = crc (num4 c.size ++ c.data.toList) := by rw [hx6]
  generalize crc (num4 c.size ++ c.data.toList) = x at e3 e4 hx5 hlt
  clear hx6
  have HX := Lib.hid hx5
  have HX4 := Lib.hid e4
  have hA5 : (⟨#[a, b, k, d]⟩ : ByteArray) = A4 := by rw [← x1, X1]
  rw [hA5] at x1
  clear hs hx5 e4 e3 X1 hlt
  have g1 : ¬ ((s.size : Int) < 8) := by omega
  have g2 : ¬ ((1048576 : Int) < (c.size : Int)) := by omega
  have g3 : ¬ ((s.size : Int) < 8 + (c.size : Int)) := by omega
  clear x4
  go_enter Tryz.func109, Tryz.ntmps109
  go_wp2_with fail
  have cc := val4_any w a b k d
  rw [e2, hA5] at cc
  refine cc.mono ?_
  rintro e w1 ⟨rfl, hE1⟩
  clear cc
  go_wp2_with fail
  have hST : GQ.St (fun _ => False) (fun _ _ => True) [⟨3, 0, NewAt w1.heap.size 9 #[.string A4, .string c] (slB 2 2)⟩] := ⟨fun _ _ _ h _ => h, by
    intro gx hx
    rcases List.mem_cons.1 hx with rfl | hx
    · exact fun b _ _ _ h hE => NewAt.ext (b := b) h hE
    cases hx⟩
  refine wp_region_phi (Γ := Nat → Value) (sgφ [.val (.string s), .val (.string A4), .val (.string c), .g 0, .val (.int .u32 (x : Int)), .val (.string s), .val (.string ⟨#[a', b', k', d']⟩), .val (.int .u32 (x : Int)), .val (.bool false)])
    (GQ w1 (fun _ => False) 1000 (fun _ _ => True) [⟨3, 0, NewAt w1.heap.size 9 #[.string A4, .string c] (slB 2 2)⟩])
    (by kernel_rfl) (by kernel_rfl) (by kernel_rfl) (fun _ => undef) (GQ.start _ _ _ _ _ _ (trivial)) ?steps ?fin
  case steps =>
    show StepsTo _ _ _ _ _ _ 9
    refine ⟨⟨⟨⟨⟨⟨⟨⟨⟨trivial, ?s0⟩, ?s1⟩, ?s2⟩, ?s3⟩, ?s4⟩, ?s5⟩, ?s6⟩, ?s7⟩, ?s8⟩
    case s0 =>
      refine sg_val (x := .string s) rfl rfl rfl (GQ.keep (j := 0) (by decide) rfl) fun γ L v a w st => ?_
      have f0 := st.far 0 (by kernel_rfl)
      simp at f0
      go_simp
    case s1 =>
      refine sg_val (x := .string A4) rfl rfl rfl (GQ.keep (j := 1) (by decide) rfl) fun γ L v a w st => ?_
      have e0 := st.val 0 26 rfl (by kernel_rfl)
      rw [show v 0 = _ from st.φ 0 (by kernel_rfl)] at e0
      simp at e0
      go_simp
      try (intro hh; omega)
    case s2 =>
      refine sg_val (x := .string c) rfl rfl rfl (GQ.keep (j := 2) (by decide) rfl) fun γ L v a w st => ?_
      have f7 := st.far 7 (by kernel_rfl)
      simp at f7
      go_simp
    case s3 =>
      refine sg_new (k := 0) rfl rfl rfl (by kernel_rfl) fun γ L v a w st => ?_
      have e1 := st.val 1 27 rfl (by kernel_rfl)
      rw [show v 1 = _ from st.φ 1 (by kernel_rfl)] at e1
      simp at e1
      have e2 := st.val 2 28 rfl (by kernel_rfl)
      rw [show v 2 = _ from st.φ 2 (by kernel_rfl)] at e2
      simp at e2
      refine ⟨.slice (some ⟨w.heap.size, 0, none⟩) 2 2, w.alloc (.cells #[.string A4, .string c] 9), by go_simp, st.inv.new hST ((Ext.refl w).alloc _) (by decide) rfl ?_⟩
      intro gx hx hxj
      rcases List.mem_cons.1 hx with rfl | hx
      · exact ⟨rfl, w.heap.size, st.inv.chg.size, rfl, At.new w _ _⟩
      cases hx
    case s4 =>
      refine sg_callv' (x := .int .u32 (x : Int)) (f := 13) rfl rfl rfl fun γ L v a w st => ?_
      have e3 := st.val 3 29 rfl (by kernel_rfl)
      rw [show v 3 = _ from st.φ 3 (by kernel_rfl)] at e3
      have hg3 := st.inv.gh ⟨3, 0, NewAt w1.heap.size 9 #[.string A4, .string c] (slB 2 2)⟩ (by simp) (st.dep 3 (by kernel_rfl))
      refine ⟨#[γ 0], by go_simp, ?_⟩
      refine Calls.mono (sum_any w (γ 0) [A4, c] (NewAt.sl (b := true) hg3) (by simp) (pair_small hA4 hc) (hT.ext (hE1.trans (st.inv.off (fun _ h => h))))) ?_
      rintro e w' ⟨rfl, rfl⟩
      simp only [List.flatMap_cons, List.flatMap_nil, List.append_nil]
      rw [HX.out]
      have hE := Ext.refl w'
      exact ⟨rfl, st.inv.call hST hE (by decide) rfl st.off⟩
    case s5 =>
      refine sg_val (x := .string s) rfl rfl rfl (GQ.keep (j := 5) (by decide) rfl) fun γ L v a w st => ?_
      have f0 := st.far 0 (by kernel_rfl)
      simp at f0
      go_simp
    case s6 =>
      refine sg_val (x := .string ⟨#[a', b', k', d']⟩) rfl rfl rfl (GQ.keep (j := 6) (by decide) rfl) fun γ L v a w st => ?_
      have e5 := st.val 5 31 rfl (by kernel_rfl)
      rw [show v 5 = _ from st.φ 5 (by kernel_rfl)] at e5
      simp at e5
      go_simp
      try (intro hh; omega)
    case s7 =>
      refine sg_callv' (x := .int .u32 (x : Int)) (f := 150) rfl rfl rfl fun γ L v a w st => ?_
      have e6 := st.val 6 32 rfl (by kernel_rfl)
      rw [show v 6 = _ from st.φ 6 (by kernel_rfl)] at e6
      simp at e6
      refine ⟨#[.string ⟨#[a', b', k', d']⟩], by go_simp, ?_⟩
      refine Calls.mono (val4_any w a' b' k' d') ?_
      rintro e w' ⟨rfl, hE⟩
      rw [HX4.out]
      exact ⟨rfl, st.inv.call hST hE (by decide) rfl st.off⟩
    case s8 =>
      refine sg_val (x := .bool false) rfl rfl rfl (GQ.keep (j := 8) (by decide) rfl) fun γ L v a w st => ?_
      have e4 := st.val 4 30 rfl (by kernel_rfl)
      rw [show v 4 = _ from st.φ 4 (by kernel_rfl)] at e4
      simp at e4
      have e7 := st.val 7 33 rfl (by kernel_rfl)
      rw [show v 7 = _ from st.φ 7 (by kernel_rfl)] at e7
      simp at e7
      go_simp
  case fin =>
    intro γ L v wr hall hG hφ
    have h8 : v 8 = (.bool false) := hφ 8 (by decide)
    have hE := hG.off (fun _ h => h)
    clear hall hφ hG
    change Exit.then _ _ _ (putAll _ v _ 9) wr
    simp only [putAll, dstOf, Act.put]
    simp only [List.getElem?_toArray, List.getElem?_cons_zero, List.getElem?_cons_succ, Option.bind_some, List.setIfInBounds_toArray, List.set_cons_zero, List.set_cons_succ]
    rw [h8]
    clear h8
    go_wp2_with fail
    refine bodyPost_ret (v := .tuple #[.string c, .int .i64 (8 + c.size : Nat), .int .i64 0]) (by simp [results, Tryz.results109, go_sem, x3]) rfl ?_
    exact ⟨rfl, hE1.trans hE⟩
set_option maxRecDepth 100000 in
theorem only_frame (w : World) (s c : ByteArray) (hs : s.data.toList = frameL c.data.toList) (hc : c.size ≤ 1048576) (hT : Tab w) :
    Calls Tryz.prog 71 #[.string s] w fun e w' => e = .returned (.tuple #[.string c, .int .i64 0]) ∧ Ext w w' := by
  have hs' : s.data.toList = frameL c.data.toList ++ [] := by rw [List.append_nil]; exact hs
  have hsz := (frame_parts hs').2.2.2
  simp only [List.length_nil, Nat.add_zero] at hsz
  have hc1 := open_frame w s c [] hs' hc (by omega) hT
  rw [← hsz] at hc1
  clear hsz hs hs'
  go_enter Tryz.func71, Tryz.ntmps71
  go_wp2_with fail
  refine hc1.mono ?_
  rintro e w1 ⟨rfl, hE1⟩
  clear hc1
  go_wp2_with fail
  go_ret2
  exact ⟨rfl, hE1⟩
end Go.Proofs.YtapodcmjggmgmaaGreatDoor
