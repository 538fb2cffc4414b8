/-
  Layer 18: where an element is; the key of a set and the states.
-/
import Derived.Test.YtlodaffiamegpaaHs5
import Derived.Laws.Bits64b
namespace Go.Proofs.Ytlodaffiamegpaa
open Go.RowKit Go.Sort

def idxV {α : Type} [DecidableEq α] (l : List α) (x : α) : Int := if x ∈ l then ((l.idxOf x : Nat) : Int) else -1
theorem idxV_at {α : Type} [DecidableEq α] {l : List α} {x : α} {k : Nat} (hk : k < l.length) (h : l[k] = x) (hn : x ∉ l.take k) : idxV l x = (k : Int) := by
  have hm : x ∈ l := by rw [← h]; exact List.getElem_mem hk
  unfold idxV
  rw [if_pos hm]
  have h1 : l = l.take k ++ x :: l.drop (k + 1) := by rw [← h, List.getElem_cons_drop, List.take_append_drop]
  have h2 : l.idxOf x = (l.take k ++ x :: l.drop (k + 1)).idxOf x := by rw [← h1]
  rw [h2, List.idxOf_append, if_neg hn, List.idxOf_cons_self, List.length_take]
  omega
theorem idxV_no {α : Type} [DecidableEq α] {l : List α} {x : α} (h : x ∉ l) : idxV l x = -1 := by unfold idxV; rw [if_neg h]
theorem not_mem_next {α : Type} [DecidableEq α] {l : List α} {x : α} {k : Nat} (hk : k < l.length) (hn : x ∉ l.take k) (h : l[k] ≠ x) : x ∉ l.take (k + 1) := by
  rw [List.take_succ_eq_append_getElem hk, List.mem_append, List.mem_singleton]
  rintro (hh | hh)
  · exact hn hh
  · exact h hh.symm
theorem ret_i64' {a b : Int} (h : a = b) : Ending.returned (.int .i64 a) = .returned (.int .i64 b) := by rw [h]

theorem idx_u64 (w : World) (v : Value) (l : List Nat) (x : Nat) (hS : Sl w v (u64s l)) (hl : l.length ≤ 9223372036854775807) :
    Calls Try.prog 38 #[v, .int .u64 (x : Int)] w fun e w' => e = .returned (.int .i64 (idxV l x)) ∧ w' = w := by
  obtain ⟨A, c, rfl⟩ := (show ∃ A c, v = .slice A l.length c from by obtain ⟨A, c, h, _⟩ := hS; exact ⟨A, c, by rw [h]; simp [u64s]⟩)
  go_enter Try.func38, Try.ntmps38
  go_wp2_with fail
  go_loopw [8] (fun iv wr => ∃ k : Nat, k ≤ l.length ∧ iv = .int .i64 (k : Int) ∧ Hid (x ∉ l.take k) ∧ wr = w) (fun iv _ => l.length - (intOf iv).toNat)
  case atStart => exact ⟨0, Nat.zero_le _, rfl, Lib.hid (by simp), rfl⟩
  case round =>
    obtain ⟨k, hk, rfl, HN, rfl⟩ := hrel
    by_cases hlt : k < l.length
    · obtain ⟨b, o, c', hv, hc0⟩ := sl_elem hS (u64s_at (List.getElem?_eq_getElem hlt))
      simp only [Value.slice.injEq] at hv
      obtain ⟨rfl, -, rfl⟩ := hv
      have HA := Lib.hid (fun h : l[k] = x => idxV_at hlt h HN.out)
      have HB := Lib.hid (fun h : l[k] ≠ x => not_mem_next hlt HN.out h)
      generalize l[k] = y at hc0 HA HB
      by_cases hy : y = x
      · have t1 : ((x : Int) == (y : Int)) = true := by simp [hy]
        have t2 : ((y : Int) == (x : Int)) = true := by simp [hy]
        have HY := Lib.hid hy
        clear hy
        go_wp2_with fail
        go_ret
        exact ⟨ret_i64' (HA.out HY.out).symm, rfl⟩
      · have t1 : ((x : Int) == (y : Int)) = false := by simp; omega
        have t2 : ((y : Int) == (x : Int)) = false := by simp; omega
        have HY := Lib.hid hy
        clear hy
        go_wp2_with fail
        go_roundw
        case rel => exact ⟨k + 1, by omega, by go_num, Lib.hid (HB.out HY.out), trivial⟩
        case measure => simp [intOf]; omega
    · obtain rfl : k = l.length := by omega
      have hn := HN.out
      rw [List.take_length] at hn
      have HI := Lib.hid (idxV_no hn)
      clear hn
      go_wp2_with fail
      go_ret
      exact ⟨ret_i64' HI.out.symm, rfl⟩

theorem idx_str (w : World) (v : Value) (l : List ByteArray) (x : ByteArray) (hS : Sl w v (l.map Value.string)) (hl : l.length ≤ 9223372036854775807) :
    Calls Try.prog 27 #[v, .string x] w fun e w' => e = .returned (.int .i64 (idxV l x)) ∧ w' = w := by
  obtain ⟨A, c, rfl⟩ := (show ∃ A c, v = .slice A l.length c from by obtain ⟨A, c, h, _⟩ := hS; exact ⟨A, c, by rw [h]; simp⟩)
  go_enter Try.func27, Try.ntmps27
  go_wp2_with fail
  go_loopw [8] (fun iv wr => ∃ k : Nat, k ≤ l.length ∧ iv = .int .i64 (k : Int) ∧ Hid (x ∉ l.take k) ∧ wr = w) (fun iv _ => l.length - (intOf iv).toNat)
  case atStart => exact ⟨0, Nat.zero_le _, rfl, Lib.hid (by simp), rfl⟩
  case round =>
    obtain ⟨k, hk, rfl, HN, rfl⟩ := hrel
    by_cases hlt : k < l.length
    · obtain ⟨b, o, c', hv, hc0⟩ := sl_elem hS (x := .string l[k]) (by rw [List.getElem?_map, List.getElem?_eq_getElem hlt]; rfl)
      simp only [Value.slice.injEq] at hv
      obtain ⟨rfl, -, rfl⟩ := hv
      have HA := Lib.hid (fun h : l[k] = x => idxV_at hlt h HN.out)
      have HB := Lib.hid (fun h : l[k] ≠ x => not_mem_next hlt HN.out h)
      generalize l[k] = y at hc0 HA HB
      by_cases hy : y = x
      · have t1 : (x.toList == y.toList) = true := by simp [hy]
        have HY := Lib.hid hy
        clear hy
        go_wp2_with fail
        go_ret
        exact ⟨ret_i64' (HA.out HY.out).symm, rfl⟩
      · have t1 : (x.toList == y.toList) = false := by
          rw [beq_eq_false_iff_ne]; exact fun h => hy (toList_inj.1 h).symm
        have HY := Lib.hid hy
        clear hy
        go_wp2_with fail
        go_roundw
        case rel => exact ⟨k + 1, by omega, by go_num, Lib.hid (HB.out HY.out), trivial⟩
        case measure => simp [intOf]; omega
    · obtain rfl : k = l.length := by omega
      have hn := HN.out
      rw [List.take_length] at hn
      have HI := Lib.hid (idxV_no hn)
      clear hn
      go_wp2_with fail
      go_ret
      exact ⟨ret_i64' HI.out.symm, rfl⟩

def hasL {α : Type} [DecidableEq α] (l : List α) (x : α) : Bool := decide (x ∈ l)
theorem hasL_iff {α : Type} [DecidableEq α] {l : List α} {x : α} : hasL l x = true ↔ x ∈ l := by unfold hasL; simp
theorem idxV_has {α : Type} [DecidableEq α] (l : List α) (x : α) : decide (0 ≤ idxV l x) = hasL l x := by
  unfold idxV hasL
  by_cases h : x ∈ l <;> simp [h]
theorem has_u64 (w : World) (v : Value) (l : List Nat) (x : Nat) (hS : Sl w v (u64s l)) (hl : l.length ≤ 9223372036854775807) :
    Calls Try.prog 41 #[v, .int .u64 (x : Int)] w fun e w' => e = .returned (.bool (hasL l x)) ∧ w' = w := by
  have HI := Lib.hid (idxV_has l x)
  go_enter Try.func41, Try.ntmps41
  go_wp2_with fail
  refine (idx_u64 w v l x hS hl).mono ?_
  rintro e w1 ⟨rfl, rfl⟩
  go_wp2_with fail
  go_ret
  exact ⟨ret_bool HI.out, rfl⟩
theorem has_str (w : World) (v : Value) (l : List ByteArray) (x : ByteArray) (hS : Sl w v (l.map Value.string)) (hl : l.length ≤ 9223372036854775807) :
    Calls Try.prog 40 #[v, .string x] w fun e w' => e = .returned (.bool (hasL l x)) ∧ w' = w := by
  have HI := Lib.hid (idxV_has l x)
  go_enter Try.func40, Try.ntmps40
  go_wp2_with fail
  refine (idx_str w v l x hS hl).mono ?_
  rintro e w1 ⟨rfl, rfl⟩
  go_wp2_with fail
  go_ret
  exact ⟨ret_bool HI.out, rfl⟩

/-! ### key -/
def keyK (T : HTab) (st : List Nat) : Nat → Nat
  | 0 => 0
  | n + 1 => keyK T st n * ((T.vals.getD n []).length + 1) + st.getD n 0
def keyV (T : HTab) (st : List Nat) (d : Nat) : Nat := keyK T st T.names.length * 1048576 + d

theorem key_or {k d : Nat} (hk : k < 1048576) (hd : d < 1048576) : bits .or .u64 ((k : Int) * 1048576) (d : Int) = ((k * 1048576 + d : Nat) : Int) := by
  have h1 : ((k : Int) * 1048576) = ((k * 1048576 : Nat) : Int) := by simp
  rw [h1, bits_or_u64_nat _ _ (by omega) (by omega)]
  have h2 := Nat.two_pow_add_eq_or_of_lt (i := 20) (b := d) (by omega) k
  rw [show (2 : Nat) ^ 20 = 1048576 from rfl, Nat.mul_comm] at h2
  rw [h2]
set_option maxHeartbeats 1000000 in
theorem key_any {S : Nat → Prop} (w : World) (g : Nat) (l : List HRow) (T : HTab) (X : HLoc) (st : List Nat) (hT : TabAt S w g l T X) (hst : At w X.st 3 (stCells st)) (hsl : st.length = T.names.length) (hnn : T.names.length ≤ 20)
    (hvl : T.vals.length = T.names.length) (hvv : ∀ n, n < T.vals.length → (T.vals.getD n []).length ≤ 20 ∧ st.getD n 0 ≤ (T.vals.getD n []).length) (hkb : ∀ n, n ≤ T.names.length → keyK T st n < 1048576) (d : Nat) (hd : d < 1048576) :
    Calls Try.prog 33 #[.pointer (some ⟨g, 0, none⟩), .int .u32 (d : Int)] w fun e w' => e = .returned (.int .u64 (keyV T st d : Nat)) ∧ w' = w := by
  have c2 := hT.blk.cell 2
  have c7 := hT.blk.cell 7
  simp at c2 c7
  go_enter Try.func33, Try.ntmps33
  go_wp2_with fail
  go_loopw [5, 13] (fun kv iv wr => ∃ j : Nat, j ≤ T.names.length ∧ iv = .int .i64 (j : Int) ∧ kv = .int .u64 (keyK T st j : Nat) ∧ wr = w) (fun _ iv _ => T.names.length - (intOf iv).toNat)
  case atStart => exact ⟨0, Nat.zero_le _, rfl, rfl, rfl⟩
  case round =>
    obtain ⟨j, hj, rfl, rfl, rfl⟩ := hrel
    by_cases hlt : j < T.names.length
    · have hs0 := (hst.cell j).trans (stCells_at (n := st.getD j 0) (by rw [List.getD_eq_getElem?_getD, List.getElem?_eq_getElem (by omega)]; rfl))
      obtain ⟨sv, hsv⟩ : ∃ sv, X.svs[j]? = some sv := ⟨_, List.getElem?_eq_getElem (by rw [hT.svs.1]; omega)⟩
      obtain ⟨vb, vo, vc, hvv', hvc⟩ := sl_elem hT.vals hsv
      have hvs : T.vals[j]? = some (T.vals.getD j []) := by rw [List.getD_eq_getElem?_getD, List.getElem?_eq_getElem (by omega)]; rfl
      have hin := (hT.svs.2 j sv _ hsv hvs).1
      obtain ⟨iA, ic, hiv⟩ := (show ∃ A c, sv = .slice A (T.vals.getD j []).length c from by obtain ⟨A, c, h, _⟩ := hin; exact ⟨A, c, by rw [h]; simp [u64s]⟩)
      have hsv20 : X.svs.length ≤ 20 ∧ j < X.svs.length := by rw [hT.svs.1]; omega
      obtain ⟨hv20, hvs2⟩ := hvv j (by omega)
      have hk1 := hkb j (by omega)
      have hk2 := hkb (j + 1) (by omega)
      have HK := Lib.hid (show keyK T st (j + 1) = keyK T st j * ((T.vals.getD j []).length + 1) + st.getD j 0 from rfl)
      have hmul : keyK T st j * ((T.vals.getD j []).length + 1) ≤ 1048576 * 21 := Nat.mul_le_mul (by omega) (by omega)
      rw [hvv'] at c2
      rw [hiv] at hvc
      generalize (T.vals.getD j []).length = vl at *
      generalize st.getD j 0 = sj at *
      generalize keyK T st j = kj at *
      clear hkb hvv hin hvs hsv hst hiv hk2
      have hm1 : ((kj * (vl + 1) : Nat) : Int) = (kj : Int) * ((vl : Int) + 1) := by simp
      have hm2 : (kj : Int) * ((vl : Int) + 1) ≤ 22020096 := by rw [← hm1]; omega
      have hm3 : 0 ≤ (kj : Int) * ((vl : Int) + 1) := by rw [← hm1]; omega
      have HM := Lib.hid hm1
      clear hm1
      go_wp2_with fail
      refine ⟨⟨j + 1, by omega, by go_num, ?_, trivial⟩, by simp [intOf]; omega⟩
      rw [HK.out, Int.natCast_add, HM.out]
    · obtain rfl : j = T.names.length := by omega
      have hk1 := hkb T.names.length (Nat.le_refl _)
      have HK := Lib.hid (show keyV T st d = keyK T st T.names.length * 1048576 + d from rfl)
      generalize keyK T st T.names.length = kj at *
      clear hkb hvv hst
      go_wp2_with fail
      go_ret
      exact ⟨congrArg (fun z : Int => Ending.returned (.int .u64 z)) (by rw [HK.out]; exact key_or hk1 hd), rfl⟩
end Go.Proofs.Ytlodaffiamegpaa
