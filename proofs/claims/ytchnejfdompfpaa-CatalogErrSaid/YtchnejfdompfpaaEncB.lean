/-
  Walk through wire's encoder: B.
-/
import Derived.Test.YtchnejfdompfpaaEncR
namespace Go.Proofs.Ytchnejfdompfpaa
open Go.RowKit

def benc (b : Bool) : List UInt8 := [if b then 1 else 0]
theorem benc_length (b : Bool) : (benc b).length = 1 := rfl
section
variable (w : World) (base e : Nat) (bs : List UInt8)
set_option maxRecDepth 100000 in
set_option maxHeartbeats 2000000 in
theorem eb_any (h : EncAt w base e bs) (vv : Value) (vs : List Bool) (hS : SlE w base vv (vs.map Value.bool)) (hl : vs.length ≤ 1048576) (hbs : bs.length ≤ 1099511627776) :
    Calls Try.prog 37 #[.pointer (some ⟨e, 0, none⟩), vv] w fun r w' => r = .returned (.pointer (some ⟨e, 0, none⟩)) ∧ EncTo w w' base e (bs ++ vs.flatMap benc) := by
  have hS0 := hS
  obtain ⟨A, c, rfl, hx⟩ := hS.1
  rw [List.length_map]
  have hl0 : (vs.length : Int) ≤ 1048576 := by omega
  obtain ⟨i0, hi, hz0, hz1, hz2⟩ := info_parts u8_info
  go_enter Try.func37, Try.ntmps37
  go_wp2_with fail
  go_loopw [9] (fun iv wr => ∃ k : Nat, k ≤ vs.length ∧ iv = .int .i64 (k : Int) ∧ EncTo w wr base e (bs ++ (vs.take k).flatMap benc)) (fun iv _ => vs.length - (intOf iv).toNat)
  case atStart => exact ⟨0, Nat.zero_le _, rfl, EncChg.refl _ _, by simpa using h⟩
  case round =>
    obtain ⟨k, hk, rfl, hT⟩ := hrel
    by_cases hlt : k < vs.length
    · have hSr := (hS0.chg hT.1).1
      obtain ⟨A', c', hv', hx'⟩ := hSr
      injection hv' with q1 q2 q3
      subst q1 q3
      obtain ⟨b, o, rfl, hcell⟩ := hx' (by intro e; rw [List.map_eq_nil_iff] at e; subst e; simp at hlt)
      have r0 : wr.cell? ⟨b, o + k, none⟩ = some (.bool vs[k]) := hcell k _ (by rw [List.getElem?_map, List.getElem?_eq_getElem hlt]; rfl)
      have hfin : bs ++ (vs.take (k + 1)).flatMap benc = (bs ++ (vs.take k).flatMap benc) ++ benc vs[k] := by
        rw [List.take_succ_eq_append_getElem hlt, List.flatMap_append, ← List.append_assoc]; simp
      have hpl : (bs ++ (vs.take k).flatMap benc).length ≤ 1099511627776 + 1048576 := by
        have h1 : ∀ l : List Bool, (l.flatMap benc).length = l.length := fun l => by
          induction l with
          | nil => rfl
          | cons x r ih => simp only [List.flatMap_cons, List.length_append, ih, benc_length, List.length_cons]; omega
        have h2 : (vs.take k).length ≤ k := List.length_take_le _ _
        have h3 := h1 (vs.take k)
        simp only [List.length_append]; omega
      generalize vs[k] = n at r0 hfin
      generalize bs ++ (vs.take k).flatMap benc = out at hT hfin hpl
      have HF := Lib.hid hfin
      clear hx hx' q2 hcell hfin
      obtain ⟨he, lv, hlv, hown⟩ := hT.2
      have d0 : wr.cell? ⟨e, 0, none⟩ = some lv := hlv.cell 0
      have df : wr.frozen? ⟨e, 0, none⟩ = false := hlv.frozen 0
      have hlt' := hlv.lt
      cases n
      · go_wp2_with (at_builtin; refine wpList_append_own _ rfl _ _ 82 rfl base 5 i0 (.int .u8 0) 1 1 Try.underlying82 hi hz0 hz1 hz2 rfl (by decide) _ _ _ rfl (hown.alloc _) ⟨wr.heap.size, 0, none⟩ 1 1 [.int .u8 0] rfl rfl ?c1 ?c2 ?c3 ?c4 ?c5 ?_)
        case c1 => exact cell_one
        case c2 => simp [Value.oneCell']
        case c3 => unfold maxLen; omega
        case c4 => omega
        case c5 => simp; omega
        intro v1 w1 hown1 hgrow1 _
        obtain ⟨A1, n1, c1, rfl⟩ := own_slice hown1
        have hlv1 := enc_grown hlv hown ((Ext.refl wr).alloc _) hgrow1
        have d1 := hlv1.cell 0
        have f1 := hlv1.frozen 0
        have hT1 := enc_store (out' := out ++ benc false) hT hlv hown ((Ext.refl wr).alloc _) hgrow1 hown1 (by rw [List.map_append]; rfl) (by simp [benc])
        go_wp2_with fail
        go_roundw
        case rel => exact ⟨k + 1, by omega, by go_num, by rw [HF.out]; exact hT1⟩
        case measure => simp [intOf]; omega
      · go_wp2_with (at_builtin; refine wpList_append_own _ rfl _ _ 82 rfl base 5 i0 (.int .u8 0) 1 1 Try.underlying82 hi hz0 hz1 hz2 rfl (by decide) _ _ _ rfl (hown.alloc _) ⟨wr.heap.size, 0, none⟩ 1 1 [.int .u8 1] rfl rfl ?c1 ?c2 ?c3 ?c4 ?c5 ?_)
        case c1 => exact cell_one
        case c2 => simp [Value.oneCell']
        case c3 => unfold maxLen; omega
        case c4 => omega
        case c5 => simp; omega
        intro v1 w1 hown1 hgrow1 _
        obtain ⟨A1, n1, c1, rfl⟩ := own_slice hown1
        have hlv1 := enc_grown hlv hown ((Ext.refl wr).alloc _) hgrow1
        have d1 := hlv1.cell 0
        have f1 := hlv1.frozen 0
        have hT1 := enc_store (out' := out ++ benc true) hT hlv hown ((Ext.refl wr).alloc _) hgrow1 hown1 (by rw [List.map_append]; rfl) (by simp [benc])
        go_wp2_with fail
        go_roundw
        case rel => exact ⟨k + 1, by omega, by go_num, by rw [HF.out]; exact hT1⟩
        case measure => simp [intOf]; omega
    · have hge : vs.length ≤ k := by omega
      go_wp2_with fail
      go_ret
      rw [List.take_of_length_le (by omega)] at hT
      exact ⟨rfl, hT⟩
end
end Go.Proofs.Ytchnejfdompfpaa
