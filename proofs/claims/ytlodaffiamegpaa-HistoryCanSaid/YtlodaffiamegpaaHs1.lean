/-
  Layer 18: calls in memory; small functions of a call.
-/
import Derived.Test.YtlodaffiamegpaaHistWay
import Derived.Test.YtlodaffiamegpaaRows_
import Derived.Test.YtlodaffiamegpaaInfo
import Derived.Deep.QuietTactic
import Derived.BigQuiet
namespace Go.Proofs.Ytlodaffiamegpaa
open Go.RowKit

abbrev HRow := HOp × (Option Addr × Nat)
/-- a call's cells; the last one is the slice of its names -/
def hrow (x : HRow) : List Value := [.int .i64 x.1.kind, .string x.1.name, .int .u64 x.1.value, .int .i64 x.1.start, .int .i64 x.1.fin, .int .i64 x.1.err, .int .u64 x.1.got, .slice x.2.1 x.1.names.length x.2.2]
abbrev hagg (x : HRow) : Value := .agg #[.int .i64 x.1.kind, .string x.1.name, .int .u64 x.1.value, .int .i64 x.1.start, .int .i64 x.1.fin, .int .i64 x.1.err, .int .u64 x.1.got, .slice x.2.1 x.1.names.length x.2.2]
def hz : HRow := (⟨0, ByteArray.empty, 0, 0, 0, 0, 0, []⟩, none, 0)
def rowAt (l : List HRow) (i : Nat) : HRow := l.getD i hz
theorem rowAt_get {l : List HRow} {i : Nat} (h : i < l.length) : l[i]? = some (rowAt l i) := by
  unfold rowAt; rw [List.getD_eq_getElem?_getD, List.getElem?_eq_getElem h]; rfl

theorem row_cells {w : World} {b o n c : Nat} {l : List HRow} (h : Sln w (.slice (some ⟨b, o, none⟩) n c) 8 (l.map hrow)) {i : Nat} (hi : i < l.length) :
    w.cell? ⟨b, o + i * 8, none⟩ = some (.int .i64 (rowAt l i).1.kind) ∧ w.cell? ⟨b, o + i * 8 + 1, none⟩ = some (.string (rowAt l i).1.name) ∧ w.cell? ⟨b, o + i * 8 + 2, none⟩ = some (.int .u64 (rowAt l i).1.value) ∧
    w.cell? ⟨b, o + i * 8 + 3, none⟩ = some (.int .i64 (rowAt l i).1.start) ∧ w.cell? ⟨b, o + i * 8 + 4, none⟩ = some (.int .i64 (rowAt l i).1.fin) ∧ w.cell? ⟨b, o + i * 8 + 5, none⟩ = some (.int .i64 (rowAt l i).1.err) ∧
    w.cell? ⟨b, o + i * 8 + 6, none⟩ = some (.int .u64 (rowAt l i).1.got) ∧ w.cell? ⟨b, o + i * 8 + 7, none⟩ = some (.slice (rowAt l i).2.1 (rowAt l i).1.names.length (rowAt l i).2.2) := by
  obtain ⟨A, c', hv, hx⟩ := h
  have hne : l.map hrow ≠ [] := fun e => by
    have := List.map_eq_nil_iff.1 e
    subst this; simp at hi
  obtain ⟨b', o', rfl, hc⟩ := hx hne
  simp only [Value.slice.injEq, Option.some.injEq, Addr.mk.injEq, and_true] at hv
  obtain ⟨⟨rfl, rfl⟩, _, _⟩ := hv
  have hg : (l.map hrow)[i]? = some (hrow (rowAt l i)) := by rw [List.getElem?_map, rowAt_get hi]; rfl
  exact ⟨hc i _ hg 0 _ rfl, hc i _ hg 1 _ rfl, hc i _ hg 2 _ rfl, hc i _ hg 3 _ rfl, hc i _ hg 4 _ rfl, hc i _ hg 5 _ rfl, hc i _ hg 6 _ rfl, hc i _ hg 7 _ rfl⟩
theorem sln_len {w : World} {A : Option Addr} {n c k : Nat} {l : List (List Value)} (h : Sln w (.slice A n c) k l) : n = l.length := by
  obtain ⟨A', c', hv, _⟩ := h
  simp only [Value.slice.injEq] at hv; exact hv.2.1
theorem sln_slice {w : World} {v : Value} {k : Nat} {l : List (List Value)} (h : Sln w v k l) : ∃ A c, v = .slice A l.length c := by
  obtain ⟨A, c, hv, _⟩ := h; exact ⟨A, c, hv⟩
theorem sln_some {w : World} {A : Option Addr} {n c k : Nat} {l : List (List Value)} (h : Sln w (.slice A n c) k l) (hl : l ≠ []) : ∃ b o, A = some ⟨b, o, none⟩ := by
  obtain ⟨A', c', hv, hx⟩ := h
  simp only [Value.slice.injEq] at hv
  obtain ⟨b, o, rfl, _⟩ := hx hl
  exact ⟨b, o, hv.1⟩

theorem answered_any (w : World) (x : HRow) : Calls Try.prog 17 #[hagg x] w fun e w' => e = .returned (.bool x.1.ans) ∧ Ext w w' := by
  unfold hagg HOp.ans
  generalize hB : (.cells #[.int .i64 x.1.kind, .string x.1.name, .int .u64 x.1.value, .int .i64 x.1.start, .int .i64 x.1.fin, .int .i64 x.1.err, .int .u64 x.1.got, .slice x.2.1 x.1.names.length x.2.2] 37 : Obj) = ob
  go_enter Try.func17, Try.ntmps17
  subst hB
  go_wp2
  go_ret
  exact ⟨rfl, (Ext.refl w).alloc _⟩

def HOp.readsB (x : HOp) : Bool := x.kind == 2 || x.kind == 5 || x.kind == 4
theorem reads_any (w : World) (x : HRow) : Calls Try.prog 24 #[hagg x] w fun e w' => e = .returned (.bool x.1.readsB) ∧ Ext w w' := by
  unfold HOp.readsB
  go_enter Try.func24, Try.ntmps24
  go_wp2
  all_goals
    go_ret
    refine ⟨ret_bool ?_, (Ext.refl w).alloc _⟩
    simp_all

/-- does a call get what p puts? -/
theorem dec_name (a b : ByteArray) : decide (a = b) = decide (a.toList = b.toList) := by simp only [toList_inj]
theorem dec_nat (a b : Nat) : decide (a = b) = ((a : Int) == (b : Int)) := by rw [Bool.eq_iff_iff]; simp; omega
def getsB (x p : HOp) : Bool := (x.kind == 2 || x.kind == 5) && x.ans && x.err == 0 && decide (x.name = p.name) && decide (x.got = p.value)
theorem any_take_succ {l : List HRow} {k : Nat} (f : HRow → Bool) (h : k < l.length) : (l.take (k + 1)).any f = ((l.take k).any f || f (rowAt l k)) := by
  have : l.take (k + 1) = l.take k ++ [rowAt l k] := by
    rw [List.take_add_one, rowAt_get h]; rfl
  rw [this, List.any_append]; simp
theorem any_of_take {l : List HRow} {k : Nat} {f : HRow → Bool} (h : (l.take k).any f = true) : l.any f = true := by
  rw [List.any_eq_true] at h ⊢
  obtain ⟨x, hx, hf⟩ := h
  exact ⟨x, List.mem_of_mem_take hx, hf⟩
def gotB (ops : List HOp) (p : HOp) : Bool := ops.any fun x => getsB x p

theorem got_true {l : List HRow} {k : Nat} {p : HOp} (_h : k < l.length) (h : ((l.take (k + 1)).any fun x => getsB x.1 p) = true) : gotB (l.map (·.1)) p = true := by
  unfold gotB
  rw [List.any_map]
  exact any_of_take h
set_option maxHeartbeats 1000000 in
theorem got_any (w : World) (g : Nat) (v : Value) (l : List HRow) (p : HRow) (hg : w.cell? ⟨g, 0, none⟩ = some v) (hO : Sln w v 8 (l.map hrow)) (hl : l.length ≤ 20) :
    Calls Try.prog 39 #[.pointer (some ⟨g, 0, none⟩), hagg p] w fun e w' => e = .returned (.bool (gotB (l.map (·.1)) p.1)) ∧ Ext w w' := by
  obtain ⟨LA, lc, rfl⟩ := sln_slice hO
  rw [List.length_map] at hO hg
  go_enter Try.func39, Try.ntmps39
  have hEb := (Ext.refl w).alloc (.cells #[.int .i64 p.1.kind, .string p.1.name, .int .u64 p.1.value, .int .i64 p.1.start, .int .i64 p.1.fin, .int .i64 p.1.err, .int .u64 p.1.got, .slice p.2.1 p.1.names.length p.2.2] 37)
  have hB := At.new w 37 #[.int .i64 p.1.kind, .string p.1.name, .int .u64 p.1.value, .int .i64 p.1.start, .int .i64 p.1.fin, .int .i64 p.1.err, .int .u64 p.1.got, .slice p.2.1 p.1.names.length p.2.2]
  have hg1 := (Ext.cell (p := ⟨g, 0, none⟩) hEb (cell_lt hg)).trans hg
  clear hg
  go_wp2_with fail
  generalize w.alloc (.cells #[.int .i64 p.1.kind, .string p.1.name, .int .u64 p.1.value, .int .i64 p.1.start, .int .i64 p.1.fin, .int .i64 p.1.err, .int .u64 p.1.got, .slice p.2.1 p.1.names.length p.2.2] 37) = w0 at hB hg1 hEb ⊢
  go_loopw [13] (fun iv wr => ∃ k : Nat, k ≤ l.length ∧ iv = .int .i64 (k : Int) ∧ ((l.take k).any fun x => getsB x.1 p.1) = false ∧ Ext w0 wr) (fun iv _ => l.length - (intOf iv).toNat)
  case atStart => exact ⟨0, Nat.zero_le _, rfl, rfl, Ext.refl _⟩
  case round =>
    obtain ⟨k, hk, rfl, hno, hE⟩ := hrel
    by_cases hlt : k < l.length
    · have hS2 := hO.ext (hEb.trans hE)
      obtain ⟨b, o, rfl⟩ := sln_some hS2 (fun e => by have := List.map_eq_nil_iff.1 e; subst this; simp at hlt)
      obtain ⟨r0, r1, r2, r3, r4, r5, r6, r7⟩ := row_cells hS2 hlt
      have hs := any_take_succ (fun x : HRow => getsB x.1 p.1) hlt
      rw [hno, Bool.false_or] at hs
      have HS := Lib.hid hs
      clear hs
      have hB2 := (hB.ext hE).alloc (.cells #[.int .i64 (rowAt l k).1.kind, .string (rowAt l k).1.name, .int .u64 (rowAt l k).1.value, .int .i64 (rowAt l k).1.start, .int .i64 (rowAt l k).1.fin, .int .i64 (rowAt l k).1.err, .int .u64 (rowAt l k).1.got, .slice (rowAt l k).2.1 (rowAt l k).1.names.length (rowAt l k).2.2] 37)
      have hX := At.new wr 37 #[.int .i64 (rowAt l k).1.kind, .string (rowAt l k).1.name, .int .u64 (rowAt l k).1.value, .int .i64 (rowAt l k).1.start, .int .i64 (rowAt l k).1.fin, .int .i64 (rowAt l k).1.err, .int .u64 (rowAt l k).1.got, .slice (rowAt l k).2.1 (rowAt l k).1.names.length (rowAt l k).2.2]
      have hE2 := hE.alloc (.cells #[.int .i64 (rowAt l k).1.kind, .string (rowAt l k).1.name, .int .u64 (rowAt l k).1.value, .int .i64 (rowAt l k).1.start, .int .i64 (rowAt l k).1.fin, .int .i64 (rowAt l k).1.err, .int .u64 (rowAt l k).1.got, .slice (rowAt l k).2.1 (rowAt l k).1.names.length (rowAt l k).2.2] 37)
      generalize rowAt l k = x at *
      have hkk : (x.1.kind == 2) = true ∨ (x.1.kind == 2) = false ∧ (x.1.kind == 5) = true ∨ (x.1.kind == 2) = false ∧ (x.1.kind == 5) = false := by
        cases x.1.kind == 2 <;> cases x.1.kind == 5 <;> simp
      rcases hkk with hkk | ⟨hk2, hkk⟩ | ⟨hk2, hk5⟩
      case inr.inr =>
        have hq : getsB x.1 p.1 = false := by unfold getsB; simp only [hk2, hk5, Bool.or_false, Bool.false_and]
        have HQ := Lib.hid hq
        clear hq
        go_wp2_with fail
        refine ⟨⟨k + 1, by omega, by go_num, ?_, hE2⟩, by simp [intOf]; omega⟩
        rw [HS.out, HQ.out]
      all_goals
        have hq : getsB x.1 p.1 = (x.1.ans && (x.1.err == 0 && (decide (x.1.name.toList = p.1.name.toList) && ((x.1.got : Int) == (p.1.value : Int))))) := by unfold getsB; rw [dec_name, dec_nat]; simp only [hkk, Bool.true_or, Bool.or_true, Bool.true_and, Bool.and_assoc]
        have HQ := Lib.hid hq
        clear hq
        go_wp2_with fail
        refine (answered_any _ x).mono ?_
        rintro e w2 ⟨rfl, hE3⟩
        have hB3 := hB2.ext hE3
        have hX3 := hX.ext hE3
        have c1 := hB3.cell 1
        have c2 := hB3.cell 2
        have d1 := hX3.cell 1
        have d5 := hX3.cell 5
        have d6 := hX3.cell 6
        simp at c1 c2 d1 d5 d6
        cases hans : x.1.ans
        all_goals
          go_wp2_with fail
          all_goals
            have HS' := HS.out
            have HQ' := HQ.out
            rw [HQ', hans] at HS'
            first
              | (refine ⟨⟨k + 1, by omega, by go_num, ?_, hE2.trans hE3⟩, by simp [intOf]; omega⟩
                 rw [HS']; simp [*]; done)
              | (go_ret
                 refine ⟨ret_bool ?_, hEb.trans (hE2.trans hE3)⟩
                 refine (got_true hlt ?_).symm
                 rw [HS']; simp [*]; done)
    · obtain rfl : k = l.length := by omega
      rw [List.take_length] at hno
      have HN := Lib.hid hno
      clear hno
      go_wp2_with fail
      go_ret
      refine ⟨ret_bool ?_, hEb.trans hE⟩
      have := HN.out
      unfold gotB
      rw [List.any_map]
      exact this.symm
end Go.Proofs.Ytlodaffiamegpaa
