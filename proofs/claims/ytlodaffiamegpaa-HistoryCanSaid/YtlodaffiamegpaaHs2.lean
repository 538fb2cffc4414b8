/-
  Layer 18: alike, value, now, ready.
-/
import Derived.Test.YtlodaffiamegpaaHs1
namespace Go.Proofs.Ytlodaffiamegpaa
open Go.RowKit

def alikeP (ops : List HOp) (p x : HOp) : Bool := decide (x.kind = 1) && decide (x.name = p.name) && !gotB ops x
def alikeV (ops : List HOp) (p : HOp) : Nat := if gotB ops p then p.value else ((ops.find? (alikeP ops p)).map HOp.value).getD p.value
theorem find_take_none {l : List HRow} {k : Nat} {f : HOp → Bool} (h : ((l.take k).any fun x => f x.1) = false) : ((l.map (·.1)).take k).find? f = none := by
  rw [List.find?_eq_none]
  intro x hx
  rw [← List.map_take] at hx
  obtain ⟨y, hy, rfl⟩ := List.mem_map.1 hx
  have := List.any_eq_false.1 h y hy
  simpa using this
theorem find_at {l : List HRow} {k : Nat} {f : HOp → Bool} (hk : k < l.length) (h : ((l.take k).any fun x => f x.1) = false) (hx : f (rowAt l k).1 = true) : (l.map (·.1)).find? f = some (rowAt l k).1 := by
  have h1 : l.map (·.1) = (l.map (·.1)).take k ++ (rowAt l k).1 :: (l.map (·.1)).drop (k + 1) := by
    have : (l.map (·.1))[k]? = some (rowAt l k).1 := by rw [List.getElem?_map, rowAt_get hk]; rfl
    have hlt : k < (l.map (·.1)).length := by simpa using hk
    have e2 : (l.map (·.1))[k] = (rowAt l k).1 := by
      rw [List.getElem?_eq_getElem hlt] at this; exact Option.some.inj this
    rw [← e2, List.getElem_cons_drop, List.take_append_drop]
  rw [h1, List.find?_append, find_take_none h, Option.none_or, List.find?_cons_of_pos hx]
theorem find_no {l : List HRow} {f : HOp → Bool} (h : (l.any fun x => f x.1) = false) : (l.map (·.1)).find? f = none := by
  have := find_take_none (k := l.length) (f := f) (l := l) (by rw [List.take_length]; exact h)
  rw [List.take_of_length_le (by simp)] at this
  exact this
theorem ret_u64 {a b : Nat} (h : a = b) : Ending.returned (.int .u64 (a : Int)) = .returned (.int .u64 (b : Int)) := by rw [h]

set_option maxHeartbeats 1000000 in
theorem alike_any (w : World) (g : Nat) (v : Value) (l : List HRow) (p : HRow) (hg : w.cell? ⟨g, 0, none⟩ = some v) (hO : Sln w v 8 (l.map hrow)) (hl : l.length ≤ 20) :
    Calls Try.prog 29 #[.pointer (some ⟨g, 0, none⟩), hagg p] w fun e w' => e = .returned (.int .u64 (alikeV (l.map (·.1)) p.1 : Nat)) ∧ Ext w w' := by
  go_enter Try.func29, Try.ntmps29
  have hEb := (Ext.refl w).alloc (.cells #[.int .i64 p.1.kind, .string p.1.name, .int .u64 p.1.value, .int .i64 p.1.start, .int .i64 p.1.fin, .int .i64 p.1.err, .int .u64 p.1.got, .slice p.2.1 p.1.names.length p.2.2] 37)
  have hB := At.new w 37 #[.int .i64 p.1.kind, .string p.1.name, .int .u64 p.1.value, .int .i64 p.1.start, .int .i64 p.1.fin, .int .i64 p.1.err, .int .u64 p.1.got, .slice p.2.1 p.1.names.length p.2.2]
  have hg1 := (Ext.cell (p := ⟨g, 0, none⟩) hEb (cell_lt hg)).trans hg
  have hO1 := hO.ext hEb
  clear hg hO
  go_wp2_with fail
  generalize w.alloc (.cells #[.int .i64 p.1.kind, .string p.1.name, .int .u64 p.1.value, .int .i64 p.1.start, .int .i64 p.1.fin, .int .i64 p.1.err, .int .u64 p.1.got, .slice p.2.1 p.1.names.length p.2.2] 37) = w0 at hB hg1 hEb hO1 ⊢
  refine (got_any _ g v l p hg1 hO1 hl).mono ?_
  rintro e w1 ⟨rfl, hE1⟩
  replace hEb := hEb.trans hE1
  replace hB := hB.ext hE1
  have hg2 := (Ext.cell (p := ⟨g, 0, none⟩) hE1 (cell_lt hg1)).trans hg1
  have hO2 := hO1.ext hE1
  clear hg1 hO1 hE1
  have hA : alikeV (l.map (·.1)) p.1 = if gotB (l.map (·.1)) p.1 then p.1.value else (((l.map (·.1)).find? (alikeP (l.map (·.1)) p.1)).map HOp.value).getD p.1.value := rfl
  have HA := Lib.hid hA
  clear hA
  cases hgp : gotB (l.map (·.1)) p.1
  case true =>
    have c2 := hB.cell 2
    simp at c2
    go_wp2_with fail
    go_ret
    refine ⟨ret_u64 ?_, hEb⟩
    rw [HA.out, hgp, if_pos rfl]
  case false =>
  have HG := Lib.hid hgp
  clear hgp
  obtain ⟨LA, lc, rfl⟩ := sln_slice hO2
  rw [List.length_map] at hO2 hg2
  go_wp2_with fail
  go_loopw [17] (fun iv wr => ∃ k : Nat, k ≤ l.length ∧ iv = .int .i64 (k : Int) ∧ ((l.take k).any fun x => alikeP (l.map (·.1)) p.1 x.1) = false ∧ Ext w1 wr) (fun iv _ => l.length - (intOf iv).toNat)
  case atStart => exact ⟨0, Nat.zero_le _, rfl, rfl, Ext.refl _⟩
  case round =>
    obtain ⟨k, hk, rfl, hno, hE⟩ := hrel
    by_cases hlt : k < l.length
    · have hS2 := hO2.ext hE
      have hfa := find_at (f := alikeP (l.map (·.1)) p.1) hlt hno
      have HF := Lib.hid hfa
      clear hfa
      obtain ⟨b, o, rfl⟩ := sln_some hS2 (fun e => by have := List.map_eq_nil_iff.1 e; subst this; simp at hlt)
      obtain ⟨r0, r1, r2, r3, r4, r5, r6, r7⟩ := row_cells hS2 hlt
      have hs := any_take_succ (fun x : HRow => alikeP (l.map (·.1)) p.1 x.1) hlt
      rw [hno, Bool.false_or] at hs
      have HS := Lib.hid hs
      clear hs hno
      generalize hob : (.cells #[.int .i64 (rowAt l k).1.kind, .string (rowAt l k).1.name, .int .u64 (rowAt l k).1.value, .int .i64 (rowAt l k).1.start, .int .i64 (rowAt l k).1.fin, .int .i64 (rowAt l k).1.err, .int .u64 (rowAt l k).1.got, .slice (rowAt l k).2.1 (rowAt l k).1.names.length (rowAt l k).2.2] 37 : Obj) = ob
      have hB2 := (hB.ext hE).alloc ob
      have hE2 := hE.alloc ob
      have hO3 := hO2.ext hE2
      have hg3 := (Ext.cell (p := ⟨g, 0, none⟩) hE2 (cell_lt hg2)).trans hg2
      subst hob
      have hX := At.new wr 37 #[.int .i64 (rowAt l k).1.kind, .string (rowAt l k).1.name, .int .u64 (rowAt l k).1.value, .int .i64 (rowAt l k).1.start, .int .i64 (rowAt l k).1.fin, .int .i64 (rowAt l k).1.err, .int .u64 (rowAt l k).1.got, .slice (rowAt l k).2.1 (rowAt l k).1.names.length (rowAt l k).2.2]
      generalize rowAt l k = x at *
      have c1 := hB2.cell 1
      have d1 := hX.cell 1
      simp at c1 d1
      cases hk1 : x.1.kind == 1
      · have hq : alikeP (l.map (·.1)) p.1 x.1 = false := by
          have : x.1.kind ≠ 1 := by simpa using hk1
          unfold alikeP; simp [this]
        have HQ := Lib.hid hq
        clear hq
        go_wp2_with fail
        refine ⟨⟨k + 1, by omega, by go_num, ?_, hE2⟩, by simp [intOf]; omega⟩
        rw [HS.out, HQ.out]
      · have hk1' : x.1.kind = 1 := by simpa using hk1
        by_cases hn : x.1.name.toList = p.1.name.toList
        · have hq : alikeP (l.map (·.1)) p.1 x.1 = !gotB (l.map (·.1)) x.1 := by
            unfold alikeP; rw [dec_name]; simp [hk1', hn]
          have HQ := Lib.hid hq
          clear hq hk1'
          go_wp2_with fail
          refine (got_any _ g _ l x hg3 hO3 hl).mono ?_
          rintro e w2 ⟨rfl, hE3⟩
          have d2 := (hX.ext hE3).cell 2
          simp at d2
          generalize gotB (l.map (·.1)) x.1 = gx at HQ ⊢
          cases gx
          · go_wp2_with fail
            go_ret
            refine ⟨ret_u64 ?_, hEb.trans (hE2.trans hE3)⟩
            rw [HA.out, HG.out, if_neg (by simp), HF.out HQ.out]; rfl
          · go_wp2_with fail
            refine ⟨⟨k + 1, by omega, by go_num, ?_, hE2.trans hE3⟩, by simp [intOf]; omega⟩
            rw [HS.out, HQ.out]; rfl
        · have hq : alikeP (l.map (·.1)) p.1 x.1 = false := by
            unfold alikeP; rw [dec_name]; simp [hk1', hn]
          have HQ := Lib.hid hq
          clear hq hk1'
          go_wp2_with fail
          refine ⟨⟨k + 1, by omega, by go_num, ?_, hE2⟩, by simp [intOf]; omega⟩
          rw [HS.out, HQ.out]
    · obtain rfl : k = l.length := by omega
      rw [List.take_length] at hno
      have HN := Lib.hid hno
      clear hno
      have c2 := (hB.ext hE).cell 2
      simp at c2
      go_wp2_with fail
      go_ret
      refine ⟨ret_u64 ?_, hEb.trans hE⟩
      rw [HA.out, HG.out, if_neg (by simp), find_no HN.out]; rfl
end Go.Proofs.Ytlodaffiamegpaa
