/-
  Layer 13: forget, and Unpin.
-/
import Derived.Test.YtchnejfdompfpaaCatW
namespace Go.Proofs.Ytchnejfdompfpaa
open Go.RowKit

section forget
variable (w : World) (B c mb mn : Nat) (C : Ct) (h : CtAt w B c mb mn C) {r : BR} (hf : C.find r.b.id = some r)
include h hf
set_option maxRecDepth 100000 in
set_option maxHeartbeats 2000000 in
theorem forget_no (hk : r.b.dead = false ∨ 0 < r.b.pins) :
    Calls Try.prog 25 #[.pointer (some ⟨c, 0, none⟩), .pointer (some ⟨r.g, 0, none⟩)] w fun e w' => e = .returned (.int .i64 16) ∧ Ext w w' := by
  have hB := (h.bl r (find_mem hf).1).1
  have b11 := hB.cell 11
  have b12 := hB.cell 12
  simp at b11 b12
  have hk2 : r.b.dead = false ∨ r.b.dead = true ∧ 0 < r.b.pins := by
    cases hd : r.b.dead
    · exact .inl rfl
    · rcases hk with hk | hk
      · rw [hd] at hk; cases hk
      · exact .inr ⟨rfl, hk⟩
  go_enter Try.func25, Try.ntmps25
  clear hk h hf hB
  rcases hk2 with hk | ⟨hk, hk2⟩
  all_goals
    go_wp2_with fail
    go_ret
    exact ⟨rfl, Ext.refl _⟩
set_option maxRecDepth 100000 in
set_option maxHeartbeats 2000000 in
theorem forget_ok (hd : r.b.dead = true) (hp : ¬ 0 < r.b.pins) :
    Calls Try.prog 25 #[.pointer (some ⟨c, 0, none⟩), .pointer (some ⟨r.g, 0, none⟩)] w fun e w' => e = .returned (.int .i64 0) ∧ CtAt w' B c mb mn (C.del r.b.id) ∧ Chg (C.S c mb mn) w w' := by
  have hB := (h.bl r (find_mem hf).1).1
  have b0 := hB.cell 0
  have b11 := hB.cell 11
  have b12 := hB.cell 12
  simp at b0 b11 b12
  obtain ⟨c0, c1⟩ := h.c0
  obtain ⟨w', hdel, hC', hCh⟩ := (h.ext ((Ext.refl w).drew)).delRow r.b.id
  have hdel' := hdel 0
  have hmB := h.lo.2.1
  go_enter Try.func25, Try.ntmps25
  clear h hf hB
  go_upto_region 3 with fail
  go_region
  go_wp2_with fail
  go_ret
  exact ⟨rfl, hC', Chg.trans (S := C.S c mb mn) (Chg.mono ((Ext.refl w).drew) (fun _ _ hh => hh.elim)) hCh (fun k _ e => by have e' : k = mb := e; exact .inr (.inl e'))⟩
set_option maxRecDepth 100000 in
set_option maxHeartbeats 2000000 in
theorem unpin_no (x : Cmd) (dv : Value) (hk : x.kind = 6) (hp : r.b.pins = 0) :
    Calls Try.prog 26 #[.pointer (some ⟨c, 0, none⟩), .pointer (some ⟨r.g, 0, none⟩), cmdVal x dv] w fun e w' => e = .returned (.int .i64 16) ∧ Ext w w' := by
  have HK := Lib.hid hk
  clear hk
  unfold cmdVal
  go_enter Try.func26, Try.ntmps26
  have hX := At.new w 35 (cmdCells x dv)
  have hE := (Ext.refl w).alloc (.cells (cmdCells x dv) 35)
  go_upto_region 1 with fail
  generalize World.alloc _ _ = W at *
  have hB := ((h.ext hE).bl r (find_mem hf).1).1
  have b11 := hB.cell 11
  have x0 := hX.cell 0
  simp at b11 x0
  rw [hp] at b11
  rw [HK.out] at x0
  clear h hf hB hX
  go_wp2_with fail
  go_ret
  exact ⟨rfl, hE⟩
set_option maxRecDepth 100000 in
set_option maxHeartbeats 2000000 in
theorem unpin_ok (x : Cmd) (dv : Value) (hk : x.kind = 6) (hp : 0 < r.b.pins ∧ r.b.pins < 4611686018427387904) :
    Calls Try.prog 26 #[.pointer (some ⟨c, 0, none⟩), .pointer (some ⟨r.g, 0, none⟩), cmdVal x dv] w fun e w' => e = .returned (.int .i64 0) ∧ CtAt w' B c mb mn (C.upd r.g { r.b with pins := r.b.pins - 1 } r.dv) ∧ Chg (C.S c mb mn) w w' := by
  have HK := Lib.hid hk
  clear hk
  unfold cmdVal
  go_enter Try.func26, Try.ntmps26
  have hX := At.new w 35 (cmdCells x dv)
  have hE := (Ext.refl w).alloc (.cells (cmdCells x dv) 35)
  go_upto_region 1 with fail
  generalize World.alloc _ _ = W at *
  have hC := h.ext hE
  have hrm := (find_mem hf).1
  have hB := (hC.bl r hrm).1
  have hO := (hC.bl r hrm).2
  have hgB := hC.lo.2.2.2 r hrm
  have b11 := hB.cell 11
  have f11 := hB.frozen 11
  have hbl := hB.lt
  have x0 := hX.cell 0
  simp at b11 x0
  rw [HK.out] at x0
  have hp0 : (r.b.pins == 0) = false := by rw [beq_eq_false_iff_ne]; omega
  have hCs := (Chg.refl (· = r.g) W).setCell (p := ⟨r.g, 11, none⟩) (.inl rfl) (.int .i64 (r.b.pins - 1))
  have hB2 : At (W.setCell ⟨r.g, 11, none⟩ (.int .i64 (r.b.pins - 1))) r.g 44 (blCells { r.b with pins := r.b.pins - 1 } r.dv) := hB.set 11 _
  have hC2 := hC.chgBlob hrm (b := { r.b with pins := r.b.pins - 1 }) (dv := r.dv) rfl hCs hB2 (own_keep hO hCs (fun k hk e => own_apart' hO hB (by decide) k hk e))
  clear h hf hB hX hC hO hB2
  go_wp2_with fail
  go_ret
  exact ⟨rfl, hC2, Chg.trans (S := C.S c mb mn) (Chg.mono hE (fun _ _ hh => hh.elim)) hCs (fun k _ e => by have e' : k = r.g := e; exact .inr (.inr (.inr ⟨r, hrm, e'⟩)))⟩
end forget
end Go.Proofs.Ytchnejfdompfpaa
