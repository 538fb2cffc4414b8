/-
  Layer 13: New, named, forget.
-/
import Derived.Test.YtchnejfdompfpaaCat
import Derived.Test.YtchnejfdompfpaaCmdGood
import Derived.Deep.Cut
import Derived.Deep.CutRange
import Derived.Deep.CutBlock
import Derived.Deep.QuietTactic
import Derived.BigQuiet
namespace Go.Proofs.Ytchnejfdompfpaa
open Go.RowKit

def Ct.empty : Ct := ⟨[], [], List.replicate 12 Vl.zero⟩
set_option maxRecDepth 100000 in
theorem new_any (w : World) : Calls Try.prog 7 #[] w fun e w' => ∃ c mb mn, e = .returned (.pointer (some ⟨c, 0, none⟩)) ∧ CtAt w' w.heap.size c mb mn Ct.empty ∧ Ext w w' := by
  have hmm := @run_makeMap Try.prog
  go_enter Try.func7, Try.ntmps7
  go_wp2_with fail
  go_ret
  refine ⟨_, w.heap.size, w.heap.size + 1, rfl, ⟨At.new_eq (by simp) _ _, ((MapAt.new u64Way ptrV w).alloc _).alloc _, ?_, (fun r hr => by cases hr), List.nodup_nil, rfl, by omega, by omega, by omega, by omega, (fun r hr => by cases hr)⟩, (((Ext.refl w).alloc _).alloc _).alloc _⟩
  have := MapAt.new strWay u64V (w.alloc (.map #[] 0))
  rw [show (w.alloc (.map #[] 0)).heap.size = w.heap.size + 1 by simp] at this
  exact this.alloc _

def resV (err : Int) (blob : Nat) (size : Int) (sum : Nat) (nv : Value) : Value := .agg #[.int .i64 err, .int .u64 (blob : Int), .int .i64 size, .int .u32 (sum : Int), nv]
abbrev cmdCells (c : Cmd) (dv : Value) : Array Value := #[.int .i64 c.kind, .int .i64 c.client, .int .i64 c.seq, .string c.name, .int .u64 (c.blob : Int), .int .i64 c.size, .int .u32 (c.sum : Int), dv, .int .i64 c.pool, .int .i64 c.vol, .int .i64 c.at_]
abbrev resCells : Array Value := #[.int .i64 0, .int .u64 0, .int .i64 0, .int .u32 0, .slice none 0 0]
theorem CtAt.c0 {w : World} {B c mb mn : Nat} {C : Ct} (h : CtAt w B c mb mn C) : w.cell? ⟨c, 0, none⟩ = some (.map (some mb)) ∧ w.cell? ⟨c, 1, none⟩ = some (.map (some mn)) := ⟨h.blk.cell 0, h.blk.cell 1⟩

theorem res_out {W : World} {g : Nat} (h : At W g 31 resCells) (a0 a1 a2 a3 a4 : Value) :
    At (((((W.setCell ⟨g, 0, none⟩ a0).setCell ⟨g, 1, none⟩ a1).setCell ⟨g, 2, none⟩ a2).setCell ⟨g, 3, none⟩ a3).setCell ⟨g, 4, none⟩ a4).drew g 31 #[a0, a1, a2, a3, a4] ∧
      Chg (· = g) W (((((W.setCell ⟨g, 0, none⟩ a0).setCell ⟨g, 1, none⟩ a1).setCell ⟨g, 2, none⟩ a2).setCell ⟨g, 3, none⟩ a3).setCell ⟨g, 4, none⟩ a4).drew := by
  have hc0 := (Chg.refl (· = g) W).setCell (p := ⟨g, 0, none⟩) (.inl rfl) a0
  have hc1 := hc0.setCell (p := ⟨g, 1, none⟩) (.inl rfl) a1
  have hc2 := hc1.setCell (p := ⟨g, 2, none⟩) (.inl rfl) a2
  have hc3 := hc2.setCell (p := ⟨g, 3, none⟩) (.inl rfl) a3
  have hc4 := hc3.setCell (p := ⟨g, 4, none⟩) (.inl rfl) a4
  have h1 : At (W.setCell ⟨g, 0, none⟩ a0) g 31 #[a0, .int .u64 0, .int .i64 0, .int .u32 0, .slice none 0 0] := h.set 0 a0
  have h2 : At ((W.setCell ⟨g, 0, none⟩ a0).setCell ⟨g, 1, none⟩ a1) g 31 #[a0, a1, .int .i64 0, .int .u32 0, .slice none 0 0] := h1.set 1 a1
  have h3 : At (((W.setCell ⟨g, 0, none⟩ a0).setCell ⟨g, 1, none⟩ a1).setCell ⟨g, 2, none⟩ a2) g 31 #[a0, a1, a2, .int .u32 0, .slice none 0 0] := h2.set 2 a2
  have h4 : At ((((W.setCell ⟨g, 0, none⟩ a0).setCell ⟨g, 1, none⟩ a1).setCell ⟨g, 2, none⟩ a2).setCell ⟨g, 3, none⟩ a3) g 31 #[a0, a1, a2, a3, .slice none 0 0] := h3.set 3 a3
  have h5 : At (((((W.setCell ⟨g, 0, none⟩ a0).setCell ⟨g, 1, none⟩ a1).setCell ⟨g, 2, none⟩ a2).setCell ⟨g, 3, none⟩ a3).setCell ⟨g, 4, none⟩ a4) g 31 #[a0, a1, a2, a3, a4] := h4.set 4 a4
  exact ⟨h5.drew, hc4.drew⟩

theorem res_out0 {W : World} {g : Nat} (h : At W g 31 resCells) (a0 a1 a2 a3 a4 : Value) :
    At (((((W.setCell ⟨g, 0, none⟩ a0).setCell ⟨g, 1, none⟩ a1).setCell ⟨g, 2, none⟩ a2).setCell ⟨g, 3, none⟩ a3).setCell ⟨g, 4, none⟩ a4) g 31 #[a0, a1, a2, a3, a4] ∧
      Chg (· = g) W (((((W.setCell ⟨g, 0, none⟩ a0).setCell ⟨g, 1, none⟩ a1).setCell ⟨g, 2, none⟩ a2).setCell ⟨g, 3, none⟩ a3).setCell ⟨g, 4, none⟩ a4) := by
  have hc0 := (Chg.refl (· = g) W).setCell (p := ⟨g, 0, none⟩) (.inl rfl) a0
  have hc1 := hc0.setCell (p := ⟨g, 1, none⟩) (.inl rfl) a1
  have hc2 := hc1.setCell (p := ⟨g, 2, none⟩) (.inl rfl) a2
  have hc3 := hc2.setCell (p := ⟨g, 3, none⟩) (.inl rfl) a3
  have hc4 := hc3.setCell (p := ⟨g, 4, none⟩) (.inl rfl) a4
  have h1 : At (W.setCell ⟨g, 0, none⟩ a0) g 31 #[a0, .int .u64 0, .int .i64 0, .int .u32 0, .slice none 0 0] := h.set 0 a0
  have h2 : At ((W.setCell ⟨g, 0, none⟩ a0).setCell ⟨g, 1, none⟩ a1) g 31 #[a0, a1, .int .i64 0, .int .u32 0, .slice none 0 0] := h1.set 1 a1
  have h3 : At (((W.setCell ⟨g, 0, none⟩ a0).setCell ⟨g, 1, none⟩ a1).setCell ⟨g, 2, none⟩ a2) g 31 #[a0, a1, a2, .int .u32 0, .slice none 0 0] := h2.set 2 a2
  have h4 : At ((((W.setCell ⟨g, 0, none⟩ a0).setCell ⟨g, 1, none⟩ a1).setCell ⟨g, 2, none⟩ a2).setCell ⟨g, 3, none⟩ a3) g 31 #[a0, a1, a2, a3, .slice none 0 0] := h3.set 3 a3
  have h5 : At (((((W.setCell ⟨g, 0, none⟩ a0).setCell ⟨g, 1, none⟩ a1).setCell ⟨g, 2, none⟩ a2).setCell ⟨g, 3, none⟩ a3).setCell ⟨g, 4, none⟩ a4) g 31 #[a0, a1, a2, a3, a4] := h4.set 4 a4
  exact ⟨h5, hc4⟩

section named
variable (w : World) (B c mb mn : Nat) (C : Ct) (h : CtAt w B c mb mn C) (x : Cmd) (dv : Value)
include h
set_option maxRecDepth 100000 in
set_option maxHeartbeats 2000000 in
theorem named_none (hn : lget x.name C.names = none) :
    Calls Try.prog 21 #[.pointer (some ⟨c, 0, none⟩), cmdVal x dv] w fun e w' => e = .returned (resV 5 0 0 0 (.slice none 0 0)) ∧ Ext w w' := by
  unfold cmdVal
  go_enter Try.func21, Try.ntmps21
  have hX := (At.new w 35 (cmdCells x dv)).alloc (.cells resCells 31)
  have hE := ((Ext.refl w).alloc (.cells (cmdCells x dv) 35)).alloc (.cells resCells 31)
  have hR := At.new (w.alloc (.cells (cmdCells x dv) 35)) 31 resCells
  rw [show (w.alloc (.cells (cmdCells x dv) 35)).heap.size = w.heap.size + 1 by simp] at hR
  go_upto_region 1 with fail
  generalize hxb : w.heap.size = xb at *
  generalize World.alloc _ _ = W at *
  have hC := h.ext hE
  obtain ⟨c0, c1⟩ := hC.c0
  have hlk := (hC.ext ((Ext.refl W).drew)).lookName x.name
  rw [hn] at hlk
  have x3 := hX.cell 3
  have r0 := hR.cell 0
  have r1 := hR.cell 1
  have r2 := hR.cell 2
  have r3 := hR.cell 3
  have r4 := hR.cell 4
  have f0 := hR.frozen 0
  have f1 := hR.frozen 1
  have f2 := hR.frozen 2
  have f3 := hR.frozen 3
  have f4 := hR.frozen 4
  simp at x3 r0 r1 r2 r3 r4 hlk
  clear hX h hn hC
  go_region
  go_wp2_with fail
  obtain ⟨hZ, hCz⟩ := res_out hR (.int .i64 5) (.int .u64 0) (.int .i64 0) (.int .u32 0) (.slice none 0 0)
  generalize World.drew _ = WZ at hZ hCz ⊢
  have g0 := hZ.cell 0
  have g1 := hZ.cell 1
  have g2 := hZ.cell 2
  have g3 := hZ.cell 3
  have g4 := hZ.cell 4
  simp at g0 g1 g2 g3 g4
  refine bodyPost_ret (v := resV 5 0 0 0 (.slice none 0 0)) (by simp [results, Try.results21, go_sem, g0, g1, g2, g3, g4, resV]) rfl ⟨rfl, Chg.mono (hE.chg_trans hCz) fun j hj h' => by have e : j = xb + 1 := h'; omega⟩
def namedCt (C : Ct) (x : Cmd) (r : BR) : Ct :=
  if x.kind = 2 then C.upd r.g { r.b with pins := r.b.pins + 1 } r.dv else if x.kind = 3 then (C.upd r.g { r.b with dead := true } r.dv).setNames (ldel x.name C.names) else C
set_option maxRecDepth 100000 in
set_option maxHeartbeats 2000000 in
theorem named_some {r : BR} (hn : lget x.name C.names = some r.b.id) (hf : C.find r.b.id = some r) (hp : 0 ≤ r.b.pins ∧ r.b.pins < 4611686018427387904) (hk : x.kind = 2 ∨ x.kind = 3 ∨ x.kind = 5) :
    Calls Try.prog 21 #[.pointer (some ⟨c, 0, none⟩), cmdVal x dv] w fun e w' => e = .returned (resV 0 r.b.id r.b.size r.b.sum (.slice none 0 0)) ∧ CtAt w' B c mb mn (namedCt C x r) ∧ Chg (C.S c mb mn) w w' := by
  unfold cmdVal
  go_enter Try.func21, Try.ntmps21
  have hX := (At.new w 35 (cmdCells x dv)).alloc (.cells resCells 31)
  have hE := ((Ext.refl w).alloc (.cells (cmdCells x dv) 35)).alloc (.cells resCells 31)
  have hR := At.new (w.alloc (.cells (cmdCells x dv) 35)) 31 resCells
  rw [show (w.alloc (.cells (cmdCells x dv) 35)).heap.size = w.heap.size + 1 by simp] at hR
  go_upto_region 1 with fail
  generalize hxb : w.heap.size = xb at *
  generalize World.alloc _ _ = W at *
  have hC := h.ext hE
  obtain ⟨c0, c1⟩ := hC.c0
  have hlk := (hC.ext ((Ext.refl W).drew)).lookName x.name
  rw [hn] at hlk
  have x3 := hX.cell 3
  simp at x3 hlk
  go_region
  clear hlk c0 c1 x3
  have hX1 := hX.drew
  have hR1 := hR.drew
  have hC1 := hC.ext ((Ext.refl W).drew)
  have hE1 := hE.drew
  clear hX hR hC hE h hn
  generalize World.drew _ = W1 at *
  obtain ⟨c0, c1⟩ := hC1.c0
  have hlk := hC1.look r.b.id
  rw [hf] at hlk
  simp only [ptrO] at hlk
  have hr := (find_mem hf).1
  have hB := (hC1.bl r hr).1
  have hO := (hC1.bl r hr).2
  have hgB := hC1.lo.2.2.2 r hr
  have hmB := hC1.lo.2.2.1
  have hne : r.g ≠ xb + 1 := At.ne hB hR1 (by decide)
  have x0 := hX1.cell 0
  simp at x0
  go_upto_block 0 with fail
  clear hlk c0 c1
  go_cut [] from 29 to 48 (fun wx => CtAt wx B c mb mn (namedCt C x r) ∧ (∃ b', At wx r.g 44 (blCells b' r.dv) ∧ b'.id = r.b.id ∧ b'.size = r.b.size ∧ b'.sum = r.b.sum) ∧ At wx (xb + 1) 31 resCells ∧ Chg (C.S c mb mn) w wx)
  case first =>
    have hEB : Chg (C.S c mb mn) w W1 := Chg.mono hE1 (fun _ _ hh => hh.elim)
    have b11 := hB.cell 11
    have b12 := hB.cell 12
    have f11 := hB.frozen 11
    have f12 := hB.frozen 12
    have hbl := hB.lt
    simp at b11 b12
    rcases hk with hk | hk | hk
    · have k2 : (x.kind == 2) = true := by rw [hk]; rfl
      have hnc : namedCt C x r = C.upd r.g { r.b with pins := r.b.pins + 1 } r.dv := by unfold namedCt; rw [if_pos hk]
      have HNC := Lib.hid hnc
      clear hnc hk
      have hCs := (Chg.refl (· = r.g) W1).setCell (p := ⟨r.g, 11, none⟩) (.inl rfl) (.int .i64 (r.b.pins + 1))
      have hB2 : At (W1.setCell ⟨r.g, 11, none⟩ (.int .i64 (r.b.pins + 1))) r.g 44 (blCells { r.b with pins := r.b.pins + 1 } r.dv) := hB.set 11 _
      have hC2 := hC1.chgBlob hr (b := { r.b with pins := r.b.pins + 1 }) (dv := r.dv) rfl hCs hB2 (own_keep hO hCs (fun k hk e => own_apart' hO hB (by decide) k hk e))
      have hR2 := hR1.far (p := ⟨r.g, 11, none⟩) hne.symm (.int .i64 (r.b.pins + 1))
      go_wp2_with fail
      go_meet
      case rel => exact ⟨by rw [HNC.out]; exact hC2, ⟨_, hB2, rfl, rfl, rfl⟩, hR2, Chg.trans hEB hCs (fun k _ e => by have e' : k = r.g := e; exact .inr (.inr (.inr ⟨r, hr, e'⟩)))⟩
    · have k2 : (x.kind == 2) = false := by rw [hk]; rfl
      have k3 : (x.kind == 3) = true := by rw [hk]; rfl
      have hnc : namedCt C x r = (C.upd r.g { r.b with dead := true } r.dv).setNames (ldel x.name C.names) := by unfold namedCt; rw [if_neg (by omega), if_pos hk]
      have HNC := Lib.hid hnc
      clear hnc hk
      have hCs := (Chg.refl (· = r.g) W1).setCell (p := ⟨r.g, 12, none⟩) (.inl rfl) (.bool true)
      have hB2 : At (W1.setCell ⟨r.g, 12, none⟩ (.bool true)) r.g 44 (blCells { r.b with dead := true } r.dv) := hB.set 12 _
      have hC2 := hC1.chgBlob hr (b := { r.b with dead := true }) (dv := r.dv) rfl hCs hB2 (own_keep hO hCs (fun k hk e => own_apart' hO hB (by decide) k hk e))
      have hR2 := hR1.far (p := ⟨r.g, 12, none⟩) hne.symm (.bool true)
      have hX2 := hX1.far (p := ⟨r.g, 12, none⟩) (At.ne hX1 hB (by decide)) (.bool true)
      go_upto_region 10 with fail
      clear b11 b12 f11 f12 x0
      generalize World.setCell _ _ _ = W2 at *
      obtain ⟨c0, c1⟩ := hC2.c0
      have x3 := hX2.cell 3
      simp at x3
      obtain ⟨W3, hdel, hC3, hCd⟩ := (hC2.ext ((Ext.refl W2).drew)).delName x.name
      have hdel' := hdel 0
      go_region
      have hB3 := hB2.drew.chg hCd (fun e => hC2.nm.ne_at hB2 (Eq.symm e))
      have hR3 := hR2.drew.chg hCd (fun e => hC2.nm.ne_at hR2 (Eq.symm e))
      have hCh : Chg (C.S c mb mn) w W3 := Chg.trans (Chg.trans hEB hCs (S := C.S c mb mn) (fun k _ e => by have e' : k = r.g := e; exact .inr (.inr (.inr ⟨r, hr, e'⟩)))).drew hCd (fun k _ e => by have e' : k = mn := e; exact .inr (.inr (.inl e')))
      go_wp2_with fail
      go_meet
      case rel => exact ⟨by rw [HNC.out]; exact hC3, ⟨_, hB3, rfl, rfl, rfl⟩, hR3, hCh⟩
    · have k2 : (x.kind == 2) = false := by rw [hk]; rfl
      have k3 : (x.kind == 3) = false := by rw [hk]; rfl
      have hnc : namedCt C x r = C := by unfold namedCt; rw [if_neg (by omega), if_neg (by omega)]
      have HNC := Lib.hid hnc
      clear hnc hk
      go_wp2_with fail
      go_meet
      case rel => exact ⟨by rw [HNC.out]; exact hC1, ⟨r.b, hB, rfl, rfl, rfl⟩, hR1, hEB⟩
  case rest =>
    clear x0 hB hO hR1 hX1 hC1 hE1 hne
    obtain ⟨hC2, ⟨b', hB2, e1, e2, e3⟩, hR2, hCh⟩ := hcut
    have b0 := hB2.cell 0
    have b2 := hB2.cell 2
    have b3 := hB2.cell 3
    simp at b0 b2 b3
    rw [e1] at b0
    rw [e2] at b2
    rw [e3] at b3
    have r0 := hR2.cell 0
    have r1 := hR2.cell 1
    have r2 := hR2.cell 2
    have r3 := hR2.cell 3
    have r4 := hR2.cell 4
    have f0 := hR2.frozen 0
    have f1 := hR2.frozen 1
    have f2 := hR2.frozen 2
    have f3 := hR2.frozen 3
    have f4 := hR2.frozen 4
    simp at r0 r1 r2 r3 r4
    go_wp2_with fail
    go_region
    go_wp2_with fail
    obtain ⟨hZ, hCz⟩ := res_out hR2 (.int .i64 0) (.int .u64 (r.b.id : Int)) (.int .i64 r.b.size) (.int .u32 (r.b.sum : Int)) (.slice none 0 0)
    generalize World.drew _ = WZ at hZ hCz ⊢
    have g0 := hZ.cell 0
    have g1 := hZ.cell 1
    have g2 := hZ.cell 2
    have g3 := hZ.cell 3
    have g4 := hZ.cell 4
    simp at g0 g1 g2 g3 g4
    have hCf := hC2.far hCz hR2 (by decide) (by decide) (by decide)
    have hwl : w.heap.size ≤ xb + 1 := by omega
    refine bodyPost_ret (v := resV 0 r.b.id r.b.size r.b.sum (.slice none 0 0)) (by simp [results, Try.results21, go_sem, g0, g1, g2, g3, g4, resV]) rfl ⟨rfl, hCf, Chg.trans hCh hCz fun j hj h' => by have e : j = xb + 1 := h'; omega⟩
end named
end Go.Proofs.Ytchnejfdompfpaa
