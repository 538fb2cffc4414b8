/-
  CommandBack: the walk.
-/
import Derived.Test.YtclgekgocfhobaaCmdAwake
import Derived.Test.YtclgekgocfhobaaCmdPlain
import Derived.Test.YtclgekgocfhobaaCmdSame
import Derived.Test.YtclgekgocfhobaaCut
import Derived.Test.YtclgekgocfhobaaOpenCmd
namespace Go.Proofs.Ytclgekgocfhobaa
open Go.RowKit Go.Sort

theorem same_self (c : Cmd) : sameB c c = true := by simp [sameB]
theorem told_re (W : World) (c : Cmd) (A : Option Addr) (n m : Nat) (dd : Nat) (os : Array Obj) : Calls Try.prog 15 #[cmdVal c (.slice A n m)] (grow (redrawn W dd) os) fun e w'' => e = .returned (cmdVal c (.slice A n m)) ∧ ∃ p : Regrown, w'' = grow (redrawn W p.d) p.os :=
  Calls.ext_of (told_any _ c A n m)
theorem same_re (W : World) (a b : Cmd) (av bv : Value) (hS : Sl W av (a.disks.map (Value.int .i64))) (hT : Sl W bv (b.disks.map (Value.int .i64))) (hl : a.disks.length ≤ 9223372036854775807) (hl2 : b.disks.length ≤ 9223372036854775807) (dd : Nat) (os : Array Obj) :
    Calls Try.prog 14 #[cmdVal a av, cmdVal b bv] (grow (redrawn W dd) os) fun e w'' => e = .returned (.bool (sameB a b)) ∧ ∃ p : Regrown, w'' = grow (redrawn W p.d) p.os :=
  Calls.ext_of (same_any _ a b av bv (hS.ext (ext_regrown W dd os)) (hT.ext (ext_regrown W dd os)) hl hl2)

set_option maxRecDepth 100000 in
set_option maxHeartbeats 4000000 in
theorem back_any (w : World) (c : Cmd) (dv : Value) (hin : c.In dv w) (hdl : c.disks.length ≤ 17592186043904) : Calls Try.prog 3 #[cmdVal c dv] w fun e w' => e = .returned (.bool true) ∧ Ext w w' := by
  have k1 := fun W => cut_any c.name 32 W hin.nm (by omega)
  have g1 := cut_size c.name 32
  generalize cut c.name 32 = t at k1 g1
  have hwf := hin.wf
  obtain ⟨hS, A, n, rfl, _, _⟩ := hin.sl
  clear hin
  have hsb := sl_block hS
  rw [List.length_map] at hS hsb ⊢
  unfold cmdVal
  go_enter Try.func3, Try.ntmps3
  go_wp2_with fail
  have hB := At.new w 26 #[.int .i64 c.kind, .int .i64 c.client, .int .i64 c.seq, .string c.name, .int .u64 (c.blob : Int), .int .i64 c.size, .int .u32 (c.sum : Int), .slice A c.disks.length n, .int .i64 c.pool, .int .i64 c.vol, .int .i64 c.at_]
  have X := (Ext.refl w).alloc (.cells #[.int .i64 c.kind, .int .i64 c.client, .int .i64 c.seq, .string c.name, .int .u64 (c.blob : Int), .int .i64 c.size, .int .u32 (c.sum : Int), .slice A c.disks.length n, .int .i64 c.pool, .int .i64 c.vol, .int .i64 c.at_] 26)
  replace hS := hS.ext ((Ext.refl w).alloc (.cells #[.int .i64 c.kind, .int .i64 c.client, .int .i64 c.seq, .string c.name, .int .u64 (c.blob : Int), .int .i64 c.size, .int .u32 (c.sum : Int), .slice A c.disks.length n, .int .i64 c.pool, .int .i64 c.vol, .int .i64 c.at_] 26))
  generalize w.alloc (.cells #[.int .i64 c.kind, .int .i64 c.client, .int .i64 c.seq, .string c.name, .int .u64 (c.blob : Int), .int .i64 c.size, .int .u32 (c.sum : Int), .slice A c.disks.length n, .int .i64 c.pool, .int .i64 c.vol, .int .i64 c.at_] 26) = W at hB hS X ⊢
  obtain ⟨b, hb⟩ : ∃ b, b = w.heap.size := ⟨_, rfl⟩
  rw [← hb] at hB ⊢
  have hbl : w.heap.size ≤ b := by omega
  clear hb
  have y7 := hB.cell 7
  have f3 := hB.frozen 3
  have y3 := hB.cell 3
  simp at y7 y3
  refine (k1 W).mono ?_
  clear k1
  rintro e w0 ⟨rfl, rfl⟩
  go_wp2_with fail
  have hB2 := hB.set 3 (.string t)
  have X2 := X.setCell (p := ⟨b, 3, none⟩) hbl (.string t)
  have hCh : Chg (· = b) w0 (w0.setCell ⟨b, 3, none⟩ (.string t)) := (Chg.refl (· = b) _).setCell (.inl rfl) _
  have hS2 : Sl (w0.setCell ⟨b, 3, none⟩ (.string t)) (.slice A c.disks.length n) (c.disks.map (Value.int .i64)) := hS.chg hCh fun b' o n' c' hv hne h => by
    have h' : b' = b := h
    have := hsb b' o n' c' hv hne
    omega
  clear hS hB y7 f3 y3 X hCh
  generalize w0.setCell ⟨b, 3, none⟩ (.string t) = W1 at hB2 X2 hS2 ⊢
  replace hB2 : At W1 b 26 #[.int .i64 c.kind, .int .i64 c.client, .int .i64 c.seq, .string t, .int .u64 (c.blob : Int), .int .i64 c.size, .int .u32 (c.sum : Int), .slice A c.disks.length n, .int .i64 c.pool, .int .i64 c.vol, .int .i64 c.at_] := hB2
  have y7 := hB2.cell 7
  have f7 := hB2.frozen 7
  simp at y7
  have hblt := hB2.lt
  go_wp2_with fail
  refine (disk_any W1 _ c.disks hS2 hdl).mono ?_
  rintro e W2 ⟨v, rfl, hown, hE2⟩
  replace hB2 := hB2.ext hE2
  replace X2 := X2.trans hE2
  have hD := Sl.of_own hown
  have hdb : ∀ b' o n' c', v = .slice (some ⟨b', o, none⟩) n' c' → b' ≠ b := by
    rintro b' o n' c' rfl e
    have h1 := own_ge hown b' rfl
    omega
  obtain ⟨vA, vn, vc, rfl⟩ := own_slice hown
  clear y7 f7 hS2 hown hE2
  have y7 := hB2.cell 7
  have f7 := hB2.frozen 7
  simp at y7
  go_wp2_with fail
  have hB3 : At (W2.setCell ⟨b, 7, none⟩ (.slice vA vn vc)) b 26 #[.int .i64 c.kind, .int .i64 c.client, .int .i64 c.seq, .string t, .int .u64 (c.blob : Int), .int .i64 c.size, .int .u32 (c.sum : Int), .slice vA vn vc, .int .i64 c.pool, .int .i64 c.vol, .int .i64 c.at_] := hB2.set 7 (.slice vA vn vc)
  have X3 := X2.setCell (p := ⟨b, 7, none⟩) hbl (.slice vA vn vc)
  have hS3 : Sl (W2.setCell ⟨b, 7, none⟩ (.slice vA vn vc)) (.slice vA vn vc) ((diskOf c.disks).map (Value.int .i64)) := hD.chg ((Chg.refl (· = b) _).setCell (.inl rfl) _) fun b' o n' c' hv hne h => hdb b' o n' c' hv h
  have hd6 := diskOf_len c.disks
  have hdr : ∀ d ∈ diskOf c.disks, -9223372036854775808 ≤ d ∧ d ≤ 9223372036854775807 := fun d hd => by
    have := upB_iff.1 ((diskOf_mem c.disks d).1 hd).2; omega
  clear hB2 y7 f7 X2 hD hdb hblt hsb
  generalize diskOf c.disks = ds at hS3 hd6 hdr
  generalize W2.setCell ⟨b, 7, none⟩ (.slice vA vn vc) = W3 at hB3 X3 hS3 ⊢
  obtain ⟨c1, hc1⟩ : ∃ c1 : Cmd, c1 = ⟨c.kind, c.client, c.seq, t, c.blob, c.size, c.sum, ds, c.pool, c.vol, c.at_⟩ := ⟨_, rfl⟩
  have hw1 : c1.Wf := by
    rw [hc1]
    exact ⟨hwf.kind, hwf.client, hwf.seq, hwf.blob, hwf.size, hwf.sum, hwf.pool, hwf.vol, hwf.at_, hdr⟩
  have e0 : c.kind = c1.kind := by rw [hc1]
  have e1 : c.client = c1.client := by rw [hc1]
  have e2 : c.seq = c1.seq := by rw [hc1]
  have e3 : t = c1.name := by rw [hc1]
  have e4 : c.blob = c1.blob := by rw [hc1]
  have e5 : c.size = c1.size := by rw [hc1]
  have e6 : c.sum = c1.sum := by rw [hc1]
  have e7 : ds = c1.disks := by rw [hc1]
  have e8 : c.pool = c1.pool := by rw [hc1]
  have e9 : c.vol = c1.vol := by rw [hc1]
  have e10 : c.at_ = c1.at_ := by rw [hc1]
  rw [e0, e1, e2, e3, e4, e5, e6, e8, e9, e10] at hB3
  rw [e7] at hS3 hd6
  rw [e3] at g1
  clear e0 e1 e2 e3 e4 e5 e6 e7 e8 e9 e10 hwf hdl hdr hc1
  refine (cawake_any _).mono ?_
  rintro e w3 ⟨rfl, hE3⟩
  replace hB3 := hB3.ext hE3
  replace hS3 := hS3.ext hE3
  replace X3 := X3.trans hE3
  clear hE3
  have y0 := hB3.cell 0
  have y1 := hB3.cell 1
  have y2 := hB3.cell 2
  have y3 := hB3.cell 3
  have y4 := hB3.cell 4
  have y5 := hB3.cell 5
  have y6 := hB3.cell 6
  have y7 := hB3.cell 7
  have y8 := hB3.cell 8
  have y9 := hB3.cell 9
  have y10 := hB3.cell 10
  simp at y0 y1 y2 y3 y4 y5 y6 y7 y8 y9 y10
  go_wp2_with fail
  have cg := good_any w3 c1 (.slice vA vn vc) hS3 (by omega) (by omega)
  unfold cmdVal at cg
  refine cg.mono ?_
  clear cg
  cases hg : c1.good
  · rintro e w4 ⟨rfl, hE4⟩
    replace X3 := X3.trans hE4
    go_wp2_with fail
    refine (cawake_any _).mono ?_
    rintro e w5 ⟨rfl, hE5⟩
    go_wp2_with fail
    go_ret
    exact ⟨rfl, X3.trans hE5⟩
  · rintro e w4 ⟨rfl, hE4⟩
    replace hB3 := hB3.ext hE4
    replace hS3 := hS3.ext hE4
    replace X3 := X3.trans hE4
    clear hE4
    clear y0 y1 y2 y3 y4 y5 y6 y7 y8 y9 y10
    have y0 := hB3.cell 0
    have y1 := hB3.cell 1
    have y2 := hB3.cell 2
    have y3 := hB3.cell 3
    have y4 := hB3.cell 4
    have y5 := hB3.cell 5
    have y6 := hB3.cell 6
    have y7 := hB3.cell 7
    have y8 := hB3.cell 8
    have y9 := hB3.cell 9
    have y10 := hB3.cell 10
    simp at y0 y1 y2 y3 y4 y5 y6 y7 y8 y9 y10
    go_wp2_with fail
    have cw := write_any w4 c1 (.slice vA vn vc) hw1 hS3 (by omega) (by omega)
    unfold cmdVal at cw
    refine cw.mono ?_
    clear cw
    rintro e w5 ⟨rfl, hE5⟩
    replace hB3 := hB3.ext hE5
    replace hS3 := hS3.ext hE5
    replace X3 := X3.trans hE5
    clear hE5
    go_wp2_with fail
    have cr := cread_any w5 ⟨c1.enc.toArray⟩ (by have := cenc_len c1 hd6 g1; show c1.enc.toArray.size ≤ _; simp; omega)
    rw [show cread (⟨c1.enc.toArray⟩ : ByteArray).data.toList = (c1, 0) from cread_enc hg hw1] at cr
    unfold cmdVal at cr
    refine cr.mono ?_
    clear cr
    rintro e w6 ⟨dv, rfl, hSd, hE6⟩
    obtain ⟨dA, dc, rfl, hx⟩ := hSd
    have hSd : Sl w6 (.slice dA (c1.disks.map (Value.int .i64)).length dc) (c1.disks.map (Value.int .i64)) := ⟨dA, dc, rfl, hx⟩
    clear hx
    rw [List.length_map] at hSd ⊢
    replace hB3 := hB3.ext hE6
    replace hS3 := hS3.ext hE6
    replace X3 := X3.trans hE6
    clear hE6
    clear y0 y1 y2 y3 y4 y5 y6 y7 y8 y9 y10
    go_wp2_with fail
    have hQ := At.new w6 26 #[.int .i64 c1.kind, .int .i64 c1.client, .int .i64 c1.seq, .string c1.name, .int .u64 (c1.blob : Int), .int .i64 c1.size, .int .u32 (c1.sum : Int), .slice dA c1.disks.length dc, .int .i64 c1.pool, .int .i64 c1.vol, .int .i64 c1.at_]
    have hEQ := (Ext.refl w6).alloc (.cells #[.int .i64 c1.kind, .int .i64 c1.client, .int .i64 c1.seq, .string c1.name, .int .u64 (c1.blob : Int), .int .i64 c1.size, .int .u32 (c1.sum : Int), .slice dA c1.disks.length dc, .int .i64 c1.pool, .int .i64 c1.vol, .int .i64 c1.at_] 26)
    replace hB3 := hB3.ext hEQ
    replace hS3 := hS3.ext hEQ
    replace hSd := hSd.ext hEQ
    replace X3 := X3.trans hEQ
    clear hEQ
    generalize w6.alloc (.cells #[.int .i64 c1.kind, .int .i64 c1.client, .int .i64 c1.seq, .string c1.name, .int .u64 (c1.blob : Int), .int .i64 c1.size, .int .u32 (c1.sum : Int), .slice dA c1.disks.length dc, .int .i64 c1.pool, .int .i64 c1.vol, .int .i64 c1.at_] 26) = W7 at hB3 hS3 hSd hQ X3 ⊢
    generalize w6.heap.size = q at hQ ⊢
    have cw1 := told_re W7 c1 vA vn vc
    have cw2 := told_re W7 c1 dA c1.disks.length dc
    have cw3 := same_re W7 c1 c1 (.slice dA c1.disks.length dc) (.slice vA vn vc) hSd hS3 (by omega) (by omega)
    rw [same_self] at cw3
    unfold cmdVal at cw1 cw2 cw3
    refine wp_region_quiet_ext (by kernel_rfl) (by kernel_rfl) ?_
    have y0 := hB3.cell_regrown 0
    have z0 := hQ.cell_regrown 0
    have y1 := hB3.cell_regrown 1
    have z1 := hQ.cell_regrown 1
    have y2 := hB3.cell_regrown 2
    have z2 := hQ.cell_regrown 2
    have y3 := hB3.cell_regrown 3
    have z3 := hQ.cell_regrown 3
    have y4 := hB3.cell_regrown 4
    have z4 := hQ.cell_regrown 4
    have y5 := hB3.cell_regrown 5
    have z5 := hQ.cell_regrown 5
    have y6 := hB3.cell_regrown 6
    have z6 := hQ.cell_regrown 6
    have y7 := hB3.cell_regrown 7
    have z7 := hQ.cell_regrown 7
    have y8 := hB3.cell_regrown 8
    have z8 := hQ.cell_regrown 8
    have y9 := hB3.cell_regrown 9
    have z9 := hQ.cell_regrown 9
    have y10 := hB3.cell_regrown 10
    have z10 := hQ.cell_regrown 10
    simp at y0 z0 y1 z1 y2 z2 y3 z3 y4 z4 y5 z5 y6 z6 y7 z7 y8 z8 y9 z9 y10 z10
    repeat (go_big_quiet_step (first | with_reducible exact cw1 _ _ | with_reducible exact cw2 _ _ | with_reducible exact cw3 _ _))
    refine wpQuiet_nil ?_
    intro W8 hE8
    go_wp2_with fail
    go_ret
    exact ⟨rfl, X3.trans hE8⟩
end Go.Proofs.Ytclgekgocfhobaa
