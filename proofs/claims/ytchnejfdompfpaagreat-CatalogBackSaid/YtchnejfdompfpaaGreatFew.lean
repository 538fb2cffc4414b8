/-
  Layer 13: few: a command with small lists.
  A row of commands: its cells.
-/
import Derived.Test.YtchnejfdompfpaaGreatOpenCmd
import Derived.Test.YtchnejfdompfpaaGreatCatPut
import Derived.Test.YtchnejfdompfpaaGreatSlices
namespace Go.Proofs.YtchnejfdompfpaaGreat
open Go.RowKit Go.Sort

/-- a command with small lists -/
def fewC (x : Cmd) : Cmd := { x with name := cut x.name 40, disks := x.disks.take 7 }
theorem fewC_wf {x : Cmd} (h : x.Wf) : (fewC x).Wf := by
  obtain ⟨h1, h2, h3, h4, h5, h6, h7, h8, h9, h10⟩ := h
  exact ⟨h1, h2, h3, h4, h5, h6, h7, h8, h9, fun d hd => h10 d (List.mem_of_mem_take hd)⟩
theorem fewC_dl (x : Cmd) : (fewC x).disks.length ≤ 7 := by
  show (x.disks.take 7).length ≤ 7
  rw [List.length_take]; omega
theorem ints_one (l : List Int) : ∀ r ∈ (l.map (Value.int .i64)).map (fun x => [x]), r.all Value.oneCell' = true := by
  intro r hr
  obtain ⟨v, hv, rfl⟩ := List.mem_map.1 hr
  obtain ⟨n, _, rfl⟩ := List.mem_map.1 hv
  rfl
theorem one_len (xs : List Value) : ∀ r ∈ xs.map (fun x => [x]), r.length = 1 := by
  intro r hr
  obtain ⟨v, _, rfl⟩ := List.mem_map.1 hr
  rfl
theorem cmd_out {W : World} {g : Nat} (h : At W g 38 #[.int .i64 0, .int .i64 0, .int .i64 0, .string ⟨#[]⟩, .int .u64 0, .int .i64 0, .int .u32 0, .slice none 0 0, .int .i64 0, .int .i64 0, .int .i64 0]) (a0 a1 a2 a3 a4 a5 a6 a7 a8 a9 a10 : Value) :
    At (((((((((((W.setCell ⟨g, 0, none⟩ a0).setCell ⟨g, 1, none⟩ a1).setCell ⟨g, 2, none⟩ a2).setCell ⟨g, 3, none⟩ a3).setCell ⟨g, 4, none⟩ a4).setCell ⟨g, 5, none⟩ a5).setCell ⟨g, 6, none⟩ a6).setCell ⟨g, 7, none⟩ a7).setCell ⟨g, 8, none⟩ a8).setCell ⟨g, 9, none⟩ a9).setCell ⟨g, 10, none⟩ a10) g 38 #[a0, a1, a2, a3, a4, a5, a6, a7, a8, a9, a10] ∧ Chg (· = g) W (((((((((((W.setCell ⟨g, 0, none⟩ a0).setCell ⟨g, 1, none⟩ a1).setCell ⟨g, 2, none⟩ a2).setCell ⟨g, 3, none⟩ a3).setCell ⟨g, 4, none⟩ a4).setCell ⟨g, 5, none⟩ a5).setCell ⟨g, 6, none⟩ a6).setCell ⟨g, 7, none⟩ a7).setCell ⟨g, 8, none⟩ a8).setCell ⟨g, 9, none⟩ a9).setCell ⟨g, 10, none⟩ a10) := by
  have h0 : At (W.setCell ⟨g, 0, none⟩ a0) g 38 #[a0, .int .i64 0, .int .i64 0, .string ⟨#[]⟩, .int .u64 0, .int .i64 0, .int .u32 0, .slice none 0 0, .int .i64 0, .int .i64 0, .int .i64 0] := h.set 0 a0
  have c0 := (Chg.refl (· = g) W).setCell (p := ⟨g, 0, none⟩) (.inl rfl) a0
  have h1 : At ((W.setCell ⟨g, 0, none⟩ a0).setCell ⟨g, 1, none⟩ a1) g 38 #[a0, a1, .int .i64 0, .string ⟨#[]⟩, .int .u64 0, .int .i64 0, .int .u32 0, .slice none 0 0, .int .i64 0, .int .i64 0, .int .i64 0] := h0.set 1 a1
  have c1 := (c0).setCell (p := ⟨g, 1, none⟩) (.inl rfl) a1
  have h2 : At (((W.setCell ⟨g, 0, none⟩ a0).setCell ⟨g, 1, none⟩ a1).setCell ⟨g, 2, none⟩ a2) g 38 #[a0, a1, a2, .string ⟨#[]⟩, .int .u64 0, .int .i64 0, .int .u32 0, .slice none 0 0, .int .i64 0, .int .i64 0, .int .i64 0] := h1.set 2 a2
  have c2 := (c1).setCell (p := ⟨g, 2, none⟩) (.inl rfl) a2
  have h3 : At ((((W.setCell ⟨g, 0, none⟩ a0).setCell ⟨g, 1, none⟩ a1).setCell ⟨g, 2, none⟩ a2).setCell ⟨g, 3, none⟩ a3) g 38 #[a0, a1, a2, a3, .int .u64 0, .int .i64 0, .int .u32 0, .slice none 0 0, .int .i64 0, .int .i64 0, .int .i64 0] := h2.set 3 a3
  have c3 := (c2).setCell (p := ⟨g, 3, none⟩) (.inl rfl) a3
  have h4 : At (((((W.setCell ⟨g, 0, none⟩ a0).setCell ⟨g, 1, none⟩ a1).setCell ⟨g, 2, none⟩ a2).setCell ⟨g, 3, none⟩ a3).setCell ⟨g, 4, none⟩ a4) g 38 #[a0, a1, a2, a3, a4, .int .i64 0, .int .u32 0, .slice none 0 0, .int .i64 0, .int .i64 0, .int .i64 0] := h3.set 4 a4
  have c4 := (c3).setCell (p := ⟨g, 4, none⟩) (.inl rfl) a4
  have h5 : At ((((((W.setCell ⟨g, 0, none⟩ a0).setCell ⟨g, 1, none⟩ a1).setCell ⟨g, 2, none⟩ a2).setCell ⟨g, 3, none⟩ a3).setCell ⟨g, 4, none⟩ a4).setCell ⟨g, 5, none⟩ a5) g 38 #[a0, a1, a2, a3, a4, a5, .int .u32 0, .slice none 0 0, .int .i64 0, .int .i64 0, .int .i64 0] := h4.set 5 a5
  have c5 := (c4).setCell (p := ⟨g, 5, none⟩) (.inl rfl) a5
  have h6 : At (((((((W.setCell ⟨g, 0, none⟩ a0).setCell ⟨g, 1, none⟩ a1).setCell ⟨g, 2, none⟩ a2).setCell ⟨g, 3, none⟩ a3).setCell ⟨g, 4, none⟩ a4).setCell ⟨g, 5, none⟩ a5).setCell ⟨g, 6, none⟩ a6) g 38 #[a0, a1, a2, a3, a4, a5, a6, .slice none 0 0, .int .i64 0, .int .i64 0, .int .i64 0] := h5.set 6 a6
  have c6 := (c5).setCell (p := ⟨g, 6, none⟩) (.inl rfl) a6
  have h7 : At ((((((((W.setCell ⟨g, 0, none⟩ a0).setCell ⟨g, 1, none⟩ a1).setCell ⟨g, 2, none⟩ a2).setCell ⟨g, 3, none⟩ a3).setCell ⟨g, 4, none⟩ a4).setCell ⟨g, 5, none⟩ a5).setCell ⟨g, 6, none⟩ a6).setCell ⟨g, 7, none⟩ a7) g 38 #[a0, a1, a2, a3, a4, a5, a6, a7, .int .i64 0, .int .i64 0, .int .i64 0] := h6.set 7 a7
  have c7 := (c6).setCell (p := ⟨g, 7, none⟩) (.inl rfl) a7
  have h8 : At (((((((((W.setCell ⟨g, 0, none⟩ a0).setCell ⟨g, 1, none⟩ a1).setCell ⟨g, 2, none⟩ a2).setCell ⟨g, 3, none⟩ a3).setCell ⟨g, 4, none⟩ a4).setCell ⟨g, 5, none⟩ a5).setCell ⟨g, 6, none⟩ a6).setCell ⟨g, 7, none⟩ a7).setCell ⟨g, 8, none⟩ a8) g 38 #[a0, a1, a2, a3, a4, a5, a6, a7, a8, .int .i64 0, .int .i64 0] := h7.set 8 a8
  have c8 := (c7).setCell (p := ⟨g, 8, none⟩) (.inl rfl) a8
  have h9 : At ((((((((((W.setCell ⟨g, 0, none⟩ a0).setCell ⟨g, 1, none⟩ a1).setCell ⟨g, 2, none⟩ a2).setCell ⟨g, 3, none⟩ a3).setCell ⟨g, 4, none⟩ a4).setCell ⟨g, 5, none⟩ a5).setCell ⟨g, 6, none⟩ a6).setCell ⟨g, 7, none⟩ a7).setCell ⟨g, 8, none⟩ a8).setCell ⟨g, 9, none⟩ a9) g 38 #[a0, a1, a2, a3, a4, a5, a6, a7, a8, a9, .int .i64 0] := h8.set 9 a9
  have c9 := (c8).setCell (p := ⟨g, 9, none⟩) (.inl rfl) a9
  have h10 : At (((((((((((W.setCell ⟨g, 0, none⟩ a0).setCell ⟨g, 1, none⟩ a1).setCell ⟨g, 2, none⟩ a2).setCell ⟨g, 3, none⟩ a3).setCell ⟨g, 4, none⟩ a4).setCell ⟨g, 5, none⟩ a5).setCell ⟨g, 6, none⟩ a6).setCell ⟨g, 7, none⟩ a7).setCell ⟨g, 8, none⟩ a8).setCell ⟨g, 9, none⟩ a9).setCell ⟨g, 10, none⟩ a10) g 38 #[a0, a1, a2, a3, a4, a5, a6, a7, a8, a9, a10] := h9.set 10 a10
  have c10 := (c9).setCell (p := ⟨g, 10, none⟩) (.inl rfl) a10
  exact ⟨h10, c10⟩
set_option maxRecDepth 100000 in
set_option maxHeartbeats 2000000 in
theorem few_any (w : World) (x : Cmd) (dv : Value) (hx : x.In dv w) :
    Calls Tryz.prog 19 #[cmdVal x dv] w fun e w' => ∃ A cp, e = .returned (cmdVal (fewC x) (.slice A (fewC x).disks.length cp)) ∧ w'.ownsRow w.heap.size 3 1 (.slice A (fewC x).disks.length cp) (fewC x).disks.length ((fewC x).disks.map (Value.int .i64)) ∧ Ext w w' := by
  obtain ⟨hsl, dA, dc, rfl, hcap, hcm⟩ := hx.sl
  rw [List.length_map] at hsl hcap ⊢
  have hxs := hx.nm
  have hxl := hx.dl
  clear hx
  unfold maxLen at hxl hcm
  have e40 : (fewC x).name = cut x.name 40 := rfl
  have e7 : (fewC x).disks = x.disks.take 7 := rfl
  have E40 := Lib.hid e40
  have E7 := Lib.hid e7
  clear e40 e7
  have HR : Hid (∀ A cp w', w'.ownsRow w.heap.size 3 1 (.slice A (fewC x).disks.length cp) (fewC x).disks.length ((fewC x).disks.map (Value.int .i64)) → Ext w w' → ∃ A' cp', Ending.returned (.agg #[.int .i64 x.kind, .int .i64 x.client, .int .i64 x.seq, .string (cut x.name 40), .int .u64 (x.blob : Int), .int .i64 x.size, .int .u32 (x.sum : Int), .slice A (fewC x).disks.length cp, .int .i64 x.pool, .int .i64 x.vol, .int .i64 x.at_]) = .returned (cmdVal (fewC x) (.slice A' (fewC x).disks.length cp')) ∧ w'.ownsRow w.heap.size 3 1 (.slice A' (fewC x).disks.length cp') (fewC x).disks.length ((fewC x).disks.map (Value.int .i64)) ∧ Ext w w') := Lib.hid (fun A cp w' h1 h2 => ⟨A, cp, rfl, h1, h2⟩)
  rw [show cmdVal x (.slice dA x.disks.length dc) = .agg #[.int .i64 x.kind, .int .i64 x.client, .int .i64 x.seq, .string x.name, .int .u64 (x.blob : Int), .int .i64 x.size, .int .u32 (x.sum : Int), .slice dA x.disks.length dc, .int .i64 x.pool, .int .i64 x.vol, .int .i64 x.at_] from rfl]
  have hY0 := At.new w 38 #[.int .i64 x.kind, .int .i64 x.client, .int .i64 x.seq, .string x.name, .int .u64 (x.blob : Int), .int .i64 x.size, .int .u32 (x.sum : Int), .slice dA x.disks.length dc, .int .i64 x.pool, .int .i64 x.vol, .int .i64 x.at_]
  have hE0 := (Ext.refl w).alloc (.cells #[.int .i64 x.kind, .int .i64 x.client, .int .i64 x.seq, .string x.name, .int .u64 (x.blob : Int), .int .i64 x.size, .int .u32 (x.sum : Int), .slice dA x.disks.length dc, .int .i64 x.pool, .int .i64 x.vol, .int .i64 x.at_] 38)
  have hZ0 := At.new (w.alloc (.cells #[.int .i64 x.kind, .int .i64 x.client, .int .i64 x.seq, .string x.name, .int .u64 (x.blob : Int), .int .i64 x.size, .int .u32 (x.sum : Int), .slice dA x.disks.length dc, .int .i64 x.pool, .int .i64 x.vol, .int .i64 x.at_] 38)) 38 #[.int .i64 0, .int .i64 0, .int .i64 0, .string ⟨#[]⟩, .int .u64 0, .int .i64 0, .int .u32 0, .slice none 0 0, .int .i64 0, .int .i64 0, .int .i64 0]
  have hY1 := hY0.alloc (.cells #[.int .i64 0, .int .i64 0, .int .i64 0, .string ⟨#[]⟩, .int .u64 0, .int .i64 0, .int .u32 0, .slice none 0 0, .int .i64 0, .int .i64 0, .int .i64 0] 38)
  have hE1 := hE0.alloc (.cells #[.int .i64 0, .int .i64 0, .int .i64 0, .string ⟨#[]⟩, .int .u64 0, .int .i64 0, .int .u32 0, .slice none 0 0, .int .i64 0, .int .i64 0, .int .i64 0] 38)
  have hzs : ∀ o, (w.alloc o).heap.size = w.heap.size + 1 := fun o => by simp
  rw [hzs] at hZ0
  clear hzs
  go_enter Tryz.func19, Tryz.ntmps19
  go_upto_region 1 with fail
  clear hY0 hE0
  generalize hyb : w.heap.size = yb at *
  generalize World.alloc (World.alloc _ _) _ = W1 at *
  have q3 := hY1.cell 3
  have f3 := hY1.frozen 3
  have hy := hY1.lt
  simp at q3
  go_wp2_with fail
  refine (cut_any x.name 40 W1 hxs (by omega)).mono ?_
  rintro e w3 ⟨rfl, hw3⟩
  subst hw3
  go_upto_region 2 with fail
  have hY2 : At (w3.setCell ⟨yb, 3, none⟩ (.string (cut x.name 40))) yb 38 #[.int .i64 x.kind, .int .i64 x.client, .int .i64 x.seq, .string (cut x.name 40), .int .u64 (x.blob : Int), .int .i64 x.size, .int .u32 (x.sum : Int), .slice dA x.disks.length dc, .int .i64 x.pool, .int .i64 x.vol, .int .i64 x.at_] := hY1.set 3 _
  have hC2 := (Chg.refl (fun k => yb ≤ k) w3).setCell (p := ⟨yb, 3, none⟩) (.inl (Nat.le_refl _)) (.string (cut x.name 40))
  have hZ2 := hZ0.far (p := ⟨yb, 3, none⟩) (by simp) (.string (cut x.name 40))
  have hE2 : Ext w (w3.setCell ⟨yb, 3, none⟩ (.string (cut x.name 40))) := Chg.mono (hE1.chg_trans hC2) fun j hj h => by
    have h' : yb ≤ j := h
    omega
  clear q3 f3 hy hY1 hZ0 hE1 hC2
  generalize World.setCell _ _ _ = W2 at hY2 hZ2 hE2 ⊢
  obtain ⟨mm, hmm⟩ : ∃ m : Nat, m = min x.disks.length 7 := ⟨_, rfl⟩
  have hmi : min (x.disks.length : Int) 7 = (mm : Int) := by omega
  have hcap2 : mm ≤ dc := by omega
  have hnO := W2.ownsRow_made (e := 3) (size := 1) (base := w.heap.size) #[] 0 (by have := hE2.size; omega) (by unfold maxLen; omega) rfl
  have hsl2 := (hsl.ext hE2).ext ((Ext.refl W2).alloc (.cells #[] 3))
  have hpre := hsl2.sln.pre (k := mm) (c' := dc) (by omega)
  rw [← List.map_take, ← List.map_take] at hpre
  have htk : x.disks.take mm = (fewC x).disks := by
    rw [E7.out, hmm]
    by_cases h4 : x.disks.length ≤ 7
    · rw [Nat.min_eq_left h4, List.take_length, List.take_of_length_le h4]
    · rw [Nat.min_eq_right (by omega)]
  have hfn : (fewC x).disks.length = mm := by rw [← htk, List.length_take]; omega
  have hm7 : mm ≤ 7 := by omega
  rw [htk] at hpre
  have HFN := Lib.hid hfn
  clear htk hmm hfn
  have hY3 := hY2.alloc (.cells #[] 3)
  have hZ3 := hZ2.alloc (.cells #[] 3)
  have hE3 := hE2.alloc (.cells #[] 3)
  have q7 := hY3.cell 7
  have f7 := hY3.frozen 7
  have hy := hY3.lt
  simp at q7
  go_wp2_with (at_builtin; refine wpList_append_sln hnO hpre (one_len _) (ints_one _) 36 Tryz.underlying36 int_info rfl (by decide) (by decide) (by simp; have := HFN.out; omega) (by have := hE2.size; simp; omega) rfl _ _ rfl rfl rfl ?_)
  intro v1 w4 hN4 hC4
  have hN5 : w4.ownsRow yb 3 1 v1 (fewC x).disks.length ((fewC x).disks.map (Value.int .i64)) := by
    have e : (List.map ((fun x => [x]) ∘ Value.int .i64) (fewC x).disks).flatten = (fewC x).disks.map (Value.int .i64) := by
      rw [← List.map_map]; exact flat_ones _
    rw [← e]; simpa [hyb] using hN4
  obtain ⟨vA, vc, rfl⟩ := own_slc hN5
  have hE6 : Ext W2 w4 := Chg.mono (((Ext.refl W2).alloc (.cells #[] 3)).chg_trans hC4) fun j hj h => by
    have h' : some j = some W2.heap.size := h
    injection h' with h'; omega
  have hY6 := hY2.ext hE6
  have hZ6 := hZ2.ext hE6
  have hE7 := hE2.trans hE6
  have hA1 := own_apart' hN5 hY6 (by decide)
  have hA2 := own_apart' hN5 hZ6 (by decide)
  have HA := Lib.hid (And.intro hA1 hA2)
  clear hA1 hA2
  clear hN4 hC4 hnO hpre q7 f7 hy hY3 hZ3 hE3 hsl2 hsl hY2 hZ2
  have q7 := hY6.cell 7
  have f7 := hY6.frozen 7
  have hy := hY6.lt
  simp at q7
  go_upto_region 3 with fail
  clear q7
  have hY7 : At (w4.setCell ⟨yb, 7, none⟩ (.slice vA (fewC x).disks.length vc)) yb 38 #[.int .i64 x.kind, .int .i64 x.client, .int .i64 x.seq, .string (cut x.name 40), .int .u64 (x.blob : Int), .int .i64 x.size, .int .u32 (x.sum : Int), .slice vA (fewC x).disks.length vc, .int .i64 x.pool, .int .i64 x.vol, .int .i64 x.at_] := hY6.set 7 _
  have hCs := (Chg.refl (fun k => k = yb ∨ k = yb + 1) w4).setCell (p := ⟨yb, 7, none⟩) (.inl (.inl rfl)) (.slice vA (fewC x).disks.length vc)
  have hZ7 := hZ6.far (p := ⟨yb, 7, none⟩) (by simp) (.slice vA (fewC x).disks.length vc)
  clear f7 hy hY6
  generalize World.setCell _ _ _ = W8 at hY7 hZ7 hCs ⊢
  have q0 := hY7.cell 0
  have q1 := hY7.cell 1
  have q2 := hY7.cell 2
  have q3 := hY7.cell 3
  have q4 := hY7.cell 4
  have q5 := hY7.cell 5
  have q6 := hY7.cell 6
  have q7 := hY7.cell 7
  have q8 := hY7.cell 8
  have q9 := hY7.cell 9
  have q10 := hY7.cell 10
  simp at q0 q1 q2 q3 q4 q5 q6 q7 q8 q9 q10
  have r0 := hZ7.cell 0
  have r1 := hZ7.cell 1
  have r2 := hZ7.cell 2
  have r3 := hZ7.cell 3
  have r4 := hZ7.cell 4
  have r5 := hZ7.cell 5
  have r6 := hZ7.cell 6
  have r7 := hZ7.cell 7
  have r8 := hZ7.cell 8
  have r9 := hZ7.cell 9
  have r10 := hZ7.cell 10
  simp at r0 r1 r2 r3 r4 r5 r6 r7 r8 r9 r10
  have f0 := hZ7.frozen 0
  have f1 := hZ7.frozen 1
  have f2 := hZ7.frozen 2
  have f3 := hZ7.frozen 3
  have f4 := hZ7.frozen 4
  have f5 := hZ7.frozen 5
  have f6 := hZ7.frozen 6
  have f7 := hZ7.frozen 7
  have f8 := hZ7.frozen 8
  have f9 := hZ7.frozen 9
  have f10 := hZ7.frozen 10
  have hz := hZ7.lt
  go_wp2_with fail
  obtain ⟨hZ8, hCz⟩ := cmd_out hZ7 (.int .i64 x.kind) (.int .i64 x.client) (.int .i64 x.seq) (.string (cut x.name 40)) (.int .u64 (x.blob : Int)) (.int .i64 x.size) (.int .u32 (x.sum : Int)) (.slice vA (fewC x).disks.length vc) (.int .i64 x.pool) (.int .i64 x.vol) (.int .i64 x.at_)
  have hC9 : Chg (fun k => k = yb ∨ k = yb + 1) w4 _ := hCs.trans hCz (fun k _ e => .inr e)
  clear hCz
  generalize World.setCell _ _ _ = WZ at hZ8 hC9 ⊢
  have g0 := hZ8.cell 0
  have g1 := hZ8.cell 1
  have g2 := hZ8.cell 2
  have g3 := hZ8.cell 3
  have g4 := hZ8.cell 4
  have g5 := hZ8.cell 5
  have g6 := hZ8.cell 6
  have g7 := hZ8.cell 7
  have g8 := hZ8.cell 8
  have g9 := hZ8.cell 9
  have g10 := hZ8.cell 10
  simp at g0 g1 g2 g3 g4 g5 g6 g7 g8 g9 g10
  have hE9 : Ext w WZ := Chg.mono (hE7.chg_trans hC9) fun j hj h => by
    have h' : j = yb ∨ j = yb + 1 := h
    omega
  have hN9 := own_keep hN5 hC9 (fun k hk h => by
    rcases h with h | h
    · exact HA.out.1 k hk h
    · exact HA.out.2 k hk h)
  have HF := HR.out vA vc WZ hN9 hE9
  refine bodyPost_ret (v := .agg #[.int .i64 x.kind, .int .i64 x.client, .int .i64 x.seq, .string (cut x.name 40), .int .u64 (x.blob : Int), .int .i64 x.size, .int .u32 (x.sum : Int), .slice vA (fewC x).disks.length vc, .int .i64 x.pool, .int .i64 x.vol, .int .i64 x.at_]) (by simp [results, Tryz.results19, go_sem, g0, g1, g2, g3, g4, g5, g6, g7, g8, g9, g10]) rfl ?_
  rw [hyb]
  exact HF
end Go.Proofs.YtchnejfdompfpaaGreat
namespace Go.Proofs.YtchnejfdompfpaaGreat
open Go.RowKit Go.Sort

theorem Cmd.In.ext {x : Cmd} {dv : Value} {w w' : World} (h : x.In dv w) (he : Ext w w') : x.In dv w' := by
  obtain ⟨h1, ⟨h2, h3⟩, h4, h5⟩ := h
  exact ⟨h1, ⟨h2.ext he, h3⟩, h4, h5⟩
theorem cmds_some {w : World} {A : Option Addr} {n c k : Nat} {l : List (List Value)} (h : Sln w (.slice A n c) k l) (hl : l ≠ []) : ∃ b o, A = some ⟨b, o, none⟩ := by
  obtain ⟨A', c', hv, hx⟩ := h
  simp only [Value.slice.injEq] at hv
  obtain ⟨b, o, rfl, _⟩ := hx hl
  exact ⟨b, o, hv.1⟩
theorem sln_get {w : World} {b o n c size : Nat} {xs : List (List Value)} (h : Sln w (.slice (some ⟨b, o, none⟩) n c) size xs) {i : Nat} {row : List Value} (hi : xs[i]? = some row) : ∀ j u, row[j]? = some u → w.cell? ⟨b, o + i * size + j, none⟩ = some u := by
  obtain ⟨A, c', hv, hx⟩ := h
  have hne : xs ≠ [] := fun e => by subst e; simp at hi
  obtain ⟨b', o', rfl, hc⟩ := hx hne
  simp only [Value.slice.injEq, Option.some.injEq, Addr.mk.injEq, and_true] at hv
  obtain ⟨⟨rfl, rfl⟩, _, _⟩ := hv
  exact hc i _ hi
theorem crow_cells {w : World} {b o n c : Nat} {l : List CRow} (h : Sln w (.slice (some ⟨b, o, none⟩) n c) 11 (l.map crow)) {i : Nat} {x : Cmd} {dv : Value} (hi : l[i]? = some (x, dv)) :
    w.cell? ⟨b, o + i * 11, none⟩ = some (.int .i64 x.kind) ∧ w.cell? ⟨b, o + i * 11 + 1, none⟩ = some (.int .i64 x.client) ∧ w.cell? ⟨b, o + i * 11 + 2, none⟩ = some (.int .i64 x.seq) ∧ w.cell? ⟨b, o + i * 11 + 3, none⟩ = some (.string x.name) ∧ w.cell? ⟨b, o + i * 11 + 4, none⟩ = some (.int .u64 (x.blob : Int)) ∧ w.cell? ⟨b, o + i * 11 + 5, none⟩ = some (.int .i64 x.size) ∧ w.cell? ⟨b, o + i * 11 + 6, none⟩ = some (.int .u32 (x.sum : Int)) ∧ w.cell? ⟨b, o + i * 11 + 7, none⟩ = some (dv) ∧ w.cell? ⟨b, o + i * 11 + 8, none⟩ = some (.int .i64 x.pool) ∧ w.cell? ⟨b, o + i * 11 + 9, none⟩ = some (.int .i64 x.vol) ∧ w.cell? ⟨b, o + i * 11 + 10, none⟩ = some (.int .i64 x.at_) := by
  have hg : (l.map crow)[i]? = some (x.cells dv) := by rw [List.getElem?_map, hi]; rfl
  have hc := sln_get h hg
  exact ⟨hc 0 _ rfl, hc 1 _ rfl, hc 2 _ rfl, hc 3 _ rfl, hc 4 _ rfl, hc 5 _ rfl, hc 6 _ rfl, hc 7 _ rfl, hc 8 _ rfl, hc 9 _ rfl, hc 10 _ rfl⟩
end Go.Proofs.YtchnejfdompfpaaGreat
