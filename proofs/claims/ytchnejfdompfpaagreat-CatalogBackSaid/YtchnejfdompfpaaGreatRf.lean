/-
  The document's catalog (glacierref13): where it lies; Find, Named.
-/
import Derived.Test.YtchnejfdompfpaaGreatCatLvC
import Derived.Test.YtchnejfdompfpaaGreatCatEnc
import Derived.Deep.MidRow
namespace Go.Proofs.YtchnejfdompfpaaGreat
open Go.RowKit Go.Sort

/-- the rows of a document's catalog -/
structure RfRows (w : World) (lv : Value) (DV : List (Bl × Value)) : Prop where
  own : w.ownsRow 0 80 13 lv DV.length ((DV.map blRow).flatten)
  dks : ∀ p ∈ DV, w.ownsRow 0 3 1 p.2 p.1.disks.length (p.1.disks.map (Value.int .i64))
def rfArr (lv : Value) (V : List Vl) : Array Value := (lv :: (V.map vlRow).flatten).toArray
/-- the value v is the catalog P, as the document's -/
def RfIn (w : World) (v : Value) (P : Pm) : Prop := ∃ lv DV, v = .agg (rfArr lv P.vols) ∧ DV.map (·.1) = P.L ∧ RfRows w lv DV
section
variable {w w' : World} {lv v : Value} {DV : List (Bl × Value)} {P : Pm}
theorem RfRows.ext (h : RfRows w lv DV) (hE : Ext w w') : RfRows w' lv DV := ⟨own_keep h.own hE (fun _ _ hh => hh), fun p hp => own_keep (h.dks p hp) hE (fun _ _ hh => hh)⟩
theorem RfRows.kp {B : Nat} (h : RfRows w lv DV) (hE : Kp B w w') : RfRows w' lv DV := ⟨hE.own h.own (by decide) (by decide), fun p hp => hE.own (h.dks p hp) (by decide) (by decide)⟩
theorem RfIn.ext (h : RfIn w v P) (hE : Ext w w') : RfIn w' v P := by
  obtain ⟨lv, DV, h1, h2, h3⟩ := h
  exact ⟨lv, DV, h1, h2, h3.ext hE⟩
theorem RfIn.kp {B : Nat} (h : RfIn w v P) (hE : Kp B w w') : RfIn w' v P := by
  obtain ⟨lv, DV, h1, h2, h3⟩ := h
  exact ⟨lv, DV, h1, h2, h3.kp hE⟩
theorem RfRows.sln (h : RfRows w lv DV) : Sln w lv 13 (DV.map blRow) := Sln.of_own h.own (fun r hr => by obtain ⟨p, _, rfl⟩ := List.mem_map.1 hr; rfl) (by simp)
end
/-- the place of a blob -/
def rfFind (id : Nat) : List Bl → Nat → Int
  | [], _ => -1
  | b :: r, k => if b.id = id then (k : Int) else rfFind id r (k + 1)
def rfName (n : ByteArray) : List Bl → Nat → Int
  | [], _ => -1
  | b :: r, k => if liveB n b = true then (k : Int) else rfName n r (k + 1)
theorem rfFind_cons (id : Nat) (b : Bl) (r : List Bl) (k : Nat) : rfFind id (b :: r) k = if b.id = id then (k : Int) else rfFind id r (k + 1) := rfl
theorem rfName_cons (n : ByteArray) (b : Bl) (r : List Bl) (k : Nat) : rfName n (b :: r) k = if liveB n b = true then (k : Int) else rfName n r (k + 1) := rfl
theorem rfFind_nil (id k : Nat) : rfFind id [] k = -1 := rfl
theorem rfName_nil (n : ByteArray) (k : Nat) : rfName n [] k = -1 := rfl
theorem drop_some {α : Type} {l : List α} {k : Nat} {x : α} (h : l[k]? = some x) : l.drop k = x :: l.drop (k + 1) := by
  obtain ⟨h1, h2⟩ := List.getElem?_eq_some_iff.1 h
  rw [List.drop_eq_getElem_cons h1, h2]
set_option maxRecDepth 100000 in
set_option maxHeartbeats 4000000 in
theorem rfind_any (w : World) (v : Value) (P : Pm) (h : RfIn w v P) (id : Nat) (hl : P.L.length ≤ 1000000) :
    Calls Tryz.prog 11 #[v, .int .u64 (id : Int)] w fun e w' => e = .returned (.int .i64 (rfFind id P.L 0)) ∧ Ext w w' := by
  obtain ⟨lv, DV, rfl, hDV, hR⟩ := h
  have hlen : DV.length = P.L.length := by rw [← hDV, List.length_map]
  obtain ⟨A, c, rfl⟩ := own_slc hR.own
  have HX : Hid (rfArr (.slice A DV.length c) P.vols = (.slice A DV.length c :: (P.vols.map vlRow).flatten).toArray) := Lib.hid rfl
  generalize hX : rfArr (.slice A DV.length c) P.vols = X at HX ⊢
  clear hX
  have hX0 : X[0]? = some (.slice A DV.length c) := by rw [HX.out]; rfl
  have hl2 : DV.length ≤ 1000000 := by omega
  have HDV := Lib.hid hDV
  have HDD := Lib.hid hR.dks
  clear hDV hl hlen
  go_enter Tryz.func11, Tryz.ntmps11
  have hB := At.new w 31 X
  have hE := (Ext.refl w).alloc (.cells X 31)
  go_upto_region 1 with fail
  generalize w.heap.size = xb at hB ⊢
  generalize w.alloc (.cells X 31) = W at hB hE ⊢
  have c0 := hB.cell 0
  rw [hX0] at c0
  have hS := hR.sln.ext hE
  clear hB hR hX0
  go_wp2_with fail
  clear c0
  go_loopw [10] (fun kv wr => ∃ k : Nat, kv = .int .i64 (k : Int) ∧ k ≤ DV.length ∧ rfFind id P.L 0 = rfFind id (P.L.drop k) k ∧ Sln wr (.slice A DV.length c) 13 (DV.map blRow) ∧ Ext w wr) (fun kv _ => DV.length - (intOf kv).toNat)
  case atStart => exact ⟨0, rfl, Nat.zero_le _, rfl, hS, hE⟩
  case round =>
    clear hS hE
    obtain ⟨k, rfl, hk, hpl, hS, hE⟩ := hrel
    by_cases hlt : k < DV.length
    · obtain ⟨⟨b, dv⟩, hb⟩ : ∃ q, DV[k]? = some q := ⟨_, List.getElem?_eq_getElem hlt⟩
      have hbL : P.L[k]? = some b := by rw [← HDV.out, List.getElem?_map, hb]; rfl
      rw [drop_some hbL] at hpl
      rw [rfFind_cons] at hpl
      have HPL := Lib.hid hpl
      obtain ⟨dA, dc, rfl⟩ : ∃ A c, dv = .slice A b.disks.length c := own_slc (HDD.out _ (List.mem_of_getElem? hb))
      obtain ⟨rb, ro, rfl⟩ := cmds_some hS (fun e => by
        have h0 := List.map_eq_nil_iff.1 e
        rw [h0] at hb; simp at hb)
      obtain ⟨r0, r1, r2, r3, r4, r5, r6, r7, r8, r9, r10, r11, r12⟩ := bl_cells hS hb
      have hYb := At.new wr 80 (blCells b (.slice dA b.disks.length dc))
      have hEb := (Ext.refl wr).alloc (.cells (blCells b (.slice dA b.disks.length dc)) 80)
      clear hpl hbL hb
      go_upto_region 4 with fail
      clear r0 r1 r2 r3 r4 r5 r6 r7 r8 r9 r10 r11 r12
      generalize wr.heap.size = yb at hYb ⊢
      generalize wr.alloc (.cells (blCells b (.slice dA b.disks.length dc)) 80) = W1 at hYb hEb ⊢
      have d0 := hYb.cell 0
      simp at d0
      have hS1 := hS.ext hEb
      have hE1 := hE.trans hEb
      clear hYb hS hE hEb
      by_cases hx : b.id = id
      · rw [if_pos hx] at HPL
        skip
        go_wp2_with fail
        go_ret
        exact ⟨by rw [HPL.out]; rfl, hE1⟩
      · rw [if_neg hx] at HPL
        skip
        go_wp2_with fail
        go_roundw
        case rel => exact ⟨k + 1, by go_num, by omega, HPL.out, hS1, hE1⟩
        case measure => simp [intOf]; omega
    · obtain rfl : k = DV.length := by omega
      have hd : P.L.drop DV.length = [] := by rw [← HDV.out]; simp
      rw [hd] at hpl
      rw [rfFind_nil] at hpl
      clear hS
      go_wp2_with fail
      go_ret
      exact ⟨by rw [hpl]; rfl, hE⟩
set_option maxRecDepth 100000 in
set_option maxHeartbeats 4000000 in
theorem rnamed_any (w : World) (v : Value) (P : Pm) (h : RfIn w v P) (m : ByteArray) (hl : P.L.length ≤ 1000000) :
    Calls Tryz.prog 24 #[v, .string m] w fun e w' => e = .returned (.int .i64 (rfName m P.L 0)) ∧ Ext w w' := by
  obtain ⟨lv, DV, rfl, hDV, hR⟩ := h
  have hlen : DV.length = P.L.length := by rw [← hDV, List.length_map]
  obtain ⟨A, c, rfl⟩ := own_slc hR.own
  have HX : Hid (rfArr (.slice A DV.length c) P.vols = (.slice A DV.length c :: (P.vols.map vlRow).flatten).toArray) := Lib.hid rfl
  generalize hX : rfArr (.slice A DV.length c) P.vols = X at HX ⊢
  clear hX
  have hX0 : X[0]? = some (.slice A DV.length c) := by rw [HX.out]; rfl
  have hl2 : DV.length ≤ 1000000 := by omega
  have HDV := Lib.hid hDV
  have HDD := Lib.hid hR.dks
  clear hDV hl hlen
  go_enter Tryz.func24, Tryz.ntmps24
  have hB := At.new w 31 X
  have hE := (Ext.refl w).alloc (.cells X 31)
  go_upto_region 1 with fail
  generalize w.heap.size = xb at hB ⊢
  generalize w.alloc (.cells X 31) = W at hB hE ⊢
  have c0 := hB.cell 0
  rw [hX0] at c0
  have hS := hR.sln.ext hE
  clear hB hR hX0
  go_wp2_with fail
  clear c0
  go_loopw [10] (fun kv wr => ∃ k : Nat, kv = .int .i64 (k : Int) ∧ k ≤ DV.length ∧ rfName m P.L 0 = rfName m (P.L.drop k) k ∧ Sln wr (.slice A DV.length c) 13 (DV.map blRow) ∧ Ext w wr) (fun kv _ => DV.length - (intOf kv).toNat)
  case atStart => exact ⟨0, rfl, Nat.zero_le _, rfl, hS, hE⟩
  case round =>
    clear hS hE
    obtain ⟨k, rfl, hk, hpl, hS, hE⟩ := hrel
    by_cases hlt : k < DV.length
    · obtain ⟨⟨b, dv⟩, hb⟩ : ∃ q, DV[k]? = some q := ⟨_, List.getElem?_eq_getElem hlt⟩
      have hbL : P.L[k]? = some b := by rw [← HDV.out, List.getElem?_map, hb]; rfl
      rw [drop_some hbL] at hpl
      rw [rfName_cons] at hpl
      have HPL := Lib.hid hpl
      obtain ⟨dA, dc, rfl⟩ : ∃ A c, dv = .slice A b.disks.length c := own_slc (HDD.out _ (List.mem_of_getElem? hb))
      obtain ⟨rb, ro, rfl⟩ := cmds_some hS (fun e => by
        have h0 := List.map_eq_nil_iff.1 e
        rw [h0] at hb; simp at hb)
      obtain ⟨r0, r1, r2, r3, r4, r5, r6, r7, r8, r9, r10, r11, r12⟩ := bl_cells hS hb
      have hYb := At.new wr 80 (blCells b (.slice dA b.disks.length dc))
      have hEb := (Ext.refl wr).alloc (.cells (blCells b (.slice dA b.disks.length dc)) 80)
      clear hpl hbL hb
      go_upto_region 4 with fail
      clear r0 r1 r2 r3 r4 r5 r6 r7 r8 r9 r10 r11 r12
      generalize wr.heap.size = yb at hYb ⊢
      generalize wr.alloc (.cells (blCells b (.slice dA b.disks.length dc)) 80) = W1 at hYb hEb ⊢
      have d1 := hYb.cell 1
      have d12 := hYb.cell 12
      simp at d1 d12
      have hS1 := hS.ext hEb
      have hE1 := hE.trans hEb
      clear hYb hS hE hEb
      by_cases hx : liveB m b = true
      · rw [if_pos hx] at HPL
        obtain ⟨hx1, hx2⟩ := liveB_iff.1 hx
        rw [hx1] at d12
        rw [hx2] at d1
        clear hx hx1 hx2
        go_wp2_with fail
        go_ret
        exact ⟨by rw [HPL.out]; rfl, hE1⟩
      · rw [if_neg hx] at HPL
        rcases Bool.eq_false_or_eq_true b.dead with hd | hd
        · rw [hd] at d12
          clear hx hd
          go_wp2_with fail
          go_roundw
          case rel => exact ⟨k + 1, by go_num, by omega, HPL.out, hS1, hE1⟩
          case measure => simp [intOf]; omega
        · rw [hd] at d12
          have hne : (b.name.toList == m.toList) = false := by
            rw [beq_eq_false_iff_ne]
            exact fun e => hx (liveB_iff.2 ⟨hd, toList_inj.1 e⟩)
          clear hx hd
          go_wp2_with fail
          go_roundw
          case rel => exact ⟨k + 1, by go_num, by omega, HPL.out, hS1, hE1⟩
          case measure => simp [intOf]; omega
    · obtain rfl : k = DV.length := by omega
      have hd : P.L.drop DV.length = [] := by rw [← HDV.out]; simp
      rw [hd] at hpl
      rw [rfName_nil] at hpl
      clear hS
      go_wp2_with fail
      go_ret
      exact ⟨by rw [hpl]; rfl, hE⟩
end Go.Proofs.YtchnejfdompfpaaGreat
