/-
  slices.Clone of integers.
  Layer 13: put.
  Layer 13: forget, and Unpin.
  Layer 13: own, Blob.
-/
import Derived.Test.YtimjipcplmnpbaaGreatLay
import Derived.Test.YtimjipcplmnpbaaGreatSlices
import Derived.Test.YtimjipcplmnpbaaGreatCat
import Derived.Test.YtimjipcplmnpbaaGreatRegion
namespace Go.Proofs.YtimjipcplmnpbaaGreat
open Go.RowKit Go.Sort

theorem clone_any (w : World) (v : Value) (hl : List Int) (hH : Sl w v (hl.map (Value.int .i64))) (hb : hl.length ≤ 17592186043904) :
    Calls Tryz.prog 100 #[v] w fun e w' => ∃ v', e = .returned v' ∧ w'.ownsRow w.heap.size 3 1 v' hl.length (hl.map (Value.int .i64)) ∧ Ext w w' := by
  obtain ⟨A, c, rfl, hx⟩ := hH
  rw [List.length_map]
  by_cases hne : hl = []
  · subst hne
    cases A with
    | none =>
      refine (Tryz.slices_Clone_int_nil _ _ _).mono ?_
      rintro e w' ⟨rfl, rfl⟩
      exact ⟨_, rfl, ⟨rfl, .inl ⟨rfl, rfl⟩⟩, Ext.refl _⟩
    | some a =>
      refine (Tryz.slices_Clone_int_zero a c w).mono ?_
      rintro e w' ⟨v', rfl, h1, _, h2⟩
      exact ⟨_, rfl, h1, Ext.of_below h2⟩
  · obtain ⟨b, o, rfl, hc⟩ := hx (by simpa using hne)
    refine (Tryz.slices_Clone_int b o hl.length c hl w (Nat.le_refl _) (by omega) (fun j hj => ?_)).mono ?_
    · exact hc j _ (by rw [List.getElem?_map, List.getElem?_eq_getElem hj, List.getD_eq_getElem?_getD, List.getElem?_eq_getElem hj]; rfl)
    · rintro e w' ⟨v', rfl, h1, _, h2⟩
      rw [List.take_length] at h1
      exact ⟨_, rfl, h1, Ext.of_below h2⟩
end Go.Proofs.YtimjipcplmnpbaaGreat
namespace Go.Proofs.YtimjipcplmnpbaaGreat
open Go.RowKit

def newBl (x : Cmd) : Bl := ⟨x.blob, x.name, x.size, x.sum, x.disks, Cp.none, Cp.none, 0, false⟩
theorem own_slc {w : World} {base : Nat} {e : TypeId} {size : Nat} {v : Value} {n : Nat} {xs : List Value} (h : w.ownsRow base e size v n xs) : ∃ A c, v = .slice A n c := by
  rcases h.2 with ⟨rfl, rfl⟩ | ⟨g, cap, cur, rfl, _⟩
  · exact ⟨none, 0, rfl⟩
  · exact ⟨_, _, rfl⟩
theorem own_base0 {w : World} {base : Nat} {e : TypeId} {size : Nat} {v : Value} {n : Nat} {xs : List Value} (h : w.ownsRow base e size v n xs) : w.ownsRow 0 e size v n xs := by
  refine ⟨h.1, ?_⟩
  rcases h.2 with h2 | ⟨g, cap, cur, h2, _, h4⟩
  · exact .inl h2
  · exact .inr ⟨g, cap, cur, h2, Nat.zero_le _, h4⟩
/-- what the making of a blob leaves -/
def GPut (W : World) (B : Nat → Prop) (c mb mn : Nat) (C : Ct) (x : Cmd) (γ : Nat → Value) (L : Nat → Bool) (w : World) : Prop :=
  if L 19 = true then ∃ g, CtAt w B c mb mn (C.add (newBl x) g (γ 0)) ∧ (∀ xb cs, At W xb 32 cs → At w xb 32 cs) ∧ Chg (· = mb) W w
  else if L 18 = true then ∃ g, γ 2 = ptrV g ∧ W.heap.size ≤ g ∧ At w g 108 (blCells (newBl x) (γ 0)) ∧ w.ownsRow 0 3 1 (γ 0) x.disks.length (x.disks.map (Value.int .i64)) ∧ Ext W w
  else if L 17 = true then γ 1 = .agg (blCells (newBl x) (γ 0)) ∧ w.ownsRow 0 3 1 (γ 0) x.disks.length (x.disks.map (Value.int .i64)) ∧ Ext W w
  else if L 16 = true then w.ownsRow 0 3 1 (γ 0) x.disks.length (x.disks.map (Value.int .i64)) ∧ Ext W w
  else Ext W w
theorem GPut.keep {W : World} {B : Nat → Prop} {c mb mn : Nat} {C : Ct} {x : Cmd} {j : Nat} (h1 : 16 ≠ j) (h2 : 17 ≠ j) (h3 : 18 ≠ j) (h4 : 19 ≠ j) : ∀ γ L w, GPut W B c mb mn C x γ L w → L j = false → GPut W B c mb mn C x γ (fun i => i == j || L i) w := by
  intro γ L w h _
  unfold GPut at *
  have e1 : ((16 : Nat) == j) = false := by simp [h1]
  have e2 : ((17 : Nat) == j) = false := by simp [h2]
  have e3 : ((18 : Nat) == j) = false := by simp [h3]
  have e4 : ((19 : Nat) == j) = false := by simp [h4]
  simpa [e1, e2, e3, e4] using h
theorem GPut.ext {W : World} {B : Nat → Prop} {c mb mn : Nat} {C : Ct} {x : Cmd} {γ : Nat → Value} {L : Nat → Bool} {w : World} (h : GPut W B c mb mn C x γ L w) (h19 : L 19 = false) : Ext W w := by
  unfold GPut at h
  rw [if_neg (by rw [h19]; simp)] at h
  split at h
  · obtain ⟨_, _, _, _, _, h⟩ := h; exact h
  · split at h
    · exact h.2.2
    · split at h
      · exact h.2
      · exact h
theorem GPut.cell0 {W : World} {B : Nat → Prop} {c mb mn : Nat} {C : Ct} {x : Cmd} {γ : Nat → Value} {L : Nat → Bool} {w : World} (h : GPut W B c mb mn C x γ L w) (hC : CtAt W B c mb mn C) (h19 : L 19 = false) : w.cell? ⟨c, 0, none⟩ = some (.map (some mb)) := (hC.ext (h.ext h19)).c0.1

section put
variable (w : World) (B : Nat → Prop) (c mb mn : Nat) (C : Ct) (h : CtAt w B c mb mn C) (x : Cmd) (dv : Value) (hS : w.ownsRow 0 3 1 dv x.disks.length (x.disks.map (Value.int .i64)))
include h hS
omit h in
set_option maxRecDepth 100000 in
set_option maxHeartbeats 2000000 in
/-- what can't be put -/
theorem put_arg (hb : x.name = ByteArray.empty ∨ x.blob = 0 ∨ x.disks = []) :
    Calls Tryz.prog 63 #[.pointer (some ⟨c, 0, none⟩), cmdVal x dv] w fun e w' => e = .returned (.int .i64 1) ∧ Ext w w' := by
  obtain ⟨dA, dc, rfl⟩ := own_slc hS
  unfold cmdVal
  go_enter Tryz.func63, Tryz.ntmps63
  have hX := At.new w 32 (cmdCells x (.slice dA x.disks.length dc))
  have hE := (Ext.refl w).alloc (.cells (cmdCells x (.slice dA x.disks.length dc)) 32)
  go_upto_region 1 with fail
  generalize hxb : w.heap.size = xb at *
  generalize World.alloc _ _ = W at *
  have x3 := hX.cell 3
  have x4 := hX.cell 4
  have x7 := hX.cell 7
  simp at x3 x4 x7
  have hd : x.name.toList.isEmpty = true ∨ x.name.toList.isEmpty = false ∧ ((((x.blob : Int) == 0) = true) ∨ (((x.blob : Int) == 0) = false) ∧ (((x.disks.length : Int) == 0) = true)) := by
    by_cases h1 : x.name = ByteArray.empty
    · left; rw [h1, Lib.toList_data]; rfl
    · have e1 : x.name.toList.isEmpty = false := by
        cases he : x.name.toList.isEmpty
        · rfl
        · exact absurd (toList_inj.1 (by rw [List.isEmpty_iff.1 he, Lib.toList_data]; rfl)) h1
      by_cases h2 : x.blob = 0
      · right; exact ⟨e1, .inl (by rw [h2]; rfl)⟩
      · right
        refine ⟨e1, .inr ⟨by rw [beq_eq_false_iff_ne]; omega, ?_⟩⟩
        rcases hb with hb | hb | hb
        · exact absurd hb h1
        · exact absurd hb h2
        · rw [hb]; rfl
  clear hb hS
  rcases hd with hd | ⟨hd, hd2 | ⟨hd2, hd3⟩⟩
  all_goals
    go_wp2_with fail
    go_ret
    exact ⟨rfl, hE⟩
set_option maxRecDepth 100000 in
set_option maxHeartbeats 2000000 in
theorem put_there (hn : x.name ≠ ByteArray.empty) (hb : x.blob ≠ 0) (hd : x.disks ≠ []) {r : BR} (hf : C.find x.blob = some r) :
    Calls Tryz.prog 63 #[.pointer (some ⟨c, 0, none⟩), cmdVal x dv] w fun e w' => e = .returned (.int .i64 6) ∧ Ext w w' := by
  obtain ⟨dA, dc, rfl⟩ := own_slc hS
  unfold cmdVal
  go_enter Tryz.func63, Tryz.ntmps63
  have hX := At.new w 32 (cmdCells x (.slice dA x.disks.length dc))
  have hE := (Ext.refl w).alloc (.cells (cmdCells x (.slice dA x.disks.length dc)) 32)
  go_upto_region 1 with fail
  generalize hxb : w.heap.size = xb at *
  generalize World.alloc _ _ = W at *
  have hC := h.ext hE
  have x3 := hX.cell 3
  have x4 := hX.cell 4
  have x7 := hX.cell 7
  simp at x3 x4 x7
  have t1 : x.name.toList.isEmpty = false := by
    cases he : x.name.toList.isEmpty
    · rfl
    · exact absurd (toList_inj.1 (by rw [List.isEmpty_iff.1 he, Lib.toList_data]; rfl)) hn
  have t2 : ((x.blob : Int) == 0) = false := by rw [beq_eq_false_iff_ne]; omega
  have t3 : ((x.disks.length : Int) == 0) = false := by
    have := List.length_pos_iff.2 hd
    rw [beq_eq_false_iff_ne]; omega
  clear hn hb hd h hS
  go_upto_region 3 with fail
  clear x3 x4 x7 t1 t2 t3
  obtain ⟨c0, c1⟩ := hC.c0
  have hlk := (hC.ext ((Ext.refl W).drew)).look x.blob
  rw [hf] at hlk
  simp only [ptrO] at hlk
  have x4 := hX.cell 4
  simp at x4
  go_region
  go_wp2_with fail
  go_ret
  exact ⟨rfl, hE.drew⟩
/-- behind a Put the blob that had the name is dead -/
def deadCt (C : Ct) (r : Option BR) : Ct := match r with
  | some r => C.upd r.g { r.b with dead := true } r.dv
  | none => C
set_option maxRecDepth 100000 in
set_option maxHeartbeats 4000000 in
theorem put_ok (hn : x.name ≠ ByteArray.empty) (hb : x.blob ≠ 0) (hd : x.disks ≠ []) (hf : C.find x.blob = none) (r : Option BR) (hr : ∀ id, lget x.name C.names = some id → C.find id = r ∧ r ≠ none) (hr0 : lget x.name C.names = none → r = none) (hdl : x.disks.length ≤ 17592186043904) :
    Calls Tryz.prog 63 #[.pointer (some ⟨c, 0, none⟩), cmdVal x dv] w fun e w' => ∃ g dv', e = .returned (.int .i64 0) ∧ CtAt w' B c mb mn (((deadCt C r).add (newBl x) g dv').setNames ((x.name, x.blob) :: ldel x.name C.names)) ∧ Chg (C.S c mb mn) w w' := by
  obtain ⟨dA, dc, rfl⟩ := own_slc hS
  unfold cmdVal
  go_enter Tryz.func63, Tryz.ntmps63
  have hX := At.new w 32 (cmdCells x (.slice dA x.disks.length dc))
  have hE := (Ext.refl w).alloc (.cells (cmdCells x (.slice dA x.disks.length dc)) 32)
  go_upto_region 1 with fail
  generalize hxb : w.heap.size = xb at *
  generalize World.alloc _ _ = W at *
  have hBw : B xb := h.up xb (by omega)
  have hC := h.ext hE
  have hS1 := own_keep hS hE (fun _ _ hh => hh)
  have x3 := hX.cell 3
  have x4 := hX.cell 4
  have x7 := hX.cell 7
  simp at x3 x4 x7
  have t1 : x.name.toList.isEmpty = false := by
    cases he : x.name.toList.isEmpty
    · rfl
    · exact absurd (toList_inj.1 (by rw [List.isEmpty_iff.1 he, Lib.toList_data]; rfl)) hn
  have t2 : ((x.blob : Int) == 0) = false := by rw [beq_eq_false_iff_ne]; omega
  have t3 : ((x.disks.length : Int) == 0) = false := by
    have := List.length_pos_iff.2 hd
    rw [beq_eq_false_iff_ne]; omega
  clear hn hb hd h hS
  go_upto_region 3 with fail
  clear x3 x4 x7 t1 t2 t3
  obtain ⟨c0, c1⟩ := hC.c0
  have hlk := (hC.ext ((Ext.refl W).drew)).look x.blob
  rw [hf] at hlk
  simp only [ptrO] at hlk
  have x4 := hX.cell 4
  simp at x4
  go_region
  clear hlk c0 c1 x4
  have hX1 := hX.drew
  have hC1 := hC.ext ((Ext.refl W).drew)
  have hE1 := hE.drew
  have hS2 := own_keep hS1 ((Ext.refl W).drew) (fun _ _ hh => hh)
  clear hX hC hE hS1
  generalize World.drew _ = W1 at *
  go_upto_region 5 with fail
  obtain ⟨c0, c1⟩ := hC1.c0
  have hlk := (hC1.ext ((Ext.refl W1).drew)).lookName x.name
  have x3 := hX1.cell 3
  simp at x3
  go_region
  clear hlk c0 c1 x3
  have hX2 := hX1.drew
  have hC2 := hC1.ext ((Ext.refl W1).drew)
  have hE2 := hE1.drew
  have hS3 := own_keep hS2 ((Ext.refl W1).drew) (fun _ _ hh => hh)
  clear hX1 hC1 hE1 hS2
  generalize World.drew _ = W2 at *
  generalize hon : lget x.name C.names = on at *
  have HON := Lib.hid hon
  clear hon
  go_upto_if 39 with fail
  have hwl : w.heap.size ≤ xb := by omega
  go_cut [5, 6] from 29 to 47 (fun _ _ wx => CtAt wx B c mb mn (deadCt C r) ∧ At wx xb 32 (cmdCells x (.slice dA x.disks.length dc)) ∧ wx.ownsRow 0 3 1 (.slice dA x.disks.length dc) x.disks.length (x.disks.map (Value.int .i64)) ∧ Chg (C.S c mb mn) w wx)
  case first =>
    have hEB : Chg (C.S c mb mn) w W2 := Chg.mono hE2 (fun _ _ hh => hh.elim)
    cases on with
    | none =>
      obtain rfl : r = none := hr0 rfl
      go_wp2_with fail
      go_meet
      case rel => exact ⟨hC2, hX2, hS3, hEB⟩
    | some id =>
      obtain ⟨h1, h2⟩ := hr id rfl
      obtain ⟨r0, rfl⟩ := Option.ne_none_iff_exists'.1 h2
      obtain ⟨c0, c1⟩ := hC2.c0
      have hlk := hC2.look id
      rw [h1] at hlk
      simp only [ptrO] at hlk
      have hrm := (find_mem h1).1
      have hB := (hC2.bl r0 hrm).1
      have hO := (hC2.bl r0 hrm).2
      have hgB := hC2.lo.2.2.2 r0 hrm
      have b12 := hB.cell 12
      have f12 := hB.frozen 12
      have hbl := hB.lt
      simp at b12
      have hCs := (Chg.refl (· = r0.g) W2).setCell (p := ⟨r0.g, 12, none⟩) (.inl rfl) (.bool true)
      have hB2 : At (W2.setCell ⟨r0.g, 12, none⟩ (.bool true)) r0.g 108 (blCells { r0.b with dead := true } r0.dv) := hB.set 12 _
      have hC3 := hC2.chgBlob hrm (b := { r0.b with dead := true }) (dv := r0.dv) rfl hCs hB2 (own_keep hO hCs (fun k hk e => own_apart' hO hB (by decide) k hk e))
      have hX3 := hX2.far (p := ⟨r0.g, 12, none⟩) (At.ne hX2 hB (by decide)) (.bool true)
      have hS4 := own_keep hS3 hCs (fun k hk e => own_apart' hS3 hB (by decide) k hk e)
      clear hr hr0
      go_wp2_with fail
      go_meet
      case rel => exact ⟨hC3, hX3, hS4, Chg.trans hEB hCs (fun k _ e => by have e' : k = r0.g := e; exact .inr (.inr (.inr ⟨r0, hrm, e'⟩)))⟩
  case rest =>
    clear hX2 hC2 hE2 hS3
    obtain ⟨hC4, hX4, hS4, hCh4⟩ := hcut
    generalize hC1e : deadCt C r = C1 at *
    have HC1 := Lib.hid hC1e
    clear hC1e
    go_upto_region 8 with fail
    obtain ⟨W4, hW4⟩ : ∃ W4, W4 = wc := ⟨_, rfl⟩
    subst hW4
    have hB4 : B W4.heap.size := hC4.up _ (Nat.le_refl _)
    have hmB := hC4.lo.2.1
    -- REGION8
    refine wp_region_phi (Γ := Nat → Value) (sgφ [.val (.pointer (some ⟨c, 0, none⟩)), .val (.pointer (some ⟨c, 0, none⟩)), .val (.pointer (some ⟨c, 0, none⟩)), .val (.map (some mb)), .val (.pointer (some ⟨xb, 4, none⟩)), .val (.int .u64 (x.blob : Int)), .val (.pointer (some ⟨xb, 4, none⟩)), .val (.int .u64 (x.blob : Int)), .val (.pointer (some ⟨xb, 3, none⟩)), .val (.string x.name), .val (.pointer (some ⟨xb, 5, none⟩)), .val (.int .i64 x.size), .val (.pointer (some ⟨xb, 6, none⟩)), .val (.int .u32 (x.sum : Int)), .val (.pointer (some ⟨xb, 7, none⟩)), .val (.slice dA x.disks.length dc), .g 0, .g 1, .g 2, .any])
      (GPut W4 B c mb mn C1 x) (by kernel_rfl) (by kernel_rfl) (by kernel_rfl) (fun _ => undef) ((Ext.refl W4).drew) ?steps ?fin
    case steps =>
      show StepsTo _ _ _ _ _ _ 20
      refine ⟨⟨⟨⟨⟨⟨⟨⟨⟨⟨⟨⟨⟨⟨⟨⟨⟨⟨⟨⟨trivial, ?s0⟩, ?s1⟩, ?s2⟩, ?s3⟩, ?s4⟩, ?s5⟩, ?s6⟩, ?s7⟩, ?s8⟩, ?s9⟩, ?s10⟩, ?s11⟩, ?s12⟩, ?s13⟩, ?s14⟩, ?s15⟩, ?s16⟩, ?s17⟩, ?s18⟩, ?s19⟩
      case s0 =>
        refine sg_val (x := .pointer (some ⟨c, 0, none⟩)) rfl rfl rfl (GPut.keep (j := 0) (by decide) (by decide) (by decide) (by decide)) fun γ L v a w st => ?_
        have e0 := st.far 0 (by kernel_rfl)
        simp at e0
        go_simp
      case s1 =>
        refine sg_val (x := .pointer (some ⟨c, 0, none⟩)) rfl rfl rfl (GPut.keep (j := 1) (by decide) (by decide) (by decide) (by decide)) fun γ L v a w st => ?_
        have e0 := st.val 0 48 rfl (by kernel_rfl)
        rw [show v 0 = _ from st.φ 0 (by kernel_rfl)] at e0
        simp at e0
        go_simp
      case s2 =>
        refine sg_val (x := .pointer (some ⟨c, 0, none⟩)) rfl rfl rfl (GPut.keep (j := 2) (by decide) (by decide) (by decide) (by decide)) fun γ L v a w st => ?_
        have e1 := st.val 1 49 rfl (by kernel_rfl)
        rw [show v 1 = _ from st.φ 1 (by kernel_rfl)] at e1
        simp at e1
        go_simp
      case s3 =>
        refine sg_val (x := .map (some mb)) rfl rfl rfl (GPut.keep (j := 3) (by decide) (by decide) (by decide) (by decide)) fun γ L v a w st => ?_
        have e2 := st.val 2 50 rfl (by kernel_rfl)
        rw [show v 2 = _ from st.φ 2 (by kernel_rfl)] at e2
        simp at e2
        have h19 : L 19 = false := by
          cases hq : L 19 with
          | false => rfl
          | true =>
            have q3 := st.down 19 3 hq (by kernel_rfl)
            have q99 := st.off; rw [q3] at q99; cases q99
        have hc := st.inv.cell0 hC4 h19
        go_simp
      case s4 =>
        refine sg_val (x := .pointer (some ⟨xb, 4, none⟩)) rfl rfl rfl (GPut.keep (j := 4) (by decide) (by decide) (by decide) (by decide)) fun γ L v a w st => ?_
        have e3 := st.far 3 (by kernel_rfl)
        simp at e3
        go_simp
      case s6 =>
        refine sg_val (x := .pointer (some ⟨xb, 4, none⟩)) rfl rfl rfl (GPut.keep (j := 6) (by decide) (by decide) (by decide) (by decide)) fun γ L v a w st => ?_
        have e3 := st.far 3 (by kernel_rfl)
        simp at e3
        go_simp
      case s8 =>
        refine sg_val (x := .pointer (some ⟨xb, 3, none⟩)) rfl rfl rfl (GPut.keep (j := 8) (by decide) (by decide) (by decide) (by decide)) fun γ L v a w st => ?_
        have e3 := st.far 3 (by kernel_rfl)
        simp at e3
        go_simp
      case s10 =>
        refine sg_val (x := .pointer (some ⟨xb, 5, none⟩)) rfl rfl rfl (GPut.keep (j := 10) (by decide) (by decide) (by decide) (by decide)) fun γ L v a w st => ?_
        have e3 := st.far 3 (by kernel_rfl)
        simp at e3
        go_simp
      case s12 =>
        refine sg_val (x := .pointer (some ⟨xb, 6, none⟩)) rfl rfl rfl (GPut.keep (j := 12) (by decide) (by decide) (by decide) (by decide)) fun γ L v a w st => ?_
        have e3 := st.far 3 (by kernel_rfl)
        simp at e3
        go_simp
      case s14 =>
        refine sg_val (x := .pointer (some ⟨xb, 7, none⟩)) rfl rfl rfl (GPut.keep (j := 14) (by decide) (by decide) (by decide) (by decide)) fun γ L v a w st => ?_
        have e3 := st.far 3 (by kernel_rfl)
        simp at e3
        go_simp
      case s5 =>
        refine sg_val (x := .int .u64 (x.blob : Int)) rfl rfl rfl (GPut.keep (j := 5) (by decide) (by decide) (by decide) (by decide)) fun γ L v a w st => ?_
        have e4 := st.val 4 52 rfl (by kernel_rfl)
        rw [show v 4 = _ from st.φ 4 (by kernel_rfl)] at e4
        simp at e4
        have h19 : L 19 = false := by
          cases hq : L 19 with
          | false => rfl
          | true =>
            have q5 := st.down 19 5 hq (by kernel_rfl)
            have q99 := st.off; rw [q5] at q99; cases q99
        have hc := (hX4.ext (st.inv.ext h19)).cell 4
        simp at hc
        go_simp
      case s7 =>
        refine sg_val (x := .int .u64 (x.blob : Int)) rfl rfl rfl (GPut.keep (j := 7) (by decide) (by decide) (by decide) (by decide)) fun γ L v a w st => ?_
        have e6 := st.val 6 54 rfl (by kernel_rfl)
        rw [show v 6 = _ from st.φ 6 (by kernel_rfl)] at e6
        simp at e6
        have h19 : L 19 = false := by
          cases hq : L 19 with
          | false => rfl
          | true =>
            have q18 := st.down 19 18 hq (by kernel_rfl)
            have q17 := st.down 18 17 q18 (by kernel_rfl)
            have q7 := st.down 17 7 q17 (by kernel_rfl)
            have q99 := st.off; rw [q7] at q99; cases q99
        have hc := (hX4.ext (st.inv.ext h19)).cell 4
        simp at hc
        go_simp
      case s9 =>
        refine sg_val (x := .string x.name) rfl rfl rfl (GPut.keep (j := 9) (by decide) (by decide) (by decide) (by decide)) fun γ L v a w st => ?_
        have e8 := st.val 8 56 rfl (by kernel_rfl)
        rw [show v 8 = _ from st.φ 8 (by kernel_rfl)] at e8
        simp at e8
        have h19 : L 19 = false := by
          cases hq : L 19 with
          | false => rfl
          | true =>
            have q18 := st.down 19 18 hq (by kernel_rfl)
            have q17 := st.down 18 17 q18 (by kernel_rfl)
            have q9 := st.down 17 9 q17 (by kernel_rfl)
            have q99 := st.off; rw [q9] at q99; cases q99
        have hc := (hX4.ext (st.inv.ext h19)).cell 3
        simp at hc
        go_simp
      case s11 =>
        refine sg_val (x := .int .i64 x.size) rfl rfl rfl (GPut.keep (j := 11) (by decide) (by decide) (by decide) (by decide)) fun γ L v a w st => ?_
        have e10 := st.val 10 58 rfl (by kernel_rfl)
        rw [show v 10 = _ from st.φ 10 (by kernel_rfl)] at e10
        simp at e10
        have h19 : L 19 = false := by
          cases hq : L 19 with
          | false => rfl
          | true =>
            have q18 := st.down 19 18 hq (by kernel_rfl)
            have q17 := st.down 18 17 q18 (by kernel_rfl)
            have q11 := st.down 17 11 q17 (by kernel_rfl)
            have q99 := st.off; rw [q11] at q99; cases q99
        have hc := (hX4.ext (st.inv.ext h19)).cell 5
        simp at hc
        go_simp
      case s13 =>
        refine sg_val (x := .int .u32 (x.sum : Int)) rfl rfl rfl (GPut.keep (j := 13) (by decide) (by decide) (by decide) (by decide)) fun γ L v a w st => ?_
        have e12 := st.val 12 60 rfl (by kernel_rfl)
        rw [show v 12 = _ from st.φ 12 (by kernel_rfl)] at e12
        simp at e12
        have h19 : L 19 = false := by
          cases hq : L 19 with
          | false => rfl
          | true =>
            have q18 := st.down 19 18 hq (by kernel_rfl)
            have q17 := st.down 18 17 q18 (by kernel_rfl)
            have q13 := st.down 17 13 q17 (by kernel_rfl)
            have q99 := st.off; rw [q13] at q99; cases q99
        have hc := (hX4.ext (st.inv.ext h19)).cell 6
        simp at hc
        go_simp
      case s15 =>
        refine sg_val (x := .slice dA x.disks.length dc) rfl rfl rfl (GPut.keep (j := 15) (by decide) (by decide) (by decide) (by decide)) fun γ L v a w st => ?_
        have e14 := st.val 14 62 rfl (by kernel_rfl)
        rw [show v 14 = _ from st.φ 14 (by kernel_rfl)] at e14
        simp at e14
        have h19 : L 19 = false := by
          cases hq : L 19 with
          | false => rfl
          | true =>
            have q18 := st.down 19 18 hq (by kernel_rfl)
            have q17 := st.down 18 17 q18 (by kernel_rfl)
            have q16 := st.down 17 16 q17 (by kernel_rfl)
            have q15 := st.down 16 15 q16 (by kernel_rfl)
            have q99 := st.off; rw [q15] at q99; cases q99
        have hc := (hX4.ext (st.inv.ext h19)).cell 7
        simp at hc
        go_simp
      case s16 =>
        refine sg_call (k := 0) (f := 100) rfl rfl rfl (by kernel_rfl) fun γ L v a w st => ?_
        have e15 := st.val 15 63 rfl (by kernel_rfl)
        rw [show v 15 = _ from st.φ 15 (by kernel_rfl)] at e15
        simp at e15
        have h19 : L 19 = false := by
          cases hq : L 19 with
          | false => rfl
          | true =>
            have q18 := st.down 19 18 hq (by kernel_rfl)
            have q17 := st.down 18 17 q18 (by kernel_rfl)
            have q16 := st.down 17 16 q17 (by kernel_rfl)
            have q99 := st.off; rw [q16] at q99; cases q99
        have h18 : L 18 = false := by
          cases hq : L 18 with
          | false => rfl
          | true =>
            have q17 := st.down 18 17 hq (by kernel_rfl)
            have q16 := st.down 17 16 q17 (by kernel_rfl)
            have q99 := st.off; rw [q16] at q99; cases q99
        have h17 : L 17 = false := by
          cases hq : L 17 with
          | false => rfl
          | true =>
            have q16 := st.down 17 16 hq (by kernel_rfl)
            have q99 := st.off; rw [q16] at q99; cases q99
        have h16 : L 16 = false := st.off
        have hE := st.inv.ext h19
        refine ⟨#[.slice dA x.disks.length dc], by go_simp, ?_⟩
        refine (clone_any w _ x.disks (Sl.of_own (own_keep hS4 hE (fun _ _ hh => hh))) hdl).mono ?_
        rintro r w' ⟨v', rfl, hO, hEc⟩
        refine ⟨v', rfl, ?_⟩
        unfold GPut
        rw [if_neg (by simp [h19]), if_neg (by simp [h18]), if_neg (by simp [h17]), if_pos (by simp)]
        exact ⟨own_base0 hO, hE.trans hEc⟩
      case s17 =>
        refine sg_new (k := 1) rfl rfl rfl (by kernel_rfl) fun γ L v a w st => ?_
        have e7 := st.val 7 55 rfl (by kernel_rfl)
        rw [show v 7 = _ from st.φ 7 (by kernel_rfl)] at e7
        simp at e7
        have e9 := st.val 9 57 rfl (by kernel_rfl)
        rw [show v 9 = _ from st.φ 9 (by kernel_rfl)] at e9
        simp at e9
        have e11 := st.val 11 59 rfl (by kernel_rfl)
        rw [show v 11 = _ from st.φ 11 (by kernel_rfl)] at e11
        simp at e11
        have e13 := st.val 13 61 rfl (by kernel_rfl)
        rw [show v 13 = _ from st.φ 13 (by kernel_rfl)] at e13
        simp at e13
        have e16 := st.val 16 64 rfl (by kernel_rfl)
        rw [show v 16 = _ from st.φ 16 (by kernel_rfl)] at e16
        simp at e16
        have h19 : L 19 = false := by
          cases hq : L 19 with
          | false => rfl
          | true =>
            have q18 := st.down 19 18 hq (by kernel_rfl)
            have q17 := st.down 18 17 q18 (by kernel_rfl)
            have q99 := st.off; rw [q17] at q99; cases q99
        have h18 : L 18 = false := by
          cases hq : L 18 with
          | false => rfl
          | true =>
            have q17 := st.down 18 17 hq (by kernel_rfl)
            have q99 := st.off; rw [q17] at q99; cases q99
        have h17 : L 17 = false := st.off
        have hinv := st.inv
        unfold GPut at hinv
        rw [if_neg (by rw [h19]; simp), if_neg (by rw [h18]; simp), if_neg (by rw [h17]; simp), if_pos (st.dep 16 (by kernel_rfl))] at hinv
        obtain ⟨gA, gc, hγ⟩ := own_slc hinv.1
        refine ⟨.agg (blCells (newBl x) (γ 0)), w, by rw [hγ] at e16 ⊢; go_simp; exact ⟨rfl, rfl, rfl, rfl, rfl, rfl, rfl, rfl, rfl, rfl, rfl, rfl⟩, ?_⟩
        unfold GPut
        rw [if_neg (by simp [h19]), if_neg (by simp [h18]), if_pos (by simp)]
        exact ⟨rfl, by simpa [upd] using hinv.1, hinv.2⟩
      case s18 =>
        refine sg_new (k := 2) rfl rfl rfl (by kernel_rfl) fun γ L v a w st => ?_
        have h19 : L 19 = false := by
          cases hq : L 19 with
          | false => rfl
          | true =>
            have q18 := st.down 19 18 hq (by kernel_rfl)
            have q99 := st.off; rw [q18] at q99; cases q99
        have h18 : L 18 = false := st.off
        have hinv := st.inv
        unfold GPut at hinv
        rw [if_neg (by rw [h19]; simp), if_neg (by rw [h18]; simp), if_pos (st.dep 17 (by kernel_rfl))] at hinv
        obtain ⟨hg1, hO, hE⟩ := hinv
        have e17 := st.val 17 65 rfl (by kernel_rfl)
        rw [show v 17 = _ from st.φ 17 (by kernel_rfl), hg1] at e17
        simp at e17
        refine ⟨.pointer (some ⟨w.heap.size, 0, none⟩), w.alloc (.cells (blCells (newBl x) (γ 0)) 108), by go_simp, ?_⟩
        unfold GPut
        rw [if_neg (by simp [h19]), if_pos (by simp)]
        exact ⟨w.heap.size, by simp [upd, ptrV], hE.size, At.new w _ _, by simpa [upd] using hO.alloc _, hE.alloc _⟩
      case s19 =>
        refine sg_skip rfl rfl rfl fun γ L v a w st => ?_
        have e3 := st.val 3 51 rfl (by kernel_rfl)
        rw [show v 3 = _ from st.φ 3 (by kernel_rfl)] at e3
        simp at e3
        have e5 := st.val 5 53 rfl (by kernel_rfl)
        rw [show v 5 = _ from st.φ 5 (by kernel_rfl)] at e5
        simp at e5
        have h19 : L 19 = false := st.off
        have hinv := st.inv
        unfold GPut at hinv
        rw [if_neg (by rw [h19]; simp), if_pos (st.dep 18 (by kernel_rfl))] at hinv
        obtain ⟨g, hg2, hgW, hB, hO, hE⟩ := hinv
        have e18 := st.val 18 66 rfl (by kernel_rfl)
        rw [show v 18 = _ from st.φ 18 (by kernel_rfl), hg2] at e18
        simp [ptrV] at e18
        obtain ⟨w', hrun, hC', hCh⟩ := (hC4.ext hE).addRow (b := newBl x) (dv := γ 0) hB hO (fun r hr e => by have := (hC4.bl r hr).1.lt; omega) (hC4.up _ (by omega))
        have hrun' : (Instr.mapUpdate 95 (.map (some mb)) (.int .u64 (x.blob : Int)) (.pointer (some ⟨g, 0, none⟩))).run Tryz.prog w = .ok () w' := hrun
        refine ⟨w', by go_simp, ?_⟩
        unfold GPut
        rw [if_pos (by simp)]
        exact ⟨g, hC', (fun xb cs hA => (hA.ext hE).chg hCh (fun e => (hC4.ext hE).bm.ne_at (hA.ext hE) (Eq.symm e))), Chg.trans (S := (· = mb)) (Chg.mono hE (fun _ _ hh => hh.elim)) hCh (fun k _ e => e)⟩
    case fin =>
      intro γ L v wx hall hG hφ
      unfold GPut at hG
      rw [if_pos (hall 19 (by decide))] at hG
      obtain ⟨g, hC5, hX5', hCh5⟩ := hG
      have hX5 := hX5' xb _ hX4
      clear hX5'
      generalize γ 0 = dv' at *
      clear hall hφ hX4 hC4 hS4
      change Exit.then _ _ _ (putAll _ v _ 20) wx
      simp only [putAll, dstOf, Act.put]
      simp only [List.getElem?_toArray, List.getElem?_cons_zero, List.getElem?_cons_succ, Option.bind_some, List.setIfInBounds_toArray, List.set_cons_zero, List.set_cons_succ]
      have hnms : (C1.add (newBl x) g dv').names = C.names := by rw [← HC1.out]; cases r <;> rfl
      obtain ⟨w6, hup, hC6, hCh6⟩ := (hC5.ext ((Ext.refl wx).drew)).addName x.name x.blob
      rw [hnms, ← HC1.out] at hC6
      obtain ⟨c0, c1⟩ := hC5.c0
      have x3 := hX5.cell 3
      have x4 := hX5.cell 4
      have hmnB := hC5.lo.2.2.1
      simp at x3 x4
      clear hX5 hC5 hnms
      go_upto_region 9 with fail
      go_region
      go_wp2_with fail
      go_ret
      exact ⟨g, dv', rfl, hC6, Chg.trans (Chg.trans hCh4 hCh5 (fun k _ e => by have e' : k = mb := e; exact .inr (.inl e'))).drew hCh6 (fun k _ e => by have e' : k = mn := e; exact .inr (.inr (.inl e')))⟩
    -- END8
end put
end Go.Proofs.YtimjipcplmnpbaaGreat
namespace Go.Proofs.YtimjipcplmnpbaaGreat
open Go.RowKit

section forget
variable (w : World) (B : Nat → Prop) (c mb mn : Nat) (C : Ct) (h : CtAt w B c mb mn C) {r : BR} (hf : C.find r.b.id = some r)
include h hf
set_option maxRecDepth 100000 in
set_option maxHeartbeats 2000000 in
theorem forget_no (hk : r.b.dead = false ∨ 0 < r.b.pins) :
    Calls Tryz.prog 68 #[.pointer (some ⟨c, 0, none⟩), .pointer (some ⟨r.g, 0, none⟩)] w fun e w' => e = .returned (.int .i64 16) ∧ Ext w w' := by
  have hB := (h.bl r (find_mem hf).1).1
  have b11 := hB.cell 11
  have b12 := hB.cell 12
  simp at b11 b12
  have hk2 : r.b.dead = false ∨ r.b.dead = true ∧ 0 < r.b.pins := by
    cases hd : r.b.dead
    · exact .inl rfl
    · rcases hk with hk | hk
      · rw [hd] at hk; cases hk
      · exact .inr ⟨rfl, hk⟩
  go_enter Tryz.func68, Tryz.ntmps68
  clear hk h hf hB
  rcases hk2 with hk | ⟨hk, hk2⟩
  all_goals
    go_wp2_with fail
    go_ret
    exact ⟨rfl, Ext.refl _⟩
set_option maxRecDepth 100000 in
set_option maxHeartbeats 2000000 in
theorem forget_ok (hd : r.b.dead = true) (hp : ¬ 0 < r.b.pins) :
    Calls Tryz.prog 68 #[.pointer (some ⟨c, 0, none⟩), .pointer (some ⟨r.g, 0, none⟩)] w fun e w' => e = .returned (.int .i64 0) ∧ CtAt w' B c mb mn (C.del r.b.id) ∧ Chg (C.S c mb mn) w w' := by
  have hB := (h.bl r (find_mem hf).1).1
  have b0 := hB.cell 0
  have b11 := hB.cell 11
  have b12 := hB.cell 12
  simp at b0 b11 b12
  obtain ⟨c0, c1⟩ := h.c0
  obtain ⟨w', hdel, hC', hCh⟩ := (h.ext ((Ext.refl w).drew)).delRow r.b.id
  have hdel' := hdel 0
  have hmB := h.lo.2.1
  go_enter Tryz.func68, Tryz.ntmps68
  clear h hf hB
  go_upto_region 3 with fail
  go_region
  go_wp2_with fail
  go_ret
  exact ⟨rfl, hC', Chg.trans (S := C.S c mb mn) (Chg.mono ((Ext.refl w).drew) (fun _ _ hh => hh.elim)) hCh (fun k _ e => by have e' : k = mb := e; exact .inr (.inl e'))⟩
set_option maxRecDepth 100000 in
set_option maxHeartbeats 2000000 in
theorem unpin_no (x : Cmd) (dv : Value) (hk : x.kind = 6) (hp : r.b.pins = 0) :
    Calls Tryz.prog 69 #[.pointer (some ⟨c, 0, none⟩), .pointer (some ⟨r.g, 0, none⟩), cmdVal x dv] w fun e w' => e = .returned (.int .i64 16) ∧ Ext w w' := by
  have HK := Lib.hid hk
  clear hk
  unfold cmdVal
  go_enter Tryz.func69, Tryz.ntmps69
  have hX := At.new w 32 (cmdCells x dv)
  have hE := (Ext.refl w).alloc (.cells (cmdCells x dv) 32)
  go_upto_region 1 with fail
  generalize World.alloc _ _ = W at *
  have hB := ((h.ext hE).bl r (find_mem hf).1).1
  have b11 := hB.cell 11
  have x0 := hX.cell 0
  simp at b11 x0
  rw [hp] at b11
  rw [HK.out] at x0
  clear h hf hB hX
  go_wp2_with fail
  go_ret
  exact ⟨rfl, hE⟩
set_option maxRecDepth 100000 in
set_option maxHeartbeats 2000000 in
theorem unpin_ok (x : Cmd) (dv : Value) (hk : x.kind = 6) (hp : 0 < r.b.pins ∧ r.b.pins < 4611686018427387904) :
    Calls Tryz.prog 69 #[.pointer (some ⟨c, 0, none⟩), .pointer (some ⟨r.g, 0, none⟩), cmdVal x dv] w fun e w' => e = .returned (.int .i64 0) ∧ CtAt w' B c mb mn (C.upd r.g { r.b with pins := r.b.pins - 1 } r.dv) ∧ Chg (C.S c mb mn) w w' := by
  have HK := Lib.hid hk
  clear hk
  unfold cmdVal
  go_enter Tryz.func69, Tryz.ntmps69
  have hX := At.new w 32 (cmdCells x dv)
  have hE := (Ext.refl w).alloc (.cells (cmdCells x dv) 32)
  go_upto_region 1 with fail
  generalize World.alloc _ _ = W at *
  have hC := h.ext hE
  have hrm := (find_mem hf).1
  have hB := (hC.bl r hrm).1
  have hO := (hC.bl r hrm).2
  have hgB := hC.lo.2.2.2 r hrm
  have b11 := hB.cell 11
  have f11 := hB.frozen 11
  have hbl := hB.lt
  have x0 := hX.cell 0
  simp at b11 x0
  rw [HK.out] at x0
  have hp0 : (r.b.pins == 0) = false := by rw [beq_eq_false_iff_ne]; omega
  have hCs := (Chg.refl (· = r.g) W).setCell (p := ⟨r.g, 11, none⟩) (.inl rfl) (.int .i64 (r.b.pins - 1))
  have hB2 : At (W.setCell ⟨r.g, 11, none⟩ (.int .i64 (r.b.pins - 1))) r.g 108 (blCells { r.b with pins := r.b.pins - 1 } r.dv) := hB.set 11 _
  have hC2 := hC.chgBlob hrm (b := { r.b with pins := r.b.pins - 1 }) (dv := r.dv) rfl hCs hB2 (own_keep hO hCs (fun k hk e => own_apart' hO hB (by decide) k hk e))
  clear h hf hB hX hC hO hB2
  go_wp2_with fail
  go_ret
  exact ⟨rfl, hC2, Chg.trans (S := C.S c mb mn) (Chg.mono hE (fun _ _ hh => hh.elim)) hCs (fun k _ e => by have e' : k = r.g := e; exact .inr (.inr (.inr ⟨r, hrm, e'⟩)))⟩
end forget
end Go.Proofs.YtimjipcplmnpbaaGreat
namespace Go.Proofs.YtimjipcplmnpbaaGreat
open Go.RowKit

abbrev blZero : Array Value := #[.int .u64 0, .string ⟨#[]⟩, .int .i64 0, .int .u32 0, .slice none 0 0, .bool false, .int .i64 0, .int .i64 0, .bool false, .int .i64 0, .int .i64 0, .int .i64 0, .bool false]
theorem blob_out {W : World} {g : Nat} (h : At W g 108 blZero) (a0 a1 a2 a3 a4 a5 a6 a7 a8 a9 a10 a11 a12 : Value) :
    At (((((((((((((W.setCell ⟨g, 0, none⟩ a0).setCell ⟨g, 1, none⟩ a1).setCell ⟨g, 2, none⟩ a2).setCell ⟨g, 3, none⟩ a3).setCell ⟨g, 4, none⟩ a4).setCell ⟨g, 5, none⟩ a5).setCell ⟨g, 6, none⟩ a6).setCell ⟨g, 7, none⟩ a7).setCell ⟨g, 8, none⟩ a8).setCell ⟨g, 9, none⟩ a9).setCell ⟨g, 10, none⟩ a10).setCell ⟨g, 11, none⟩ a11).setCell ⟨g, 12, none⟩ a12) g 108 #[a0, a1, a2, a3, a4, a5, a6, a7, a8, a9, a10, a11, a12] ∧ Chg (· = g) W (((((((((((((W.setCell ⟨g, 0, none⟩ a0).setCell ⟨g, 1, none⟩ a1).setCell ⟨g, 2, none⟩ a2).setCell ⟨g, 3, none⟩ a3).setCell ⟨g, 4, none⟩ a4).setCell ⟨g, 5, none⟩ a5).setCell ⟨g, 6, none⟩ a6).setCell ⟨g, 7, none⟩ a7).setCell ⟨g, 8, none⟩ a8).setCell ⟨g, 9, none⟩ a9).setCell ⟨g, 10, none⟩ a10).setCell ⟨g, 11, none⟩ a11).setCell ⟨g, 12, none⟩ a12) := by
  have h0 : At (W.setCell ⟨g, 0, none⟩ a0) g 108 #[a0, .string ⟨#[]⟩, .int .i64 0, .int .u32 0, .slice none 0 0, .bool false, .int .i64 0, .int .i64 0, .bool false, .int .i64 0, .int .i64 0, .int .i64 0, .bool false] := h.set 0 a0
  have c0 := (Chg.refl (· = g) W).setCell (p := ⟨g, 0, none⟩) (.inl rfl) a0
  have h1 : At ((W.setCell ⟨g, 0, none⟩ a0).setCell ⟨g, 1, none⟩ a1) g 108 #[a0, a1, .int .i64 0, .int .u32 0, .slice none 0 0, .bool false, .int .i64 0, .int .i64 0, .bool false, .int .i64 0, .int .i64 0, .int .i64 0, .bool false] := h0.set 1 a1
  have c1 := (c0).setCell (p := ⟨g, 1, none⟩) (.inl rfl) a1
  have h2 : At (((W.setCell ⟨g, 0, none⟩ a0).setCell ⟨g, 1, none⟩ a1).setCell ⟨g, 2, none⟩ a2) g 108 #[a0, a1, a2, .int .u32 0, .slice none 0 0, .bool false, .int .i64 0, .int .i64 0, .bool false, .int .i64 0, .int .i64 0, .int .i64 0, .bool false] := h1.set 2 a2
  have c2 := (c1).setCell (p := ⟨g, 2, none⟩) (.inl rfl) a2
  have h3 : At ((((W.setCell ⟨g, 0, none⟩ a0).setCell ⟨g, 1, none⟩ a1).setCell ⟨g, 2, none⟩ a2).setCell ⟨g, 3, none⟩ a3) g 108 #[a0, a1, a2, a3, .slice none 0 0, .bool false, .int .i64 0, .int .i64 0, .bool false, .int .i64 0, .int .i64 0, .int .i64 0, .bool false] := h2.set 3 a3
  have c3 := (c2).setCell (p := ⟨g, 3, none⟩) (.inl rfl) a3
  have h4 : At (((((W.setCell ⟨g, 0, none⟩ a0).setCell ⟨g, 1, none⟩ a1).setCell ⟨g, 2, none⟩ a2).setCell ⟨g, 3, none⟩ a3).setCell ⟨g, 4, none⟩ a4) g 108 #[a0, a1, a2, a3, a4, .bool false, .int .i64 0, .int .i64 0, .bool false, .int .i64 0, .int .i64 0, .int .i64 0, .bool false] := h3.set 4 a4
  have c4 := (c3).setCell (p := ⟨g, 4, none⟩) (.inl rfl) a4
  have h5 : At ((((((W.setCell ⟨g, 0, none⟩ a0).setCell ⟨g, 1, none⟩ a1).setCell ⟨g, 2, none⟩ a2).setCell ⟨g, 3, none⟩ a3).setCell ⟨g, 4, none⟩ a4).setCell ⟨g, 5, none⟩ a5) g 108 #[a0, a1, a2, a3, a4, a5, .int .i64 0, .int .i64 0, .bool false, .int .i64 0, .int .i64 0, .int .i64 0, .bool false] := h4.set 5 a5
  have c5 := (c4).setCell (p := ⟨g, 5, none⟩) (.inl rfl) a5
  have h6 : At (((((((W.setCell ⟨g, 0, none⟩ a0).setCell ⟨g, 1, none⟩ a1).setCell ⟨g, 2, none⟩ a2).setCell ⟨g, 3, none⟩ a3).setCell ⟨g, 4, none⟩ a4).setCell ⟨g, 5, none⟩ a5).setCell ⟨g, 6, none⟩ a6) g 108 #[a0, a1, a2, a3, a4, a5, a6, .int .i64 0, .bool false, .int .i64 0, .int .i64 0, .int .i64 0, .bool false] := h5.set 6 a6
  have c6 := (c5).setCell (p := ⟨g, 6, none⟩) (.inl rfl) a6
  have h7 : At ((((((((W.setCell ⟨g, 0, none⟩ a0).setCell ⟨g, 1, none⟩ a1).setCell ⟨g, 2, none⟩ a2).setCell ⟨g, 3, none⟩ a3).setCell ⟨g, 4, none⟩ a4).setCell ⟨g, 5, none⟩ a5).setCell ⟨g, 6, none⟩ a6).setCell ⟨g, 7, none⟩ a7) g 108 #[a0, a1, a2, a3, a4, a5, a6, a7, .bool false, .int .i64 0, .int .i64 0, .int .i64 0, .bool false] := h6.set 7 a7
  have c7 := (c6).setCell (p := ⟨g, 7, none⟩) (.inl rfl) a7
  have h8 : At (((((((((W.setCell ⟨g, 0, none⟩ a0).setCell ⟨g, 1, none⟩ a1).setCell ⟨g, 2, none⟩ a2).setCell ⟨g, 3, none⟩ a3).setCell ⟨g, 4, none⟩ a4).setCell ⟨g, 5, none⟩ a5).setCell ⟨g, 6, none⟩ a6).setCell ⟨g, 7, none⟩ a7).setCell ⟨g, 8, none⟩ a8) g 108 #[a0, a1, a2, a3, a4, a5, a6, a7, a8, .int .i64 0, .int .i64 0, .int .i64 0, .bool false] := h7.set 8 a8
  have c8 := (c7).setCell (p := ⟨g, 8, none⟩) (.inl rfl) a8
  have h9 : At ((((((((((W.setCell ⟨g, 0, none⟩ a0).setCell ⟨g, 1, none⟩ a1).setCell ⟨g, 2, none⟩ a2).setCell ⟨g, 3, none⟩ a3).setCell ⟨g, 4, none⟩ a4).setCell ⟨g, 5, none⟩ a5).setCell ⟨g, 6, none⟩ a6).setCell ⟨g, 7, none⟩ a7).setCell ⟨g, 8, none⟩ a8).setCell ⟨g, 9, none⟩ a9) g 108 #[a0, a1, a2, a3, a4, a5, a6, a7, a8, a9, .int .i64 0, .int .i64 0, .bool false] := h8.set 9 a9
  have c9 := (c8).setCell (p := ⟨g, 9, none⟩) (.inl rfl) a9
  have h10 : At (((((((((((W.setCell ⟨g, 0, none⟩ a0).setCell ⟨g, 1, none⟩ a1).setCell ⟨g, 2, none⟩ a2).setCell ⟨g, 3, none⟩ a3).setCell ⟨g, 4, none⟩ a4).setCell ⟨g, 5, none⟩ a5).setCell ⟨g, 6, none⟩ a6).setCell ⟨g, 7, none⟩ a7).setCell ⟨g, 8, none⟩ a8).setCell ⟨g, 9, none⟩ a9).setCell ⟨g, 10, none⟩ a10) g 108 #[a0, a1, a2, a3, a4, a5, a6, a7, a8, a9, a10, .int .i64 0, .bool false] := h9.set 10 a10
  have c10 := (c9).setCell (p := ⟨g, 10, none⟩) (.inl rfl) a10
  have h11 : At ((((((((((((W.setCell ⟨g, 0, none⟩ a0).setCell ⟨g, 1, none⟩ a1).setCell ⟨g, 2, none⟩ a2).setCell ⟨g, 3, none⟩ a3).setCell ⟨g, 4, none⟩ a4).setCell ⟨g, 5, none⟩ a5).setCell ⟨g, 6, none⟩ a6).setCell ⟨g, 7, none⟩ a7).setCell ⟨g, 8, none⟩ a8).setCell ⟨g, 9, none⟩ a9).setCell ⟨g, 10, none⟩ a10).setCell ⟨g, 11, none⟩ a11) g 108 #[a0, a1, a2, a3, a4, a5, a6, a7, a8, a9, a10, a11, .bool false] := h10.set 11 a11
  have c11 := (c10).setCell (p := ⟨g, 11, none⟩) (.inl rfl) a11
  have h12 : At (((((((((((((W.setCell ⟨g, 0, none⟩ a0).setCell ⟨g, 1, none⟩ a1).setCell ⟨g, 2, none⟩ a2).setCell ⟨g, 3, none⟩ a3).setCell ⟨g, 4, none⟩ a4).setCell ⟨g, 5, none⟩ a5).setCell ⟨g, 6, none⟩ a6).setCell ⟨g, 7, none⟩ a7).setCell ⟨g, 8, none⟩ a8).setCell ⟨g, 9, none⟩ a9).setCell ⟨g, 10, none⟩ a10).setCell ⟨g, 11, none⟩ a11).setCell ⟨g, 12, none⟩ a12) g 108 #[a0, a1, a2, a3, a4, a5, a6, a7, a8, a9, a10, a11, a12] := h11.set 12 a12
  have c12 := (c11).setCell (p := ⟨g, 12, none⟩) (.inl rfl) a12
  exact ⟨h12, c12⟩
set_option maxRecDepth 100000 in
set_option maxHeartbeats 4000000 in
theorem own_any (w : World) (g : Nat) (b : Bl) (dv : Value) (hB : At w g 108 (blCells b dv)) (hO : w.ownsRow 0 3 1 dv b.disks.length (b.disks.map (Value.int .i64))) (hdl : b.disks.length ≤ 17592186043904) :
    Calls Tryz.prog 59 #[.pointer (some ⟨g, 0, none⟩)] w fun e w' => ∃ dv', e = .returned (.agg (blCells b dv')) ∧ w'.ownsRow 0 3 1 dv' b.disks.length (b.disks.map (Value.int .i64)) ∧ Ext w w' := by
  obtain ⟨dA, dc, rfl⟩ := own_slc hO
  go_enter Tryz.func59, Tryz.ntmps59
  have hR := At.new w 108 blZero
  have hE := (Ext.refl w).alloc (.cells blZero 108)
  go_upto_region 1 with fail
  generalize hxb : w.heap.size = xb at *
  generalize World.alloc _ _ = W at *
  have hB1 := hB.ext hE
  have hO1 := own_keep hO hE (fun _ _ hh => hh)
  have b0 := hB1.cell 0
  have b1 := hB1.cell 1
  have b2 := hB1.cell 2
  have b3 := hB1.cell 3
  have b4 := hB1.cell 4
  have b5 := hB1.cell 5
  have b6 := hB1.cell 6
  have b7 := hB1.cell 7
  have b8 := hB1.cell 8
  have b9 := hB1.cell 9
  have b10 := hB1.cell 10
  have b11 := hB1.cell 11
  have b12 := hB1.cell 12
  simp at b0 b1 b2 b3 b4 b5 b6 b7 b8 b9 b10 b11 b12
  go_upto_region 2 with fail
  have hY := At.new W 108 (blCells b (.slice dA b.disks.length dc))
  have hR1 := hR.alloc (.cells (blCells b (.slice dA b.disks.length dc)) 108)
  have hE1 := hE.alloc (.cells (blCells b (.slice dA b.disks.length dc)) 108)
  have hB2 := hB1.alloc (.cells (blCells b (.slice dA b.disks.length dc)) 108)
  have hO2 := own_keep hO1 ((Ext.refl W).alloc (.cells (blCells b (.slice dA b.disks.length dc)) 108)) (fun _ _ hh => hh)
  have hxw : xb < W.heap.size := hR.lt
  clear b0 b1 b2 b3 b4 b5 b6 b7 b8 b9 b10 b11 b12 hB1 hO1 hR hE
  generalize hyb : W.heap.size = yb at *
  generalize World.alloc _ _ = W1 at *
  have b4 := hB2.cell 4
  simp at b4
  go_wp2_with fail
  refine (clone_any W1 _ b.disks (Sl.of_own hO2) hdl).mono ?_
  rintro e W2 ⟨v', rfl, hOc, hEc⟩
  have hY2 := hY.ext hEc
  have hR2 := hR1.ext hEc
  have hE2 := hE1.trans hEc
  have y4 := hY2.cell 4
  have f4 := hY2.frozen 4
  have hyl := hY2.lt
  simp at y4
  clear b4 hB2 hO2 hY hR1
  obtain ⟨vA, vc, rfl⟩ := own_slc hOc
  go_upto_region 3 with fail
  have hCs := (Chg.refl (· = yb) W2).setCell (p := ⟨yb, 4, none⟩) (.inl rfl) (.slice vA b.disks.length vc)
  have hY3 : At (W2.setCell ⟨yb, 4, none⟩ (.slice vA b.disks.length vc)) yb 108 (blCells b (.slice vA b.disks.length vc)) := hY2.set 4 _
  have hR3 := hR2.far (p := ⟨yb, 4, none⟩) (show xb ≠ yb by omega) (.slice vA b.disks.length vc)
  have hO3 := own_keep (own_base0 hOc) hCs (fun k hk e => own_apart' (own_base0 hOc) hY2 (by decide) k hk e)
  have hwl : w.heap.size ≤ yb := by omega
  have hE3 : Ext w (W2.setCell ⟨yb, 4, none⟩ (.slice vA b.disks.length vc)) := Chg.mono (hE2.chg_trans hCs) fun j hj e => by have e' : j = yb := e; omega
  clear y4 f4 hyl hY2 hR2 hE2 hOc hCs
  generalize World.setCell _ _ _ = W3 at *
  have b0 := hY3.cell 0
  have b1 := hY3.cell 1
  have b2 := hY3.cell 2
  have b3 := hY3.cell 3
  have b4 := hY3.cell 4
  have b5 := hY3.cell 5
  have b6 := hY3.cell 6
  have b7 := hY3.cell 7
  have b8 := hY3.cell 8
  have b9 := hY3.cell 9
  have b10 := hY3.cell 10
  have b11 := hY3.cell 11
  have b12 := hY3.cell 12
  simp at b0 b1 b2 b3 b4 b5 b6 b7 b8 b9 b10 b11 b12
  have f0 := hR3.frozen 0
  have f1 := hR3.frozen 1
  have f2 := hR3.frozen 2
  have f3 := hR3.frozen 3
  have f4 := hR3.frozen 4
  have f5 := hR3.frozen 5
  have f6 := hR3.frozen 6
  have f7 := hR3.frozen 7
  have f8 := hR3.frozen 8
  have f9 := hR3.frozen 9
  have f10 := hR3.frozen 10
  have f11 := hR3.frozen 11
  have f12 := hR3.frozen 12
  have r0 := hR3.cell 0
  have r1 := hR3.cell 1
  have r2 := hR3.cell 2
  have r3 := hR3.cell 3
  have r4 := hR3.cell 4
  have r5 := hR3.cell 5
  have r6 := hR3.cell 6
  have r7 := hR3.cell 7
  have r8 := hR3.cell 8
  have r9 := hR3.cell 9
  have r10 := hR3.cell 10
  have r11 := hR3.cell 11
  have r12 := hR3.cell 12
  simp at r0 r1 r2 r3 r4 r5 r6 r7 r8 r9 r10 r11 r12
  go_wp2_with fail
  obtain ⟨hZ, hCz⟩ := blob_out hR3 (.int .u64 (b.id : Int)) (.string b.name) (.int .i64 b.size) (.int .u32 (b.sum : Int)) (.slice vA b.disks.length vc) (.bool b.a.there) (.int .i64 b.a.vol) (.int .i64 b.a.at_) (.bool b.b.there) (.int .i64 b.b.vol) (.int .i64 b.b.at_) (.int .i64 b.pins) (.bool b.dead)
  generalize World.setCell _ _ _ = WZ at hZ hCz ⊢
  have g0 := hZ.cell 0
  have g1 := hZ.cell 1
  have g2 := hZ.cell 2
  have g3 := hZ.cell 3
  have g4 := hZ.cell 4
  have g5 := hZ.cell 5
  have g6 := hZ.cell 6
  have g7 := hZ.cell 7
  have g8 := hZ.cell 8
  have g9 := hZ.cell 9
  have g10 := hZ.cell 10
  have g11 := hZ.cell 11
  have g12 := hZ.cell 12
  simp at g0 g1 g2 g3 g4 g5 g6 g7 g8 g9 g10 g11 g12
  refine bodyPost_ret (v := .agg (blCells b (.slice vA b.disks.length vc))) (by simp [results, Tryz.results59, go_sem, g0, g1, g2, g3, g4, g5, g6, g7, g8, g9, g10, g11, g12]) rfl ⟨_, rfl, own_keep hO3 hCz (fun k hk e => own_apart' hO3 hR3 (by decide) k hk e), Chg.mono (hE3.chg_trans hCz) fun j hj e => by have e' : j = xb := e; omega⟩
set_option maxRecDepth 100000 in
set_option maxHeartbeats 4000000 in
theorem blob_some (w : World) (B : Nat → Prop) (c mb mn : Nat) (C : Ct) (h : CtAt w B c mb mn C) (id : Nat) {r : BR} (hf : C.find id = some r) (hdl : r.b.disks.length ≤ 17592186043904) :
    Calls Tryz.prog 92 #[.pointer (some ⟨c, 0, none⟩), .int .u64 (id : Int)] w fun e w' => ∃ dv', e = .returned (.tuple #[.agg (blCells r.b dv'), .bool true]) ∧ w'.ownsRow 0 3 1 dv' r.b.disks.length (r.b.disks.map (Value.int .i64)) ∧ Ext w w' := by
  go_enter Tryz.func92, Tryz.ntmps92
  have hR := At.new w 108 blZero
  have hE := (Ext.refl w).alloc (.cells blZero 108)
  go_upto_region 1 with fail
  generalize hxb : w.heap.size = xb at *
  generalize World.alloc _ _ = W at *
  have hC := h.ext hE
  obtain ⟨c0, c1⟩ := hC.c0
  have hlk := hC.look id
  rw [hf] at hlk
  simp only [ptrO] at hlk
  have hb := hC.bl r (find_mem hf).1
  have HB := Lib.hid (own_any W r.g r.b r.dv hb.1 hb.2 hdl)
  clear hb
  go_wp2_with fail
  refine HB.out.mono ?_
  rintro e W2 ⟨dv', rfl, hO, hE2⟩
  obtain ⟨vA, vc, rfl⟩ := own_slc hO
  have hR2 := hR.ext hE2
  have hE3 := hE.trans hE2
  clear hlk c0 c1 hR hE hC h HB
  have f0 := hR2.frozen 0
  have f1 := hR2.frozen 1
  have f2 := hR2.frozen 2
  have f3 := hR2.frozen 3
  have f4 := hR2.frozen 4
  have f5 := hR2.frozen 5
  have f6 := hR2.frozen 6
  have f7 := hR2.frozen 7
  have f8 := hR2.frozen 8
  have f9 := hR2.frozen 9
  have f10 := hR2.frozen 10
  have f11 := hR2.frozen 11
  have f12 := hR2.frozen 12
  have r0 := hR2.cell 0
  have r1 := hR2.cell 1
  have r2 := hR2.cell 2
  have r3 := hR2.cell 3
  have r4 := hR2.cell 4
  have r5 := hR2.cell 5
  have r6 := hR2.cell 6
  have r7 := hR2.cell 7
  have r8 := hR2.cell 8
  have r9 := hR2.cell 9
  have r10 := hR2.cell 10
  have r11 := hR2.cell 11
  have r12 := hR2.cell 12
  simp at r0 r1 r2 r3 r4 r5 r6 r7 r8 r9 r10 r11 r12
  go_wp2_with fail
  obtain ⟨hZ, hCz⟩ := blob_out hR2 (.int .u64 (r.b.id : Int)) (.string r.b.name) (.int .i64 r.b.size) (.int .u32 (r.b.sum : Int)) (.slice vA r.b.disks.length vc) (.bool r.b.a.there) (.int .i64 r.b.a.vol) (.int .i64 r.b.a.at_) (.bool r.b.b.there) (.int .i64 r.b.b.vol) (.int .i64 r.b.b.at_) (.int .i64 r.b.pins) (.bool r.b.dead)
  generalize World.setCell _ _ _ = WZ at hZ hCz ⊢
  have g0 := hZ.cell 0
  have g1 := hZ.cell 1
  have g2 := hZ.cell 2
  have g3 := hZ.cell 3
  have g4 := hZ.cell 4
  have g5 := hZ.cell 5
  have g6 := hZ.cell 6
  have g7 := hZ.cell 7
  have g8 := hZ.cell 8
  have g9 := hZ.cell 9
  have g10 := hZ.cell 10
  have g11 := hZ.cell 11
  have g12 := hZ.cell 12
  simp at g0 g1 g2 g3 g4 g5 g6 g7 g8 g9 g10 g11 g12
  have hwl : w.heap.size ≤ xb := by omega
  refine bodyPost_ret (v := .tuple #[.agg (blCells r.b (.slice vA r.b.disks.length vc)), .bool true]) (by simp [results, Tryz.results92, go_sem, g0, g1, g2, g3, g4, g5, g6, g7, g8, g9, g10, g11, g12]) rfl ⟨_, rfl, own_keep hO hCz (fun k hk e => own_apart' hO hR2 (by decide) k hk e), Chg.mono (hE3.chg_trans hCz) fun j hj e => by have e' : j = xb := e; omega⟩
set_option maxRecDepth 100000 in
set_option maxHeartbeats 4000000 in
theorem blob_none (w : World) (B : Nat → Prop) (c mb mn : Nat) (C : Ct) (h : CtAt w B c mb mn C) (id : Nat) (hf : C.find id = none) :
    Calls Tryz.prog 92 #[.pointer (some ⟨c, 0, none⟩), .int .u64 (id : Int)] w fun e w' => e = .returned (.tuple #[.agg blZero, .bool false]) ∧ Ext w w' := by
  go_enter Tryz.func92, Tryz.ntmps92
  have hR := At.new w 108 blZero
  have hE := (Ext.refl w).alloc (.cells blZero 108)
  go_upto_region 1 with fail
  generalize hxb : w.heap.size = xb at *
  generalize World.alloc _ _ = W at *
  have hC := h.ext hE
  obtain ⟨c0, c1⟩ := hC.c0
  have hlk := hC.look id
  rw [hf] at hlk
  simp only [ptrO] at hlk
  have hR2 := hR
  clear hC h
  have f0 := hR2.frozen 0
  have f1 := hR2.frozen 1
  have f2 := hR2.frozen 2
  have f3 := hR2.frozen 3
  have f4 := hR2.frozen 4
  have f5 := hR2.frozen 5
  have f6 := hR2.frozen 6
  have f7 := hR2.frozen 7
  have f8 := hR2.frozen 8
  have f9 := hR2.frozen 9
  have f10 := hR2.frozen 10
  have f11 := hR2.frozen 11
  have f12 := hR2.frozen 12
  have r0 := hR2.cell 0
  have r1 := hR2.cell 1
  have r2 := hR2.cell 2
  have r3 := hR2.cell 3
  have r4 := hR2.cell 4
  have r5 := hR2.cell 5
  have r6 := hR2.cell 6
  have r7 := hR2.cell 7
  have r8 := hR2.cell 8
  have r9 := hR2.cell 9
  have r10 := hR2.cell 10
  have r11 := hR2.cell 11
  have r12 := hR2.cell 12
  simp at r0 r1 r2 r3 r4 r5 r6 r7 r8 r9 r10 r11 r12
  go_wp2_with fail
  obtain ⟨hZ, hCz⟩ := blob_out hR2 (.int .u64 0) (.string ⟨#[]⟩) (.int .i64 0) (.int .u32 0) (.slice none 0 0) (.bool false) (.int .i64 0) (.int .i64 0) (.bool false) (.int .i64 0) (.int .i64 0) (.int .i64 0) (.bool false)
  generalize World.setCell _ _ _ = WZ at hZ hCz ⊢
  have g0 := hZ.cell 0
  have g1 := hZ.cell 1
  have g2 := hZ.cell 2
  have g3 := hZ.cell 3
  have g4 := hZ.cell 4
  have g5 := hZ.cell 5
  have g6 := hZ.cell 6
  have g7 := hZ.cell 7
  have g8 := hZ.cell 8
  have g9 := hZ.cell 9
  have g10 := hZ.cell 10
  have g11 := hZ.cell 11
  have g12 := hZ.cell 12
  simp at g0 g1 g2 g3 g4 g5 g6 g7 g8 g9 g10 g11 g12
  have hwl : w.heap.size ≤ xb := by omega
  refine bodyPost_ret (v := .tuple #[.agg blZero, .bool false]) (by simp [results, Tryz.results92, go_sem, g0, g1, g2, g3, g4, g5, g6, g7, g8, g9, g10, g11, g12]) rfl ⟨rfl, Chg.mono (hE.chg_trans hCz) fun j hj e => by have e' : j = xb := e; omega⟩
end Go.Proofs.YtimjipcplmnpbaaGreat
