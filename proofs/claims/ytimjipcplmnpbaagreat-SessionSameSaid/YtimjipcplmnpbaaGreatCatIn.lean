/-
  Layer 13: Blobs, and a blob by its name.
  Layer 13: a catalog that stands for a list; what a command leaves.
-/
import Derived.Test.YtimjipcplmnpbaaGreatCatApp
import Derived.Test.YtimjipcplmnpbaaGreatIterU
import Derived.Test.YtimjipcplmnpbaaGreatSlices
import Derived.Test.YtimjipcplmnpbaaGreatDisk
namespace Go.Proofs.YtimjipcplmnpbaaGreat
open Go.RowKit Go.Sort

theorem idsOf_asc {L : List Bl} (h : L.Pairwise fun a b => a.id < b.id) : (L.map fun b => (b.id : Int)).Pairwise (· < ·) := List.pairwise_map.2 (h.imp fun h => by omega)
theorem Rep.ids {C : Ct} {P : Pm} {n : Nat} (h : Rep C P) (hi : PInv n P) : (P.L.map fun b => (b.id : Int)).Perm (C.idx.map (·.1)) := by
  have := ((h.perm hi).map fun b : Bl => (b.id : Int)).symm
  unfold Ct.idx
  rw [List.map_map] at this ⊢
  exact this
theorem own_own_ne {w : World} {b1 b2 : Nat} {e1 e2 : TypeId} {s1 s2 : Nat} {v1 v2 : Value} {n1 n2 : Nat} {x1 x2 : List Value} (h1 : w.ownsRow b1 e1 s1 v1 n1 x1) (h2 : w.ownsRow b2 e2 s2 v2 n2 x2) (hne : e1 ≠ e2) : ∀ k, some k = v1.ownBlock → ¬ some k = v2.ownBlock := by
  intro k hk hk2
  rcases h2.2 with ⟨rfl, _⟩ | ⟨g, cap, cur, rfl, _, hg, _⟩
  · cases hk2
  · have e : k = g := by injection hk2
    subst e
    have hA : At w k e2 cur := hg
    exact own_apart' h1 hA hne k hk rfl
def blRow (p : Bl × Value) : List Value := (blCells p.1 p.2).toList
theorem bl_info : (Tryz.prog.info? 108).map (fun i => (i.zero, i.size, i.bytes)) = some (some (.agg blZero), 13, 128) := by kernel_rfl
/-- blobs as they are handed out -/
def BlobsIn (w : World) (v : Value) (L : List Bl) : Prop := ∃ DV : List (Bl × Value), DV.map (·.1) = L ∧ w.ownsRow 0 108 13 v L.length ((DV.map blRow).flatten) ∧ ∀ p ∈ DV, w.ownsRow 0 3 1 p.2 p.1.disks.length (p.1.disks.map (Value.int .i64))
set_option maxRecDepth 100000 in
set_option maxHeartbeats 8000000 in
theorem blobs_any (w : World) (B : Nat → Prop) (c mb mn : Nat) (C : Ct) (P : Pm) (n : Nat) (h : CtAt w B c mb mn C) (hR : Rep C P) (hi : PInv n P) (hn : n < 50) :
    Calls Tryz.prog 29 #[.pointer (some ⟨c, 0, none⟩)] w fun e w' => ∃ v, e = .returned v ∧ BlobsIn w' v P.L ∧ Ext w w' := by
  obtain ⟨c0, c1⟩ := h.c0
  have hlen := h.bm.len (P := Tryz.prog) map_blobs
  have hil : C.idx.length = P.L.length := by
    have := (hR.ids hi).length_eq
    simpa using this.symm
  rw [hil] at hlen
  have hpl : P.L.length < 50 := by have := hi.len; omega
  obtain ⟨i0, hi0, hz0, hz1, hz2⟩ := info_parts bl_info
  have hmk : (Instr.makeSlice 73 (.int .i64 0) (.int .i64 (P.L.length : Int))).run Tryz.prog w = .ok (.slice (some ⟨w.heap.size, 0, none⟩) 0 P.L.length) (w.alloc (.cells (madeCells (Value.agg blZero).cells (P.L.length * 13)) 108)) := by
    have := run_make (P := Tryz.prog) w 73 108 i0 (.agg blZero) Tryz.underlying73 hi0 hz0 .i64 .i64 0 (P.L.length : Int) (by omega) (by omega) (by rw [hz2]; omega) (by omega)
    rw [hz1] at this
    exact this
  clear i0 hi0 hz0 hz1 hz2
  have hOW : (w.alloc (.cells (madeCells (Value.agg blZero).cells (P.L.length * 13)) 108)).ownsRow w.heap.size 108 13 (.slice (some ⟨w.heap.size, 0, none⟩) 0 P.L.length) 0 [] := World.ownsRow_made w _ _ (Nat.le_refl _) (by unfold maxLen; omega) (by rw [size_madeCells])
  have hE0 := (Ext.refl w).alloc (.cells (madeCells (Value.agg blZero).cells (P.L.length * 13)) 108)
  generalize w.alloc (.cells (madeCells (Value.agg blZero).cells (P.L.length * 13)) 108) = W0 at *
  have HID := Lib.hid (ids_any W0 B c mb mn C (h.ext hE0) (P.L.map fun b => (b.id : Int)) (idsOf_asc hi.asc) (hR.ids hi) (by simpa using hpl))
  rw [List.length_map] at HID
  have HPL := Lib.hid hpl
  have HI := Lib.hid (show _ ∧ _ from ⟨hR, hi⟩)
  clear hil hpl hR hi
  go_enter Tryz.func29, Tryz.ntmps29
  go_wp2_with fail
  refine HID.out.mono ?_
  rintro e W1 ⟨iv, rfl, hOI, hE1⟩
  have hO1 := own_keep hOW hE1 (fun _ _ hh => hh)
  have hE01 := hE0.trans hE1
  obtain ⟨iA, ic, rfl⟩ := own_slc hOI
  clear HID hmk hlen hOW hE0 hE1
  go_wp2_with fail
  go_loopw [3, 15] (fun ov kv wr => ∃ (k : Nat) (DV : List (Bl × Value)), k ≤ P.L.length ∧ kv = .int .i64 (k : Int) ∧ DV.map (·.1) = P.L.take k ∧ wr.ownsRow w.heap.size 108 13 ov k ((DV.map blRow).flatten) ∧
    Hid (∀ p ∈ DV, wr.ownsRow 0 3 1 p.2 p.1.disks.length (p.1.disks.map (Value.int .i64))) ∧ wr.ownsRow W0.heap.size 29 1 (.slice iA P.L.length ic) P.L.length ((P.L.map fun b => (b.id : Int)).map (Value.int .u64)) ∧ Ext w wr) (fun _ kv _ => P.L.length - (intOf kv).toNat)
  case atStart => exact ⟨0, [], Nat.zero_le _, rfl, rfl, hO1, Lib.hid (fun p hp => by cases hp), hOI, hE01⟩
  case round =>
    obtain ⟨k, DV, hk, rfl, hDV, hO, HDK, hIk, hEw⟩ := hrel
    have HDV := Lib.hid hDV
    clear hDV hO1 hOI hE01
    by_cases hlt : k < P.L.length
    · obtain ⟨b, hb⟩ : ∃ b, P.L[k]? = some b := ⟨_, List.getElem?_eq_getElem hlt⟩
      obtain ⟨hR, hi⟩ := HI.out
      have hbm := List.mem_of_getElem? hb
      obtain ⟨r, hr, hrb, hf⟩ := row_of hR hi hbm
      have hCk := h.ext hEw
      have hlk := hCk.look b.id
      rw [hf] at hlk
      simp only [ptrO] at hlk
      obtain ⟨c0, c1⟩ := hCk.c0
      have hdl : r.b.disks.length ≤ 17592186043904 := by
        rw [hrb]
        have := rises_len (hi.bl b hbm).rises
        omega
      have HOWN := Lib.hid (own_any wr r.g r.b r.dv (hCk.bl r hr).1 (hCk.bl r hr).2 hdl)
      rw [hrb] at HOWN
      have hic : ∃ ib, iA = some ⟨ib, 0, none⟩ := by
        rcases hIk.2 with ⟨e, h0⟩ | ⟨g, cap, cur, e, _⟩
        · omega
        · injection e with e1 _ _; exact ⟨g, e1⟩
      obtain ⟨ib, rfl⟩ := hic
      have i1 := hIk.cellAt k (by omega)
      rw [List.getElem?_map, List.getElem?_map, hb] at i1
      simp only [Option.map_some] at i1
      have HB := Lib.hid hb
      obtain ⟨oA, oc, rfl⟩ := own_slc hO
      clear hR hi hbm hf hr hrb hdl hb c1
      go_wp2_with fail
      refine HOWN.out.mono ?_
      rintro e W4 ⟨dv', rfl, hOd, hE2⟩
      obtain ⟨dA, dc, rfl⟩ := own_slc hOd
      have hO3 := own_keep hO hE2 (fun _ _ hh => hh)
      have hE3 := hEw.trans hE2
      have hsz3 := hE3.size
      have hI3 := own_keep hIk hE2 (fun _ _ hh => hh)
      have HD3 : Hid (∀ p ∈ DV ++ [(b, .slice dA b.disks.length dc)], W4.ownsRow 0 3 1 p.2 p.1.disks.length (p.1.disks.map (Value.int .i64))) := Lib.hid (fun p hp => by
        rcases List.mem_append.1 hp with hp | hp
        · exact own_keep (HDK.out p hp) hE2 (fun _ _ hh => hh)
        · rw [List.mem_singleton] at hp; subst hp; exact hOd)
      clear HOWN hO hEw hE2 hOd HDK hCk hlk i1 c0 hIk
      go_wp2_with (at_builtin; refine wpList_append_row _ hO3 73 Tryz.underlying73 bl_info rfl rfl (by decide) (by decide) rfl (by have := HPL.out; omega) hsz3 rfl _ _ rfl rfl rfl ?_)
      intro v1 w4 hO4 hC4
      have hE4 : Ext w w4 := Chg.own_ext hE3 hC4 hO3 (Nat.le_refl _)
      have hI4 := own_keep hI3 hC4 (own_own_ne hI3 hO3 (by decide))
      have HD4 : Hid (∀ p ∈ DV ++ [(b, .slice dA b.disks.length dc)], w4.ownsRow 0 3 1 p.2 p.1.disks.length (p.1.disks.map (Value.int .i64))) := Lib.hid (fun p hp => own_keep (HD3.out p hp) hC4 (own_own_ne (HD3.out p hp) hO3 (by decide)))
      have HDV4 : Hid ((DV ++ [((b, Value.slice dA b.disks.length dc) : Bl × Value)]).map (fun p : Bl × Value => p.1) = P.L.take (k + 1)) := Lib.hid (by
        rw [List.map_append, HDV.out, List.take_add_one, HB.out]; rfl)
      clear hC4 hE3 hI3 HD3 hO3 HDV
      have hk50 : k < 50 := by have := HPL.out; omega
      obtain ⟨vA, vc, rfl⟩ := own_slc hO4
      go_wp2_with fail
      go_roundw
      case rel => exact ⟨k + 1, DV ++ [(b, .slice dA b.disks.length dc)], by omega, by go_num, HDV4.out, by rw [List.map_append, List.flatten_append]; simpa [blRow] using hO4, HD4, hI4, hE4⟩
      case measure => simp [intOf]; omega
    · obtain rfl : k = P.L.length := by omega
      clear c0 c1
      obtain ⟨oA, oc, rfl⟩ := own_slc hO
      have HF : Hid (BlobsIn wr (.slice oA P.L.length oc) P.L) := Lib.hid ⟨DV, by rw [HDV.out, List.take_of_length_le (Nat.le_refl _)], own_base0 hO, HDK.out⟩
      clear hO HDK HDV
      go_wp2_with fail
      go_ret
      exact ⟨_, rfl, HF.out, hEw⟩
end Go.Proofs.YtimjipcplmnpbaaGreat
namespace Go.Proofs.YtimjipcplmnpbaaGreat
open Go.RowKit Go.Sort

/-- the catalog at c, laid from block B on, stands for P -/
def CatIn (w : World) (B : Nat → Prop) (c mb mn : Nat) (P : Pm) : Prop := ∃ C, CtAt w B c mb mn C ∧ Rep C P
/-- all blocks that are no catalog's lie as they lay -/
structure Kp (B : Nat → Prop) (w w' : World) : Prop where
  chg : Chg (fun k => B k) w w'
  at_ : ∀ g t cs, t ≠ 100 → t ≠ 108 → At w g t cs → At w' g t cs
section
variable {w w' w'' : World} {B : Nat → Prop} {c mb mn : Nat} {P : Pm}
theorem Kp.of_ext (h : Ext w w') : Kp B w w' := ⟨h.chg, fun _ _ _ _ _ hA => hA.ext h⟩
theorem Kp.trans (h : Kp B w w') (h' : Kp B w' w'') : Kp B w w'' := ⟨h.chg.trans h'.chg (fun _ _ e => e), fun g t cs h1 h2 hA => h'.at_ g t cs h1 h2 (h.at_ g t cs h1 h2 hA)⟩
theorem Kp.of_S {C : Ct} (h : CtAt w B c mb mn C) (hC : Chg (C.S c mb mn) w w') : Kp B w w' :=
  ⟨hC.mono (fun k _ e => S_lo h k e), fun _ _ _ h1 h2 hA => hA.chg hC (S_not h hA h1.symm h2.symm)⟩
theorem Kp.own {base : Nat} {e : TypeId} {size : Nat} {v : Value} {n : Nat} {xs : List Value} (h : Kp B w w') (ho : w.ownsRow base e size v n xs) (h1 : e ≠ 100) (h2 : e ≠ 108) : w'.ownsRow base e size v n xs := by
  refine ⟨ho.1, ?_⟩
  rcases ho.2 with hn | ⟨g, cap, cur, hv, hb, hg, rest⟩
  · exact .inl hn
  · exact .inr ⟨g, cap, cur, hv, hb, h.at_ g e cur h1 h2 hg, rest⟩
/-- from a world whose blocks all lie below -/
theorem Kp.ext {w0 : World} (h0 : Ext w0 w) (h : Kp B w w') (hB : ∀ k, B k → w0.heap.size ≤ k) : Ext w0 w' := h0.chg_trans h.chg |>.mono (fun k hk e => by have e' : B k := e; have := hB k e'; omega)
theorem CatIn.ext (h : CatIn w B c mb mn P) (he : Ext w w') : CatIn w' B c mb mn P := by
  obtain ⟨C, h1, h2⟩ := h
  exact ⟨C, h1.ext he, h2⟩
theorem cnew_any (w : World) : Calls Tryz.prog 27 #[] w fun e w' => ∃ c mb mn, e = .returned (.pointer (some ⟨c, 0, none⟩)) ∧ CatIn w' (Hi w.heap.size) c mb mn Pm.empty ∧ Ext w w' := by
  refine (new_any w).mono ?_
  rintro e w' ⟨c, mb, mn, rfl, h1, h2⟩
  exact ⟨c, mb, mn, rfl, ⟨_, h1, Rep.empty⟩, h2⟩
/-- what comes of a command -/
def Came (B : Nat → Prop) (c mb mn : Nat) (R : Pm × Rs) (w : World) (e : Ending) (w' : World) : Prop :=
  ∃ A cp, e = .returned (resV R.2.err R.2.blob R.2.size R.2.sum (.slice A R.2.names.length cp)) ∧ w'.ownsRow 0 9 1 (.slice A R.2.names.length cp) R.2.names.length (R.2.names.map Value.string) ∧ CatIn w' B c mb mn R.1 ∧ Kp B w w'
theorem capply_any {n : Nat} (h : CatIn w B c mb mn P) (hi : PInv n P) (hn : n ≤ 1000000) (x : Cmd) (dv : Value) (hS : w.ownsRow 0 3 1 dv x.disks.length (x.disks.map (Value.int .i64))) (hdl : x.disks.length ≤ 17592186043904) (hnl : x.name.size ≤ 9223372036854775807) (hx : x.Wf) :
    Calls Tryz.prog 32 #[.pointer (some ⟨c, 0, none⟩), cmdVal x dv] w (Came B c mb mn (P.app x) w) := by
  obtain ⟨C, hC, hR⟩ := h
  refine (app_any w B c mb mn C P n hC hR hi hn x dv hS hdl hnl hx).mono ?_
  rintro e w' ⟨nv, rfl, hON, C', h1, h2, h3⟩
  obtain ⟨A, cp, rfl⟩ := own_slc hON
  exact ⟨A, cp, rfl, hON, ⟨C', h1, h2⟩, Kp.of_S hC h3⟩
/-- the same of a command that is written out -/
theorem capply_lit {n : Nat} {P' : Pm} {err : Int} {blob : Nat} {size : Int} {sum : Nat} {args : Value} (bI sI : Int) (h : CatIn w B c mb mn P) (hi : PInv n P) (hn : n ≤ 1000000) (x : Cmd) (dv : Value) (hS : w.ownsRow 0 3 1 dv x.disks.length (x.disks.map (Value.int .i64))) (hx : x.Wf) (hdl : x.disks.length ≤ 6) (hnl : x.name.size ≤ 100)
    (ha : args = cmdVal x dv) (hr : P.app x = (P', ⟨err, blob, size, sum, []⟩)) (hbI : (blob : Int) = bI) (hsI : (sum : Int) = sI) :
    Calls Tryz.prog 32 #[.pointer (some ⟨c, 0, none⟩), args] w fun e w' => ∃ A cp, e = .returned (.agg #[.int .i64 err, .int .u64 bI, .int .i64 size, .int .u32 sI, .slice A 0 cp]) ∧ CatIn w' B c mb mn P' ∧ Kp B w w' := by
  subst ha hbI hsI
  refine (capply_any h hi hn x dv hS (by omega) (by omega) hx).mono ?_
  rintro e w' ⟨A, cp, rfl, hON, h1, h2⟩
  rw [hr] at h1 ⊢
  exact ⟨A, cp, rfl, h1, h2⟩
theorem cblobs_any {n : Nat} (h : CatIn w B c mb mn P) (hi : PInv n P) (hn : n < 50) :
    Calls Tryz.prog 29 #[.pointer (some ⟨c, 0, none⟩)] w fun e w' => ∃ A cp, e = .returned (.slice A P.L.length cp) ∧ BlobsIn w' (.slice A P.L.length cp) P.L ∧ Ext w w' := by
  obtain ⟨C, hC, hR⟩ := h
  refine (blobs_any w B c mb mn C P n hC hR hi hn).mono ?_
  rintro e w' ⟨v, rfl, hB, hE⟩
  obtain ⟨DV, h1, h2, h3⟩ := hB
  obtain ⟨A, cp, rfl⟩ := own_slc h2
  exact ⟨A, cp, rfl, ⟨DV, h1, h2, h3⟩, hE⟩
theorem cblob_some {n : Nat} (h : CatIn w B c mb mn P) (hi : PInv n P) (id : Nat) {b : Bl} (hb : P.find id = some b) :
    Calls Tryz.prog 92 #[.pointer (some ⟨c, 0, none⟩), .int .u64 (id : Int)] w fun e w' => ∃ A cp, e = .returned (.tuple #[.agg (blCells b (.slice A b.disks.length cp)), .bool true]) ∧ w'.ownsRow 0 3 1 (.slice A b.disks.length cp) b.disks.length (b.disks.map (Value.int .i64)) ∧ Ext w w' := by
  obtain ⟨C, hC, hR⟩ := h
  have hf := hR.find hi id
  rw [hb] at hf
  cases hc : C.find id with
  | none => rw [hc] at hf; cases hf
  | some r =>
    rw [hc] at hf
    injection hf with hf
    subst hf
    have hm := (pfind_some hi.asc).1 hb
    have hl := rises_len (hi.bl r.b hm.1).rises
    refine (blob_some w B c mb mn C hC id hc (by omega)).mono ?_
    rintro e w' ⟨dv', rfl, hO, hE⟩
    obtain ⟨A, cp, rfl⟩ := own_slc hO
    exact ⟨A, cp, rfl, hO, hE⟩
theorem cblob_none {n : Nat} (h : CatIn w B c mb mn P) (hi : PInv n P) (id : Nat) (hb : P.find id = none) :
    Calls Tryz.prog 92 #[.pointer (some ⟨c, 0, none⟩), .int .u64 (id : Int)] w fun e w' => e = .returned (.tuple #[.agg blZero, .bool false]) ∧ Ext w w' := by
  obtain ⟨C, hC, hR⟩ := h
  have hf := hR.find hi id
  rw [hb] at hf
  cases hc : C.find id with
  | some r => rw [hc] at hf; cases hf
  | none => exact blob_none w B c mb mn C hC id hc
end
end Go.Proofs.YtimjipcplmnpbaaGreat
