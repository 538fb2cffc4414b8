/-
  Layer 13: walks of readBlob and of rising.
-/
import Derived.Test.YtimjipcplmnpbaaGreatCatEnc
import Derived.Test.YtimjipcplmnpbaaGreatDec
import Derived.Test.YtimjipcplmnpbaaGreatCatLvC
namespace Go.Proofs.YtimjipcplmnpbaaGreat
open Go.RowKit Go.Sort

theorem riseB_adj : ∀ l : List Int, riseB l = true ↔ ∀ i, i + 1 < l.length → l.getD i 0 < l.getD (i + 1) 0
  | [] => ⟨fun _ i h => by simp at h, fun _ => rfl⟩
  | [a] => ⟨fun _ i h => by simp at h, fun _ => rfl⟩
  | a :: b :: r => by
    unfold riseB
    rw [Bool.and_eq_true, riseB_adj (b :: r), decide_eq_true_eq]
    constructor
    · rintro ⟨h1, h2⟩ i hi
      cases i with
      | zero => exact h1
      | succ i => exact h2 i (by simpa using hi)
    · intro h
      exact ⟨h 0 (by simp), fun i hi => h (i + 1) (by simpa using hi)⟩
set_option maxRecDepth 100000 in
theorem rising_any (w : World) (v : Value) (l : List Int) (hS : Sl w v (l.map (Value.int .i64))) (hl : l.length ≤ 1048576) :
    Calls Tryz.prog 111 #[v] w fun e w' => e = .returned (.bool (riseB l)) ∧ Ext w w' := by
  obtain ⟨A, c, rfl, hx⟩ := hS
  rw [List.length_map]
  go_enter Tryz.func111, Tryz.ntmps111
  go_wp2_with fail
  go_loopw [3] (fun kv wr => ∃ k : Nat, kv = .int .i64 (k : Int) ∧ 1 ≤ k ∧ (k = 1 ∨ k ≤ l.length) ∧ (∀ i, i + 1 < k → l.getD i 0 < l.getD (i + 1) 0) ∧ Ext w wr) (fun kv _ => l.length + 1 - (intOf kv).toNat)
  case atStart => exact ⟨1, rfl, Nat.le_refl _, .inl rfl, fun i h => by omega, Ext.refl w⟩
  case round =>
    obtain ⟨k, rfl, hk1, hk2, hk, hE⟩ := hrel
    by_cases hlt : k < l.length
    · obtain ⟨b, o, rfl, hcell⟩ := hx (by intro e; rw [List.map_eq_nil_iff] at e; subst e; simp at hlt)
      obtain ⟨x, hxx⟩ : ∃ x, l[k]? = some x := ⟨_, List.getElem?_eq_getElem hlt⟩
      obtain ⟨y, hyy⟩ : ∃ y, l[k - 1]? = some y := ⟨_, List.getElem?_eq_getElem (by omega)⟩
      have r0 := hcell k (.int .i64 x) (by rw [List.getElem?_map, hxx]; rfl)
      have r1 := hcell (k - 1) (.int .i64 y) (by rw [List.getElem?_map, hyy]; rfl)
      have hb : b < w.heap.size := cell_lt r0
      have q0 : wr.drew.cell? ⟨b, o + k, none⟩ = some (.int .i64 x) := (hE.drew.cell (p := ⟨b, o + k, none⟩) hb).trans r0
      have q1 : wr.drew.cell? ⟨b, o + (k - 1), none⟩ = some (.int .i64 y) := (hE.drew.cell (p := ⟨b, o + (k - 1), none⟩) hb).trans r1
      have ex : l.getD k 0 = x := by rw [List.getD_eq_getElem?_getD, hxx]; rfl
      have ey : l.getD (k - 1) 0 = y := by rw [List.getD_eq_getElem?_getD, hyy]; rfl
      have hk0 : ((k : Int) - 1).toNat = k - 1 := by omega
      have hk1' : (0 : Int) ≤ (k : Int) - 1 := by omega
      have hk2' : (k : Int) - 1 < (l.length : Int) := by omega
      have hkl : (k : Int) < (l.length : Int) := by omega
      have hw : IntKind.i64.wrap ((k : Int) - 1) = (k : Int) - 1 := IntWalk.i64_in _ (by omega)
      clear hx hcell r0 r1
      go_upto_region 4 with fail
      go_region
      by_cases hxy : x ≤ y
      · go_wp2_with fail
        go_ret
        refine ⟨?_, hE.drew⟩
        have : riseB l = false := by
          cases h : riseB l
          · rfl
          · have := (riseB_adj l).1 h (k - 1) (by omega)
            rw [show k - 1 + 1 = k by omega, ex, ey] at this
            omega
        rw [this]; rfl
      · go_wp2_with fail
        go_roundw
        case rel =>
          refine ⟨k + 1, by go_num, by omega, .inr (by omega), fun i hi => ?_, hE.drew⟩
          by_cases e : i + 1 < k
          · exact hk i e
          · have : i = k - 1 := by omega
            subst this
            rw [show k - 1 + 1 = k by omega, ex, ey]; omega
        case measure => simp [intOf]; omega
    · go_wp2_with fail
      go_ret
      refine ⟨?_, hE⟩
      rw [(riseB_adj l).2 fun i hi => hk i (by omega)]; rfl

theorem own_low {w : World} {b b' : Nat} {e : TypeId} {size : Nat} {v : Value} {n : Nat} {xs : List Value} (h : w.ownsRow b e size v n xs) (hb : b' ≤ b) : w.ownsRow b' e size v n xs := by
  obtain ⟨h1, h2⟩ := h
  refine ⟨h1, ?_⟩
  rcases h2 with h2 | ⟨g, cap, cur, h3, h4, h5⟩
  · exact .inl h2
  · exact .inr ⟨g, cap, cur, h3, Nat.le_trans hb h4, h5⟩
/-- a blob that is being read -/
structure Rst (w0 w : World) (dB : Nat) (s : ByteArray) (d : Dc) (g : Nat) (b : Bl) (dv : Value) : Prop where
  chg : Chg (· = dB) w0 w
  dec : DecAt w dB s d
  at_ : At w g 108 (blCells b dv)
  own : w.ownsRow w0.heap.size 3 1 dv b.disks.length (b.disks.map (Value.int .i64))
  new : w0.heap.size ≤ g
theorem DecAt.apart {w : World} {b : Nat} {s : ByteArray} {d : Dc} (h : DecAt w b s d) {g : Nat} {t : TypeId} {cs : Array Value} (hA : At w g t cs) (ht : 142 ≠ t) : b ≠ g := by
  obtain ⟨_, _, _, k, _, _, h6⟩ := h
  exact At.ne h6 hA ht
theorem DecAt.ownApart {w : World} {b : Nat} {s : ByteArray} {d : Dc} (h : DecAt w b s d) {base size n : Nat} {t : TypeId} {v : Value} {xs : List Value} (hO : w.ownsRow base t size v n xs) (ht : t ≠ 142) : ∀ k, some k = v.ownBlock → k ≠ b := by
  obtain ⟨_, _, _, k, _, _, h6⟩ := h
  exact own_apart' hO h6 ht
section
variable {w0 w w' : World} {dB g : Nat} {s : ByteArray} {d d' : Dc} {b b' : Bl} {dv dv' : Value}
theorem Rst.call (h : Rst w0 w dB s d g b dv) (hT : DecTo w w' dB s d') : Rst w0 w' dB s d' g b dv :=
  ⟨h.chg.trans hT.1 (fun _ _ e => e), hT.2, h.at_.chg hT.1 (fun e => h.dec.apart h.at_ (by decide) e.symm), own_keep h.own hT.1 (h.dec.ownApart h.own (by decide)), h.new⟩
theorem Rst.ext (h : Rst w0 w dB s d g b dv) (hE : Ext w w') : Rst w0 w' dB s d g b dv :=
  ⟨Chg.trans h.chg hE (fun _ _ e => e.elim), h.dec.chg hE (fun e => e), h.at_.ext hE, own_keep h.own hE (fun _ _ hh => hh), h.new⟩
theorem Rst.set (h : Rst w0 w dB s d g b dv) (k : Nat) (v : Value) (he : (blCells b dv).setIfInBounds k v = blCells b' dv') (hO : w.ownsRow w0.heap.size 3 1 dv' b'.disks.length (b'.disks.map (Value.int .i64))) :
    Rst w0 (w.setCell ⟨g, k, none⟩ v) dB s d g b' dv' := by
  have hA := h.at_.set k v
  rw [he] at hA
  have hc : Chg (· = g) w (w.setCell ⟨g, k, none⟩ v) := Chg.setCell (p := ⟨g, k, none⟩) (Chg.refl (· = g) w) (.inl rfl) v
  exact ⟨Chg.setCell h.chg (.inr h.new) v, h.dec.chg hc (fun e => h.dec.apart h.at_ (by decide) e), hA, own_keep hO hc (own_apart' hO h.at_ (by decide)), h.new⟩
end
/-- what readBlob leaves -/
def RdOut (w : World) (dB : Nat) (s : ByteArray) (d : Dc) (e : Ending) (w' : World) : Prop :=
  ∃ (g : Nat) (dv : Value), e = .returned (.pointer (some ⟨g, 0, none⟩)) ∧ Rst w w' dB s (rdB d).pn.2 g (rdB d).bl dv
theorem rd_all {d : Dc} {id : Nat × Dc} {nm : List UInt8 × Dc} {lv : Bool × Dc} {sz su : Nat × Dc} {dk : List Int × Dc} {a b : Cp × Dc} {pn : Nat × Dc} (h1 : d.u = id) (h2 : id.2.s 32 = nm) (h3 : nm.2.b = lv) (h4 : lv.2.i 4000 = sz) (h5 : sz.2.u = su)
    (h6 : (sumF su).list 6 5 = dk) (h7 : rdCp 0 (disF dk) = a) (h8 : rdCp 1 a.2 = b) (h9 : b.2.i 1073741824 = pn) : rdB d = ⟨id, nm, lv, sz, su, dk, a, b, pn⟩ := by
  subst h1 h2 h3 h4 h5 h6 h7 h8 h9; rfl
/-- the decoder behind a copy, and the copy -/
def cpFail (p : Int) (t : Bool) (v a : Nat) (d : Dc) : Dc := if ((t && !decide ((v : Int) % 2 = p)) || (!t && (!decide (v = 0) || !decide (a = 0)))) = true then d.fail 3 else d
theorem rdCp_all {p : Int} {d : Dc} {t : Bool × Dc} {v a : Nat × Dc} (h1 : d.b = t) (h2 : t.2.i 11 = v) (h3 : v.2.i 1073741824 = a) : rdCp p d = (⟨t.1, v.1, a.1⟩, cpFail p t.1 v.1 a.1 a.2) := by
  subst h1 h2 h3; rfl
theorem dk_len {d : Dc} : ((d.list 6 5).1).length ≤ 6 := by
  have : ∀ (n : Nat) (d : Dc), ((listLoop 5 n d).1.getD []).length ≤ n := fun n => by
    induction n with
    | zero => intro d; simp [listLoop]
    | succ n ih =>
      intro d
      unfold listLoop
      split
      · split
        · simp
        · rename_i l e hl
          have := ih (d.i 5).2
          rw [hl] at this
          simpa using this
      · simp
  have h2 : ((d.i 6).1 : Int) ≤ 6 := by
    unfold Dc.i
    split
    · show (0 : Int) ≤ 6
      decide
    · rename_i h
      have : max (6 : Int) 0 = 6 := by decide
      omega
  have h3 := this (d.i 6).1 (d.i 6).2
  unfold Dc.list
  simp only
  omega
theorem di_le (d : Dc) (m : Int) (hm : 0 ≤ m) : ((d.i m).1 : Int) ≤ m := by
  unfold Dc.i
  rw [Int.max_eq_left hm]
  split
  · exact hm
  · omega
set_option maxRecDepth 100000 in
set_option maxHeartbeats 8000000 in
theorem readBlob_any (w : World) (dB : Nat) (s : ByteArray) (d : Dc) (h : DecAt w dB s d) :
    Calls Tryz.prog 78 #[.pointer (some ⟨dB, 0, none⟩)] w (RdOut w dB s d) := by
  go_enter Tryz.func78, Tryz.ntmps78
  go_upto_region 2 with fail
  have h0 : Rst w (w.alloc (.cells #[.int .u64 0, .string ⟨#[]⟩, .int .i64 0, .int .u32 0, .slice none 0 0, .bool false, .int .i64 0, .int .i64 0, .bool false, .int .i64 0, .int .i64 0, .int .i64 0, .bool false] 108)) dB s d w.heap.size ⟨0, ⟨#[]⟩, 0, 0, [], Cp.none, Cp.none, 0, false⟩ (.slice none 0 0) := ⟨(Chg.refl _ w).alloc _, h.alloc _, At.new w _ _, own_nil _ _ _, Nat.le_refl _⟩
  clear h
  generalize w.heap.size = g at h0 ⊢
  generalize w.alloc (.cells #[.int .u64 0, .string ⟨#[]⟩, .int .i64 0, .int .u32 0, .slice none 0 0, .bool false, .int .i64 0, .int .i64 0, .bool false, .int .i64 0, .int .i64 0, .int .i64 0, .bool false] 108) = W at *
  go_wp2_with fail
  refine (du_any _ dB s _ h0.dec).mono ?_
  rintro e w1 ⟨rfl, hT⟩
  have h1 := h0.call hT
  generalize hv : d.u = idd at h1 ⊢
  have Hidd := Lib.hid hv
  clear h0 hT hv
  have c0 := h1.at_.cell 0
  have f0 := h1.at_.frozen 0
  simp at c0
  go_wp2_with fail
  have h0 := h1.set (b' := ⟨idd.1, ⟨#[]⟩, 0, 0, [], Cp.none, Cp.none, 0, false⟩) (dv' := (.slice none 0 0)) 0 (.int .u64 (idd.1 : Int)) rfl h1.own
  generalize World.setCell _ _ _ = W at h0 ⊢
  clear h1 c0 f0
  refine (ds_any _ dB s _ h0.dec 32 (by decide) (by decide)).mono ?_
  rintro e w1 ⟨rfl, hT⟩
  have h1 := h0.call hT
  generalize hv : idd.2.s 32 = nm at h1 ⊢
  have Hnm := Lib.hid hv
  clear h0 hT hv
  have c0 := h1.at_.cell 1
  have f0 := h1.at_.frozen 1
  simp at c0
  go_wp2_with fail
  have h0 := h1.set (b' := ⟨idd.1, ⟨nm.1.toArray⟩, 0, 0, [], Cp.none, Cp.none, 0, false⟩) (dv' := (.slice none 0 0)) 1 (.string ⟨nm.1.toArray⟩) rfl h1.own
  generalize World.setCell _ _ _ = W at h0 ⊢
  clear h1 c0 f0
  refine (db_any _ dB s _ h0.dec).mono ?_
  rintro e w1 ⟨rfl, hT⟩
  have h1 := h0.call hT
  generalize hv : nm.2.b = lv at h1 ⊢
  have Hlv := Lib.hid hv
  clear h0 hT hv
  have c0 := h1.at_.cell 12
  have f0 := h1.at_.frozen 12
  simp at c0
  go_wp2_with fail
  have h0 := h1.set (b' := ⟨idd.1, ⟨nm.1.toArray⟩, 0, 0, [], Cp.none, Cp.none, 0, !lv.1⟩) (dv' := (.slice none 0 0)) 12 (.bool (!lv.1)) rfl h1.own
  generalize World.setCell _ _ _ = W at h0 ⊢
  clear h1 c0 f0
  refine (di_any _ dB s _ h0.dec 4000 (by decide) (by decide)).mono ?_
  rintro e w1 ⟨rfl, hT⟩
  have h1 := h0.call hT
  generalize hv : lv.2.i 4000 = sz at h1 ⊢
  have Hsz := Lib.hid hv
  clear h0 hT hv
  have c0 := h1.at_.cell 2
  have f0 := h1.at_.frozen 2
  simp at c0
  go_wp2_with fail
  have h0 := h1.set (b' := ⟨idd.1, ⟨nm.1.toArray⟩, sz.1, 0, [], Cp.none, Cp.none, 0, !lv.1⟩) (dv' := (.slice none 0 0)) 2 (.int .i64 (sz.1 : Int)) rfl h1.own
  generalize World.setCell _ _ _ = W at h0 ⊢
  clear h1 c0 f0
  refine (du_any _ dB s _ h0.dec).mono ?_
  rintro e w1 ⟨rfl, hT⟩
  have h1 := h0.call hT
  generalize hv : sz.2.u = su at h1 ⊢
  have Hsu := Lib.hid hv
  clear h0 hT hv
  go_upto_if 33 with fail
  go_cut [] from 32 to 35 (fun wx => Rst w wx dB s (sumF su) g ⟨idd.1, ⟨nm.1.toArray⟩, sz.1, 0, [], Cp.none, Cp.none, 0, !lv.1⟩ (.slice none 0 0))
  case first =>
    by_cases hs : su.1 ≤ 4294967295
    · have e1 : sumF su = su.2 := by
        unfold sumF
        rw [if_neg]
        simp; omega
      have hs2 : ¬ (4294967295 : Int) < (su.1 : Int) := by omega
      go_wp2_with fail
      go_meet
      case rel => rw [e1]; exact h1
    · have e1 : sumF su = su.2.fail 3 := by
        unfold sumF
        rw [if_pos]
        simp; omega
      have hs2 : (4294967295 : Int) < (su.1 : Int) := by omega
      go_wp2_with fail
      refine (dfail_any _ dB s _ h1.dec 3 (by decide)).mono ?_
      rintro e w2 ⟨rfl, hT⟩
      have h2 := h1.call hT
      go_wp2_with fail
      go_meet
      case rel => rw [e1]; exact h2
  case rest =>
  clear h1
  rename_i wc
  have h1 := hcut
  clear hcut
  have hw : IntKind.u32.wrap (su.1 : Int) = ((su.1 % 4294967296 : Nat) : Int) := by simp [IntKind.wrap, IntKind.bits, IntKind.signed]
  have c0 := h1.at_.cell 3
  have f0 := h1.at_.frozen 3
  simp at c0
  go_wp2_with fail
  have h0 := h1.set (b' := ⟨idd.1, ⟨nm.1.toArray⟩, sz.1, su.1 % 4294967296, [], Cp.none, Cp.none, 0, !lv.1⟩) (dv' := (.slice none 0 0)) 3 (.int .u32 ((su.1 : Int) % 4294967296)) rfl h1.own
  generalize World.setCell _ _ _ = W at h0 ⊢
  clear h1 c0 f0
  clear hw
  refine (dlist_any _ dB s _ h0.dec 6 5 (by decide) (by decide) (by decide) (by decide)).mono ?_
  rintro e w1 ⟨v, rfl, hO, _, hT⟩
  have hlen := dk_len (d := sumF su)
  have hO := own_low hO h0.chg.size
  have h1 := h0.call hT
  generalize hv : (sumF su).list 6 5 = dk at h1 hO hlen ⊢
  have Hdk := Lib.hid hv
  obtain ⟨dA, dc, rfl⟩ := own_slc hO
  clear h0 hT hv
  have c0 := h1.at_.cell 4
  have f0 := h1.at_.frozen 4
  simp at c0
  go_upto_region 11 with fail
  have h0 := h1.set (b' := ⟨idd.1, ⟨nm.1.toArray⟩, sz.1, su.1 % 4294967296, dk.1, Cp.none, Cp.none, 0, !lv.1⟩) (dv' := (.slice dA dk.1.length dc)) 4 (.slice dA dk.1.length dc) rfl hO
  generalize World.setCell _ _ _ = W at h0 ⊢
  clear h1 c0 f0
  clear hO
  have c4 := h0.at_.cell 4
  simp at c4
  go_wp2_with fail
  refine (rising_any _ _ dk.1 (own_sl h0.own) (by omega)).mono ?_
  rintro e w1 ⟨rfl, hE⟩
  have h1 := h0.ext hE
  clear h0 hE c4 hlen
  go_upto_if 51 with fail
  go_cut [] from 50 to 53 (fun wx => Rst w wx dB s (disF dk) g ⟨idd.1, ⟨nm.1.toArray⟩, sz.1, su.1 % 4294967296, dk.1, Cp.none, Cp.none, 0, !lv.1⟩ (.slice dA dk.1.length dc))
  case first =>
    cases hs : riseB dk.1
    · have e1 : disF dk = dk.2.fail 3 := by
        unfold disF
        rw [hs]; rfl
      go_wp2_with fail
      refine (dfail_any _ dB s _ h1.dec 3 (by decide)).mono ?_
      rintro e w2 ⟨rfl, hT⟩
      have h2 := h1.call hT
      go_wp2_with fail
      go_meet
      case rel => rw [e1]; exact h2
    · have e1 : disF dk = dk.2 := by
        unfold disF
        rw [hs]; rfl
      go_wp2_with fail
      go_meet
      case rel => rw [e1]; exact h1
  case rest =>
  clear h1
  have h1 := hcut
  clear hcut
  go_wp2_with fail
  generalize hda : rdCp 0 (disF dk) = ra
  generalize hdb : rdCp 1 ra.2 = rb
  have Hra := Lib.hid hda
  have Hrb := Lib.hid hdb
  clear hda hdb
  go_loopw [54] (fun jv wr => ∃ j : Nat, jv = .int .i64 (j : Int) ∧ j ≤ 2 ∧ (j = 0 → Rst w wr dB s (disF dk) g ⟨idd.1, ⟨nm.1.toArray⟩, sz.1, su.1 % 4294967296, dk.1, Cp.none, Cp.none, 0, !lv.1⟩ (.slice dA dk.1.length dc)) ∧ (j = 1 → Rst w wr dB s ra.2 g ⟨idd.1, ⟨nm.1.toArray⟩, sz.1, su.1 % 4294967296, dk.1, ra.1, Cp.none, 0, !lv.1⟩ (.slice dA dk.1.length dc)) ∧ (j = 2 → Rst w wr dB s rb.2 g ⟨idd.1, ⟨nm.1.toArray⟩, sz.1, su.1 % 4294967296, dk.1, ra.1, rb.1, 0, !lv.1⟩ (.slice dA dk.1.length dc))) (fun jv _ => 2 - (intOf jv).toNat)
  case atStart => exact ⟨0, rfl, by omega, fun _ => h1, fun e => by omega, fun e => by omega⟩
  case round =>
    clear h1
    obtain ⟨j, rfl, hj, k0, k1, k2⟩ := hrel
    have hj3 : j = 0 ∨ j = 1 ∨ j = 2 := by omega
    rcases hj3 with rfl | rfl | rfl
    · have h0 := k0 rfl
      clear k0 k1 k2
      go_upto_region 17 with fail
      go_wp2_with fail
      refine (db_any _ dB s _ h0.dec).mono ?_
      rintro e w1 ⟨rfl, hT⟩
      have h1 := h0.call hT
      generalize hv : (disF dk).b = tb at h1 ⊢
      have Htb := Lib.hid hv
      have c0 := h1.at_.cell 5
      have f0 := h1.at_.frozen 5
      simp at c0
      clear h0 hT hv
      go_wp2_with fail
      have h0 := h1.set (b' := ⟨idd.1, ⟨nm.1.toArray⟩, sz.1, su.1 % 4294967296, dk.1, ⟨tb.1, 0, 0⟩, Cp.none, 0, !lv.1⟩) (dv' := (.slice dA dk.1.length dc)) 5 (.bool tb.1) rfl h1.own
      generalize World.setCell _ _ _ = W at h0 ⊢
      clear h1 c0 f0
      refine (di_any _ dB s _ h0.dec 11 (by decide) (by decide)).mono ?_
      rintro e w1 ⟨rfl, hT⟩
      have h1 := h0.call hT
      have hvl := di_le tb.2 11 (by decide)
      generalize hv : (tb.2).i 11 = vb at h1 hvl ⊢
      have Hvb := Lib.hid hv
      have c0 := h1.at_.cell 6
      have f0 := h1.at_.frozen 6
      simp at c0
      clear h0 hT hv
      go_wp2_with fail
      have h0 := h1.set (b' := ⟨idd.1, ⟨nm.1.toArray⟩, sz.1, su.1 % 4294967296, dk.1, ⟨tb.1, vb.1, 0⟩, Cp.none, 0, !lv.1⟩) (dv' := (.slice dA dk.1.length dc)) 6 (.int .i64 (vb.1 : Int)) rfl h1.own
      generalize World.setCell _ _ _ = W at h0 ⊢
      clear h1 c0 f0
      refine (di_any _ dB s _ h0.dec 1073741824 (by decide) (by decide)).mono ?_
      rintro e w1 ⟨rfl, hT⟩
      have h1 := h0.call hT
      generalize hv : (vb.2).i 1073741824 = ab at h1 ⊢
      have Hab := Lib.hid hv
      have c0 := h1.at_.cell 7
      have f0 := h1.at_.frozen 7
      simp at c0
      clear h0 hT hv
      go_upto_region 20 with fail
      have h0 := h1.set (b' := ⟨idd.1, ⟨nm.1.toArray⟩, sz.1, su.1 % 4294967296, dk.1, ⟨tb.1, vb.1, ab.1⟩, Cp.none, 0, !lv.1⟩) (dv' := (.slice dA dk.1.length dc)) 7 (.int .i64 (ab.1 : Int)) rfl h1.own
      generalize World.setCell _ _ _ = W at h0 ⊢
      clear h1 c0 f0
      have Hr : Hid (ra = (⟨tb.1, vb.1, ab.1⟩, cpFail 0 tb.1 vb.1 ab.1 ab.2)) := Lib.hid (by rw [← Hra.out]; exact rdCp_all Htb.out Hvb.out Hab.out)
      clear Hra Htb Hvb Hab
      have d0 := h0.at_.cell 5
      have d1 := h0.at_.cell 6
      have d2 := h0.at_.cell 7
      simp at d0 d1 d2
      have hpv : vb.1 ≤ 11 := by omega
      have HP := Lib.hid (fun X => pool_any X vb.1 (by omega))
      obtain ⟨fb, hfb⟩ : ∃ fb : Bool, fb = ((tb.1 && !decide ((vb.1 : Int) % 2 = 0)) || (!tb.1 && (!decide (vb.1 = 0) || !decide (ab.1 = 0)))) := ⟨_, rfl⟩
      have HFB := Lib.hid hfb
      obtain ⟨wo, hwo⟩ : ∃ wo : World, wo = W := ⟨_, rfl⟩
      go_cut [110] from 77 to 110 (fun tv wx => tv = .bool fb ∧ wx = wo)
      case first =>
        clear h0
        rcases (Bool.eq_false_or_eq_true tb.1).symm with ht | ht
        · rw [ht] at d0 hfb
          clear ht
          by_cases hv0 : vb.1 = 0
          · rw [hv0] at d1 hfb
            clear hv0 hvl hpv
            by_cases ha0 : ab.1 = 0
            · rw [ha0] at d2 hfb
              simp at hfb
              subst hfb
              clear HFB HP ha0
              go_wp2_with fail
              go_meet
              case rel => exact ⟨rfl, hwo.symm⟩
            · have ha1 : ((ab.1 : Int) == 0) = false := by rw [beq_eq_false_iff_ne]; omega
              simp [ha0] at hfb
              subst hfb
              clear HFB HP
              go_wp2_with fail
              go_meet
              case rel => exact ⟨by first | rfl | (simp; omega), hwo.symm⟩
          · have hv1 : ((vb.1 : Int) == 0) = false := by rw [beq_eq_false_iff_ne]; omega
            simp [hv0] at hfb
            subst hfb
            clear HFB HP
            go_wp2_with fail
            go_meet
            case rel => exact ⟨by first | rfl | (simp; omega), hwo.symm⟩
        · rw [ht] at d0 hfb
          clear ht
          simp only [Bool.true_and, Bool.not_true, Bool.false_and, Bool.or_false] at hfb
          go_wp2_with fail
          refine (HP.out _).mono ?_
          rintro e w2 ⟨rfl, hw2⟩
          subst hw2
          clear HFB HP
          have hm : vb.1 % 2 = 0 ∨ vb.1 % 2 = 1 := by omega
          rcases hm with hm | hm
          · have hfb2 : fb = false := by rw [hfb]; simp; omega
            subst hfb2
            rw [hm]
            clear hfb hm
            go_wp2_with fail
            go_meet
            case rel => exact ⟨by first | rfl | (simp <;> omega), hwo.symm⟩
          · have hfb2 : fb = true := by rw [hfb]; simp; omega
            subst hfb2
            rw [hm]
            clear hfb hm
            go_wp2_with fail
            go_meet
            case rel => exact ⟨by first | rfl | (simp <;> omega), hwo.symm⟩
      case rest =>
        obtain ⟨rfl, hwc⟩ := hcut
        subst hwc
        subst hwo
        clear HP d0 d1 d2 hfb
        cases fb
        · have e1 : cpFail 0 tb.1 vb.1 ab.1 ab.2 = ab.2 := by unfold cpFail; rw [← HFB.out]; rfl
          have e2 : ra = (⟨tb.1, vb.1, ab.1⟩, ab.2) := by rw [Hr.out, e1]
          clear HFB e1
          subst e2
          go_wp2_with fail
          go_roundw
          case rel => exact ⟨0+1, by go_num, by omega, fun e => by omega, fun _ => h0, fun e => by omega⟩
          case measure => simp [intOf]
        · have e1 : cpFail 0 tb.1 vb.1 ab.1 ab.2 = ab.2.fail 3 := by unfold cpFail; rw [← HFB.out]; rfl
          have e2 : ra = (⟨tb.1, vb.1, ab.1⟩, ab.2.fail 3) := by rw [Hr.out, e1]
          clear HFB e1
          subst e2
          go_wp2_with fail
          refine (dfail_any _ dB s _ h0.dec 3 (by decide)).mono ?_
          rintro e w2 ⟨rfl, hT⟩
          have h2 := h0.call hT
          clear h0 hT
          go_wp2_with fail
          go_roundw
          case rel => exact ⟨0+1, by go_num, by omega, fun e => by omega, fun _ => h2, fun e => by omega⟩
          case measure => simp [intOf]
    · have h0 := k1 rfl
      clear k0 k1 k2
      go_upto_region 17 with fail
      go_wp2_with fail
      refine (db_any _ dB s _ h0.dec).mono ?_
      rintro e w1 ⟨rfl, hT⟩
      have h1 := h0.call hT
      generalize hv : (ra.2).b = tb at h1 ⊢
      have Htb := Lib.hid hv
      have c0 := h1.at_.cell 8
      have f0 := h1.at_.frozen 8
      simp at c0
      clear h0 hT hv
      go_wp2_with fail
      have h0 := h1.set (b' := ⟨idd.1, ⟨nm.1.toArray⟩, sz.1, su.1 % 4294967296, dk.1, ra.1, ⟨tb.1, 0, 0⟩, 0, !lv.1⟩) (dv' := (.slice dA dk.1.length dc)) 8 (.bool tb.1) rfl h1.own
      generalize World.setCell _ _ _ = W at h0 ⊢
      clear h1 c0 f0
      refine (di_any _ dB s _ h0.dec 11 (by decide) (by decide)).mono ?_
      rintro e w1 ⟨rfl, hT⟩
      have h1 := h0.call hT
      have hvl := di_le tb.2 11 (by decide)
      generalize hv : (tb.2).i 11 = vb at h1 hvl ⊢
      have Hvb := Lib.hid hv
      have c0 := h1.at_.cell 9
      have f0 := h1.at_.frozen 9
      simp at c0
      clear h0 hT hv
      go_wp2_with fail
      have h0 := h1.set (b' := ⟨idd.1, ⟨nm.1.toArray⟩, sz.1, su.1 % 4294967296, dk.1, ra.1, ⟨tb.1, vb.1, 0⟩, 0, !lv.1⟩) (dv' := (.slice dA dk.1.length dc)) 9 (.int .i64 (vb.1 : Int)) rfl h1.own
      generalize World.setCell _ _ _ = W at h0 ⊢
      clear h1 c0 f0
      refine (di_any _ dB s _ h0.dec 1073741824 (by decide) (by decide)).mono ?_
      rintro e w1 ⟨rfl, hT⟩
      have h1 := h0.call hT
      generalize hv : (vb.2).i 1073741824 = ab at h1 ⊢
      have Hab := Lib.hid hv
      have c0 := h1.at_.cell 10
      have f0 := h1.at_.frozen 10
      simp at c0
      clear h0 hT hv
      go_upto_region 20 with fail
      have h0 := h1.set (b' := ⟨idd.1, ⟨nm.1.toArray⟩, sz.1, su.1 % 4294967296, dk.1, ra.1, ⟨tb.1, vb.1, ab.1⟩, 0, !lv.1⟩) (dv' := (.slice dA dk.1.length dc)) 10 (.int .i64 (ab.1 : Int)) rfl h1.own
      generalize World.setCell _ _ _ = W at h0 ⊢
      clear h1 c0 f0
      have Hr : Hid (rb = (⟨tb.1, vb.1, ab.1⟩, cpFail 1 tb.1 vb.1 ab.1 ab.2)) := Lib.hid (by rw [← Hrb.out]; exact rdCp_all Htb.out Hvb.out Hab.out)
      clear Hrb Htb Hvb Hab
      have d0 := h0.at_.cell 8
      have d1 := h0.at_.cell 9
      have d2 := h0.at_.cell 10
      simp at d0 d1 d2
      have hpv : vb.1 ≤ 11 := by omega
      have HP := Lib.hid (fun X => pool_any X vb.1 (by omega))
      obtain ⟨fb, hfb⟩ : ∃ fb : Bool, fb = ((tb.1 && !decide ((vb.1 : Int) % 2 = 1)) || (!tb.1 && (!decide (vb.1 = 0) || !decide (ab.1 = 0)))) := ⟨_, rfl⟩
      have HFB := Lib.hid hfb
      obtain ⟨wo, hwo⟩ : ∃ wo : World, wo = W := ⟨_, rfl⟩
      go_cut [110] from 77 to 110 (fun tv wx => tv = .bool fb ∧ wx = wo)
      case first =>
        clear h0
        rcases (Bool.eq_false_or_eq_true tb.1).symm with ht | ht
        · rw [ht] at d0 hfb
          clear ht
          by_cases hv0 : vb.1 = 0
          · rw [hv0] at d1 hfb
            clear hv0 hvl hpv
            by_cases ha0 : ab.1 = 0
            · rw [ha0] at d2 hfb
              simp at hfb
              subst hfb
              clear HFB HP ha0
              go_wp2_with fail
              go_meet
              case rel => exact ⟨rfl, hwo.symm⟩
            · have ha1 : ((ab.1 : Int) == 0) = false := by rw [beq_eq_false_iff_ne]; omega
              simp [ha0] at hfb
              subst hfb
              clear HFB HP
              go_wp2_with fail
              go_meet
              case rel => exact ⟨by first | rfl | (simp; omega), hwo.symm⟩
          · have hv1 : ((vb.1 : Int) == 0) = false := by rw [beq_eq_false_iff_ne]; omega
            simp [hv0] at hfb
            subst hfb
            clear HFB HP
            go_wp2_with fail
            go_meet
            case rel => exact ⟨by first | rfl | (simp; omega), hwo.symm⟩
        · rw [ht] at d0 hfb
          clear ht
          simp only [Bool.true_and, Bool.not_true, Bool.false_and, Bool.or_false] at hfb
          go_wp2_with fail
          refine (HP.out _).mono ?_
          rintro e w2 ⟨rfl, hw2⟩
          subst hw2
          clear HFB HP
          have hm : vb.1 % 2 = 1 ∨ vb.1 % 2 = 0 := by omega
          rcases hm with hm | hm
          · have hfb2 : fb = false := by rw [hfb]; simp; omega
            subst hfb2
            rw [hm]
            clear hfb hm
            go_wp2_with fail
            go_meet
            case rel => exact ⟨by first | rfl | (simp <;> omega), hwo.symm⟩
          · have hfb2 : fb = true := by rw [hfb]; simp; omega
            subst hfb2
            rw [hm]
            clear hfb hm
            go_wp2_with fail
            go_meet
            case rel => exact ⟨by first | rfl | (simp <;> omega), hwo.symm⟩
      case rest =>
        obtain ⟨rfl, hwc⟩ := hcut
        subst hwc
        subst hwo
        clear HP d0 d1 d2 hfb
        cases fb
        · have e1 : cpFail 1 tb.1 vb.1 ab.1 ab.2 = ab.2 := by unfold cpFail; rw [← HFB.out]; rfl
          have e2 : rb = (⟨tb.1, vb.1, ab.1⟩, ab.2) := by rw [Hr.out, e1]
          clear HFB e1
          subst e2
          go_wp2_with fail
          go_roundw
          case rel => exact ⟨1+1, by go_num, by omega, fun e => by omega, fun e => by omega, fun _ => h0⟩
          case measure => simp [intOf]
        · have e1 : cpFail 1 tb.1 vb.1 ab.1 ab.2 = ab.2.fail 3 := by unfold cpFail; rw [← HFB.out]; rfl
          have e2 : rb = (⟨tb.1, vb.1, ab.1⟩, ab.2.fail 3) := by rw [Hr.out, e1]
          clear HFB e1
          subst e2
          go_wp2_with fail
          refine (dfail_any _ dB s _ h0.dec 3 (by decide)).mono ?_
          rintro e w2 ⟨rfl, hT⟩
          have h2 := h0.call hT
          clear h0 hT
          go_wp2_with fail
          go_roundw
          case rel => exact ⟨1+1, by go_num, by omega, fun e => by omega, fun e => by omega, fun _ => h2⟩
          case measure => simp [intOf]
    · have h0 := k2 rfl
      clear k0 k1 k2
      go_wp2_with fail
      refine (di_any _ dB s _ h0.dec 1073741824 (by decide) (by decide)).mono ?_
      rintro e w1 ⟨rfl, hT⟩
      have h1 := h0.call hT
      generalize hv : (rb.2).i 1073741824 = pn at h1 ⊢
      have Hpn := Lib.hid hv
      have c0 := h1.at_.cell 11
      have f0 := h1.at_.frozen 11
      simp at c0
      clear h0 hT hv
      have h2 := h1.set (b' := ⟨idd.1, ⟨nm.1.toArray⟩, sz.1, su.1 % 4294967296, dk.1, ra.1, rb.1, pn.1, !lv.1⟩) (dv' := (.slice dA dk.1.length dc)) 11 (.int .i64 (pn.1 : Int)) rfl h1.own
      have hall := rd_all Hidd.out Hnm.out Hlv.out Hsz.out Hsu.out Hdk.out Hra.out Hrb.out Hpn.out
      have hfin : RdOut w dB s d (.returned (.pointer (some ⟨g, 0, none⟩))) (World.setCell w1 ⟨g, 11, none⟩ (.int .i64 (pn.1 : Int))) := ⟨g, (.slice dA dk.1.length dc), rfl, by rw [hall]; exact h2⟩
      have HF := Lib.hid hfin
      clear h1 h2 hall hfin
      go_wp2_with fail
      go_ret
      exact HF.out
end Go.Proofs.YtimjipcplmnpbaaGreat
