/-
  Part 16 of what the law leans on.
-/
import Derived.Test.YtiojjokfeknhcaaGreatSB3
import Derived.Test.YtiojjokfeknhcaaGreatSB6
import Derived.Test.YtiojjokfeknhcaaGreatSB7
import Derived.Test.YtiojjokfeknhcaaGreatSB8
import Derived.Test.YtiojjokfeknhcaaGreatSB13
import Derived.Test.YtiojjokfeknhcaaGreatSB15
set_option maxRecDepth 100000
set_option maxHeartbeats 16000000
set_option linter.unusedVariables false
set_option linter.unusedSimpArgs false
set_option linter.unusedSectionVars false
namespace Go.Proofs.YtiojjokfeknhcaaGreat
def mayV (P : Pm) (l : List Spot) (pool size not_ : Int) (i : Nat) : Bool := decide (((i : Int) % 2) = pool) && !decide ((i : Int) = not_) && (spotAt l i).fits size && !(P.vol i).closed
def volOf (P : Pm) (l : List Spot) (pool size not_ : Int) : Nat → Int
  | 0 => -1
  | n + 1 => if (mayV P l pool size not_ n && (decide (volOf P l pool size not_ n < 0) || decide ((spotAt l n).free < (spotAt l (volOf P l pool size not_ n).toNat).free))) = true then (n : Int) else volOf P l pool size not_ n
theorem volOf_range (P : Pm) (l : List Spot) (pool size not_ : Int) : ∀ n, -1 ≤ volOf P l pool size not_ n ∧ volOf P l pool size not_ n < n
  | 0 => by simp [volOf]
  | n + 1 => by
    have := volOf_range P l pool size not_ n
    unfold volOf
    split <;> constructor <;> omega
def goneOf (P : Pm) (l : List Spot) (items : List Int) (i : Nat) : Int :=
  if (decide (i < items.length) && decide (0 < items.getD i 0) && (spotAt l i).up && (P.vol i).closed && !(P.vol i).erase && decide ((P.onVol i).length ≠ 0)) = true then (items.getD i 0 - ((P.onVol i).length : Int)) * 100 / items.getD i 0 else 0
def sparseOf (P : Pm) (l : List Spot) (items : List Int) (percent : Int) : Nat → Int × Int
  | 0 => (-1, 0)
  | n + 1 => if (decide ((sparseOf P l items percent n).2 < goneOf P l items n) && decide (percent ≤ goneOf P l items n)) = true then ((n : Int), goneOf P l items n) else sparseOf P l items percent n
theorem sparseOf_nn (P : Pm) (l : List Spot) (items : List Int) (percent : Int) : ∀ n, 0 ≤ (sparseOf P l items percent n).2
  | 0 => Int.le_refl _
  | n + 1 => by
    have := sparseOf_nn P l items percent n
    unfold sparseOf
    split
    · rename_i h
      rw [Bool.and_eq_true, decide_eq_true_eq] at h
      have := h.1
      show 0 ≤ goneOf P l items n
      omega
    · exact this
end Go.Proofs.YtiojjokfeknhcaaGreat
namespace Go.Proofs.YtiojjokfeknhcaaGreat
structure Wd where
  disks : List Spot
  vols : List Spot
  items : List Int
  lostD : List Bool
  lostV : List Bool
  copies : Int
  keep : Int
  percent : Int
  reserve : Int
structure Wd.Ok (W : Wd) : Prop where
  d : W.disks.length ≤ 6
  v : W.vols.length ≤ 12
  i : W.items.length ≤ 12
  ir : ∀ x ∈ W.items, 0 ≤ x ∧ x ≤ 1000000
  ld : W.lostD.length ≤ 6
  lv : W.lostV.length ≤ 12
  c : 0 ≤ W.copies ∧ W.copies ≤ 6
  k : 0 ≤ W.keep ∧ W.keep ≤ 100
structure Jb where
  kind : Int
  blob : Nat
  pool : Int
  vol : Int
deriving DecidableEq
def lostOf (l : List Bool) (n : Int) : Bool := l.getD n.toNat false
def goodOf (W : Wd) (b : Bl) : List Int := b.disks.filter fun d => !lostOf W.lostD d
def Bl.copy (b : Bl) (pool : Nat) : Cp := if pool = 1 then b.b else b.a
def soundC (W : Wd) (x : Cp) : Bool := x.there && !lostOf W.lostV x.vol
def furB (W : Wd) (b : Bl) : Bool := decide (((goodOf W b).length : Int) < W.copies) && (List.range W.disks.length).any (fun i => mayB W.disks b.size (goodOf W b) i)
def weightOf (n : Int) : Int := max n 0 + 76 * ((max n 1 - 1) / 200 + 1) + 4
def jRepair (W : Wd) (L : List Bl) : List Jb := (L.filter fun b => !(b.dead || decide (b.disks.length = 0)) && furB W b).map fun b => ⟨1, b.id, 0, -1⟩
def jVol (k : Int) (n : Nat) (f : Nat → Bool) : List Jb := ((List.range n).filter f).map fun (v : Nat) => ⟨k, 0, 0, (v : Int)⟩
def wipeB (W : Wd) (P : Pm) (v : Nat) : Bool := (spotAt W.vols v).up && (P.vol v).erase
def closeB (W : Wd) (P : Pm) (v : Nat) : Bool := (spotAt W.vols v).up && !(P.vol v).closed && !(P.vol v).erase && decide ((spotAt W.vols v).free < W.reserve)
def eraseB (W : Wd) (P : Pm) (v : Nat) : Bool := (spotAt W.vols v).up && (P.vol v).closed && !(P.vol v).erase && decide (0 < W.items.getD v 0) && decide ((P.onVol v).length = 0)
def jPools (k : Int) (f : Bl → Nat → Bool) (b : Bl) : List Jb := (([0, 1] : List Nat).filter (f b)).map fun (p : Nat) => ⟨k, b.id, (p : Int), -1⟩
def tapeB (W : Wd) (P : Pm) (b : Bl) (p : Nat) : Bool := !b.dead && !(b.copy p).there && decide (0 ≤ volOf P W.vols p (weightOf b.size) (-1) W.vols.length)
def untapeB (W : Wd) (b : Bl) (p : Nat) : Bool := !b.dead && ((b.copy p).there && !soundC W (b.copy p)) && (decide (0 < (goodOf W b).length) || soundC W (b.copy (1 - p)))
def freeB (W : Wd) (b : Bl) : Bool := decide (0 < b.disks.length) && soundC W b.a && soundC W b.b
def moreOf (W : Wd) (L : List Bl) : Int := ((L.filter fun b => decide (0 < b.disks.length)).length : Int) - W.keep
def jFree (W : Wd) (L : List Bl) : List Jb := ((L.filter (freeB W)).take (moreOf W L).toNat).map fun b => ⟨4, b.id, 0, -1⟩
def jForget (L : List Bl) : List Jb := (L.filter fun b => b.dead && decide (b.pins = 0)).map fun b => ⟨5, b.id, 0, -1⟩
def spVol (W : Wd) (P : Pm) : Int := (sparseOf P W.vols W.items W.percent W.vols.length).1
def retapeB (W : Wd) (P : Pm) (vol : Int) (b : Bl) : Bool := !(b.dead || !(b.copy (vol % 2).toNat).there || decide ((b.copy (vol % 2).toNat).vol ≠ vol)) && decide (0 ≤ volOf P W.vols (vol % 2) (weightOf b.size) vol W.vols.length)
def jRetape (W : Wd) (P : Pm) : List Jb := if spVol W P < 0 then [] else (P.L.filter (retapeB W P (spVol W P))).map fun b => ⟨7, b.id, spVol W P % 2, spVol W P⟩
def planJobs (W : Wd) (P : Pm) : List Jb :=
  jRepair W P.L ++ jVol 2 W.vols.length (wipeB W P) ++ P.L.flatMap (jPools 3 (tapeB W P)) ++ jFree W P.L ++ jForget P.L ++ jVol 6 W.vols.length (closeB W P) ++ jRetape W P ++ jVol 8 W.vols.length (eraseB W P) ++ P.L.flatMap (jPools 9 (untapeB W))
theorem jVol_kind {k : Int} {n : Nat} {f : Nat → Bool} {j : Jb} (h : j ∈ jVol k n f) : j.kind = k ∧ j.blob = 0 ∧ j.pool = 0 ∧ ∃ v, v < n ∧ f v = true ∧ j.vol = (v : Int) := by
  obtain ⟨v, hv, rfl⟩ := List.mem_map.1 h
  obtain ⟨h1, h2⟩ := List.mem_filter.1 hv
  exact ⟨rfl, rfl, rfl, v, List.mem_range.1 h1, h2, rfl⟩
theorem jPools_kind {k : Int} {f : Bl → Nat → Bool} {L : List Bl} {j : Jb} (h : j ∈ L.flatMap (jPools k f)) : j.kind = k ∧ j.vol = -1 ∧ ∃ b ∈ L, j.blob = b.id ∧ ∃ p : Nat, p < 2 ∧ j.pool = (p : Int) ∧ f b p = true := by
  obtain ⟨b, hb, hj⟩ := List.mem_flatMap.1 h
  obtain ⟨p, hp, rfl⟩ := List.mem_map.1 hj
  obtain ⟨h1, h2⟩ := List.mem_filter.1 hp
  refine ⟨rfl, rfl, b, hb, rfl, p, ?_, rfl, h2⟩
  simp at h1; omega
theorem jRepair_kind {W : Wd} {L : List Bl} {j : Jb} (h : j ∈ jRepair W L) : j.kind = 1 ∧ j.pool = 0 ∧ j.vol = -1 ∧ ∃ b ∈ L, j.blob = b.id ∧ furB W b = true := by
  obtain ⟨b, hb, rfl⟩ := List.mem_map.1 h
  obtain ⟨h1, h2⟩ := List.mem_filter.1 hb
  rw [Bool.and_eq_true] at h2
  exact ⟨rfl, rfl, rfl, b, h1, rfl, h2.2⟩
theorem jFree_kind {W : Wd} {L : List Bl} {j : Jb} (h : j ∈ jFree W L) : j.kind = 4 ∧ j.pool = 0 ∧ j.vol = -1 ∧ ∃ b ∈ L, j.blob = b.id ∧ freeB W b = true := by
  obtain ⟨b, hb, rfl⟩ := List.mem_map.1 h
  obtain ⟨h1, h2⟩ := List.mem_filter.1 (List.mem_of_mem_take hb)
  exact ⟨rfl, rfl, rfl, b, h1, rfl, h2⟩
theorem jForget_kind {L : List Bl} {j : Jb} (h : j ∈ jForget L) : j.kind = 5 ∧ j.pool = 0 ∧ j.vol = -1 ∧ ∃ b ∈ L, j.blob = b.id := by
  obtain ⟨b, hb, rfl⟩ := List.mem_map.1 h
  obtain ⟨h1, h2⟩ := List.mem_filter.1 hb
  exact ⟨rfl, rfl, rfl, b, h1, rfl⟩
theorem jRetape_kind {W : Wd} {P : Pm} {j : Jb} (h : j ∈ jRetape W P) : j.kind = 7 ∧ j.pool = spVol W P % 2 ∧ j.vol = spVol W P ∧ 0 ≤ spVol W P ∧ ∃ b ∈ P.L, j.blob = b.id ∧ retapeB W P (spVol W P) b = true := by
  unfold jRetape at h
  split at h
  · cases h
  · rename_i hn
    obtain ⟨b, hb, rfl⟩ := List.mem_map.1 h
    obtain ⟨h1, h2⟩ := List.mem_filter.1 hb
    exact ⟨rfl, rfl, rfl, by omega, b, h1, rfl, h2⟩
theorem planJobs_mem {W : Wd} {P : Pm} {j : Jb} : j ∈ planJobs W P ↔ j ∈ jRepair W P.L ∨ j ∈ jVol 2 W.vols.length (wipeB W P) ∨ j ∈ P.L.flatMap (jPools 3 (tapeB W P)) ∨ j ∈ jFree W P.L ∨ j ∈ jForget P.L ∨ j ∈ jVol 6 W.vols.length (closeB W P) ∨ j ∈ jRetape W P ∨ j ∈ jVol 8 W.vols.length (eraseB W P) ∨ j ∈ P.L.flatMap (jPools 9 (untapeB W)) := by
  unfold planJobs
  simp only [List.mem_append, or_assoc]
theorem rise_append {a b : List Jb} {m : Int} (ha : a.Pairwise fun x y => x.kind ≤ y.kind) (hb : ∀ j ∈ b, j.kind = m) (hm : ∀ j ∈ a, j.kind ≤ m) : (a ++ b).Pairwise (fun x y => x.kind ≤ y.kind) ∧ ∀ j ∈ a ++ b, j.kind ≤ m := by
  refine ⟨List.pairwise_append.2 ⟨ha, List.pairwise_iff_getElem.2 fun i j hi hj _ => ?_, fun x hx y hy => ?_⟩, fun j hj => ?_⟩
  · rw [hb _ (List.getElem_mem hi), hb _ (List.getElem_mem hj)]; exact Int.le_refl _
  · rw [hb y hy]; exact hm x hx
  · rcases List.mem_append.1 hj with h | h
    · exact hm j h
    · rw [hb j h]; exact Int.le_refl _
theorem planJobs_rise (W : Wd) (P : Pm) : (planJobs W P).Pairwise fun x y => x.kind ≤ y.kind := by
  unfold planJobs
  have up : ∀ {l : List Jb} {m n : Int}, (∀ j ∈ l, j.kind ≤ m) → m ≤ n → ∀ j ∈ l, j.kind ≤ n := fun h hn j hj => Int.le_trans (h j hj) hn
  have h1 := rise_append (m := 1) (a := []) List.Pairwise.nil (fun j hj => (jRepair_kind (W := W) (L := P.L) hj).1) (by simp)
  rw [List.nil_append] at h1
  have h2 := rise_append (m := 2) h1.1 (fun j hj => (jVol_kind (n := W.vols.length) (f := wipeB W P) hj).1) (up h1.2 (by decide))
  have h3 := rise_append (m := 3) h2.1 (fun j hj => (jPools_kind (L := P.L) (f := tapeB W P) hj).1) (up h2.2 (by decide))
  have h4 := rise_append (m := 4) h3.1 (fun j hj => (jFree_kind (W := W) (L := P.L) hj).1) (up h3.2 (by decide))
  have h5 := rise_append (m := 5) h4.1 (fun j hj => (jForget_kind (L := P.L) hj).1) (up h4.2 (by decide))
  have h6 := rise_append (m := 6) h5.1 (fun j hj => (jVol_kind (n := W.vols.length) (f := closeB W P) hj).1) (up h5.2 (by decide))
  have h7 := rise_append (m := 7) h6.1 (fun j hj => (jRetape_kind (W := W) (P := P) hj).1) (up h6.2 (by decide))
  have h8 := rise_append (m := 8) h7.1 (fun j hj => (jVol_kind (n := W.vols.length) (f := eraseB W P) hj).1) (up h7.2 (by decide))
  exact (rise_append (m := 9) h8.1 (fun j hj => (jPools_kind (L := P.L) (f := untapeB W) hj).1) (up h8.2 (by decide))).1
theorem planJobs_kinds {W : Wd} {P : Pm} {j : Jb} (h : j ∈ planJobs W P) : 1 ≤ j.kind ∧ j.kind ≤ 9 := by
  rcases planJobs_mem.1 h with h | h | h | h | h | h | h | h | h
  · rw [(jRepair_kind h).1]; decide
  · rw [(jVol_kind h).1]; decide
  · rw [(jPools_kind h).1]; decide
  · rw [(jFree_kind h).1]; decide
  · rw [(jForget_kind h).1]; decide
  · rw [(jVol_kind h).1]; decide
  · rw [(jRetape_kind h).1]; decide
  · rw [(jVol_kind h).1]; decide
  · rw [(jPools_kind h).1]; decide
theorem planJobs_none {W : Wd} {P : Pm} (hP : P.L = []) {j : Jb} (h : j ∈ planJobs W P) : j.blob = 0 := by
  rcases planJobs_mem.1 h with h | h | h | h | h | h | h | h | h
  · obtain ⟨_, _, _, b, hb, _⟩ := jRepair_kind h; rw [hP] at hb; cases hb
  · exact (jVol_kind h).2.1
  · obtain ⟨_, _, b, hb, _⟩ := jPools_kind h; rw [hP] at hb; cases hb
  · obtain ⟨_, _, _, b, hb, _⟩ := jFree_kind h; rw [hP] at hb; cases hb
  · obtain ⟨_, _, _, b, hb, _⟩ := jForget_kind h; rw [hP] at hb; cases hb
  · exact (jVol_kind h).2.1
  · obtain ⟨_, _, _, _, b, hb, _⟩ := jRetape_kind h; rw [hP] at hb; cases hb
  · exact (jVol_kind h).2.1
  · obtain ⟨_, _, b, hb, _⟩ := jPools_kind h; rw [hP] at hb; cases hb
theorem volOf_down {P : Pm} {l : List Spot} (h : ∀ i, (spotAt l i).up = false) (pool size not_ : Int) : ∀ n, volOf P l pool size not_ n = -1
  | 0 => rfl
  | n + 1 => by
    unfold volOf
    have : mayV P l pool size not_ n = false := by unfold mayV Spot.fits; rw [h]; simp
    rw [this, volOf_down h pool size not_ n]
    rfl
theorem sparseOf_down {P : Pm} {l : List Spot} (h : ∀ i, (spotAt l i).up = false) (items : List Int) (percent : Int) : ∀ n, sparseOf P l items percent n = (-1, 0)
  | 0 => rfl
  | n + 1 => by
    unfold sparseOf
    have : goneOf P l items n = 0 := by unfold goneOf; rw [h]; simp
    rw [this, sparseOf_down h items percent n]
    rfl
theorem planJobs_down {W : Wd} {P : Pm} (hd : ∀ i, (spotAt W.disks i).up = false) (hv : ∀ i, (spotAt W.vols i).up = false) {j : Jb} (h : j ∈ planJobs W P) : j.kind = 4 ∨ j.kind = 5 ∨ j.kind = 9 := by
  rcases planJobs_mem.1 h with h | h | h | h | h | h | h | h | h
  · exfalso
    obtain ⟨_, _, _, b, hb, _, hf⟩ := jRepair_kind h
    unfold furB at hf
    rw [Bool.and_eq_true, List.any_eq_true] at hf
    obtain ⟨_, i, _, hi⟩ := hf
    unfold mayB Spot.fits at hi
    rw [hd] at hi
    simp at hi
  · exfalso
    obtain ⟨_, _, _, v, _, hf, _⟩ := jVol_kind h
    unfold wipeB at hf
    rw [hv] at hf
    simp at hf
  · exfalso
    obtain ⟨_, _, b, _, _, p, _, _, hf⟩ := jPools_kind h
    unfold tapeB at hf
    rw [volOf_down hv] at hf
    simp at hf
  · exact .inl (jFree_kind h).1
  · exact .inr (.inl (jForget_kind h).1)
  · exfalso
    obtain ⟨_, _, _, v, _, hf, _⟩ := jVol_kind h
    unfold closeB at hf
    rw [hv] at hf
    simp at hf
  · exfalso
    obtain ⟨_, _, _, hf, _⟩ := jRetape_kind h
    unfold spVol at hf
    rw [sparseOf_down hv] at hf
    exact absurd hf (by decide)
  · exfalso
    obtain ⟨_, _, _, v, _, hf, _⟩ := jVol_kind h
    unfold eraseB at hf
    rw [hv] at hf
    simp at hf
  · exact .inr (.inr (jPools_kind h).1)
end Go.Proofs.YtiojjokfeknhcaaGreat
namespace Go.Proofs.YtiojjokfeknhcaaGreat
open Go.RowKit Go.Sort
theorem own_lower {w : World} {base base' : Nat} {e : TypeId} {size : Nat} {v : Value} {n : Nat} {xs : List Value} (h : w.ownsRow base e size v n xs) (hb : base' ≤ base) : w.ownsRow base' e size v n xs := by
  obtain ⟨h1, h2⟩ := h
  rcases h2 with h2 | ⟨g, cap, cur, hv, hb', r⟩
  · exact ⟨h1, .inl h2⟩
  · exact ⟨h1, .inr ⟨g, cap, cur, hv, by omega, r⟩⟩
end Go.Proofs.YtiojjokfeknhcaaGreat
namespace Go.Proofs.YtiojjokfeknhcaaGreat
open Go.RowKit Go.Sort
end Go.Proofs.YtiojjokfeknhcaaGreat
namespace Go.Proofs.YtiojjokfeknhcaaGreat
open Go.RowKit Go.Sort
def skipR (P : Pm) (l : List Spot) (items : List Int) (i : Nat) : Bool := decide (items.length ≤ i) || decide (items.getD i 0 = 0) || !(spotAt l i).up || !(P.vol i).closed || (P.vol i).erase
theorem goneOf_skip {P : Pm} {l : List Spot} {items : List Int} {i : Nat} (h : skipR P l items i = true) : goneOf P l items i = 0 := by
  unfold skipR at h
  unfold goneOf
  rw [if_neg]
  generalize items.getD i 0 = x at h ⊢
  intro h2
  simp only [Bool.and_eq_true, Bool.or_eq_true, decide_eq_true_eq, Bool.not_eq_true'] at h h2
  obtain ⟨⟨⟨⟨⟨a, b⟩, c⟩, d⟩, e⟩, f⟩ := h2
  rw [c, d, e] at h
  simp at h
  omega
theorem goneOf_none {P : Pm} {l : List Spot} {items : List Int} {i : Nat} (h : (P.onVol i).length = 0) : goneOf P l items i = 0 := by
  unfold goneOf
  rw [if_neg]
  intro h2
  simp only [Bool.and_eq_true, decide_eq_true_eq] at h2
  exact h2.2 h
theorem goneOf_some {P : Pm} {l : List Spot} {items : List Int} {i : Nat} (h : skipR P l items i = false) (hn : ∀ x ∈ items, 0 ≤ x) (hl : (P.onVol i).length ≠ 0) : 0 < items.getD i 0 ∧ goneOf P l items i = (items.getD i 0 - ((P.onVol i).length : Int)) * 100 / items.getD i 0 := by
  unfold skipR at h
  simp only [Bool.or_eq_false_iff, decide_eq_false_iff_not, Bool.not_eq_false'] at h
  obtain ⟨⟨⟨⟨a, b⟩, c⟩, d⟩, e⟩ := h
  have hx : 0 ≤ items.getD i 0 := by
    rw [List.getD_eq_getElem?_getD, List.getElem?_eq_getElem (by omega)]
    exact hn _ (List.getElem_mem _)
  refine ⟨by omega, ?_⟩
  unfold goneOf
  rw [if_pos]
  rw [c, d, e]
  generalize items.getD i 0 = x at b hx ⊢
  simp [hl]
  omega
end Go.Proofs.YtiojjokfeknhcaaGreat
namespace Go.Proofs.YtiojjokfeknhcaaGreat
open Go.RowKit Go.Sort
theorem ints_cell {w : World} {A : Option Addr} {n c : Nat} {l : List Int} (h : Sl w (.slice A n c) (l.map (Value.int .i64))) (k : Nat) (hk : k < l.length) : ∃ b o, A = some ⟨b, o, none⟩ ∧ w.cell? ⟨b, o + k, none⟩ = some (.int .i64 (l.getD k 0)) := by
  obtain ⟨A', c', ha, hc⟩ := h
  have hne : l.map (Value.int .i64) ≠ [] := fun e => by rw [List.map_eq_nil_iff.1 e] at hk; simp at hk
  obtain ⟨b, o, rfl, hcc⟩ := hc hne
  injection ha with ha q1 q2
  refine ⟨b, o, ha, hcc k _ ?_⟩
  rw [List.getElem?_map, List.getElem?_eq_getElem hk, List.getD_eq_getElem?_getD, List.getElem?_eq_getElem hk]
  rfl
end Go.Proofs.YtiojjokfeknhcaaGreat
namespace Go.Proofs.YtiojjokfeknhcaaGreat
open Go.RowKit Go.Sort
theorem field_closed (a b : Bool) (g : Int) (w : World) : (Instr.field 85 (.agg #[.bool a, .bool b, .int .i64 g]) 0).run Tryz.prog w = .ok (.bool a) w := by kernel_rfl
theorem volume_any (w : World) (B : Nat → Prop) (c mb mn : Nat) (lv : Value) (P : Pm) (l : List Spot) (hC : CatIn w B c mb mn P) (hS : Sln w lv 2 (l.map Spot.cells)) (hl : l.length ≤ 12) (pool size not_ : Int) :
    Calls Tryz.prog 55 #[.pointer (some ⟨c, 0, none⟩), lv, .int .i64 pool, .int .i64 size, .int .i64 not_] w fun e w' => e = .returned (.int .i64 (volOf P l pool size not_ l.length)) ∧ Ext w w' := by
  obtain ⟨LA, lc, rfl, hlx⟩ := hS
  have hS : Sln w (.slice LA (l.map Spot.cells).length lc) 2 (l.map Spot.cells) := ⟨LA, lc, rfl, hlx⟩
  clear hlx
  rw [List.length_map] at hS ⊢
  go_enter Tryz.func55, Tryz.ntmps55
  go_wp2_with fail
  go_loopw [11, 16] (fun bv iv wr => ∃ k : Nat, k ≤ l.length ∧ iv = .int .i64 (k : Int) ∧ bv = .int .i64 (volOf P l pool size not_ k) ∧ Ext w wr) (fun _ iv _ => l.length - (intOf iv).toNat)
  case atStart => exact ⟨0, Nat.zero_le _, rfl, rfl, Ext.refl _⟩
  case round =>
    obtain ⟨k, hk, rfl, rfl, hEk⟩ := hrel
    by_cases hlt : k < l.length
    · have hS2 := hS.ext hEk
      obtain ⟨b, o, rfl⟩ := sln_at hS2 hlt
      obtain ⟨r0, r1⟩ := spot_cells hS2 hlt
      have hbr := volOf_range P l pool size not_ k
      have hbs : volOf P l pool size not_ (k + 1) = if (mayV P l pool size not_ k && (decide (volOf P l pool size not_ k < 0) || decide ((spotAt l k).free < (spotAt l (volOf P l pool size not_ k).toNat).free))) = true then (k : Int) else volOf P l pool size not_ k := rfl
      have hmay : mayV P l pool size not_ k = (decide (((k : Int) % 2) = pool) && !decide ((k : Int) = not_) && (spotAt l k).fits size && !(P.vol k).closed) := rfl
      obtain ⟨⟨u, f⟩, hsp⟩ : ∃ s, s = spotAt l k := ⟨_, rfl⟩
      rw [← hsp] at r0 r1 hbs hmay
      generalize hbst : volOf P l pool size not_ k = bst at hbs hbr ⊢
      clear hbst
      simp only [] at r0 r1 hbs
      go_upto_region 5 with fail
      obtain ⟨wy, hwy⟩ : ∃ wy, wy = wr.alloc (.cells #[.bool u, .int .i64 f] 55) := ⟨_, rfl⟩
      have hXb := At.new wr 55 #[.bool u, .int .i64 f]
      rw [← hwy] at hXb ⊢
      have hEy : Ext w wy := by rw [hwy]; exact hEk.alloc _
      clear hwy r0 r1 hEk hS2 hsp
      generalize wr.heap.size = yb at hXb ⊢
      have x0 := hXb.cell 0
      have x1 := hXb.cell 1
      simp at x0 x1
      clear hXb
      by_cases h1 : (k : Int) = not_
      · have t1 : decide ((k : Int) = not_) = true := by simpa using h1
        have HBK := Lib.hid (show volOf P l pool size not_ (k + 1) = bst from by rw [hbs, hmay]; simp [h1])
        clear hbs hmay
        have H1 := Lib.hid h1
        clear h1
        go_wp2_with fail
        go_roundw
        case rel => exact ⟨k + 1, by omega, by go_num, by rw [HBK.out], hEy⟩
        case measure => simp [intOf]; omega
      · have t1 : decide ((k : Int) = not_) = false := by simpa using h1
        have HPL := pool_any wy k (by omega)
        go_wp2_with fail
        refine HPL.mono ?_
        rintro e w2 ⟨rfl, hw2⟩
        clear HPL
        by_cases h2 : (k : Int) % 2 = pool
        · have t2 : (((k % 2 : Nat) : Int) != pool) = false := by simpa using h2
          have HFT := fits_any w2 ⟨u, f⟩ size
          rw [hw2] at x0 x1 hEy
          clear hw2
          go_wp2_with fail
          refine HFT.mono ?_
          rintro e w3 ⟨rfl, hE3⟩
          clear HFT
          cases hf : Spot.fits ⟨u, f⟩ size
          · rw [hf] at hmay
            have HBK := Lib.hid (show volOf P l pool size not_ (k + 1) = bst from by rw [hbs, hmay]; simp)
            clear hbs hmay
            go_wp2_with fail
            go_roundw
            case rel => exact ⟨k + 1, by omega, by go_num, by rw [HBK.out], hEy.trans hE3⟩
            case measure => simp [intOf]; omega
          · rw [hf] at hmay
            have HVO := cvol_any (hC.ext (hEy.trans hE3)) k (by omega)
            unfold vlAgg at HVO
            go_wp2_with fail
            refine HVO.mono ?_
            rintro e w4 ⟨rfl, hE4'⟩
            clear HVO
            have hE4 := (hEy.trans hE3).trans hE4'
            have y1 := (hE3.trans hE4').cell (cell_lt x1) |>.trans x1
            clear x0 x1 hE3 hE4'
            have hfc : ∀ wx : World, (Instr.field 85 (.agg #[.bool (P.vol k).closed, .bool (P.vol k).erase, .int .i64 (P.vol k).gen]) 0).run Tryz.prog wx = .ok (.bool (P.vol k).closed) wx := fun wx => field_closed ..
            generalize (P.vol k).closed = cl at hmay hfc ⊢
            generalize (P.vol k).erase = er at hfc ⊢
            generalize (P.vol k).gen = gn at hfc ⊢
            cases cl
            · have hm1 : mayV P l pool size not_ k = true := by rw [hmay]; simp [h1, h2]
              rw [hm1] at hbs
              clear hmay hm1
              have hSy := hS.ext hE4
              have rg : ∀ {p : Addr} {v : Value}, w4.cell? p = some v → ∀ d os, (grow (redrawn w4 d) os).cell? p = some v := fun h d os => (Ext.cell (ext_regrown w4 d os) (cell_lt h)).trans h
              have ry1 := rg y1
              by_cases hb0 : bst < 0
              · have t2 : decide (bst < 0) = true := by simpa using hb0
                have HBK := Lib.hid (show volOf P l pool size not_ (k + 1) = (k : Int) from by rw [hbs]; simp [hb0])
                clear hbs
                go_wp2_with fail
                refine wp_region_quiet_ext (by kernel_rfl) (by kernel_rfl) ?_
                repeat (go_big_quiet_step (fail))
                refine wpQuiet_nil ?_
                intro W8 hE8
                go_wp2_with fail
                go_roundw
                case rel => exact ⟨k + 1, by omega, by go_num, by rw [HBK.out], hE4.trans hE8⟩
                case measure => simp [intOf]; omega
              · have t2 : decide (bst < 0) = false := by simpa using hb0
                obtain ⟨j, rfl⟩ : ∃ j : Nat, bst = (j : Int) := ⟨bst.toNat, by omega⟩
                have hjl : j < l.length := by omega
                obtain ⟨_, q1⟩ := spot_cells hSy hjl
                have q1r := rg q1
                rw [show ((j : Int)).toNat = j from rfl] at hbs
                generalize (spotAt l j).free = g at q1 q1r hbs
                by_cases hg : f < g
                · have t3 : decide (f < g) = true := by simpa using hg
                  have HBK := Lib.hid (show volOf P l pool size not_ (k + 1) = (k : Int) from by rw [hbs]; simp [hg])
                  clear hbs
                  go_wp2_with fail
                  refine wp_region_quiet_ext (by kernel_rfl) (by kernel_rfl) ?_
                  repeat (go_big_quiet_step (fail))
                  refine wpQuiet_nil ?_
                  intro W8 hE8
                  go_wp2_with fail
                  go_roundw
                  case rel => exact ⟨k + 1, by omega, by go_num, by rw [HBK.out], hE4.trans hE8⟩
                  case measure => simp [intOf]; omega
                · have t3 : decide (f < g) = false := by simpa using hg
                  have HBK := Lib.hid (show volOf P l pool size not_ (k + 1) = (j : Int) from by rw [hbs]; simp [hg]; omega)
                  clear hbs
                  go_wp2_with fail
                  refine wp_region_quiet_ext (by kernel_rfl) (by kernel_rfl) ?_
                  repeat (go_big_quiet_step (fail))
                  refine wpQuiet_nil ?_
                  intro W8 hE8
                  go_wp2_with fail
                  go_roundw
                  case rel => exact ⟨k + 1, by omega, by go_num, by rw [HBK.out], hE4.trans hE8⟩
                  case measure => simp [intOf]; omega
            · have HBK := Lib.hid (show volOf P l pool size not_ (k + 1) = bst from by rw [hbs, hmay]; simp)
              clear hbs hmay
              go_wp2_with fail
              go_roundw
              case rel => exact ⟨k + 1, by omega, by go_num, by rw [HBK.out], hE4⟩
              case measure => simp [intOf]; omega
        · have t2 : (((k % 2 : Nat) : Int) != pool) = true := by simpa using h2
          have HW := Lib.hid hw2
          clear hw2
          have HBK := Lib.hid (show volOf P l pool size not_ (k + 1) = bst from by rw [hbs, hmay]; simp [h2])
          clear hbs hmay
          go_wp2_with fail
          go_roundw
          case rel => exact ⟨k + 1, by omega, by go_num, by rw [HBK.out], by rw [← HW.out]; exact hEy⟩
          case measure => simp [intOf]; omega
    · obtain rfl : k = l.length := by omega
      go_wp2_with fail
      go_ret
      exact ⟨rfl, hEk⟩
end Go.Proofs.YtiojjokfeknhcaaGreat
namespace Go.Proofs.YtiojjokfeknhcaaGreat
open Go.RowKit Go.Sort
def goneC (x n : Int) : Int := ((x - n) * 100).tdiv x
theorem best_same2 {P : Pm} {l : List Spot} {items : List Int} {percent : Int} {i : Nat} (hn : ∀ x ∈ items, 0 ≤ x) (h : skipR P l items i = false) (hl : (P.onVol i).length ≠ 0) (m : Int) (hm : 0 ≤ m) :
    (decide (m < goneC (items.getD i 0) ((P.onVol i).length : Int)) && decide (percent ≤ goneC (items.getD i 0) ((P.onVol i).length : Int))) = (decide (m < goneOf P l items i) && decide (percent ≤ goneOf P l items i)) ∧
    (m < goneC (items.getD i 0) ((P.onVol i).length : Int) → goneC (items.getD i 0) ((P.onVol i).length : Int) = goneOf P l items i) := by
  obtain ⟨h1, h2⟩ := goneOf_some h hn hl
  rw [h2]
  unfold goneC
  generalize items.getD i 0 = x at h1 ⊢
  generalize ((P.onVol i).length : Int) = n at ⊢
  by_cases hc : n ≤ x
  · rw [Int.tdiv_eq_ediv_of_nonneg (by omega)]
    exact ⟨rfl, fun _ => rfl⟩
  · have hneg : (x - n) * 100 / x < 0 := Int.ediv_neg_of_neg_of_pos (by omega) h1
    have hneg2 : ((x - n) * 100).tdiv x ≤ 0 := by
      have e : ((x - n) * 100).tdiv x = -(((n - x) * 100).tdiv x) := by
        rw [← Int.neg_tdiv]
        congr 1
        omega
      rw [e, Int.tdiv_eq_ediv_of_nonneg (by omega)]
      have := Int.ediv_nonneg (a := (n - x) * 100) (b := x) (by omega) (by omega)
      omega
    generalize (x - n) * 100 / x = q at hneg
    generalize ((x - n) * 100).tdiv x = q2 at hneg2
    have a1 : decide (m < q2) = false := by simp; omega
    have a2 : decide (m < q) = false := by simp; omega
    rw [a1, a2]
    exact ⟨rfl, fun hh => by omega⟩
theorem sparse_any (w : World) (B : Nat → Prop) (c mb mn : Nat) (lv iv : Value) (P : Pm) (n : Nat) (l : List Spot) (items : List Int) (hC : CatIn w B c mb mn P) (hi : PInv n P) (hn : n ≤ 1000) (hS : Sln w lv 2 (l.map Spot.cells)) (hl : l.length ≤ 12) (hI : Sl w iv (items.map (Value.int .i64))) (hil : items.length ≤ 12) (hir : ∀ x ∈ items, 0 ≤ x ∧ x ≤ 1000000) (percent : Int) :
    Calls Tryz.prog 58 #[.pointer (some ⟨c, 0, none⟩), lv, iv, .int .i64 percent] w fun e w' => e = .returned (.int .i64 (sparseOf P l items percent l.length).1) ∧ Ext w w' := by
  have HON : Hid (∀ k : Nat, (P.onVol k).length ≤ 1000) := Lib.hid fun k => Nat.le_trans (List.length_filter_le _ _) (Nat.le_trans hi.len hn)
  have HII := Lib.hid hi
  clear hi
  obtain ⟨LA, lc, rfl, hlx⟩ := hS
  have hS : Sln w (.slice LA (l.map Spot.cells).length lc) 2 (l.map Spot.cells) := ⟨LA, lc, rfl, hlx⟩
  clear hlx
  obtain ⟨IA, ic, rfl, hix⟩ := hI
  have hI : Sl w (.slice IA (items.map (Value.int .i64)).length ic) (items.map (Value.int .i64)) := ⟨IA, ic, rfl, hix⟩
  clear hix
  rw [List.length_map] at hS hI
  rw [List.length_map, List.length_map]
  have HIR : Hid (∀ k, 0 ≤ items.getD k 0 ∧ items.getD k 0 ≤ 1000000) := Lib.hid fun k => by
    rw [List.getD_eq_getElem?_getD]
    cases h : items[k]? with
    | none => simp
    | some x => exact hir x (List.mem_of_getElem? h)
  have HIN := Lib.hid (fun x (hx : x ∈ items) => (hir x hx).1)
  clear hir
  go_enter Tryz.func58, Tryz.ntmps58
  go_wp2_with fail
  go_loopw [9, 10, 19] (fun bv mv iv wr => ∃ k : Nat, k ≤ l.length ∧ iv = .int .i64 (k : Int) ∧ bv = .int .i64 (sparseOf P l items percent k).1 ∧ mv = .int .i64 (sparseOf P l items percent k).2 ∧ Ext w wr) (fun _ _ iv _ => l.length - (intOf iv).toNat)
  case atStart => exact ⟨0, Nat.zero_le _, rfl, rfl, rfl, Ext.refl _⟩
  case round =>
    obtain ⟨k, hk, rfl, rfl, rfl, hEk⟩ := hrel
    by_cases hlt : k < l.length
    · have hS2 := hS.ext hEk
      obtain ⟨b, o, rfl⟩ := sln_at hS2 hlt
      obtain ⟨r0, r1⟩ := spot_cells hS2 hlt
      have hmost := sparseOf_nn P l items percent k
      have hbs : sparseOf P l items percent (k + 1) = if (decide ((sparseOf P l items percent k).2 < goneOf P l items k) && decide (percent ≤ goneOf P l items k)) = true then ((k : Int), goneOf P l items k) else sparseOf P l items percent k := rfl
      have hsk0 : skipR P l items k = (decide (items.length ≤ k) || decide (items.getD k 0 = 0) || !(spotAt l k).up || !(P.vol k).closed || (P.vol k).erase) := rfl
      generalize hbst : sparseOf P l items percent k = bst at hbs hmost ⊢
      clear hbst
      obtain ⟨best, most⟩ := bst
      simp only [] at hbs hmost ⊢
      obtain ⟨u, hu⟩ : ∃ u, u = (spotAt l k).up := ⟨_, rfl⟩
      obtain ⟨f, hf⟩ : ∃ u, u = (spotAt l k).free := ⟨_, rfl⟩
      rw [← hu] at r0 hsk0
      rw [← hf] at r1
      have HVC := fun wx (hx : Ext w wx) => cvol_any (hC.ext hx) k (by omega)
      unfold vlAgg at HVC
      obtain ⟨cl, hcl⟩ : ∃ u, u = (P.vol k).closed := ⟨_, rfl⟩
      obtain ⟨er, her⟩ : ∃ u, u = (P.vol k).erase := ⟨_, rfl⟩
      rw [← hcl, ← her] at hsk0 HVC
      generalize (P.vol k).gen = gn at HVC
      clear hu hf hcl her
      go_upto_region 5 with fail
      obtain ⟨wy, hwy⟩ : ∃ wy, wy = wr.alloc (.cells #[.bool u, .int .i64 f] 55) := ⟨_, rfl⟩
      have hXb := At.new wr 55 #[.bool u, .int .i64 f]
      rw [← hwy] at hXb ⊢
      have hEy : Ext w wy := by rw [hwy]; exact hEk.alloc _
      clear hwy r0 r1 hEk hS2
      generalize wr.heap.size = yb at hXb ⊢
      have HVY := HVC wy hEy
      clear HVC
      go_wp2_with fail
      refine HVY.mono ?_
      rintro e w1 ⟨rfl, hE1⟩
      clear HVY
      go_upto_region 6 with fail
      obtain ⟨w2, hw2⟩ : ∃ wy, wy = w1.alloc (.cells #[.bool cl, .bool er, .int .i64 gn] 85) := ⟨_, rfl⟩
      have hVb := At.new w1 85 #[.bool cl, .bool er, .int .i64 gn]
      rw [← hw2] at hVb ⊢
      have hE12 : Ext wy w2 := by rw [hw2]; exact hE1.alloc _
      have hE2 := hEy.trans hE12
      replace hXb := hXb.ext hE12
      clear hw2 hE1 hE12 hEy
      generalize w1.heap.size = vb at hVb ⊢
      have x0 := hXb.cell 0
      have v0 := hVb.cell 0
      have v1 := hVb.cell 1
      simp at x0 v0 v1
      clear hXb hVb
      obtain ⟨sk, hsk1⟩ : ∃ m, m = skipR P l items k := ⟨_, rfl⟩
      have hsk : sk = (decide (items.length ≤ k) || decide (items.getD k 0 = 0) || !u || !cl || er) := by rw [hsk1, hsk0]
      clear hsk0
      obtain ⟨it, hitk⟩ : ∃ it, it = items.getD k 0 := ⟨_, rfl⟩
      rw [← hitk] at hsk
      replace hitk := hitk.symm
      have hir := HIR.out k
      rw [hitk] at hir
      go_cut [51] from 27 to 51 (fun mv wx => mv = .bool sk ∧ wx = w2)
      case first =>
        clear hbs hmost
        have HSK := Lib.hid hsk
        clear hsk
        cases u
        · go_wp2_with fail
          go_meet
          case rel =>
            refine ⟨?_, rfl⟩
            rw [HSK.out]
            simp
        · cases cl
          · go_wp2_with fail
            go_meet
            case rel =>
              refine ⟨?_, rfl⟩
              rw [HSK.out]
              simp
          · cases er
            · by_cases h1 : items.length ≤ k
              · have t1 : decide (items.length ≤ k) = true := by simpa using h1
                go_wp2_with fail
                go_meet
                case rel =>
                  refine ⟨?_, rfl⟩
                  rw [HSK.out]
                  simp [h1]
              · have t1 : decide (items.length ≤ k) = false := by simpa using h1
                obtain ⟨ib, io, rfl, ic⟩ := ints_cell (hI.ext hE2) k (by omega)
                rw [hitk] at ic
                by_cases h2 : it ≤ 0
                · have t2 : decide (it ≤ 0) = true := by simpa using h2
                  have HK2 := Lib.hid hitk
                  clear hitk
                  have hz : it = 0 := by omega
                  go_wp2_with fail
                  go_meet
                  case rel =>
                    refine ⟨?_, rfl⟩
                    rw [HSK.out]
                    rw [hz]; simp
                · have t2 : decide (it ≤ 0) = false := by simpa using h2
                  have hz : it ≠ 0 := by omega
                  have HK2 := Lib.hid hitk
                  clear hitk
                  go_wp2_with fail
                  go_meet
                  case rel =>
                    refine ⟨?_, rfl⟩
                    rw [HSK.out]
                    simp [h1, hz]
            · go_wp2_with fail
              go_meet
              case rel =>
                refine ⟨?_, rfl⟩
                rw [HSK.out]
                simp
      case rest =>
        obtain ⟨rfl, hwc⟩ := hcut
        subst hwc
        clear hsk v0 v1 x0
        cases sk
        · have hki : k < items.length ∧ items.getD k 0 ≠ 0 := by
            have h := hsk1
            unfold skipR at h
            generalize items.getD k 0 = q at h ⊢
            simp at h
            exact ⟨by omega, by omega⟩
          rw [hitk] at hki
          obtain ⟨hkl, hit0⟩ := hki
          have hpn := HON.out k
          have HRL := Lib.hid (clive_any (hC.ext hE2) HII.out (by omega) k (by omega))
          have hon : P.L.filter (onV (k : Int)) = P.onVol k := rfl
          rw [hon] at HRL
          clear hon
          have hbt := fun hl => best_same2 (percent := percent) HIN.out hsk1.symm hl most hmost
          have hgn := fun hl => goneOf_none (P := P) (l := l) (items := items) (i := k) hl
          obtain ⟨pn, hpe⟩ : ∃ pn : Nat, pn = (P.onVol k).length := ⟨_, rfl⟩
          rw [← hpe] at hbt hgn hpn HRL
          rw [hitk] at hbt
          generalize pinsOf (P.onVol k) = pp at HRL
          clear hpe hsk1
          go_wp2_with fail
          refine HRL.out.mono ?_
          rintro e w3 ⟨rfl, hE3'⟩
          have hE3 := hE2.trans hE3'
          clear HRL hE3'
          by_cases hp : pn = 0
          · have HBS := Lib.hid (show sparseOf P l items percent (k + 1) = (best, most) by rw [hbs, hgn hp]; simp; omega)
            subst hp
            have t1 : decide ((0 : Int) = 0) = true := by simp
            clear hbs hgn hbt
            have HBK := Lib.hid (show sparseOf P l items percent (k + 1) = (best, most) from by rw [HBS.out])
            go_wp2_with fail
            go_roundw
            case rel => exact ⟨k + 1, by omega, by go_num, by rw [HBK.out], by rw [HBK.out], hE3⟩
            case measure => simp [intOf]; omega
          · obtain ⟨hb1, hb2⟩ := hbt hp
            have HBS := Lib.hid (show sparseOf P l items percent (k + 1) = if (decide (most < goneC it pn) && decide (percent ≤ goneC it pn)) = true then ((k : Int), goneC it pn) else (best, most) from by
              rw [hbs, hb1]
              by_cases hc : (decide (most < goneOf P l items k) && decide (percent ≤ goneOf P l items k)) = true
              · rw [if_pos hc, if_pos hc]
                rw [← hb1] at hc
                rw [hb2 (by simp at hc; exact hc.1)]
              · rw [if_neg hc, if_neg hc])
            clear hbs hb1 hb2 hbt hgn
            have t1 : decide ((pn : Int) = 0) = false := by simp; omega
            obtain ⟨ib, io, rfl, ic2⟩ := ints_cell (hI.ext hE3) k hkl
            rw [hitk] at ic2
            have HK2 := Lib.hid hitk
            have rg : ∀ {p : Addr} {v : Value}, w3.cell? p = some v → ∀ d os, (grow (redrawn w3 d) os).cell? p = some v := fun h d os => (Ext.cell (ext_regrown w3 d os) (cell_lt h)).trans h
            have rx := rg ic2
            clear hitk
            go_upto_region 9 with fail
            refine wp_region_quiet_ext (by kernel_rfl) (by kernel_rfl) ?_
            repeat (go_big_quiet_step (fail))
            refine wpQuiet_nil ?_
            intro W8 hE8
            unfold goneC at HBS
            generalize ((it - (pn : Int)) * 100).tdiv it = q at HBS ⊢
            by_cases h1 : most < q
            · have t2 : decide (most < q) = true := by simpa using h1
              by_cases h2 : percent ≤ q
              · have t3 : decide (percent ≤ q) = true := by simpa using h2
                have HBK := Lib.hid (show sparseOf P l items percent (k + 1) = ((k : Int), q) from by rw [HBS.out]; simp [h1, h2])
                go_wp2_with fail
                go_roundw
                case rel => exact ⟨k + 1, by omega, by go_num, by rw [HBK.out], by rw [HBK.out], hE3.trans hE8⟩
                case measure => simp [intOf]; omega
              · have t3 : decide (percent ≤ q) = false := by simpa using h2
                have HBK := Lib.hid (show sparseOf P l items percent (k + 1) = (best, most) from by rw [HBS.out]; simp [h1] <;> omega)
                go_wp2_with fail
                go_roundw
                case rel => exact ⟨k + 1, by omega, by go_num, by rw [HBK.out], by rw [HBK.out], hE3.trans hE8⟩
                case measure => simp [intOf]; omega
            · have t2 : decide (most < q) = false := by simpa using h1
              have HBK := Lib.hid (show sparseOf P l items percent (k + 1) = (best, most) from by rw [HBS.out]; simp [h1] <;> omega)
              go_wp2_with fail
              go_roundw
              case rel => exact ⟨k + 1, by omega, by go_num, by rw [HBK.out], by rw [HBK.out], hE3.trans hE8⟩
              case measure => simp [intOf]; omega
        · have HG := Lib.hid (goneOf_skip hsk1.symm)
          have HBS := Lib.hid (show sparseOf P l items percent (k + 1) = (best, most) by rw [hbs, HG.out]; rw [if_neg]; simp; omega)
          clear hbs hsk1
          have HBK := Lib.hid (show sparseOf P l items percent (k + 1) = (best, most) from by rw [HBS.out])
          go_wp2_with fail
          go_roundw
          case rel => exact ⟨k + 1, by omega, by go_num, by rw [HBK.out], by rw [HBK.out], hE2⟩
          case measure => simp [intOf]; omega
    · obtain rfl : k = l.length := by omega
      go_wp2_with fail
      go_ret
      exact ⟨rfl, hEk⟩
end Go.Proofs.YtiojjokfeknhcaaGreat
