/-
  The document's catalog: what a function that hands out a catalog and a result leaves; Apply's blob.
-/
import Derived.Test.YtchnejfdompfpaaGreatRf7
import Derived.Test.YtchnejfdompfpaaGreatRf8
namespace Go.Proofs.YtchnejfdompfpaaGreat
open Go.RowKit Go.Sort

theorem rblob_any (w : World) (X : Array Value) (b : Bl) (dv : Value) (x : Cmd) (dx : Value) (y : Vl) (hb : w.ownsRow 0 3 1 dv b.disks.length (b.disks.map (Value.int .i64))) (hx : w.ownsRow 0 3 1 dx x.disks.length (x.disks.map (Value.int .i64)))
    (hbl : b.disks.length ≤ 17592186043904) (hxl : x.disks.length ≤ 17592186043904) (hpn : 0 ≤ b.pins ∧ b.pins ≤ 2147483648) (v : Nat) (hv : x.vol = (v : Int)) (hv12 : v < 12) (hXv : X[1 + v * 3]? = some (.bool y.closed)) (hpl : x.pool = 0 ∨ x.pool = 1)
    (hk : x.kind = 6 ∨ x.kind = 7 ∨ x.kind = 8 ∨ x.kind = 9 ∨ x.kind = 10 ∨ x.kind = 14) :
    Calls Tryz.prog 64 #[.agg X, .agg (blCells b dv), cmdVal x dx] w (RbOut w (blobR y.closed b x)) := by
  rcases hk with hk | hk | hk | hk | hk | hk
  · exact rblob_6 w X b dv x dx y hb hx hbl hxl hk hpn
  · exact rblob_7 w X b dv x dx y hb hx hbl hxl hk
  · exact rblob_8 w X b dv x dx y hb hx hbl hxl hk v hv hv12 hXv
  · exact rblob_9 w X b dv x dx y hb hx hbl hxl hk
  · exact rblob_10 w X b dv x dx y hb hx hbl hxl hk
  · exact rblob_14 w X b dv x dx y hb hx hbl hxl hk hpl
/-- Put of a blob that is there changes nothing. -/
theorem pset_same {L : List Bl} (h : L.Pairwise fun a b => a.id < b.id) {b : Bl} (hb : b ∈ L) : pset L b = L := by
  unfold pset
  induction L with
  | nil => cases hb
  | cons a r ih =>
    obtain ⟨h1, h2⟩ := List.pairwise_cons.1 h
    rcases List.mem_cons.1 hb with rfl | hb
    · rw [List.filter_cons, if_neg (by simp), List.filter_cons, if_neg (by simp)]
      have e1 : r.filter (fun c => decide (c.id < b.id)) = [] := List.filter_eq_nil_iff.2 fun c hc => by have := h1 c hc; simp; omega
      have e2 : r.filter (fun c => decide (b.id < c.id)) = r := List.filter_eq_self.2 fun c hc => by have := h1 c hc; simpa using this
      rw [e1, e2]; rfl
    · have := h1 b hb
      rw [List.filter_cons, if_pos (by simpa using this), List.filter_cons, if_neg (by simp; omega), List.cons_append, ih h2 hb]
theorem rfFind_spec (id : Nat) : ∀ (L : List Bl) (k : Nat), (rfFind id L k = -1 ∧ ∀ b ∈ L, b.id ≠ id) ∨ ∃ i b, L[i]? = some b ∧ b.id = id ∧ rfFind id L k = ((k + i : Nat) : Int)
  | [], k => .inl ⟨rfl, fun b hb => by cases hb⟩
  | a :: r, k => by
    rw [rfFind_cons]
    by_cases e : a.id = id
    · rw [if_pos e]
      exact .inr ⟨0, a, rfl, e, rfl⟩
    · rw [if_neg e]
      rcases rfFind_spec id r (k + 1) with ⟨h1, h2⟩ | ⟨i, b, h1, h2, h3⟩
      · refine .inl ⟨h1, fun b hb => ?_⟩
        rcases List.mem_cons.1 hb with rfl | hb
        · exact e
        · exact h2 b hb
      · exact .inr ⟨i + 1, b, by simpa using h1, h2, by rw [h3]; congr 1; omega⟩
theorem rfName_spec (n : ByteArray) : ∀ (L : List Bl) (k : Nat), (rfName n L k = -1 ∧ L.find? (liveB n) = none) ∨ ∃ i b, L[i]? = some b ∧ L.find? (liveB n) = some b ∧ rfName n L k = ((k + i : Nat) : Int)
  | [], k => .inl ⟨rfl, rfl⟩
  | a :: r, k => by
    rw [rfName_cons]
    by_cases e : liveB n a = true
    · rw [if_pos e]
      exact .inr ⟨0, a, rfl, by rw [List.find?_cons_of_pos e], rfl⟩
    · rw [if_neg e]
      rcases rfName_spec n r (k + 1) with ⟨h1, h2⟩ | ⟨i, b, h1, h2, h3⟩
      · exact .inl ⟨h1, by rw [List.find?_cons_of_neg e]; exact h2⟩
      · exact .inr ⟨i + 1, b, by simpa using h1, by rw [List.find?_cons_of_neg e]; exact h2, by rw [h3]; congr 1; omega⟩
theorem find_at {P : Pm} {id : Nat} : (rfFind id P.L 0 = -1 ∧ P.find id = none) ∨ ∃ (i : Nat) (b : Bl), P.L[i]? = some b ∧ b.id = id ∧ rfFind id P.L 0 = (i : Int) := by
  rcases rfFind_spec id P.L 0 with ⟨h1, h2⟩ | ⟨i, b, h1, h2, h3⟩
  · exact .inl ⟨h1, pfind_none.2 h2⟩
  · exact .inr ⟨i, b, h1, h2, by rw [h3]; congr 1; omega⟩
theorem name_at {P : Pm} {n : ByteArray} : (rfName n P.L 0 = -1 ∧ P.named n = none) ∨ ∃ (i : Nat) (b : Bl), P.L[i]? = some b ∧ P.named n = some b ∧ rfName n P.L 0 = (i : Int) := by
  rcases rfName_spec n P.L 0 with ⟨h1, h2⟩ | ⟨i, b, h1, h2, h3⟩
  · exact .inl ⟨h1, h2⟩
  · exact .inr ⟨i, b, h1, h2, by rw [h3]; congr 1; omega⟩
/-- a catalog and a result are stored, and read back -/
structure TwoOut (W : World) (c r : Nat) (X R : Array Value) : Prop where
  t1 : W.there c 0 X.size
  t2 : (W.setCells c 0 X.toList).there r 0 R.size
  l1 : (loadVar 31 ⟨c, 0, none⟩).run Tryz.prog ((W.setCells c 0 X.toList).setCells r 0 R.toList) = .ok (.agg X) ((W.setCells c 0 X.toList).setCells r 0 R.toList)
  l2 : (loadVar 72 ⟨r, 0, none⟩).run Tryz.prog ((W.setCells c 0 X.toList).setCells r 0 R.toList) = .ok (.agg R) ((W.setCells c 0 X.toList).setCells r 0 R.toList)
  ext : ∀ w, Ext w W → w.heap.size ≤ c → w.heap.size ≤ r → Ext w ((W.setCells c 0 X.toList).setCells r 0 R.toList)
theorem res_info : (Tryz.prog.info? 72).map (·.size) = some 5 := by kernel_rfl
theorem two_out {W : World} {c r : Nat} {X R ZC ZR : Array Value} (hC : At W c 31 ZC) (hR : At W r 72 ZR) (h1 : ZC.size = X.size) (h2 : ZR.size = R.size) (hX : X.size = 37) (hR5 : R.size = 5) (hcr : c ≠ r) : TwoOut W c r X R := by
  have t1 : W.there c 0 X.size := by rw [← h1]; exact hC.there
  have t2' : W.there r 0 R.size := by rw [← h2]; exact hR.there
  have t2 : (W.setCells c 0 X.toList).there r 0 R.size := World.there_setCells t2' c 0 X.toList
  refine ⟨t1, t2, ?_, ?_, fun w hE h3 h4 => (hE.setCells h3 _ _).setCells h4 _ _⟩
  · have hr := World.rangeAt_setCells_apart (World.rangeAt_setCells_same W c 0 X.toList (by rw [Array.length_toList]; exact t1)) r 0 R.toList (.inl hcr)
    have := run_loadVar_mid (P := Tryz.prog) _ c 0 31 X.toList _ hr Tryz.underlying31 rfl (by rw [Array.length_toList, hX]; exact rf_cinfo)
    exact this
  · have hr := World.rangeAt_setCells_same (W.setCells c 0 X.toList) r 0 R.toList (by rw [Array.length_toList]; exact t2)
    have := run_loadVar_mid (P := Tryz.prog) _ r 0 72 R.toList _ hr Tryz.underlying72 rfl (by rw [Array.length_toList, hR5]; exact res_info)
    exact this
end Go.Proofs.YtchnejfdompfpaaGreat
