/-
  Layer 18: the tables where prepare leaves them.
-/
import Derived.Test.YtlodaffiamegpaaHistTab
import Derived.Test.YtlodaffiamegpaaHs10
import Derived.Test.YtlodaffiamegpaaHs7
namespace Go.Proofs.Ytlodaffiamegpaa
open Go.RowKit Go.Sort

abbrev nilS : Value := .slice none 0 0
def valRows (svs : List Value) (vals : List (List Nat)) : List Row := List.zipWith (fun v xs => ⟨34, v, u64s xs⟩) svs vals
theorem valRows_get {svs : List Value} {vals : List (List Nat)} {n : Nat} {v : Value} {xs : List Nat} (h1 : svs[n]? = some v) (h2 : vals[n]? = some xs) : (valRows svs vals)[n]? = some ⟨34, v, u64s xs⟩ := by
  unfold valRows; rw [List.getElem?_zipWith, h1, h2]
def tabRows (mv pv bv : Value) (name : List Int) (put before : List Nat) (svs : List Value) (vals : List (List Nat)) : List Row :=
  ⟨3, mv, i64s name⟩ :: ⟨3, pv, nat64s put⟩ :: ⟨50, bv, u32s before⟩ :: valRows svs vals
structure PrepIn (w : World) (g : Nat) (l : List HRow) (ov : Value) : Prop where
  blk : At w g 53 #[ov, nilS, nilS, nilS, nilS, nilS, .int .u32 0, nilS, .map none]
  ops : Sln w ov 8 (l.map hrow)
  rows : ∀ x ∈ l, Sl w (.slice x.2.1 x.1.names.length x.2.2) (x.1.names.map Value.string)
  ne : l ≠ []
  far : ∀ b o n c, ov = .slice (some ⟨b, o, none⟩) n c → b ≠ g
  rfar : ∀ x ∈ l, ∀ b o n c, Value.slice x.2.1 x.1.names.length x.2.2 = .slice (some ⟨b, o, none⟩) n c → 0 < n → b ≠ g
  n20 : l.length ≤ 20
  kinds : ∀ x ∈ l, x.1.kind = 1 ∨ x.1.kind = 2 ∨ x.1.kind = 3 ∨ x.1.kind = 4 ∨ x.1.kind = 5
  xn : ∀ x ∈ l, x.1.names.length ≤ 9223372036854775807
  ops_lt : ∀ b o n c, ov = .slice (some ⟨b, o, none⟩) n c → l ≠ [] → b < w.heap.size


theorem sl_lt {w : World} {v : Value} {xs : List Value} (h : Sl w v xs) {b o n c : Nat} (hv : v = .slice (some ⟨b, o, none⟩) n c) (hn : 0 < n) : b < w.heap.size := by
  obtain ⟨A, c', h1, h2⟩ := h
  rw [h1] at hv
  injection hv with hA hl _
  obtain ⟨b', o', hA', hc⟩ := h2 (fun e => by subst e; simp at hl; omega)
  rw [hA] at hA'
  injection hA' with hA'
  injection hA' with hb _ _
  subst hb
  have hx := hc 0
  cases xs with
  | nil => simp at hl; omega
  | cons x xs => exact cell_lt (hx x rfl)
theorem sl_at {w : World} {b : Nat} {t : TypeId} {xs : List Value} (h : At w b t xs.toArray) (n c : Nat) (hn : xs.length = n) : Sl w (.slice (some ⟨b, 0, none⟩) n c) xs := by
  subst hn
  refine ⟨some ⟨b, 0, none⟩, c, rfl, fun _ => ⟨b, 0, rfl, fun i u hu => ?_⟩⟩
  have := h.cell i
  rw [Nat.zero_add, this]
  simpa using hu
theorem possible_any {S : Nat → Prop} (w : World) (g : Nat) (l : List HRow) (T : HTab) (X : HLoc) (hT : TabAt S w g l T X) (i : Nat) (hi20 : T.name.length ≤ 20) (hnn : T.names.length ≤ 20) (hvl : T.vals.length = T.names.length) (hv20 : ∀ n, (T.vals.getD n []).length ≤ 20) (x : HRow)
    (hnm : T.name[i]? = some (idxV T.names x.1.name)) (hx : Sl w (.slice x.2.1 x.1.names.length x.2.2) (x.1.names.map Value.string)) (hxn : x.1.names.length ≤ 9223372036854775807) (hk : x.1.kind = 1 ∨ x.1.kind = 2 ∨ x.1.kind = 3 ∨ x.1.kind = 4 ∨ x.1.kind = 5) :
    Calls Try.prog 30 #[.pointer (some ⟨g, 0, none⟩), .int .i64 (i : Int), hagg x] w fun e w' => PossOut T x.1 w e w' := by
  by_cases h4 : x.1.kind = 4
  · exact possible_list w g l T X hT i (List.getElem?_eq_some_iff.1 hnm).1 hi20 hnn x hx hxn h4
  · exact possible_one w g l T X hT i hi20 hnn hvl hv20 x hnm (by omega)
theorem WalkIn.start {l : List HRow} {ns : List ByteArray} {vals : List (List Nat)} {put : List Nat} {svs : List Value} {LA nA3 : Option Addr} {lc nc3 : Nat} {mv pv bv : Value} {w W wr : World} {g vb st sn : Nat}
    (hI : PrepIn w g l (.slice LA l.length lc)) (hlt : w.heap.size ≤ vb ∧ vb < st ∧ st < sn ∧ sn < W.heap.size)
    (hnA : ∀ k, (Value.slice nA3 ns.length nc3).ownBlock = some k → w.heap.size ≤ k ∧ k < vb)
    (hN : Sl W (.slice nA3 ns.length nc3) (ns.map Value.string))
    (hS : At W st 3 (Array.replicate ns.length (.int .i64 0))) (hM : MapAt u64Way unitV W sn [])
    (hC0 : Chg (· = g) w W) (hC : Chg (fun j => j = g ∨ j = vb ∨ W.heap.size ≤ j) W wr)
    (hB : At wr g 53 #[.slice LA l.length lc, .slice nA3 ns.length nc3, .slice (some ⟨vb, 0, none⟩) ns.length ns.length, mv, pv, bv, .int .u32 (needB (opsOf l) l.length : Nat), .slice (some ⟨st, 0, none⟩) ns.length ns.length, .map (some sn)])
    (hV : At wr vb 81 svs.toArray) (hsl : svs.length = ns.length)
    (hR : RowsAt wr W.heap.size (tabRows mv pv bv ((opsOf l).map fun x => idxV ns x.name) put ((opsOf l).map fun x => befB (opsOf l) x (opsOf l).length) svs vals))
    (hVO : ValsOk (opsOf l) ns l.length vals put) :
    WalkIn l (tabOf (opsOf l) ns vals put) ⟨.slice LA l.length lc, .slice nA3 ns.length nc3, .slice (some ⟨vb, 0, none⟩) ns.length ns.length, svs, mv, pv, bv, st, sn⟩ g (List.replicate ns.length 0) [] wr := by
  obtain ⟨l1, l2, l3, l4⟩ := hlt
  have hg := hI.blk.lt
  have hsepw : ∀ (v : Value) (xs : List Value), Sl w v xs → Sep (fun k => k = st ∨ k = sn) v := fun v xs h b o n c hv hn hs => by
    have := sl_lt h hv hn
    omega
  have hsepo : ∀ (t : TypeId) (v : Value) (xs : List Value), wr.ownsRow W.heap.size t 1 v xs.length xs → Sep (fun k => k = st ∨ k = sn) v := fun t v xs h b o n c hv hn hs => by
    have := own_ge h b (by rw [hv]; rfl)
    omega
  have hr0 := hR.get (i := 0) rfl
  have hr1 := hR.get (i := 1) rfl
  have hr2 := hR.get (i := 2) rfl
  refine ⟨⟨?_, ?_, ?_, ?_, ?_, ?_, ?_, ?_, ?_, ⟨?_, ?_⟩, ?_, ?_, ?_, ?_, ?_, ?_⟩, ?_, ⟨?_, ?_⟩, ?_, ?_⟩
  · show At wr g _ #[_, _, _, _, _, _, .int .u32 (needB (opsOf l) (opsOf l).length : Nat), _, _]
    rw [opsOf_len]; exact hB
  · rintro (h | h)
    · have h' : g = st := h; omega
    · have h' : g = sn := h; omega
  · exact (hI.ops.chg hC0 (fun b o n c hv _ h => hI.far b o n c hv h)).chg hC (fun b o n c hv hne h => by
      have hb := hI.ops_lt b o n c hv (by intro e; exact hne (by rw [e]; rfl))
      have := hI.far b o n c hv
      have hs := hC0.size
      rcases h with h | h | h <;> omega)
  · intro b o n c hv hn hs
    have hb := hI.ops_lt b o n c hv hI.ne
    have h' : b = st ∨ b = sn := hs
    omega
  · intro x hx
    have hr := hI.rows x hx
    refine ⟨(hr.chg hC0 (fun b o n c hv hne h => ?_)).chg hC (fun b o n c hv hne h => ?_), hsepw _ _ hr⟩
    · have hn : 0 < n := by
        injection hv with _ h2 _
        have := List.length_pos_iff.2 hne
        rw [List.length_map] at this; omega
      exact hI.rfar x hx b o n c hv hn h
    · have hn : 0 < n := by
        injection hv with _ h2 _
        have := List.length_pos_iff.2 hne
        rw [List.length_map] at this; omega
      have h1 := sl_lt hr hv hn
      have h2 := hI.rfar x hx b o n c hv hn
      have hs := hC0.size
      rcases h with h | h | h <;> omega
  · exact hN.chg hC (fun b o n c hv hne h => by
      have h1 := hnA b (by rw [hv]; rfl)
      rcases h with h | h | h <;> omega)
  · intro b o n c hv hn hs
    have hv' : Value.slice nA3 ns.length nc3 = _ := hv
    have h1 := hnA b (by rw [hv']; rfl)
    have h' : b = st ∨ b = sn := hs
    omega
  · exact sl_at hV _ _ hsl
  · intro b o n c hv hn hs
    have h' : b = st ∨ b = sn := hs
    have hv' : Value.slice (some ⟨vb, 0, none⟩) ns.length ns.length = _ := hv
    injection hv' with h1 _ _
    injection h1 with h1
    injection h1 with h1 _ _
    omega
  · show svs.length = vals.length
    rw [hsl, hVO.vlen]
  · intro i v vs h1 h2
    have hr := hR.get (i := i + 3) (valRows_get h1 h2)
    exact ⟨Sl.of_own hr, hsepo _ _ _ hr⟩
  · exact Sl.of_own hr0
  · exact hsepo _ _ _ hr0
  · exact Sl.of_own hr1
  · exact hsepo _ _ _ hr1
  · exact Sl.of_own hr2
  · exact hsepo _ _ _ hr2
  · have := hS.chg hC (fun h => by rcases h with h | h | h <;> omega)
    have e : stCells (List.replicate ns.length 0) = Array.replicate ns.length (.int .i64 0) := by
      unfold stCells nat64s
      apply Array.ext'
      simp
    rw [e]; exact this
  · show (List.replicate ns.length 0).length = ns.length
    simp
  · intro n
    have : (List.replicate ns.length 0).getD n 0 = 0 := by
      rw [List.getD_eq_getElem?_getD, List.getElem?_replicate]
      split <;> rfl
    rw [this]; exact Nat.zero_le _
  · exact hM.chg hC (fun h => by rcases h with h | h | h <;> omega)
  · intro key h; cases h
end Go.Proofs.Ytlodaffiamegpaa
