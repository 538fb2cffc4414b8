/-
  Part 11 of what the law leans on.
-/
import Derived.Test.YtapodcmjggmgmaaGreatDoorSR7
import Derived.Test.YtapodcmjggmgmaaGreatDoorSR8
import Derived.Test.YtapodcmjggmgmaaGreatDoorSR10
import Derived.Maps.AppendAt
import Derived.Laws.AppendOwn
set_option linter.unusedVariables false
set_option linter.unusedSimpArgs false
set_option linter.unusedSectionVars false
namespace Go.Proofs.YtapodcmjggmgmaaGreatDoor
open Go.RowKit Go.Sort
def gText (L : List (Nat × ByteArray)) (k : Nat) : List UInt8 := (frec 3 L.length ByteArray.empty).data.toList ++ (L.take k).flatMap fun x => (frec 1 x.1 x.2).data.toList
def gPlc (next : Nat) (L : List (Nat × ByteArray)) (k : Nat) : Int × Plc :=
  (((L.getD k (0, ByteArray.empty)).1 : Int), ⟨(next : Int), ((gText L k).length : Int), ((frec 1 (L.getD k (0, ByteArray.empty)).1 (L.getD k (0, ByteArray.empty)).2).size : Int), (frec 1 (L.getD k (0, ByteArray.empty)).1 (L.getD k (0, ByteArray.empty)).2).data.toList⟩)
def gMap (next : Nat) (L : List (Nat × ByteArray)) : Nat → List (Int × Plc)
  | 0 => []
  | k + 1 => gPlc next L k :: gMap next L k
theorem gText_succ {L : List (Nat × ByteArray)} {k : Nat} {x : Nat × ByteArray} (h : L[k]? = some x) : gText L (k + 1) = gText L k ++ (frec 1 x.1 x.2).data.toList := by
  unfold gText
  rw [List.take_add_one, h]
  simp
theorem gText_le (L : List (Nat × ByteArray)) (hL : ∀ x ∈ L, x.2.size ≤ 4000) : ∀ k, (gText L k).length ≤ 38 + 4038 * k
  | 0 => by
    have := frec_size 3 L.length ByteArray.empty
    have h2 : (frec 3 L.length ByteArray.empty).data.toList.length = (frec 3 L.length ByteArray.empty).size := rfl
    have h3 : ByteArray.empty.size = 0 := rfl
    simp only [gText, List.take_zero, List.flatMap_nil, List.append_nil]; omega
  | k + 1 => by
    have ih := gText_le L hL k
    cases h : L[k]? with
    | none =>
      have : gText L (k + 1) = gText L k := by
        unfold gText
        have hl := List.getElem?_eq_none_iff.1 h
        rw [List.take_of_length_le (by omega), List.take_of_length_le hl]
      rw [this]; omega
    | some x =>
      rw [gText_succ h, List.length_append]
      have h1 := frec_size 1 x.1 x.2
      have h2 := hL x (List.mem_of_getElem? h)
      have h3 : (frec 1 x.1 x.2).data.toList.length = (frec 1 x.1 x.2).size := rfl
      omega
theorem gMap_key {next : Nat} {L : List (Nat × ByteArray)} {x : Int × Plc} : ∀ {k : Nat}, k ≤ L.length → x ∈ gMap next L k → ∃ i, i < k ∧ x = gPlc next L i
  | 0, _, h => by cases h
  | k + 1, hk, h => by
    rcases List.mem_cons.1 h with rfl | h
    · exact ⟨k, by omega, rfl⟩
    · obtain ⟨i, hi, e⟩ := gMap_key (by omega) h
      exact ⟨i, by omega, e⟩
theorem gMap_ldel {next : Nat} {L : List (Nat × ByteArray)} (hn : (L.map (·.1)).Pairwise (· < ·)) {k : Nat} (hk : k < L.length) : ldel (gPlc next L k).1 (gMap next L k) = gMap next L k := by
  unfold ldel
  refine List.filter_eq_self.2 fun x hx => ?_
  obtain ⟨i, hi, rfl⟩ := gMap_key (Nat.le_of_lt hk) hx
  refine decide_eq_true ?_
  intro e
  simp only [gPlc] at e
  have e' : (L.getD i (0, ByteArray.empty)).1 = (L.getD k (0, ByteArray.empty)).1 := by exact_mod_cast e
  rw [List.getD_eq_getElem?_getD, List.getD_eq_getElem?_getD, List.getElem?_eq_getElem (by omega), List.getElem?_eq_getElem hk] at e'
  simp only [Option.getD_some] at e'
  have h1 := List.pairwise_iff_getElem.1 hn i k (by simp; omega) (by simpa using hk) hi
  simp only [List.getElem_map] at h1
  omega
structure Store_ (S : St) (L : List (Nat × ByteArray)) : Prop where
  ids : (L.map (·.1)).Pairwise (· < ·)
  perm : (L.map fun x => (x.1 : Int)).Perm (S.C.map (·.1))
  has : ∀ x ∈ L, ∃ p, lget (x.1 : Int) S.C = some p ∧ Holds S.D x.1 p x.2
  dat : ∀ x ∈ L, x.2.size ≤ 4000 ∧ x.1 < 18446744073709551616
  few : L.length < 50
theorem strCells_bytes (s : ByteArray) (l : List UInt8) : Lib.byteCells l ++ Lib.strCells s = Lib.byteCells (l ++ s.data.toList) := by
  simp [Lib.byteCells, Lib.strCells]
theorem isb_keep {T e : TypeId} {B b : Nat} {bs : List Value} {w w' : World} (h : Lib.IsBuilder T e B b bs w) (hE : Ext w w') : Lib.IsBuilder T e B b bs w' := by
  have key : ∀ p, Lib.BuilderAt T e B b p bs w → Lib.BuilderAt T e B b p bs w' := by
    rintro p ⟨h1, v, h2, h3, h4⟩
    exact ⟨h1, v, (Ext.block hE (lt_of_block h2)).trans h2, own_chg h3 hE (fun _ h => h.elim), h4⟩
  exact h.elim (fun h => .inl (key _ h)) (fun h => .inr (key _ h))
theorem isb_chg {T e : TypeId} {B b : Nat} {bs : List Value} {w w' : World} {S : Nat → Prop} (h : Lib.IsBuilder T e B b bs w) (hC : Chg S w w') (hS : ∀ k, S k → k < B) : Lib.IsBuilder T e B b bs w' := by
  have key : ∀ p, Lib.BuilderAt T e B b p bs w → Lib.BuilderAt T e B b p bs w' := by
    rintro p ⟨h1, v, h2, h3, h4⟩
    exact ⟨h1, v, (hC.block b (lt_of_block h2) (fun hs => by have := hS b hs; omega)).trans h2, own_chg h3 hC (fun k hk => by have := hS k hk; omega), h4⟩
  exact h.elim (fun h => .inl (key _ h)) (fun h => .inr (key _ h))
theorem isb_lt {T e : TypeId} {B b : Nat} {bs : List Value} {w : World} (h : Lib.IsBuilder T e B b bs w) : b < w.heap.size := h.elim (fun h => h.lt) (fun h => h.lt)
set_option maxRecDepth 100000 in
set_option maxHeartbeats 2000000 in
theorem gather_any (w : World) (s d m c : Nat) (S : St) (h : StAt w s d m c S) (hD : S.D.Calm) (L : List (Nat × ByteArray)) (hL : Store_ S L) (next : Nat) (hT : Tab w) :
    Calls Tryz.prog 103 #[.pointer (some ⟨s, 0, none⟩), .int .i64 (next : Int)] w fun e w' =>
      ∃ c', e = .returned (.tuple #[.string ⟨(gText L L.length).toArray⟩, .map (some c'), .int .i64 0]) ∧ w.heap.size ≤ c' ∧ MapAt u64Way Plc.val w' c' (gMap next L L.length) ∧ Ext w w' := by
  have hCl : S.C.length = L.length := by have := hL.perm.length_eq; simpa using this.symm
  have hfew := hL.few
  have hE0 := ((Ext.refl w).alloc (.map #[] 0)).alloc (.cells #[.pointer none, .slice none 0 0] 161)
  have hS0 := h.ext hE0
  have c2 : ((w.alloc (.map #[] 0)).alloc (.cells #[.pointer none, .slice none 0 0] 161)).cell? ⟨s, 2, none⟩ = some (.map (some c)) := hS0.st.cell 2
  have hlen : ∀ ty, (Builtin.len_ #[128] ty #[.map (some c)]).run Tryz.prog ((w.alloc (.map #[] 0)).alloc (.cells #[.pointer none, .slice none 0 0] 161)) = .ok (.int .i64 (L.length : Int)) ((w.alloc (.map #[] 0)).alloc (.cells #[.pointer none, .slice none 0 0] 161)) := fun ty => by rw [hS0.ch.len map_chunks ty, hCl]
  have hM0 := (MapAt.new u64Way Plc.val w).alloc (.cells #[.pointer none, .slice none 0 0] 161)
  have hsz1 : (w.alloc (.map #[] 0)).heap.size = w.heap.size + 1 := by simp
  have hB0 := Lib.fresh_isBuilder 161 5 (w.alloc (.map #[] 0))
  rw [hsz1] at hB0
  have hmm := @run_makeMap Tryz.prog
  go_enter Tryz.func103, Tryz.ntmps103
  go_wp2_with fail
  have hT0 := hT.ext hE0
  have hsz0 : ((w.alloc (.map #[] 0)).alloc (.cells #[.pointer none, .slice none 0 0] 161)).heap.size = w.heap.size + 2 := by simp
  generalize (w.alloc (.map #[] 0)).alloc (.cells #[.pointer none, .slice none 0 0] 161) = w0 at hE0 hS0 c2 hlen hM0 hB0 hT0 hsz0 ⊢
  obtain ⟨c', hc'⟩ : ∃ c', w.heap.size = c' := ⟨_, rfl⟩
  rw [hc'] at hM0 hB0 hsz0 ⊢
  clear c2 hlen hmm hsz1
  have hd0 : ByteArray.empty = (⟨#[]⟩ : ByteArray) := rfl
  have cf : Calls Tryz.prog 142 #[.agg #[.int .u64 3, .int .u64 (L.length : Int), .string ⟨#[]⟩]] w0 _ := frec_any w0 3 L.length ByteArray.empty (by decide) (by omega) (by decide) hT0
  have hf3 := frec_size 3 L.length ByteArray.empty
  have hg0 : gText L 0 = (frec 3 L.length ByteArray.empty).data.toList := by simp [gText]
  have hfs0 : ByteArray.empty.size = 0 := rfl
  rw [hfs0] at hf3
  generalize frec 3 L.length ByteArray.empty = f3 at cf hf3 hg0
  refine cf.mono ?_
  rintro e w1 ⟨rfl, hE1⟩
  clear cf
  have cb := bwrite_any (c' + 1) (c' + 1) [] f3 w1 (isb_keep hB0 hE1) (by simp; omega) (by have := hE1.size; omega)
  go_wp2_with fail
  refine cb.mono ?_
  rintro e w2 ⟨rfl, hB2, hC2⟩
  clear cb
  have hM2 := (hM0.ext hE1).chg hC2 (by rintro (h | h); omega; omega)
  have hs2 := hC2.size
  have hs1 := hE1.size
  have hE2 : Ext w w2 := ((hE0.trans hE1).chg_trans hC2).mono (fun k hk hs => by rcases hs with h | h <;> omega)
  have hB2' : Lib.IsBuilder 161 5 (c' + 1) (c' + 1) (Lib.byteCells (gText L 0)) w2 := by
    rw [hg0]
    have := strCells_bytes f3 []
    simp only [List.nil_append] at this hB2
    rw [← this]
    simpa [Lib.byteCells] using hB2
  clear hB2 hB0 hM0 hS0 hE0 hT0 hC2 hE1 hg0 hf3
  have hids : (L.map fun x => (x.1 : Int)).Pairwise (· < ·) := List.pairwise_map.2 ((List.pairwise_map.1 hL.ids).imp fun h => by exact_mod_cast h)
  have ci := cids_any w2 s d m c S (h.ext hE2) (L.map fun x => (x.1 : Int)) hids hL.perm (by simpa using hfew)
  go_wp2_with fail
  refine ci.mono ?_
  rintro e w3 ⟨v, rfl, hown, hE3⟩
  clear ci
  obtain ⟨A, m', c0, rfl⟩ := own_slice hown
  have hvl : m' = L.length := by
    rcases hown.2 with ⟨h1, h2⟩ | ⟨g, cap, cur, h1, _⟩
    · injection h1 with _ q _; rw [q]; simpa using h2.symm
    · injection h1 with _ q _; rw [q]; simp
  subst hvl
  have hsl3 := Sl.of_own hown
  have hty : ∀ g, some g = (Value.slice A L.length c0).ownBlock → c' + 1 < g ∧ ∃ cur fz, w3.heap[g]? = some (.cells cur 28 fz) := by
    intro g hg
    rcases hown.2 with ⟨h1, h2⟩ | ⟨g', cap, cur, h1, h2, h3, _⟩
    · rw [h1] at hg; cases hg
    · rw [h1] at hg
      have e : g = g' := by simpa [Value.ownBlock] using hg
      subst e
      exact ⟨by omega, cur, _, h3⟩
  have hM3 := hM2.ext hE3
  have hB3 := isb_keep hB2' hE3
  have hE30 := hE2.trans hE3
  clear hown hids hB2' hM2
  go_wp2_with fail
  go_loopw [27] (fun iv wr => ∃ k : Nat, k ≤ L.length ∧ iv = .int .i64 (k : Int) ∧ Lib.IsBuilder 161 5 (c' + 1) (c' + 1) (Lib.byteCells (gText L k)) wr ∧ MapAt u64Way Plc.val wr c' (gMap next L k) ∧ Ext w wr ∧ Sl wr (.slice A L.length c0) ((L.map fun x => (x.1 : Int)).map (Value.int .u64)) ∧ (∀ g, some g = (Value.slice A L.length c0).ownBlock → wr.heap[g]? = w3.heap[g]?)) (fun iv _ => L.length - (intOf iv).toNat)
  case atStart => exact ⟨0, Nat.zero_le _, rfl, hB3, hM3, hE30, hsl3, fun _ _ => rfl⟩
  case round =>
    obtain ⟨k, hk, rfl, hB, hM, hE, hSl, hrow⟩ := hrel
    by_cases hlt : k < L.length
    · obtain ⟨x, hx⟩ : ∃ x, L[k]? = some x := ⟨_, List.getElem?_eq_getElem hlt⟩
      have hxm := List.mem_of_getElem? hx
      obtain ⟨p, hp, hH⟩ := hL.has x hxm
      obtain ⟨hxd, hxi⟩ := hL.dat x hxm
      have hgs := gText_succ hx
      have hgl := gText_le L (fun y hy => (hL.dat y hy).1) k
      have hgk : L.getD k (0, ByteArray.empty) = x := by rw [List.getD_eq_getElem?_getD, hx]; rfl
      have hgm : gMap next L (k + 1) = gPlc next L k :: gMap next L k := rfl
      have hdel := gMap_ldel (next := next) hL.ids hlt
      have hpc : gPlc next L k = ((x.1 : Int), ⟨(next : Int), ((gText L k).length : Int), ((frec 1 x.1 x.2).size : Int), (frec 1 x.1 x.2).data.toList⟩) := by unfold gPlc; rw [hgk]
      obtain ⟨g, o, rfl, hcell⟩ : ∃ g o, A = some ⟨g, o, none⟩ ∧ wr.cell? ⟨g, o + k, none⟩ = some (.int .u64 (x.1 : Int)) := by
        obtain ⟨A', c1, hv', hxx⟩ := hSl
        obtain ⟨g, o, rfl, hc⟩ := hxx (fun e => by have := List.map_eq_nil_iff.1 (List.map_eq_nil_iff.1 e); subst this; simp at hlt)
        simp only [Value.slice.injEq] at hv'
        exact ⟨g, o, hv'.1, hc k _ (by rw [List.getElem?_map, List.getElem?_map, hx]; rfl)⟩
      obtain ⟨htg, cur, fz, htc⟩ := hty g rfl
      have cg := cget_any wr s d m c S (h.ext hE) hD x.1 hxi p x.2 hxd hp hH (hT.ext hE)
      have HG := Lib.hid hgs
      have HM := Lib.hid hgm
      have HD := Lib.hid hdel
      have HP := Lib.hid hpc
      have HW := Lib.hid hrow
      clear hgs hgm hdel hpc hgk hp hH hxm hx hrow
      have hfs := frec_size 1 x.1 x.2
      have hf8 := frec_ge 1 x.1 x.2
      have cfr := fun (w' : World) (hT' : Tab w') => frec_any w' 1 x.1 x.2 (by decide) hxi (by omega) hT'
      generalize frec 1 x.1 x.2 = f at cfr hfs hf8 HG HP
      obtain ⟨id, data⟩ := x
      simp only at cg cfr hfs HP hcell hxi hxd
      go_wp2_with fail
      refine cg.mono ?_
      rintro e w4 ⟨rfl, hE4⟩
      clear cg hcell
      go_wp2_with fail
      have cf1 : Calls Tryz.prog 142 #[.agg #[.int .u64 1, .int .u64 (id : Int), .string data]] w4 _ := cfr w4 (hT.ext (hE.trans hE4))
      refine cf1.mono ?_
      rintro e w5 ⟨rfl, hE5⟩
      clear cf1 cfr
      have hE45 := hE4.trans hE5
      have hB5 := isb_keep hB hE45
      have cl := Tryz.Builder_Len (c' + 1) (c' + 1) (Lib.byteCells (gText L k)) w5 hB5
      have hbl : (Lib.byteCells (gText L k)).length = (gText L k).length := by simp [Lib.byteCells]
      rw [hbl] at cl
      go_wp2_with fail
      refine cl.mono ?_
      rintro e w6 ⟨rfl, rfl⟩
      clear cl
      obtain ⟨h0, h1, h2, h3, h4, h5, h6, h7, hh⟩ : ∃ h0 h1 h2 h3 h4 h5 h6 h7 : Value, headV f.data.toList = #[h0, h1, h2, h3, h4, h5, h6, h7] := ⟨_, _, _, _, _, _, _, _, rfl⟩
      have ch := headof_any w6 f hf8
      rw [hh] at ch
      go_wp2_with fail
      refine ch.mono ?_
      rintro e w7 ⟨rfl, hE7⟩
      clear ch
      have hM7 := (hM.ext hE45).ext hE7
      obtain ⟨w8, hupd, hM8, hC8⟩ := chunks_upd hM7 (id : Int) ⟨(next : Int), ((gText L k).length : Int), (f.size : Int), f.data.toList⟩
      have hpcells : (Plc.cells ⟨(next : Int), ((gText L k).length : Int), (f.size : Int), f.data.toList⟩) = #[.int .i64 (next : Int), .int .i64 ((gText L k).length : Int), .int .i64 (f.size : Int), h0, h1, h2, h3, h4, h5, h6, h7] := by
        have q := congrArg (fun a : Array Value => #[Value.int .i64 (next : Int), .int .i64 ((gText L k).length : Int), .int .i64 (f.size : Int)] ++ a) hh
        simpa [headV, Plc.cells] using q
      rw [hpcells] at hupd
      have hB8 : Lib.IsBuilder 161 5 (c' + 1) (c' + 1) (Lib.byteCells (gText L k)) w8 := by
        exact isb_chg (isb_keep hB5 hE7) hC8 (fun k hk => by have e : k = c' := hk; omega)
      have hsz : c' + 1 ≤ w8.heap.size := by have := isb_lt hB8; omega
      have cb := bwrite_any (c' + 1) (c' + 1) (Lib.byteCells (gText L k)) f w8 hB8 (by rw [hbl]; omega) hsz
      go_wp2_with fail
      refine cb.mono ?_
      rintro e w9 ⟨rfl, hB9, hC9⟩
      clear cb
      go_wp2_with fail
      go_roundw
      case rel =>
        have hg4 : wr.heap[g]? = some (.cells cur 28 fz) := (HW.out g rfl).trans htc
        have hgl4 := lt_of_block hg4
        have s7 := hE7.size
        have s45 := hE45.size
        have hg8 : w8.heap[g]? = some (.cells cur 28 fz) := by
          rw [hC8.block g (by omega) (by omega), Ext.block hE7 (by omega), Ext.block hE45 hgl4]
          exact hg4
        have hnb : ¬ BdS w8 (c' + 1) (c' + 1) g := by
          rintro (e | ⟨_, cs, m, e⟩)
          · omega
          · rw [hg8] at e
            injection e with e
            injection e with _ e _
            exact absurd e (by decide)
        refine ⟨k + 1, by omega, by go_num, ?_, ?_, ?_, ?_, ?_⟩
        · rw [HG.out, ← strCells_bytes]; exact hB9
        · rw [HM.out, HP.out]
          have hM9 := hM8.chg hC9 (by rintro (e | ⟨e, _⟩) <;> omega)
          have hd := HD.out
          rw [HP.out] at hd
          simp only at hd
          rw [hd] at hM9
          exact hM9
        · exact (((hE.trans hE45).trans hE7).chg_trans (Chg.trans (S := fun j => c' ≤ j) (hC8.mono (fun j _ hj => by have e : j = c' := hj; omega)) hC9 (fun j _ hj => by rcases hj with e | ⟨e, _⟩ <;> omega))).mono (fun j hj hs => by omega)
        · refine (((hSl.ext hE45).ext hE7).chg hC8 (fun b o' n' cc hv _ => ?_)).chg hC9 (fun b o' n' cc hv _ => ?_)
          · simp only [Value.slice.injEq, Option.some.injEq, Addr.mk.injEq] at hv
            omega
          · simp only [Value.slice.injEq, Option.some.injEq, Addr.mk.injEq] at hv
            rw [← hv.1.1]; exact hnb
        · intro g1 hg1
          have e : g1 = g := by simpa [Value.ownBlock] using hg1
          subst e
          rw [hC9.block g1 (lt_of_block hg8) hnb, hg8, htc]
      case measure => simp [intOf]; omega
    · have hke : k = L.length := by omega
      subst hke
      have cs := Tryz.Builder_String_any (c' + 1) (c' + 1) (gText L L.length) wr hB (by have := isb_lt hB; omega)
      go_wp2_with fail
      refine cs.mono ?_
      rintro e w4 ⟨rfl, hBl⟩
      clear cs
      have hM4 := hM.of_block (hBl.block c' (by omega))
      have hE4 : Ext w w4 := hE.chg_trans (S := fun j => c' + 1 ≤ j) ⟨hBl.os, hBl.tape, hBl.output, hBl.size, fun j hj hn => hBl.block j (by omega)⟩ |>.mono (fun j hj hs => by omega)
      go_wp2_with fail
      refine bodyPost_ret (v := .tuple #[.string ⟨(gText L L.length).toArray⟩, .map (some c'), .int .i64 0]) (by simp [results, Tryz.results103, go_sem]) rfl ?_
      exact ⟨c', rfl, by omega, hM4, hE4⟩
end Go.Proofs.YtapodcmjggmgmaaGreatDoor
namespace Go.Proofs.YtapodcmjggmgmaaGreatDoor
open Go.RowKit Go.Sort
theorem own_slc {w : World} {base : Nat} {e : TypeId} {size : Nat} {v : Value} {n : Nat} {xs : List Value} (h : w.ownsRow base e size v n xs) : ∃ A c, v = .slice A n c := by
  rcases h.2 with ⟨rfl, rfl⟩ | ⟨g, cap, cur, rfl, _⟩
  · exact ⟨none, 0, rfl⟩
  · exact ⟨_, _, rfl⟩
theorem str_info : (Tryz.prog.info? 9).map (fun i => (i.zero, i.size, i.bytes)) = some (some (.string ByteArray.empty), 1, 16) := by kernel_rfl
theorem strs_snoc {w : World} {base : Nat} {v : Value} {o : List ByteArray} {n : ByteArray} (h : w.ownsRow base 9 1 v (o.length + 1) (o.map Value.string ++ [.string n])) : w.ownsRow base 9 1 v (o ++ [n]).length ((o ++ [n]).map Value.string) := by
  rw [List.length_append, List.map_append]
  exact h
def Dk.nameL (D : Dk) (ks : List ByteArray) : List ByteArray := ks.filter fun n => (D.get n).nt
def Dk.names (D : Dk) : List ByteArray := if D.e ≠ 0 then [] else D.nameL (D.files.map (·.1))
theorem nameL_take {D : Dk} {ks : List ByteArray} {k : Nat} {n : ByteArray} (h : ks[k]? = some n) : D.nameL (ks.take (k + 1)) = D.nameL (ks.take k) ++ (if (D.get n).nt then [n] else []) := by
  unfold Dk.nameL
  rw [List.take_add_one, h, List.filter_append]
  cases h : (D.get n).nt <;> simp [h]
theorem lost_any (w : World) (d m : Nat) (D : Dk) (hD : DkAt w d m D) : Calls Tryz.prog 36 #[.pointer (some ⟨d, 2, none⟩)] w fun e w' => e = .returned (.bool D.lost) ∧ w' = w := by
  have c2 : w.cell? ⟨d, 2, none⟩ = some (.bool D.lost) := hD.1.cell 2
  go_enter Tryz.func36, Tryz.ntmps36
  go_wp2_with fail
  go_ret
  exact ⟨rfl, rfl⟩
set_option maxRecDepth 100000 in
set_option maxHeartbeats 1000000 in
theorem pnames_any (w : World) (d m : Nat) (D : Dk) (hD : DkAt w d m D) (hO : D.Ok) (hfl : D.files.length ≤ 1048576) :
    Calls Tryz.prog 67 #[.pointer (some ⟨d, 0, none⟩)] w fun e w' =>
      ∃ v, e = .returned (.tuple #[v, .int .i64 D.e]) ∧ Sl w' v (D.names.map Value.string) ∧ Chg (fun k => k = d) w w' ∧ DkAt w' d m D.tick := by
  have ct := try_any w d m D hD hO.a0 hO.a1
  by_cases he : D.e = 0
  · have he1 : (D.e == 0) = true := by simpa using he
    have he2 : (D.e != 0) = false := by simpa using he
    have HFN : Hid (D.names = D.tick.nameL (D.files.map (·.1))) := Lib.hid (by unfold Dk.names; rw [if_neg (by simpa using he)]; rfl)
    have HE := Lib.hid he
    clear he
    go_enter Tryz.func67, Tryz.ntmps67
    go_wp2_with fail
    refine ct.mono ?_
    rintro e w1 ⟨rfl, hC1, hD1⟩
    clear ct
    go_wp2_with fail
    refine (all_any _ d m D.tick hD1 hO.srt hO.keys hfl).mono ?_
    rintro e w2 ⟨v, rfl, hS1, hE⟩
    replace hD1 := hD1.ext hE
    have hC2 := hC1.ext_trans hE
    have hl : (D.files.map (·.1)).length ≤ 1048576 := by simpa using hfl
    replace hS1 : Sl w2 v ((D.files.map (·.1)).map Value.string) := by rw [List.map_map]; exact hS1
    obtain ⟨ns, hns⟩ : ∃ ns, ns = D.files.map (·.1) := ⟨_, rfl⟩
    rw [← hns] at hS1 hl HFN
    clear hns
    obtain ⟨A, c, rfl, hx⟩ := hS1
    rw [List.length_map]
    have hb2 := hC2.size
    clear hC1 hE
    go_wp2_with fail
    go_loopw [5, 18] (fun ov kv wr => ∃ (k : Nat) (o : List ByteArray), kv = .int .i64 (k : Int) ∧ k ≤ ns.length ∧ o.length ≤ k ∧ Hid (D.tick.nameL (ns.take k) = o) ∧ wr.ownsRow w2.heap.size 9 1 ov o.length (o.map Value.string) ∧ Ext w2 wr) (fun _ kv _ => ns.length - (intOf kv).toNat)
    case atStart => exact ⟨0, [], rfl, Nat.zero_le _, by simp, Lib.hid rfl, World.ownsRow_nil _ _ _ _, Ext.refl _⟩
    case round =>
      obtain ⟨k, o, rfl, hk, hol, HPL, hO1, hE⟩ := hrel
      have hDr := hD1.ext hE
      have hbase := hE.size
      by_cases hlt : k < ns.length
      · obtain ⟨n, hb⟩ : ∃ q, ns[k]? = some q := ⟨_, List.getElem?_eq_getElem hlt⟩
        have HNT := Lib.hid (nameL_take (D := D.tick) hb)
        obtain ⟨b, o', rfl, hc⟩ := hx (by intro e; rw [List.map_eq_nil_iff] at e; subst e; simp at hlt)
        have hcw := hc k (.string n) (by rw [List.getElem?_map, hb]; rfl)
        have hcell : wr.cell? ⟨b, o' + k, none⟩ = some (.string n) := (Ext.cell (p := ⟨b, o' + k, none⟩) hE (cell_lt hcw)).trans hcw
        clear hb hcw
        have e4 : wr.cell? ⟨d, 4, none⟩ = some (.map (some m)) := hDr.1.cell 4
        have cl : (Instr.lookup 46 (.map (some m)) (.string n) false).run Tryz.prog wr = .ok (.agg #[.bool (D.tick.get n).nt, .string (D.tick.get n).nx, .bool (D.tick.get n).st, .string (D.tick.get n).sx]) wr := hDr.look n
        generalize D.tick.get n = f at cl HNT
        obtain ⟨n1, s1, n2, s2⟩ := f
        simp only at cl HNT
        have hc0 := fun wx => field_now n1 n2 s1 s2 wx
        have hc1 := fun wx => field_there n1 s1 wx
        cases n1
        · go_wp2_with fail
          go_roundw
          case rel => exact ⟨k + 1, o, by go_num, by omega, by omega, Lib.hid (by rw [HNT.out, HPL.out]; simp), hO1, hE⟩
          case measure => simp [intOf]; omega
        · go_wp2_with (at_builtin; refine wpList_append_row _ hO1 22 Tryz.underlying22 str_info rfl rfl (by decide) (by decide) rfl (by omega) (by omega) rfl _ _ rfl rfl rfl ?_)
          intro v3 w3 hO3 hCb
          replace hO3 := strs_snoc hO3
          have hE3 := Chg.own_ext hE hCb hO1 (Nat.le_refl _)
          clear hO1 hCb cl e4 hcell
          go_wp2_with fail
          go_roundw
          case rel => exact ⟨k + 1, o ++ [n], by go_num, by omega, by simp only [List.length_append, List.length_singleton]; omega, Lib.hid (by rw [HNT.out, HPL.out]; simp), hO3, hE3⟩
          case measure => simp [intOf]; omega
      · obtain rfl : k = ns.length := by omega
        rw [List.take_length] at HPL
        obtain ⟨oA, oc, rfl⟩ := own_slc hO1
        go_wp2_with fail
        go_ret2
        exact ⟨.slice oA o.length oc, by rw [HE.out]; rfl, by rw [HFN.out, HPL.out]; exact Sl.of_own hO1, hC2.ext_trans hE, hDr⟩
  · have he1 : (D.e == 0) = false := by simpa using he
    have he2 : (D.e != 0) = true := by simpa using he
    have HFN : Hid (D.names = []) := Lib.hid (by unfold Dk.names; rw [if_pos he])
    go_enter Tryz.func67, Tryz.ntmps67
    go_wp2_with fail
    refine ct.mono ?_
    rintro e w1 ⟨rfl, hC1, hD1⟩
    clear ct
    go_wp2_with fail
    go_ret2
    exact ⟨_, rfl, by rw [HFN.out]; exact Sl.nil _ _, hC1, hD1⟩
end Go.Proofs.YtapodcmjggmgmaaGreatDoor
namespace Go.Proofs.YtapodcmjggmgmaaGreatDoor
open Go.RowKit Go.Sort
set_option maxRecDepth 100000 in
set_option maxHeartbeats 1000000 in
theorem before_any (w : World) (v : Value) (ns : List Nat) (hS : Sl w v ((ns.map segN).map Value.string)) (next : Nat) (hn : ∀ n ∈ ns, 1 ≤ n ∧ n < 100 ∧ n < next) (hl : ns.length ≤ 1000) :
    Calls Tryz.prog 105 #[v, .int .i64 (next : Int)] w fun e w' => ∃ v', e = .returned v' ∧ w'.ownsRow w.heap.size 9 1 v' (ns.map segN).length ((ns.map segN).map Value.string) ∧ Ext w w' := by
  obtain ⟨A, c, rfl, hx⟩ := hS
  rw [List.length_map, List.length_map]
  go_enter Tryz.func105, Tryz.ntmps105
  go_wp2_with fail
  go_loopw [5, 12] (fun ov kv wr => ∃ k : Nat, kv = .int .i64 (k : Int) ∧ k ≤ ns.length ∧ wr.ownsRow w.heap.size 9 1 ov ((ns.take k).map segN).length (((ns.take k).map segN).map Value.string) ∧ Ext w wr) (fun _ kv _ => ns.length - (intOf kv).toNat)
  case atStart => exact ⟨0, rfl, Nat.zero_le _, World.ownsRow_nil _ _ _ _, Ext.refl _⟩
  case round =>
    obtain ⟨k, rfl, hk, hO, hE⟩ := hrel
    have hbase := hE.size
    by_cases hlt : k < ns.length
    · obtain ⟨n, hb⟩ : ∃ n, ns[k]? = some n := ⟨_, List.getElem?_eq_getElem hlt⟩
      obtain ⟨n1, n2, n3⟩ := hn n (List.mem_of_getElem? hb)
      obtain ⟨b, o', rfl, hc⟩ := hx (by intro e; rw [List.map_eq_nil_iff, List.map_eq_nil_iff] at e; subst e; simp at hlt)
      have hcw := hc k (.string (segN n)) (by rw [List.getElem?_map, List.getElem?_map, hb]; rfl)
      have hcell : wr.cell? ⟨b, o' + k, none⟩ = some (.string (segN n)) := (Ext.cell (p := ⟨b, o' + k, none⟩) hE (cell_lt hcw)).trans hcw
      have htk : (ns.take (k + 1)).map segN = (ns.take k).map segN ++ [segN n] := by rw [List.take_add_one, hb]; simp
      have HT := Lib.hid htk
      have hlk : ((ns.take k).map segN).length ≤ 1000 := by simp; omega
      clear hb hcw htk
      have cn := number_any wr n n1 n2
      have n3' : ((n : Int) < (next : Int)) := by omega
      generalize (ns.take k).map segN = os at hO HT hlk
      go_wp2_with fail
      refine cn.mono ?_
      rintro e w1 ⟨rfl, rfl⟩
      clear cn
      go_wp2_with (at_builtin; refine wpList_append_row _ hO 22 Tryz.underlying22 str_info rfl rfl (by decide) (by decide) rfl (by omega) (by omega) rfl _ _ rfl rfl rfl ?_)
      intro v3 w3 hO3 hCb
      replace hO3 := strs_snoc hO3
      have hE3 := Chg.own_ext hE hCb hO (Nat.le_refl _)
      clear hO hCb hcell
      go_wp2_with fail
      go_roundw
      case rel => exact ⟨k + 1, by go_num, by omega, by rw [HT.out]; exact hO3, hE3⟩
      case measure => simp [intOf]; omega
    · obtain rfl : k = ns.length := by omega
      rw [List.take_length] at hO
      rw [List.length_map] at hO
      obtain ⟨oA, oc, rfl⟩ := own_slc hO
      go_wp2_with fail
      go_ret
      exact ⟨_, rfl, hO, hE⟩
def St.compact (S : St) (L : List (Nat × ByteArray)) (ns : List Nat) : Int × St :=
  if (S.D.change (segN (S.seg + 1)) fun _ => ⟨(gText L L.length).toArray⟩).1 = 0 then
    (0, { S with D := ((((S.D.change (segN (S.seg + 1)) fun _ => ⟨(gText L L.length).toArray⟩).2.syncL [segN (S.seg + 1)]).removeL (ns.map segN)).syncL (ns.map segN)), C := gMap (S.seg + 1) L L.length, seg := S.seg + 1 + 1, size := 0 })
  else ((S.D.change (segN (S.seg + 1)) fun _ => ⟨(gText L L.length).toArray⟩).1, { S with D := (S.D.change (segN (S.seg + 1)) fun _ => ⟨(gText L L.length).toArray⟩).2 })
theorem St.no_text (S : St) (d c : Nat) {i : Nat} {x : ByteArray} (h : (S.cells d c)[i]? = some (.string x)) : False := by
  unfold St.cells at h
  rcases (show i = 0 ∨ i = 1 ∨ i = 2 ∨ i = 3 ∨ i = 4 ∨ i = 5 ∨ 6 ≤ i by omega) with rfl | rfl | rfl | rfl | rfl | rfl | hi
  all_goals first | (simp at h; done) | skip
  rw [Array.getElem?_eq_none (by simpa using hi)] at h
  cases h
theorem St.cells_new (S : St) (d c c' nx : Nat) : (((S.cells d c).setIfInBounds 2 (.map (some c'))).setIfInBounds 3 (.int .i64 ((nx : Int) + 1))).setIfInBounds 4 (.int .i64 0) = St.cells { S with seg := nx + 1, size := 0 } d c' := by
  simp [St.cells]
theorem remove_calm {D : Dk} (h : D.Calm) {ns : List ByteArray} (hr : D.rmOk ns = true) : D.remove ns = (0, D.removeL ns) := by
  unfold Dk.remove
  rw [if_neg (by simp [h.e]), if_pos hr, h.tick]
set_option maxRecDepth 100000 in
set_option maxHeartbeats 4000000 in
theorem compact_any (w : World) (s d m c : Nat) (S : St) (h : StAt w s d m c S) (hD : S.D.Calm) (hdy : S.dirty = false) (L : List (Nat × ByteArray)) (hL : Store_ S L) (ns : List Nat) (hns : S.D.names = ns.map segN) (hne : ns ≠ [])
    (hnr : ∀ n ∈ ns, 1 ≤ n ∧ n < 100 ∧ n < S.seg + 1) (hnl : ns.length ≤ 1000) (h1 : 1 ≤ S.seg) (h2 : S.seg + 1 < 100) (hfl : S.D.files.length ≤ 1048576)
    (hR2 : (S.D.change (segN (S.seg + 1)) fun _ => ⟨(gText L L.length).toArray⟩).2.Calm) (hfl1 : (S.D.change (segN (S.seg + 1)) fun _ => ⟨(gText L L.length).toArray⟩).2.files.length ≤ 1048576)
    (hD2 : (S.D.change (segN (S.seg + 1)) fun _ => ⟨(gText L L.length).toArray⟩).1 = 0 → ((S.D.change (segN (S.seg + 1)) fun _ => ⟨(gText L L.length).toArray⟩).2.syncL [segN (S.seg + 1)]).Calm ∧ ((S.D.change (segN (S.seg + 1)) fun _ => ⟨(gText L L.length).toArray⟩).2.syncL [segN (S.seg + 1)]).rmOk (ns.map segN) = true ∧
      (((S.D.change (segN (S.seg + 1)) fun _ => ⟨(gText L L.length).toArray⟩).2.syncL [segN (S.seg + 1)]).removeL (ns.map segN)).Calm ∧ (((S.D.change (segN (S.seg + 1)) fun _ => ⟨(gText L L.length).toArray⟩).2.syncL [segN (S.seg + 1)]).removeL (ns.map segN)).files.length ≤ 1048576) (hT : Tab w) (hg : ¬ (0 = s ∨ 0 = d ∨ 0 = m)) :
    Calls Tryz.prog 65 #[.pointer (some ⟨s, 0, none⟩)] w fun e w' =>
      e = .returned (.int .i64 (S.compact L ns).1) ∧ ∃ c', (c' = c ∨ w.heap.size ≤ c') ∧ Chg (fun k => k = s ∨ k = d ∨ k = m) w w' ∧ StAt w' s d m c' (S.compact L ns).2 := by
  have hsy : S.sync = S := by unfold St.sync; rw [hdy]; rfl
  have cs := csync_any w s d m c S h hD h1 (by omega) hfl
  rw [hsy] at cs
  obtain ⟨nx, hnx⟩ : ∃ nx, nx = S.seg + 1 := ⟨_, rfl⟩
  obtain ⟨tx, htx⟩ : ∃ tx : ByteArray, tx = ⟨(gText L L.length).toArray⟩ := ⟨_, rfl⟩
  have htl : tx.size ≤ 1000000 := by
    have := gText_le L (fun y hy => (hL.dat y hy).1) L.length
    have h3 := hL.few
    rw [htx]
    show (gText L L.length).length ≤ _
    omega
  rw [← hnx, ← htx] at hR2 hfl1 hD2
  have hx1 : 1 ≤ nx := by omega
  have hx2 : nx < 100 := by omega
  have HNX := Lib.hid hnx
  have HTX := Lib.hid htx
  clear hnx htx
  obtain ⟨R, hR⟩ : ∃ R, R = S.D.change (segN nx) fun _ => tx := ⟨_, rfl⟩
  rw [← hR] at hR2 hfl1 hD2
  have HR := Lib.hid hR
  clear hR
  have hsd := h.sd
  have hsm := h.sm
  have hmc := h.ne
  have hdc := h.dc
  have c3 : ∀ w', Chg (fun k => k = s ∨ k = d ∨ k = m) w w' → StAt w' s d m c S → w'.cell? ⟨s, 3, none⟩ = some (.int .i64 (S.seg : Int)) := fun w' _ h => h.st.cell 3
  go_enter Tryz.func65, Tryz.ntmps65
  go_wp2_with fail
  refine cs.mono ?_
  rintro e w1 ⟨rfl, hC1, hS1⟩
  clear cs
  have k3 := c3 w1 hC1 hS1
  clear c3
  have hgc := gather_any w1 s d m c S hS1 hD L hL nx (hT.chg hC1 hg)
  go_wp2_with fail
  rw [show (S.seg : Int) + 1 = (nx : Int) by have := HNX.out; omega]
  refine hgc.mono ?_
  rintro e w2 ⟨c', rfl, hcb, hcn2, hE2⟩
  clear hgc
  rw [← HTX.out]
  have hS2 := hS1.ext hE2
  have hmc' : m ≠ c' := by have := hS1.dk.2.lt; omega
  have hdc' : d ≠ c' := by have := hS1.dk.1.lt; omega
  have hsc' : s ≠ c' := by have := hS1.st.lt; omega
  have hcw : c' = c ∨ w.heap.size ≤ c' := .inr (by have := hC1.size; omega)
  have hC02 := hC1.ext_trans hE2
  have k0 : w2.cell? ⟨s, 0, none⟩ = some (.pointer (some ⟨d, 0, none⟩)) := hS2.st.cell 0
  have cn := pnames_any w2 d m S.D hS2.dk hD.ok hfl
  rw [hD.e, hD.tick, hns] at cn
  go_wp2_with fail
  refine cn.mono ?_
  rintro e w3 ⟨nv, rfl, hSl, hC3, hdk3⟩
  clear cn
  have hcn := hcn2.chg hC3 (fun e => hdc' e.symm)
  have hA := hS2.st.chg hC3 (fun e => hsd e)
  have hch := hS2.ch.chg hC3 (fun e => hdc e.symm)
  have hC0 : Chg (fun k => k = s ∨ k = d ∨ k = m) w w3 := hC02.trans hC3 (fun _ _ h => .inr (.inl h))
  have hap := hdk3.apart hSl
  have hnb : ∀ b o n c, nv = .slice (some ⟨b, o, none⟩) n c → (ns.map segN).map Value.string ≠ [] → ¬ (b = d ∨ b = m) := fun b o n c hv hne => hap b o n c hv hne
  have hSls : ∀ b o n c, nv = .slice (some ⟨b, o, none⟩) n c → (ns.map segN).map Value.string ≠ [] → b ≠ s := by
    rintro b o n cc rfl hne' rfl
    obtain ⟨A', c1, hv', hxx⟩ := hSl
    obtain ⟨g, o1, rfl, hc⟩ := hxx hne'
    simp only [Value.slice.injEq, Option.some.injEq, Addr.mk.injEq] at hv'
    obtain ⟨⟨rfl, rfl, _⟩, _, _⟩ := hv'
    obtain ⟨x, r, hxr⟩ := List.exists_cons_of_ne_nil hne
    have hq := hc 0 (.string (segN x)) (by rw [hxr]; rfl)
    rw [hA.cell] at hq
    exact St.no_text S d c hq
  clear hap hS2 hS1 hC1 hC02 hcn2 hE2 hC3
  go_wp2_with fail
  rename World => W
  have hdk : DkAt W.drew d m S.D := hdk3.ext ((Ext.refl _).drew)
  have hST : GQ.St (fun k => k = d ∨ k = m) (fun b w => DkAt w d m (if b = true then (S.D.change (segN nx) fun _ => tx).2 else S.D)) [] := ⟨fun _ _ _ h hE => h.ext hE, by
    intro gx hx
    cases hx⟩
  refine wp_region_phi (Γ := Nat → Value) (sgφ [.val (.pointer (some ⟨s, 0, none⟩)), .val (.pointer (some ⟨s, 0, none⟩)), .val (.pointer (some ⟨s, 0, none⟩)), .val (.pointer (some ⟨d, 0, none⟩)), .val (.int .i64 (nx : Int)), .val (.string (segN nx)), .val (.string tx), .val (.int .i64 (S.D.change (segN nx) fun _ => tx).1), .val (.int .i64 (S.D.change (segN nx) fun _ => tx).1)])
    (GQ W (fun k => k = d ∨ k = m) 7 (fun b w => DkAt w d m (if b = true then (S.D.change (segN nx) fun _ => tx).2 else S.D)) [])
    (by kernel_rfl) (by kernel_rfl) (by kernel_rfl) (fun _ => undef) (GQ.start _ _ _ _ _ _ (hdk)) ?stepsa ?fina
  case stepsa =>
    show StepsTo _ _ _ _ _ _ 9
    refine ⟨⟨⟨⟨⟨⟨⟨⟨⟨trivial, ?s0⟩, ?s1⟩, ?s2⟩, ?s3⟩, ?s4⟩, ?s5⟩, ?s6⟩, ?s7⟩, ?s8⟩
    case s0 =>
      refine sg_val (x := .pointer (some ⟨s, 0, none⟩)) rfl rfl rfl (GQ.keep (j := 0) (by decide) rfl) fun γ L v a w st => ?_
      have f0 := st.far 0 (by kernel_rfl)
      simp at f0
      go_simp
    case s1 =>
      refine sg_val (x := .pointer (some ⟨s, 0, none⟩)) rfl rfl rfl (GQ.keep (j := 1) (by decide) rfl) fun γ L v a w st => ?_
      have e0 := st.val 0 44 rfl (by kernel_rfl)
      rw [show v 0 = _ from st.φ 0 (by kernel_rfl)] at e0
      simp at e0
      go_simp
    case s2 =>
      refine sg_val (x := .pointer (some ⟨s, 0, none⟩)) rfl rfl rfl (GQ.keep (j := 2) (by decide) rfl) fun γ L v a w st => ?_
      have e1 := st.val 1 45 rfl (by kernel_rfl)
      rw [show v 1 = _ from st.φ 1 (by kernel_rfl)] at e1
      simp at e1
      go_simp
    case s3 =>
      refine sg_val (x := .pointer (some ⟨d, 0, none⟩)) rfl rfl rfl (GQ.keep (j := 3) (by decide) rfl) fun γ L v a w st => ?_
      have e2 := st.val 2 46 rfl (by kernel_rfl)
      rw [show v 2 = _ from st.φ 2 (by kernel_rfl)] at e2
      simp at e2
      have hcl := (hA.chg st.inv.chg (by rintro (e | e); exact hsd e; exact hsm e)).cell 0
      simp [St.cells] at hcl
      go_simp
    case s4 =>
      refine sg_val (x := .int .i64 (nx : Int)) rfl rfl rfl (GQ.keep (j := 4) (by decide) rfl) fun γ L v a w st => ?_
      have f4 := st.far 4 (by kernel_rfl)
      simp at f4
      go_simp
    case s5 =>
      refine sg_callv' (x := .string (segN nx)) (f := 22) rfl rfl rfl fun γ L v a w st => ?_
      have e4 := st.val 4 48 rfl (by kernel_rfl)
      rw [show v 4 = _ from st.φ 4 (by kernel_rfl)] at e4
      simp at e4
      refine ⟨#[.int .i64 (nx : Int)], by go_simp, ?_⟩
      refine Calls.mono (name_any w nx hx1 hx2) ?_
      rintro e w' ⟨rfl, hE⟩
      exact ⟨rfl, st.inv.call hST hE (by decide) rfl st.off⟩
    case s6 =>
      refine sg_val (x := .string tx) rfl rfl rfl (GQ.keep (j := 6) (by decide) rfl) fun γ L v a w st => ?_
      have f5 := st.far 5 (by kernel_rfl)
      simp at f5
      go_simp
    case s7 =>
      refine sg_callv' (x := .int .i64 (S.D.change (segN nx) fun _ => tx).1) (f := 104) rfl rfl rfl fun γ L v a w st => ?_
      have e3 := st.val 3 47 rfl (by kernel_rfl)
      rw [show v 3 = _ from st.φ 3 (by kernel_rfl)] at e3
      simp at e3
      have e5 := st.val 5 49 rfl (by kernel_rfl)
      rw [show v 5 = _ from st.φ 5 (by kernel_rfl)] at e5
      simp at e5
      have e6 := st.val 6 50 rfl (by kernel_rfl)
      rw [show v 6 = _ from st.φ 6 (by kernel_rfl)] at e6
      simp at e6
      have hpw := st.inv.pw
      rw [st.off] at hpw
      simp only [Bool.false_eq_true, if_false] at hpw
      refine ⟨#[.pointer (some ⟨d, 0, none⟩), .string (segN nx), .string tx], by go_simp, ?_⟩
      refine Calls.mono (write_any w d m S.D hpw hD.ok (segN nx) tx (by unfold maxLen; omega)) ?_
      rintro e w' ⟨rfl, hC, hd'⟩
      exact ⟨rfl, st.inv.write hC hd' (by intro x hx; cases hx) rfl⟩
    case s8 =>
      refine sg_val (x := .int .i64 (S.D.change (segN nx) fun _ => tx).1) rfl rfl rfl (GQ.keep (j := 8) (by decide) rfl) fun γ L v a w st => ?_
      have e7 := st.val 7 51 rfl (by kernel_rfl)
      rw [show v 7 = _ from st.φ 7 (by kernel_rfl)] at e7
      simp at e7
      go_simp
  case fina =>
    intro γ Lx v wr hall hG hφ
    have h8 : v 8 = (.int .i64 (S.D.change (segN nx) fun _ => tx).1) := hφ 8 (by decide)
    have hd11 := hG.pw
    rw [hall 7 (by decide)] at hd11
    simp only [if_true] at hd11
    have hC11 := hG.chg
    rw [← HR.out] at hd11
    clear hall hφ hG
    change Exit.then _ _ _ (putAll _ v _ 9) wr
    simp only [putAll, dstOf, Act.put]
    simp only [List.getElem?_toArray, List.getElem?_cons_zero, List.getElem?_cons_succ, Option.bind_some, List.setIfInBounds_toArray, List.set_cons_zero, List.set_cons_succ]
    rw [h8]
    clear h8
    rw [← HR.out]
    have hA11 := hA.chg hC11 (by rintro (e | e); exact hsd e; exact hsm e)
    have hch11 := hch.chg hC11 (by rintro (e | e); exact hdc e.symm; exact hmc e.symm)
    have hcn11 := hcn.chg hC11 (by rintro (e | e); exact hdc' e.symm; exact hmc' e.symm)
    have hC011 := hC0.trans hC11 (fun _ _ h => .inr h)
    have hSl11 := hSl.chg hC11 (fun b o n c hv hne => hnb b o n c hv hne)
    by_cases hr : R.1 = 0
    · have hr1 : (R.1 != 0) = false := by simpa using hr
      go_wp2_with fail
      rename World => W14
      have hdl := hd11.1.lt
      have hml := hd11.2.lt
      clear hA hch hcn hC0 hC11
      have hA := hA11
      have hST : GQ.St (fun k => k = d ∨ k = m) (fun b w => DkAt w d m (if b = true then R.2.syncL [segN nx] else R.2)) [⟨6, 0, NewAt W14.heap.size 9 #[.string (segN nx)] (slB 1 1)⟩] := ⟨fun _ _ _ h hE => h.ext hE, by
        intro gx hx
        rcases List.mem_cons.1 hx with rfl | hx
        · exact fun b _ _ _ h hE => NewAt.ext (b := b) h hE
        cases hx⟩
      refine wp_region_phi (Γ := Nat → Value) (sgφ [.val (.pointer (some ⟨s, 0, none⟩)), .val (.pointer (some ⟨s, 0, none⟩)), .val (.pointer (some ⟨s, 0, none⟩)), .val (.pointer (some ⟨d, 0, none⟩)), .val (.int .i64 (nx : Int)), .val (.string (segN nx)), .g 0, .val (.int .i64 0), .val (.int .i64 0)])
        (GQ W14 (fun k => k = d ∨ k = m) 7 (fun b w => DkAt w d m (if b = true then R.2.syncL [segN nx] else R.2)) [⟨6, 0, NewAt W14.heap.size 9 #[.string (segN nx)] (slB 1 1)⟩])
        (by kernel_rfl) (by kernel_rfl) (by kernel_rfl) (fun _ => undef) (GQ.start _ _ _ _ _ _ (hd11.ext ((Ext.refl W14).drew))) ?stepsb ?finb
      case stepsb =>
        show StepsTo _ _ _ _ _ _ 9
        refine ⟨⟨⟨⟨⟨⟨⟨⟨⟨trivial, ?s0⟩, ?s1⟩, ?s2⟩, ?s3⟩, ?s4⟩, ?s5⟩, ?s6⟩, ?s7⟩, ?s8⟩
        case s0 =>
          refine sg_val (x := .pointer (some ⟨s, 0, none⟩)) rfl rfl rfl (GQ.keep (j := 0) (by decide) rfl) fun γ L v a w st => ?_
          have f0 := st.far 0 (by kernel_rfl)
          simp at f0
          go_simp
        case s1 =>
          refine sg_val (x := .pointer (some ⟨s, 0, none⟩)) rfl rfl rfl (GQ.keep (j := 1) (by decide) rfl) fun γ L v a w st => ?_
          have e0 := st.val 0 55 rfl (by kernel_rfl)
          rw [show v 0 = _ from st.φ 0 (by kernel_rfl)] at e0
          simp at e0
          go_simp
        case s2 =>
          refine sg_val (x := .pointer (some ⟨s, 0, none⟩)) rfl rfl rfl (GQ.keep (j := 2) (by decide) rfl) fun γ L v a w st => ?_
          have e1 := st.val 1 56 rfl (by kernel_rfl)
          rw [show v 1 = _ from st.φ 1 (by kernel_rfl)] at e1
          simp at e1
          go_simp
        case s3 =>
          refine sg_val (x := .pointer (some ⟨d, 0, none⟩)) rfl rfl rfl (GQ.keep (j := 3) (by decide) rfl) fun γ L v a w st => ?_
          have e2 := st.val 2 57 rfl (by kernel_rfl)
          rw [show v 2 = _ from st.φ 2 (by kernel_rfl)] at e2
          simp at e2
          have hcl := (hA.chg st.inv.chg (by rintro (e | e); exact hsd e; exact hsm e)).cell 0
          simp [St.cells] at hcl
          go_simp
        case s4 =>
          refine sg_val (x := .int .i64 (nx : Int)) rfl rfl rfl (GQ.keep (j := 4) (by decide) rfl) fun γ L v a w st => ?_
          have f4 := st.far 4 (by kernel_rfl)
          simp at f4
          go_simp
        case s5 =>
          refine sg_callv' (x := .string (segN nx)) (f := 22) rfl rfl rfl fun γ L v a w st => ?_
          have e4 := st.val 4 59 rfl (by kernel_rfl)
          rw [show v 4 = _ from st.φ 4 (by kernel_rfl)] at e4
          simp at e4
          refine ⟨#[.int .i64 (nx : Int)], by go_simp, ?_⟩
          refine Calls.mono (name_any w nx hx1 hx2) ?_
          rintro e w' ⟨rfl, hE⟩
          exact ⟨rfl, st.inv.call hST hE (by decide) rfl st.off⟩
        case s6 =>
          refine sg_new (k := 0) rfl rfl rfl (by kernel_rfl) fun γ L v a w st => ?_
          have e5 := st.val 5 60 rfl (by kernel_rfl)
          rw [show v 5 = _ from st.φ 5 (by kernel_rfl)] at e5
          simp at e5
          refine ⟨.slice (some ⟨w.heap.size, 0, none⟩) 1 1, w.alloc (.cells #[.string (segN nx)] 9), by go_simp, st.inv.new hST ((Ext.refl w).alloc _) (by decide) rfl ?_⟩
          intro gx hx hxj
          rcases List.mem_cons.1 hx with rfl | hx
          · exact ⟨rfl, w.heap.size, st.inv.chg.size, rfl, At.new w _ _⟩
          cases hx
        case s7 =>
          refine sg_callv' (x := .int .i64 0) (f := 100) rfl rfl rfl fun γ L v a w st => ?_
          have e3 := st.val 3 58 rfl (by kernel_rfl)
          rw [show v 3 = _ from st.φ 3 (by kernel_rfl)] at e3
          simp at e3
          have e6 := st.val 6 61 rfl (by kernel_rfl)
          rw [show v 6 = _ from st.φ 6 (by kernel_rfl)] at e6
          have hg6 := st.inv.gh ⟨6, 0, NewAt W14.heap.size 9 #[.string (segN nx)] (slB 1 1)⟩ (by simp) (st.dep 6 (by kernel_rfl))
          have hpw := st.inv.pw
          rw [st.off] at hpw
          simp only [Bool.false_eq_true, if_false] at hpw
          have hsl : Sl w (γ 0) [.string (segN nx)] := NewAt.sl (b := true) (xs := [.string (segN nx)]) (c := 1) hg6
          refine ⟨#[.pointer (some ⟨d, 0, none⟩), γ 0], by go_simp, ?_⟩
          refine Calls.mono (sync_any w d m R.2 hpw hR2.ok (γ 0) [segN nx] hsl (by simp [segN_size hx2]; decide) (by simp) hfl1 (fun h => by cases h)) ?_
          rw [sync_calm hR2 (by simp)]
          rintro e w' ⟨rfl, hC, hd'⟩
          exact ⟨rfl, st.inv.write hC (by simp only [if_true]; exact hd') (by intro x hx hn hl; rcases List.mem_cons.1 hx with rfl | hx; exact NewAt.chg (b := true) (b' := true) hg6 hC (by rintro k (rfl | rfl) <;> assumption); cases hx) rfl⟩
        case s8 =>
          refine sg_val (x := .int .i64 0) rfl rfl rfl (GQ.keep (j := 8) (by decide) rfl) fun γ L v a w st => ?_
          have e7 := st.val 7 62 rfl (by kernel_rfl)
          rw [show v 7 = _ from st.φ 7 (by kernel_rfl)] at e7
          simp at e7
          go_simp
      case finb =>
        intro γ Lx v wr hall hG hφ
        have h8 : v 8 = (.int .i64 0) := hφ 8 (by decide)
        have hd14 := hG.pw
        rw [hall 7 (by decide)] at hd14
        simp only [if_true] at hd14
        have hC14 := hG.chg
        clear hall hφ hG
        change Exit.then _ _ _ (putAll _ v _ 9) wr
        simp only [putAll, dstOf, Act.put]
        simp only [List.getElem?_toArray, List.getElem?_cons_zero, List.getElem?_cons_succ, Option.bind_some, List.setIfInBounds_toArray, List.set_cons_zero, List.set_cons_succ]
        rw [h8]
        clear h8
        have hA14 := hA11.chg hC14 (by rintro (e | e); exact hsd e; exact hsm e)
        have hch14 := hch11.chg hC14 (by rintro (e | e); exact hdc e.symm; exact hmc e.symm)
        have hcn14 := hcn11.chg hC14 (by rintro (e | e); exact hdc' e.symm; exact hmc' e.symm)
        have hC014 := hC011.trans hC14 (fun _ _ h => .inr h)
        have hSl14 := hSl11.chg hC14 (fun b o n c hv hne => hnb b o n c hv hne)
        clear hch14
        have k2 := hA14.cell 2
        have f2 := hA14.frozen 2
        have k3 := (hA14.set 2 (.map (some c'))).cell 3
        have f3 := (hA14.set 2 (.map (some c'))).frozen 3
        have k4 := ((hA14.set 2 (.map (some c'))).set 3 (.int .i64 ((nx : Int) + 1))).cell 4
        have f4 := ((hA14.set 2 (.map (some c'))).set 3 (.int .i64 ((nx : Int) + 1))).frozen 4
        have hA17 := ((hA14.set 2 (.map (some c'))).set 3 (.int .i64 ((nx : Int) + 1))).set 4 (.int .i64 0)
        simp only [St.cells, List.getElem?_toArray, List.getElem?_cons_zero, List.getElem?_cons_succ, List.setIfInBounds_toArray, List.set_cons_zero, List.set_cons_succ] at k2 k3 k4
        obtain ⟨q1, q2, q3, q4⟩ := hD2 hr
        rw [St.cells_new] at hA17
        have hd17 : DkAt (((wr.setCell ⟨s, 2, none⟩ (.map (some c'))).setCell ⟨s, 3, none⟩ (.int .i64 ((nx : Int) + 1))).setCell ⟨s, 4, none⟩ (.int .i64 0)) d m (R.2.syncL [segN nx]) :=
          ⟨((hd14.1.far (p := ⟨s, 2, none⟩) (fun e => hsd e.symm) _).far (p := ⟨s, 3, none⟩) (fun e => hsd e.symm) _).far (p := ⟨s, 4, none⟩) (fun e => hsd e.symm) _, ((hd14.2.setCell ⟨s, 2, none⟩ _).setCell ⟨s, 3, none⟩ _).setCell ⟨s, 4, none⟩ _⟩
        have hcn17 := ((hcn14.setCell ⟨s, 2, none⟩ (.map (some c'))).setCell ⟨s, 3, none⟩ (.int .i64 ((nx : Int) + 1))).setCell ⟨s, 4, none⟩ (.int .i64 0)
        have hCs : Chg (fun k => k = s) wr (((wr.setCell ⟨s, 2, none⟩ (.map (some c'))).setCell ⟨s, 3, none⟩ (.int .i64 ((nx : Int) + 1))).setCell ⟨s, 4, none⟩ (.int .i64 0)) :=
          (((Chg.refl (fun k => k = s) wr).setCell (p := ⟨s, 2, none⟩) (.inl rfl) _).setCell (p := ⟨s, 3, none⟩) (.inl rfl) _).setCell (p := ⟨s, 4, none⟩) (.inl rfl) _
        have hSl17 := hSl14.chg hCs (fun b o n c hv hne => hSls b o n c hv hne)
        have hC017 := hC014.trans hCs (fun _ _ h => .inl h)
        go_wp2_with fail
        generalize ((wr.setCell ⟨s, 2, none⟩ (.map (some c'))).setCell ⟨s, 3, none⟩ (.int .i64 ((nx : Int) + 1))).setCell ⟨s, 4, none⟩ (.int .i64 0) = W17 at hA17 hd17 hcn17 hSl17 hC017 ⊢
        clear hCs hSl14 hSl11 hd14 k2 f2 k3 f3 k4 f4 hA14 hA11 hch11 hcn11 hcn14 hC14 hd11 hC011 hC014
        have cb := before_any W17 nv ns hSl17 nx (fun n hn => by have := hnr n hn; have := HNX.out; omega) hnl
        refine cb.mono ?_
        rintro e w18 ⟨bv, rfl, hown, hE18⟩
        clear cb
        obtain ⟨bA, bc, rfl⟩ := own_slc hown
        have hA18 := hA17.ext hE18
        have hd18 := hd17.ext hE18
        have hcn18 := hcn17.ext hE18
        have hC018 := hC017.ext_trans hE18
        have hSl18 := Sl.of_own hown
        have hl18 : ((ns.map segN).length : Int) ≠ 0 := by simp; exact hne
        have hl19 : (((ns.map segN).length : Int) == 0) = false := by simpa using hl18
        have j0 : w18.cell? ⟨s, 0, none⟩ = some (.pointer (some ⟨d, 0, none⟩)) := hA18.cell 0
        have hnsz : ∀ n ∈ ns.map segN, n.size ≤ maxLen := by
          intro n hn
          obtain ⟨i, hi, rfl⟩ := List.mem_map.1 hn
          rw [segN_size (hnr i hi).2.1]; decide
        have hnsl : (ns.map segN).length ≤ 1048576 := by simp; omega
        have hnne : ns.map segN ≠ [] := by simpa using hne
        have cr := remove_any w18 d m (R.2.syncL [segN nx]) hd18 q1.ok _ (ns.map segN) hSl18 hnsz hnsl
        rw [remove_calm q1 q2] at cr
        have HN := Lib.hid hnne
        clear hl18 hnne
        have hnz : ns.length ≤ 1048576 := by omega
        generalize (ns.map segN).length = nl at *
        go_wp2_with fail
        refine cr.mono ?_
        rintro e w19 ⟨rfl, hC19, hd19⟩
        clear cr
        have hbase : W17.heap.size ≤ w18.heap.size := hE18.size
        have hdW := hd17.1.lt
        have hmW := hd17.2.lt
        have hown19 := own_chg hown hC19 (fun k hk => by rcases hk with rfl | rfl <;> omega)
        have hA19 := hA18.chg hC19 (by rintro (e | e); exact hsd e; exact hsm e)
        have hcn19 := hcn18.chg hC19 (by rintro (e | e); exact hdc' e.symm; exact hmc' e.symm)
        have hC019 := hC018.trans hC19 (fun _ _ h => .inr h)
        have j1 : w19.cell? ⟨s, 0, none⟩ = some (.pointer (some ⟨d, 0, none⟩)) := hA19.cell 0
        have cy := sync_any w19 d m _ hd19 q3.ok (.slice bA nl bc) (ns.map segN) (Sl.of_own hown19) hnsz (by rw [List.length_map]; exact hnz) q4 (fun h => absurd h HN.out)
        rw [sync_calm q3 HN.out] at cy
        go_wp2_with fail
        refine cy.mono ?_
        rintro e w20 ⟨rfl, hC20, hd20⟩
        clear cy
        go_wp2_with fail
        go_ret
        have e2 : S.compact L ns = (0, { S with D := ((R.2.syncL [segN nx]).removeL (ns.map segN)).syncL (ns.map segN), C := gMap nx L L.length, seg := nx + 1, size := 0 }) := by unfold St.compact; rw [← HTX.out, ← HNX.out, ← HR.out, if_pos hr]
        rw [e2]
        exact ⟨rfl, c', hcw, hC019.trans hC20 (fun _ _ h => .inr h), ⟨hA19.chg hC20 (by rintro (e | e); exact hsd e; exact hsm e), hd20, hcn19.chg hC20 (by rintro (e | e); exact hdc' e.symm; exact hmc' e.symm), hmc'⟩⟩
    · have hr1 : (R.1 != 0) = true := by simpa using hr
      go_wp2_with fail
      go_ret
      have e2 : S.compact L ns = (R.1, { S with D := R.2 }) := by unfold St.compact; rw [← HTX.out, ← HNX.out, ← HR.out, if_neg hr]
      rw [e2]
      exact ⟨rfl, c, .inl rfl, hC011, ⟨hA11, hd11, hch11, hmc⟩⟩
end Go.Proofs.YtapodcmjggmgmaaGreatDoor
namespace Go.Proofs.YtapodcmjggmgmaaGreatDoor
open Go.RowKit Go.Sort
set_option maxRecDepth 100000 in
set_option maxHeartbeats 1000000 in
theorem copen_any (w : World) (d m : Nat) (D : Dk) (hdk : DkAt w d m D) (hD : D.Calm) (hf : D.files = []) (lim : Nat) (hlim : 1 ≤ lim) :
    Calls Tryz.prog 37 #[.pointer (some ⟨d, 0, none⟩), .int .i64 (lim : Int)] w fun e w' =>
      ∃ s c, e = .returned (.tuple #[.pointer (some ⟨s, 0, none⟩), .int .i64 0]) ∧ w.heap.size ≤ s ∧ w.heap.size ≤ c ∧ Chg (fun k => k = d) w w' ∧ StAt w' s d m c ⟨lim, D, [], 1, 0, false⟩ := by
  have cn := pnames_any w d m D hdk hD.ok (by rw [hf]; simp)
  have hns : D.names = [] := by unfold Dk.names; rw [if_neg (by simp [hD.e]), hf]; rfl
  rw [hD.e, hD.tick, hns] at cn
  have hmm := @run_makeMap Tryz.prog
  have hmx : max (lim : Int) 1 = (lim : Int) := by omega
  go_enter Tryz.func37, Tryz.ntmps37
  go_wp2_with fail
  refine cn.mono ?_
  rintro e w1 ⟨v, rfl, hSl, hC1, hdk1⟩
  clear cn
  obtain ⟨A, c0, rfl, _⟩ := hSl
  simp only [List.map_nil, List.length_nil]
  have hs1 := hC1.size
  go_wp2_with fail
  have hM := (MapAt.new u64Way Plc.val w1).alloc (.cells #[.pointer (some ⟨d, 0, none⟩), .int .i64 (lim : Int), .map (some w1.heap.size), .int .i64 1, .int .i64 0, .bool false] 130)
  have hsz : (w1.alloc (.map #[] 0)).heap.size = w1.heap.size + 1 := by simp
  have hA := At.new (w1.alloc (.map #[] 0)) 130 #[.pointer (some ⟨d, 0, none⟩), .int .i64 (lim : Int), .map (some w1.heap.size), .int .i64 1, .int .i64 0, .bool false]
  rw [hsz] at hA
  have hE := ((Ext.refl w1).alloc (.map #[] 0)).alloc (.cells #[.pointer (some ⟨d, 0, none⟩), .int .i64 (lim : Int), .map (some w1.heap.size), .int .i64 1, .int .i64 0, .bool false] 130)
  generalize (w1.alloc (.map #[] 0)).alloc (.cells #[.pointer (some ⟨d, 0, none⟩), .int .i64 (lim : Int), .map (some w1.heap.size), .int .i64 1, .int .i64 0, .bool false] 130) = W at hM hA hE ⊢
  go_loopw [31] (fun iv wr => iv = .int .i64 0 ∧ wr = W) (fun _ _ => 0)
  case atStart => exact ⟨rfl, rfl⟩
  case round =>
    obtain ⟨rfl, rfl⟩ := hrel
    go_wp2_with fail
    go_ret2
    exact ⟨_, _, rfl, by omega, hs1, hC1.ext_trans hE, ⟨hA, hdk1.ext hE, hM, by have := hdk1.2.lt; omega⟩⟩
set_option maxRecDepth 100000 in
theorem after_any (w : World) (n : Nat) (e : Int) (he : e ≠ 8 ∧ e ≠ 14) :
    Calls Tryz.prog 62 #[.pointer (some ⟨n, 0, none⟩), .int .i64 e] w fun r w' => r = .returned (.int .i64 e) ∧ w' = w := by
  have h1 : (e == 8) = false := by simpa using he.1
  have h2 : (e == 14) = false := by simpa using he.2
  go_enter Tryz.func62, Tryz.ntmps62
  go_wp2_with fail
  go_ret
  exact ⟨rfl, rfl⟩
structure NdAt (w : World) (n s d m c : Nat) (S : St) (dr : Nat) : Prop where
  nd : At w n 41 #[.pointer (some ⟨d, 0, none⟩), .pointer (some ⟨s, 0, none⟩), .int .i64 (dr : Int)]
  st : StAt w s d m c S
theorem NdAt.ns {w : World} {n s d m c : Nat} {S : St} {dr : Nat} (h : NdAt w n s d m c S dr) : n ≠ s := h.nd.ne h.st.st (by decide)
theorem NdAt.nd' {w : World} {n s d m c : Nat} {S : St} {dr : Nat} (h : NdAt w n s d m c S dr) : n ≠ d := h.nd.ne h.st.dk.1 (by decide)
theorem NdAt.nm {w : World} {n s d m c : Nat} {S : St} {dr : Nat} (h : NdAt w n s d m c S dr) : n ≠ m := fun e => h.st.dk.2.ne_at h.nd e.symm
theorem NdAt.nc {w : World} {n s d m c : Nat} {S : St} {dr : Nat} (h : NdAt w n s d m c S dr) : n ≠ c := fun e => h.st.ch.ne_at h.nd e.symm
set_option maxRecDepth 100000 in
set_option maxHeartbeats 1000000 in
theorem up_any (w : World) (n s d m c : Nat) (S : St) (dr : Nat) (h : NdAt w n s d m c S dr) (hl : S.D.lost = false) :
    Calls Tryz.prog 34 #[.pointer (some ⟨n, 0, none⟩)] w fun r w' => r = .returned (.bool true) ∧ w' = w := by
  have c0 : w.cell? ⟨n, 0, none⟩ = some (.pointer (some ⟨d, 0, none⟩)) := h.nd.cell 0
  have c1 : w.cell? ⟨n, 1, none⟩ = some (.pointer (some ⟨s, 0, none⟩)) := h.nd.cell 1
  have cl := lost_any w d m S.D h.st.dk
  rw [hl] at cl
  go_enter Tryz.func34, Tryz.ntmps34
  go_wp2_with fail
  refine cl.mono ?_
  rintro e w1 ⟨rfl, rfl⟩
  go_wp2_with fail
  go_ret
  exact ⟨rfl, rfl⟩
set_option maxRecDepth 100000 in
set_option maxHeartbeats 1000000 in
theorem nhas_any (w : World) (n s d m c : Nat) (S : St) (dr : Nat) (h : NdAt w n s d m c S dr) (hl : S.D.lost = false) (id : Int) :
    Calls Tryz.prog 10 #[.pointer (some ⟨n, 0, none⟩), .int .u64 id] w fun r w' => r = .returned (.bool (lget id S.C).isSome) ∧ Ext w w' := by
  have c1 : w.cell? ⟨n, 1, none⟩ = some (.pointer (some ⟨s, 0, none⟩)) := h.nd.cell 1
  have cu := up_any w n s d m c S dr h hl
  have ch := chas_any w s d m c S h.st id
  generalize (lget id S.C).isSome = b at ch ⊢
  go_enter Tryz.func10, Tryz.ntmps10
  go_wp2_with fail
  refine cu.mono ?_
  rintro e w1 ⟨rfl, rfl⟩
  clear cu
  go_wp2_with fail
  refine ch.mono ?_
  rintro e w2 ⟨rfl, hE⟩
  go_wp2_with fail
  go_ret
  exact ⟨rfl, hE⟩
end Go.Proofs.YtapodcmjggmgmaaGreatDoor
namespace Go.Proofs.YtapodcmjggmgmaaGreatDoor
open Go.RowKit Go.Sort
theorem segN_inj {a b : Nat} (ha : a < 100) (hb : b < 100) (h : segN a = segN b) : a = b := by
  have h1 := (seg_facts a ha).2.2.1
  have h2 := (seg_facts b hb).2.2.1
  have e : segL a = segL b := by
    have := congrArg (fun x : ByteArray => x.data.toList) h
    simpa [segN] using this
  rw [e] at h1
  omega
theorem segN_ne (n : Nat) (h : n < 100) : (segN n).data.toList.isEmpty = false := by
  have := segL_len n h
  cases hl : segL n with
  | nil => rw [hl] at this; simp at this
  | cons a r => simp [segN, hl]
theorem extract_left {x f : ByteArray} {a b : Nat} (h : b ≤ x.size) : (x ++ f).extract a b = x.extract a b := by
  refine bytes_ext ?_
  rw [extract_list, extract_list]
  have hl : x.data.toList.length = x.size := rfl
  have e : (x ++ f).data.toList = x.data.toList ++ f.data.toList := by simp
  rw [e]
  by_cases hab : a ≤ x.size
  · rw [List.drop_append_of_le_length (by omega), List.take_append_of_le_length (by rw [List.length_drop]; omega)]
  · have : b - a = 0 := by omega
    rw [this]; simp
theorem extract_right {x f : ByteArray} : (x ++ f).extract x.size (x.size + f.size) = f := by
  refine bytes_ext ?_
  rw [extract_list]
  have hl : x.data.toList.length = x.size := rfl
  have hl2 : f.data.toList.length = f.size := rfl
  have e : (x ++ f).data.toList = x.data.toList ++ f.data.toList := by simp
  rw [e, List.drop_append_of_le_length (by omega), List.drop_eq_nil_of_le (by omega), List.nil_append, List.take_of_length_le (by omega)]
theorem put_spec {D : Dk} (h : D.Calm) {n : ByteArray} (hn : n.size ≤ maxLen) {f : Fl} (h1 : f.nx.size ≤ maxLen) (h2 : f.sx.size ≤ maxLen) (hf : (f.nt || f.st) = true) :
    (D.put n f = (7, D)) ∨ ((D.put n f).1 = 0 ∧ (D.put n f).2.Calm ∧ (D.put n f).2.room = D.room ∧ (D.put n f).2.used = nuse D.used (D.grow n f) ∧ (∀ n', (D.put n f).2.get n' = if n' = n then f else D.get n') ∧
      (∀ p ∈ (D.put n f).2.files, p = (n, f) ∨ p ∈ D.files) ∧ (D.put n f).2.files.length ≤ D.files.length + 1) := by
  have hok := h.ok.put hn h1 h2 (f := f)
  unfold Dk.put at hok ⊢
  split
  · exact .inl rfl
  · rename_i hg
    rw [if_neg hg] at hok
    refine .inr ⟨rfl, ⟨hok, h.lost, h.armed⟩, rfl, rfl, fun n' => ?_, fun p hp => ?_, ?_⟩
    · rw [get_lputf]
      rw [if_pos hf]
    · simp only [lputf, hf, if_true] at hp
      exact mem_lput hp
    · simp only [lputf, hf, if_true]
      have h3 := (lput_perm blt_ordd (k := n) (v := f) h.ok.srt).length_eq
      rw [h3]
      have h4 := List.length_filter_le (fun p : ByteArray × Fl => decide (p.1 ≠ n)) D.files
      simp only [List.length_cons, ldel]
      omega
theorem drop_spec {D : Dk} (h : D.Calm) {n : ByteArray} (hn : n.size ≤ maxLen) {f : Fl} (hf : (f.nt || f.st) = false) (h1 : f.nx.size ≤ maxLen) (h2 : f.sx.size ≤ maxLen) (hg : D.grow n f ≤ 0) :
    (D.put n f).1 = 0 ∧ (D.put n f).2.Calm ∧ (D.put n f).2.room = D.room ∧ (∀ n', (D.put n f).2.get n' = if n' = n then Fl.zero else D.get n') ∧ (∀ p ∈ (D.put n f).2.files, p ∈ D.files) ∧ (D.put n f).2.files.length ≤ D.files.length := by
  have hok := h.ok.put hn h1 h2 (f := f)
  unfold Dk.put at hok ⊢
  rw [if_neg (by omega)] at hok ⊢
  refine ⟨rfl, ⟨hok, h.lost, h.armed⟩, rfl, fun n' => ?_, fun p hp => ?_, ?_⟩
  · rw [get_lputf]
    simp only [hf, Bool.false_eq_true, if_false]
  · simp only [lputf, hf, Bool.false_eq_true, if_false] at hp
    exact (List.mem_filter.1 hp).1
  · simp only [lputf, hf, Bool.false_eq_true, if_false, ldel]
    exact List.length_filter_le _ _
theorem change_spec {D : Dk} (h : D.Calm) {n : ByteArray} (hn : n.data.toList.isEmpty = false) (g : ByteArray → ByteArray) : D.change n g = D.put n { D.get n with nt := true, nx := g (D.get n).nx } := by
  unfold Dk.change
  rw [if_neg (by simp [h.e]), if_neg (by simp [hn]), h.tick]
structure Inv (S : St) (L : List (Nat × ByteArray)) (B : Nat) : Prop where
  calm : S.D.Calm
  room : S.D.room = 300
  lim : S.lim = 2000
  clean : S.dirty = false
  seg1 : 1 ≤ S.seg
  segB : S.seg ≤ 1 + 2 * B
  size : (S.size : Int) ≤ S.D.used
  szf : S.size = (S.D.get (segN S.seg)).nx.size
  safe : ∀ n, (S.D.get n).st = (S.D.get n).nt ∧ (S.D.get n).sx = (S.D.get n).nx
  files : ∀ p ∈ S.D.files, ∃ k, 1 ≤ k ∧ k ≤ S.seg ∧ p.1 = segN k
  big : ∀ n, (S.D.get n).nx.size ≤ 210000 + 200 * B
  nf : S.D.files.length ≤ 1 + 10 * B
  st : Store_ S L
  small : ∀ x ∈ L, x.2.size ≤ 150
  few : L.length ≤ B
theorem Inv.fit {S : St} {L : List (Nat × ByteArray)} {B : Nat} (h : Inv S L B) (hB : B ≤ 46) {n : Nat} (hn : n ≤ 200) : S.Fit n :=
  ⟨h.calm, .inr (by
    have h1 := h.size
    have h2 := h.calm.ok.u1
    have h3 := h.room
    have h4 := h.lim
    omega), h.seg1, by have := h.segB; omega, by have := h.lim; omega, by have := h.szf; have := h.big (segN S.seg); omega, by have := h.big (segN S.seg); omega⟩
theorem wt_safe {f : Fl} (h : f.sx = f.nx) : wt f.nx f.sx = f.nx.size := by unfold wt; rw [h]; omega
structure Added (S S' : St) (f : ByteArray) : Prop where
  calm : S'.D.Calm
  room : S'.D.room = 300
  lim : S'.lim = 2000
  dirty : S'.dirty = true
  seg : S'.seg = S.seg
  size : S'.size = S.size + f.size
  used : S'.D.used = S.D.used + f.size
  get : ∀ n, S'.D.get n = if n = segN S.seg then ⟨true, (S.D.get (segN S.seg)).nx ++ f, (S.D.get (segN S.seg)).st, (S.D.get (segN S.seg)).sx⟩ else S.D.get n
  files : ∀ p ∈ S'.D.files, p.1 = segN S.seg ∨ p ∈ S.D.files
  nf : S'.D.files.length ≤ S.D.files.length + 1
  C : S'.C = S.C
  plc : S.plc f = ⟨S.seg, S.size, f.size, f.data.toList⟩
theorem Inv.add {S : St} {L : List (Nat × ByteArray)} {B : Nat} (h : Inv S L B) (hB : B ≤ 46) {f : ByteArray} (hf : f.size ≤ 200) :
    (S.add1 f = (7, S) ∧ (S.D.room - S.D.used < f.size)) ∨ ((S.add1 f).1 = 0 ∧ Added S (S.add1 f).2 f) := by
  have hs := h.segB
  have hc := change_spec h.calm (segN_ne S.seg (by omega)) (fun x => x ++ f)
  obtain ⟨hst, hsx⟩ := h.safe (segN S.seg)
  have hbig := h.big (segN S.seg)
  have hgrow : S.D.grow (segN S.seg) { S.D.get (segN S.seg) with nt := true, nx := (S.D.get (segN S.seg)).nx ++ f } = f.size := by
    unfold Dk.grow
    simp only
    rw [wt_safe hsx]
    unfold wt
    rw [hsx, ByteArray.size_append]
    omega
  have hp := put_spec h.calm (n := segN S.seg) (by rw [segN_size (by omega)]; decide) (f := { S.D.get (segN S.seg) with nt := true, nx := (S.D.get (segN S.seg)).nx ++ f })
    (by simp only [ByteArray.size_append]; unfold maxLen; omega) (by rw [hsx]; unfold maxLen; omega) (by simp)
  rw [hgrow] at hp
  rcases hp with hp | ⟨p1, p2, p3, p4, p5, p6, p7⟩
  · left
    have h7 : (S.D.change (segN S.seg) fun x => x ++ f) = (7, S.D) := by rw [hc]; exact hp
    refine ⟨?_, ?_⟩
    · unfold St.add1
      rw [h7, if_neg (by simp)]
    · unfold Dk.put at hp
      rw [hgrow] at hp
      split at hp
      · rename_i hx; exact hx.2
      · cases hp
  · right
    rw [← hc] at p1 p2 p3 p4 p5 p6 p7
    have e1 : S.add1 f = (0, { S with D := (S.D.change (segN S.seg) fun x => x ++ f).2, dirty := true, size := S.size + f.size }) := by unfold St.add1; rw [if_pos p1]
    rw [e1]
    refine ⟨rfl, p2, p3.trans h.room, h.lim, rfl, rfl, rfl, ?_, fun n => ?_, fun p hp => ?_, p7, rfl, ?_⟩
    · show (S.D.change (segN S.seg) fun x => x ++ f).2.used = _
      rw [p4]
      unfold nuse
      split
      · rfl
      · rename_i hz
        have h0 : f.size = 0 := by omega
        have := h.calm.ok.u0
        rw [h0]; simp; omega
    · exact p5 n
    · rcases p6 p hp with rfl | hp
      · exact .inl rfl
      · exact .inr hp
    · unfold St.plc; rw [if_pos p1]
structure Synced (S T : St) (f : ByteArray) : Prop where
  calm : T.D.Calm
  room : T.D.room = 300
  lim : T.lim = 2000
  clean : T.dirty = false
  seg : T.seg = S.seg
  size : T.size = S.size + f.size
  used : T.D.used = S.D.used + f.size
  get : ∀ n, T.D.get n = if n = segN S.seg then ⟨true, (S.D.get (segN S.seg)).nx ++ f, true, (S.D.get (segN S.seg)).nx ++ f⟩ else S.D.get n
  files : ∀ p ∈ T.D.files, p.1 = segN S.seg ∨ p ∈ S.D.files
  nf : T.D.files.length ≤ S.D.files.length + 2
theorem Added.sync {S S' : St} {L : List (Nat × ByteArray)} {B : Nat} (h : Inv S L B) (hB : B ≤ 46) {f : ByteArray} (hf : f.size ≤ 200) (ha : Added S S' f) (C : List (Int × Plc)) :
    Synced S ({ S' with C := C } : St).sync f ∧ ({ S' with C := C } : St).sync.C = C := by
  have hs := h.segB
  have hbig := h.big (segN S.seg)
  obtain ⟨hst, hsx⟩ := h.safe (segN S.seg)
  have hg := ha.get (segN S.seg)
  rw [if_pos rfl] at hg
  have hsy : ({ S' with C := C } : St).sync = { S' with C := C, D := S'.D.sync1 (segN S.seg), dirty := false } := by
    unfold St.sync
    simp only [ha.dirty, if_true, ha.seg]
    rfl
  have hgrow : S'.D.grow (segN S.seg) ⟨(S'.D.get (segN S.seg)).nt, (S'.D.get (segN S.seg)).nx, (S'.D.get (segN S.seg)).nt, (S'.D.get (segN S.seg)).nx⟩ = 0 := by
    unfold Dk.grow wt
    rw [hg]
    simp only
    rw [hsx, ByteArray.size_append]
    omega
  have hsz : ((S'.D.get (segN S.seg)).nx).size ≤ maxLen := by rw [hg]; simp only [ByteArray.size_append]; unfold maxLen; omega
  have hp := put_spec ha.calm (n := segN S.seg) (by rw [segN_size (by omega)]; decide) (f := ⟨(S'.D.get (segN S.seg)).nt, (S'.D.get (segN S.seg)).nx, (S'.D.get (segN S.seg)).nt, (S'.D.get (segN S.seg)).nx⟩) hsz hsz (by rw [hg]; rfl)
  rcases hp with hp | ⟨p1, p2, p3, p4, p5, p6, p7⟩
  · exfalso
    unfold Dk.put at hp
    rw [hgrow] at hp
    split at hp
    · rename_i hx; omega
    · cases hp
  · rw [hsy]
    rw [hgrow] at p4
    refine ⟨⟨p2, p3.trans ha.room, ha.lim, rfl, ha.seg, ha.size, ?_, fun n => ?_, fun p hp => ?_, ?_⟩, rfl⟩
    · show (S'.D.sync1 (segN S.seg)).used = _
      unfold Dk.sync1
      rw [p4, ← ha.used]
      unfold nuse
      have := ha.calm.ok.u0
      rw [if_neg (by omega)]
      omega
    · show (S'.D.sync1 (segN S.seg)).get n = _
      unfold Dk.sync1
      rw [p5 n]
      by_cases e : n = segN S.seg
      · rw [if_pos e, if_pos e, hg]
      · rw [if_neg e, if_neg e, ha.get n, if_neg e]
    · rcases p6 p hp with rfl | hp
      · exact .inl rfl
      · exact ha.files p hp
    · have := ha.nf
      have h2 : (S'.D.sync1 (segN S.seg)).files.length ≤ S'.D.files.length + 1 := p7
      show (S'.D.sync1 (segN S.seg)).files.length ≤ _
      omega
theorem Synced.holds {S T : St} {L : List (Nat × ByteArray)} {B : Nat} (h : Inv S L B) (hB : B ≤ 46) {f : ByteArray} (hf : f.size ≤ 200) (hs : Synced S T f) {id : Nat} {p : Plc} {data : ByteArray} (hh : Holds S.D id p data) : Holds T.D id p data := by
  obtain ⟨n, a, e1, e2, e3, e4, n1, n2, nt, ex, le, sz⟩ := hh
  have hbig := h.big (segN S.seg)
  refine ⟨n, a, e1, e2, e3, e4, n1, n2, ?_⟩
  rw [hs.get (segN n)]
  by_cases e : segN n = segN S.seg
  · rw [if_pos e]
    simp only
    rw [← e]
    rw [← e] at hbig
    refine ⟨trivial, ?_, ?_, ?_⟩
    · rw [extract_left le]; exact ex
    · rw [ByteArray.size_append]; omega
    · rw [ByteArray.size_append]; omega
  · rw [if_neg e]
    exact ⟨nt, ex, le, sz⟩
theorem Synced.new {S T : St} {L : List (Nat × ByteArray)} {B : Nat} (h : Inv S L B) (hB : B ≤ 46) {id : Nat} {data : ByteArray} (hf : (frec 1 id data).size ≤ 200) (hs : Synced S T (frec 1 id data)) : Holds T.D id ⟨S.seg, S.size, (frec 1 id data).size, (frec 1 id data).data.toList⟩ data := by
  have hbig := h.big (segN S.seg)
  have hsg := h.segB
  refine ⟨S.seg, S.size, rfl, rfl, rfl, rfl, h.seg1, by omega, ?_⟩
  rw [hs.get (segN S.seg), if_pos rfl]
  simp only
  rw [h.szf]
  refine ⟨trivial, extract_right, ?_, ?_⟩
  · rw [ByteArray.size_append]; omega
  · rw [ByteArray.size_append]; omega
theorem Inv.next {S T : St} {L L' : List (Nat × ByteArray)} {B : Nat} (h : Inv S L B) (hB : B ≤ 46) {f : ByteArray} (hf : f.size ≤ 200) (hs : Synced S T f) (hst : Store_ T L') (hsm : ∀ x ∈ L', x.2.size ≤ 150) (hfw : L'.length ≤ B + 1) : Inv T L' (B + 1) := by
  have hbig := h.big (segN S.seg)
  refine ⟨hs.calm, hs.room, hs.lim, hs.clean, by rw [hs.seg]; exact h.seg1, by rw [hs.seg]; have := h.segB; omega, ?_, ?_, fun n => ?_, fun p hp => ?_, fun n => ?_, ?_, hst, hsm, hfw⟩
  · rw [hs.size, hs.used]; have := h.size; push_cast; omega
  · rw [hs.size, hs.seg, hs.get, if_pos rfl, h.szf]
    simp only [ByteArray.size_append]
  · rw [hs.get n]
    split
    · exact ⟨rfl, rfl⟩
    · exact h.safe n
  · rw [hs.seg]
    rcases hs.files p hp with e | hp
    · exact ⟨S.seg, h.seg1, Nat.le_refl _, e⟩
    · exact h.files p hp
  · rw [hs.get n]
    split
    · simp only [ByteArray.size_append]; omega
    · have := h.big n; omega
  · have := hs.nf; have := h.nf; omega
end Go.Proofs.YtapodcmjggmgmaaGreatDoor
namespace Go.Proofs.YtapodcmjggmgmaaGreatDoor
open Go.RowKit Go.Sort
theorem lget_not {C : List (Int × Plc)} {id : Int} (h : id ∉ C.map (·.1)) : lget id C = none := lget_none.2 fun p hp e => h (List.mem_map.2 ⟨p, hp, e⟩)
theorem ldel_not {C : List (Int × Plc)} {id : Int} (h : id ∉ C.map (·.1)) : ldel id C = C := by
  unfold ldel
  exact List.filter_eq_self.2 fun p hp => by
    have : p.1 ≠ id := fun e => h (List.mem_map.2 ⟨p, hp, e⟩)
    simpa using this
theorem Inv.none {S : St} {L : List (Nat × ByteArray)} {B : Nat} (h : Inv S L B) {id : Nat} (hid : ∀ x ∈ L, x.1 < id) : (id : Int) ∉ S.C.map (·.1) := by
  intro hm
  have := h.st.perm.mem_iff.2 hm
  obtain ⟨x, hx, e⟩ := List.mem_map.1 this
  have h1 := hid x hx
  omega
theorem Inv.put {S : St} {L : List (Nat × ByteArray)} {B : Nat} (h : Inv S L B) (hB : B ≤ 46) {id : Nat} (hi : id < 18446744073709551616) (hid : ∀ x ∈ L, x.1 < id) {data : ByteArray} (hd : data.size ≤ 150) :
    (S.put id data = (7, S) ∧ S.D.room - S.D.used < (frec 1 id data).size) ∨ ((S.put id data).1 = 0 ∧ (S.put id data).2.D.Calm ∧ (S.put id data).2.seg = S.seg ∧ (S.put id data).2.D.files.length ≤ S.D.files.length + 1 ∧ Inv (S.put id data).2.sync (L ++ [(id, data)]) (B + 1) ∧
      (S.put id data).2.C = ((id : Int), S.plc (frec 1 id data)) :: S.C) := by
  have hfs := frec_size 1 id data
  have hno := h.none hid
  rcases h.add hB (f := frec 1 id data) (by omega) with ⟨ha, hr⟩ | ⟨h0, ha⟩
  · left
    refine ⟨?_, hr⟩
    unfold St.put
    rw [ha, if_neg (by simp)]
  · right
    have hput : S.put id data = (0, { (S.add1 (frec 1 id data)).2 with C := ((id : Int), S.plc (frec 1 id data)) :: S.C }) := by
      unfold St.put
      rw [if_pos h0, ldel_not hno]
    rw [hput]
    obtain ⟨hsy, hsC⟩ := ha.sync h hB (by omega) (((id : Int), S.plc (frec 1 id data)) :: S.C)
    refine ⟨rfl, ha.calm, ha.seg, ha.nf, h.next hB (by omega) hsy ?_ ?_ ?_, rfl⟩
    · constructor
      · rw [List.map_append, List.pairwise_append]
        refine ⟨h.st.ids, by simp, fun a ha b hb => ?_⟩
        obtain ⟨x, hx, rfl⟩ := List.mem_map.1 ha
        simp only [List.map_cons, List.map_nil, List.mem_singleton] at hb
        subst hb
        exact hid x hx
      · show (((L ++ [(id, data)]).map fun x => (x.1 : Int))).Perm _
        rw [hsC, List.map_append, List.map_cons]
        exact (List.perm_append_singleton _ _).trans (h.st.perm.cons _)
      · intro x hx
        rw [hsC]
        rcases List.mem_append.1 hx with hx | hx
        · obtain ⟨p, hp, hh⟩ := h.st.has x hx
          refine ⟨p, ?_, hsy.holds h hB (by omega) hh⟩
          rw [lget_cons, if_neg (by have := hid x hx; show ((id : Int)) ≠ _; omega)]
          exact hp
        · simp only [List.mem_singleton] at hx
          subst hx
          refine ⟨S.plc (frec 1 id data), ?_, ?_⟩
          · rw [lget_cons, if_pos rfl]
          · have q := hsy.new h hB (by omega)
            rw [← ha.plc] at q
            exact q
      · intro x hx
        rcases List.mem_append.1 hx with hx | hx
        · exact h.st.dat x hx
        · simp only [List.mem_singleton] at hx
          subst hx
          exact ⟨show data.size ≤ 4000 by omega, hi⟩
      · have := h.few
        simp; omega
    · intro x hx
      rcases List.mem_append.1 hx with hx | hx
      · exact h.small x hx
      · simp only [List.mem_singleton] at hx
        subst hx
        exact hd
    · have := h.few
      simp; omega
theorem Inv.drop {S : St} {L : List (Nat × ByteArray)} {B : Nat} (h : Inv S L B) (hB : B ≤ 46) {id : Nat} (hid : id ∈ L.map (·.1)) :
    (S.drop id = (7, S)) ∨ ((S.drop id).1 = 0 ∧ (S.drop id).2.D.Calm ∧ (S.drop id).2.seg = S.seg ∧ (S.drop id).2.D.files.length ≤ S.D.files.length + 1 ∧ Inv (S.drop id).2.sync (L.filter fun x => decide (x.1 ≠ id)) (B + 1) ∧
      ((S.drop id).2.sync.D.get (segN S.seg)).nt = true ∧ (S.drop id).2.sync.seg = S.seg) := by
  have hfs := frec_size 2 id ByteArray.empty
  have hfz : ByteArray.empty.size = 0 := rfl
  rcases h.add hB (f := frec 2 id ByteArray.empty) (by omega) with ⟨ha, hr⟩ | ⟨h0, ha⟩
  · left
    unfold St.drop
    rw [ha, if_neg (by simp)]
  · right
    have hput : S.drop id = (0, { (S.add1 (frec 2 id ByteArray.empty)).2 with C := ldel (id : Int) S.C }) := by
      unfold St.drop
      rw [if_pos h0]
    rw [hput]
    obtain ⟨hsy, hsC⟩ := ha.sync h hB (by omega) (ldel (id : Int) S.C)
    refine ⟨rfl, ha.calm, ha.seg, ha.nf, h.next hB (by omega) hsy ?_ ?_ ?_, by rw [hsy.get, if_pos rfl], hsy.seg⟩
    · constructor
      · exact h.st.ids.sublist (List.filter_sublist.map _)
      · rw [hsC]
        have hq := h.st.perm.filter (fun q => decide (q ≠ (id : Int)))
        unfold ldel
        rw [List.filter_map] at hq
        have e1 : (L.filter ((fun q => decide (q ≠ (id : Int))) ∘ fun x : Nat × ByteArray => (x.1 : Int))) = L.filter fun x => decide (x.1 ≠ id) := List.filter_congr fun x _ => by simp; omega
        rw [e1] at hq
        refine hq.trans ?_
        rw [List.filter_map]
        exact List.Perm.refl _
      · intro x hx
        obtain ⟨hx1, hx2⟩ := List.mem_filter.1 hx
        have hx2 : x.1 ≠ id := by simpa using hx2
        obtain ⟨p, hp, hh⟩ := h.st.has x hx1
        refine ⟨p, ?_, hsy.holds h hB (by omega) hh⟩
        rw [hsC, lget_ldel, if_neg (by omega)]
        exact hp
      · intro x hx
        exact h.st.dat x (List.mem_filter.1 hx).1
      · have := List.length_filter_le (fun x : Nat × ByteArray => decide (x.1 ≠ id)) L
        have := h.few
        omega
    · intro x hx
      exact h.small x (List.mem_filter.1 hx).1
    · have := List.length_filter_le (fun x : Nat × ByteArray => decide (x.1 ≠ id)) L
      have := h.few
      omega
theorem Inv.fresh : Inv ⟨2000, Dk.new 300, [], 1, 0, false⟩ [] 0 := by
  have hg : ∀ n, (Dk.new 300).get n = Fl.zero := fun _ => rfl
  refine ⟨⟨Dk.new_ok 300 (by decide), rfl, rfl⟩, rfl, rfl, rfl, Nat.le_refl _, Nat.le_refl _, ?_, ?_, fun n => ⟨rfl, rfl⟩, ?_, fun n => ?_, ?_, ⟨by simp, by simp, by simp, by simp, by simp⟩, by simp, by simp⟩
  · show (0 : Int) ≤ 0; omega
  · show 0 = ((Dk.new 300).get _).nx.size; rw [hg]; rfl
  · intro p hp; cases hp
  · show ((Dk.new 300).get n).nx.size ≤ _; rw [hg]; show (0 : Nat) ≤ _; omega
  · show (0 : Nat) ≤ _; omega
end Go.Proofs.YtapodcmjggmgmaaGreatDoor
namespace Go.Proofs.YtapodcmjggmgmaaGreatDoor
open Go.RowKit Go.Sort
theorem nodup_leG {α : Type} [DecidableEq α] : ∀ {r s : List α}, r.Nodup → (∀ x ∈ r, x ∈ s) → r.length ≤ s.length
  | [], _, _, _ => Nat.zero_le _
  | x :: r, s, h, hs => by
    obtain ⟨h1, h2⟩ := List.nodup_cons.1 h
    have hx : x ∈ s := hs x (List.mem_cons_self ..)
    have := nodup_leG (s := s.erase x) h2 fun y hy => (List.mem_erase_of_ne (fun e => h1 (by rw [← e]; exact hy))).2 (hs y (List.mem_cons_of_mem _ hy))
    rw [List.length_erase_of_mem hx] at this
    have hp := List.length_pos_of_mem hx
    simp only [List.length_cons]
    omega
theorem rises_nodup {ν : Type} {L : List (ByteArray × ν)} (h : Rises blt L) : (L.map (·.1)).Nodup := Rises.nodup blt_ordd h
theorem files_few {D : Dk} (h : D.Ok) {K : Nat} (hk : ∀ p ∈ D.files, ∃ k, 1 ≤ k ∧ k ≤ K ∧ p.1 = segN k) : D.files.length ≤ K := by
  have h1 := nodup_leG (s := (List.range' 1 K).map segN) (rises_nodup h.srt) fun x hx => by
    obtain ⟨p, hp, rfl⟩ := List.mem_map.1 hx
    obtain ⟨k, k1, k2, e⟩ := hk p hp
    rw [e]
    exact List.mem_map.2 ⟨k, by simp; omega, rfl⟩
  simpa using h1
open Classical in
theorem removeL_spec : ∀ {ns : List ByteArray} {D : Dk}, D.Calm → (∀ n ∈ ns, n.size ≤ maxLen ∧ (D.get n).st = true) →
    (D.removeL ns).Calm ∧ (D.removeL ns).room = D.room ∧ (∀ n', (D.removeL ns).get n' = if n' ∈ ns then ⟨false, ByteArray.empty, (D.get n').st, (D.get n').sx⟩ else D.get n') ∧ (∀ p ∈ (D.removeL ns).files, p.1 ∈ ns ∨ p ∈ D.files)
  | [], D, h, _ => ⟨h, rfl, fun n' => by simp [Dk.removeL], fun p hp => .inr hp⟩
  | n :: r, D, h, hn => by
    obtain ⟨n1, n2⟩ := hn n (List.mem_cons_self ..)
    have hsx := (h.ok.t n).2
    have hg : D.grow n ⟨false, ByteArray.empty, (D.get n).st, (D.get n).sx⟩ ≤ 0 := by
      unfold Dk.grow wt
      have : ByteArray.empty.size = 0 := rfl
      simp only [this]
      omega
    rcases put_spec h (n := n) n1 (f := ⟨false, ByteArray.empty, (D.get n).st, (D.get n).sx⟩) (Nat.zero_le _) hsx (by simp [n2]) with hp | ⟨p1, p2, p3, p4, p5, p6, p7⟩
    · exfalso
      unfold Dk.put at hp
      rw [if_neg (by omega)] at hp
      cases hp
    · have e : D.removeL (n :: r) = (D.remove1 n).removeL r := rfl
      have e1 : D.remove1 n = (D.put n ⟨false, ByteArray.empty, (D.get n).st, (D.get n).sx⟩).2 := rfl
      rw [← e1] at p2 p3 p5 p6
      have hst : ∀ n', ((D.remove1 n).get n').st = (D.get n').st ∧ ((D.remove1 n).get n').sx = (D.get n').sx := fun n' => by
        rw [p5 n']
        split
        · rename_i hh; subst hh; exact ⟨rfl, rfl⟩
        · exact ⟨rfl, rfl⟩
      obtain ⟨q1, q2, q3, q4⟩ := removeL_spec (ns := r) p2 fun x hx => by
        obtain ⟨x1, x2⟩ := hn x (List.mem_cons_of_mem _ hx)
        exact ⟨x1, by rw [(hst x).1]; exact x2⟩
      rw [e]
      refine ⟨q1, q2.trans p3, fun n' => ?_, fun p hp => ?_⟩
      · rw [q3 n', (hst n').1, (hst n').2]
        by_cases h1 : n' ∈ r
        · rw [if_pos h1, if_pos (List.mem_cons_of_mem _ h1)]
        · rw [if_neg h1, p5 n']
          by_cases h2 : n' = n
          · rw [if_pos h2, if_pos (by rw [h2]; exact List.mem_cons_self ..), h2]
          · rw [if_neg h2, if_neg (by simp [h1, h2])]
      · rcases q4 p hp with hp | hp
        · exact .inl (List.mem_cons_of_mem _ hp)
        · rcases p6 p hp with rfl | hp
          · exact .inl (List.mem_cons_self ..)
          · exact .inr hp
open Classical in
theorem syncL_spec : ∀ {ns : List ByteArray} {D : Dk}, D.Calm → (∀ n ∈ ns, n.size ≤ maxLen ∧ (D.get n).nt = false ∧ (D.get n).nx = ByteArray.empty) →
    (D.syncL ns).Calm ∧ (D.syncL ns).room = D.room ∧ (∀ n', (D.syncL ns).get n' = if n' ∈ ns then Fl.zero else D.get n') ∧ (∀ p ∈ (D.syncL ns).files, p ∈ D.files)
  | [], D, h, _ => ⟨h, rfl, fun n' => by simp [Dk.syncL], fun p hp => hp⟩
  | n :: r, D, h, hn => by
    obtain ⟨n1, n2, n3⟩ := hn n (List.mem_cons_self ..)
    have hg : D.grow n ⟨(D.get n).nt, (D.get n).nx, (D.get n).nt, (D.get n).nx⟩ ≤ 0 := by
      unfold Dk.grow wt
      rw [n3]
      have : ByteArray.empty.size = 0 := rfl
      simp only [this]
      omega
    obtain ⟨p1, p2, p3, p5, p6, p7⟩ := drop_spec h (n := n) n1 (f := ⟨(D.get n).nt, (D.get n).nx, (D.get n).nt, (D.get n).nx⟩) (by simp [n2]) (h.ok.t n).1 (h.ok.t n).1 hg
    have e : D.syncL (n :: r) = (D.sync1 n).syncL r := rfl
    have e1 : D.sync1 n = (D.put n ⟨(D.get n).nt, (D.get n).nx, (D.get n).nt, (D.get n).nx⟩).2 := rfl
    rw [← e1] at p2 p3 p5 p6
    obtain ⟨q1, q2, q3, q4⟩ := syncL_spec (ns := r) p2 fun x hx => by
      obtain ⟨x1, x2, x3⟩ := hn x (List.mem_cons_of_mem _ hx)
      refine ⟨x1, ?_⟩
      rw [p5 x]
      split
      · exact ⟨rfl, rfl⟩
      · exact ⟨x2, x3⟩
    rw [e]
    refine ⟨q1, q2.trans p3, fun n' => ?_, fun p hp => p6 p (q4 p hp)⟩
    rw [q3 n']
    by_cases h1 : n' ∈ r
    · rw [if_pos h1, if_pos (List.mem_cons_of_mem _ h1)]
    · rw [if_neg h1, p5 n']
      by_cases h2 : n' = n
      · rw [if_pos h2, if_pos (by rw [h2]; exact List.mem_cons_self ..)]
      · rw [if_neg h2, if_neg (by simp [h1, h2])]
theorem Inv.names {S : St} {L : List (Nat × ByteArray)} {B : Nat} (h : Inv S L B) (hB : B ≤ 47) : ∃ ns : List Nat, S.D.names = ns.map segN ∧ (∀ n ∈ ns, 1 ≤ n ∧ n ≤ S.seg ∧ (S.D.get (segN n)).nt = true) ∧ (∀ k, 1 ≤ k → k ≤ S.seg → (S.D.get (segN k)).nt = true → k ∈ ns) ∧ ns.length ≤ S.seg := by
  have key : ∀ F : List (ByteArray × Fl), (∀ p ∈ F, ∃ k, 1 ≤ k ∧ k ≤ S.seg ∧ p.1 = segN k) → ∃ ns : List Nat, (F.map (·.1)).filter (fun n => (S.D.get n).nt) = ns.map segN ∧ (∀ n ∈ ns, 1 ≤ n ∧ n ≤ S.seg ∧ (S.D.get (segN n)).nt = true) ∧ ns.length ≤ F.length := by
    intro F
    induction F with
    | nil => exact fun _ => ⟨[], rfl, by simp, Nat.le_refl _⟩
    | cons p r ih =>
      intro hF
      obtain ⟨ns, e, hn, hl⟩ := ih fun q hq => hF q (List.mem_cons_of_mem _ hq)
      obtain ⟨k, k1, k2, ek⟩ := hF p (List.mem_cons_self ..)
      cases hnt : (S.D.get p.1).nt
      · refine ⟨ns, ?_, hn, by simp only [List.length_cons]; omega⟩
        rw [List.map_cons, List.filter_cons, if_neg (by simp [hnt])]
        exact e
      · refine ⟨k :: ns, ?_, ?_, by simp only [List.length_cons]; omega⟩
        · rw [List.map_cons, List.filter_cons, if_pos hnt, e, ek]; rfl
        · intro n hn'
          rcases List.mem_cons.1 hn' with rfl | hn'
          · exact ⟨k1, k2, by rw [← ek]; exact hnt⟩
          · exact hn n hn'
  obtain ⟨ns, e, hn, hl⟩ := key S.D.files h.files
  have hsg := h.segB
  have hnm : S.D.names = ns.map segN := by
    unfold Dk.names
    rw [if_neg (by simp [h.calm.e])]
    exact e
  refine ⟨ns, hnm, hn, fun k k1 k2 hk => ?_, Nat.le_trans hl (files_few h.calm.ok h.files)⟩
  have hin : segN k ∈ (S.D.files.map (·.1)).filter (fun n => (S.D.get n).nt) := by
    refine List.mem_filter.2 ⟨?_, hk⟩
    unfold Dk.get at hk
    cases hg : lget (segN k) S.D.files with
    | none => rw [hg] at hk; cases hk
    | some f =>
      have := (lget_some (rises_nodup h.calm.ok.srt)).1 hg
      exact List.mem_map.2 ⟨_, this, rfl⟩
  rw [e] at hin
  obtain ⟨j, hj, ej⟩ := List.mem_map.1 hin
  have hj1 := (hn j hj).2.1
  rwa [← segN_inj (by omega) (by omega) ej]
end Go.Proofs.YtapodcmjggmgmaaGreatDoor
