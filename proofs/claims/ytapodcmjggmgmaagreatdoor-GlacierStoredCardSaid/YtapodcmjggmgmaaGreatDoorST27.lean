/-
  Part 27 of what the law leans on.
-/
import Derived.Test.YtapodcmjggmgmaaGreatDoorST26
set_option linter.unusedVariables false
set_option linter.unusedSimpArgs false
set_option linter.unusedSectionVars false
namespace Go.Proofs.YtapodcmjggmgmaaGreatDoor.Four
open Go.Proofs.YtapodcmjggmgmaaGreatDoor Go.RowKit Go.Sort
def cut500 (s : ByteArray) : ByteArray := s.extract 0 (min s.size 500)
theorem cut500_size (s : ByteArray) : (cut500 s).size ≤ 500 := by unfold cut500; rw [ByteArray.size_extract]; omega
def bRec (ss : List ByteArray) (k : Nat) : Rec := (8589934592 + (k + 1), cut500 ((ss[k]?).getD ByteArray.empty))
theorem bl13_info : (Tryz.prog.info? 58).map (fun i => (i.zero, i.size, i.bytes)) = some (some (.agg #[.int .u64 0, .string ByteArray.empty, .int .i64 0, .int .u32 0, .slice none 0 0, .bool false, .int .i64 0, .int .i64 0, .bool false, .int .i64 0, .int .i64 0, .int .i64 0, .bool false]), 13, 128) := by kernel_rfl
structure Bls (w : World) (B2 : Nat) (ss : List ByteArray) (M : Nat → List (List Rec)) (k : Nat) (bv : Value) (V : Nat → Value) (RN : Nat → List Nat) : Prop where
  row : w.ownsRow B2 58 13 bv k (((List.range k).map fun j => (blC (bRec ss j) (V j)).toList).flatten)
  v : ∀ j, j < k → w.ownsRow B2 3 1 (V j) 2 (((RN j).map Int.ofNat).map (Value.int .i64))
  two : ∀ j, j < k → (RN j).length = 2 ∧ (RN j).Nodup ∧ ∀ i ∈ RN j, i < 4 ∧ bRec ss j ∈ (M i).flatten
theorem Bls.off {w w' : World} {B2 : Nat} {ss : List ByteArray} {M : Nat → List (List Rec)} {k : Nat} {bv : Value} {V : Nat → Value} {RN : Nat → List Nat} (h : Bls w B2 ss M k bv V RN) {S : Nat → Prop} (hC : Chg S w w') (hS : ∀ b, S b → b < B2) : Bls w' B2 ss M k bv V RN :=
  ⟨own_chg h.row hC hS, fun j hj => own_chg (h.v j hj) hC hS, h.two⟩
theorem Bls.ext {w w' : World} {B2 : Nat} {ss : List ByteArray} {M : Nat → List (List Rec)} {k : Nat} {bv : Value} {V : Nat → Value} {RN : Nat → List Nat} (h : Bls w B2 ss M k bv V RN) (hE : Ext w w') : Bls w' B2 ss M k bv V RN := h.off hE (fun _ h => h.elim)
theorem SiteIn.off {w w' : World} {A : FixA} {K : Nat → Ks} {M : Nat → List (List Rec)} (h : SiteIn w A K M) {S : Nat → Prop} (hC : Chg S w w') (h1 : ∀ i b, i < 4 → S b → ¬ (K i).has b) (h2 : ∀ b, A.blk b → ¬ S b) (h3 : ¬ S 0) : SiteIn w' A K M :=
  ⟨h.fix.chg hC h2, fun i hi => (h.nd i hi).chg hC (fun b hb => h1 i b hi hb), h.ap, h.tab.chg hC h3⟩
theorem Sl.blt {w : World} {v : Value} {xs : List Value} (h : Sl w v xs) : ∀ b o n c, v = .slice (some ⟨b, o, none⟩) n c → xs ≠ [] → b < w.heap.size := fun b o n c hv hne => by
  obtain ⟨A', c'', h1, h2⟩ := h
  obtain ⟨b2, o2, rfl, hc⟩ := h2 hne
  rw [h1] at hv
  simp only [Value.slice.injEq, Option.some.injEq, Addr.mk.injEq] at hv
  obtain ⟨x, hx⟩ := List.exists_mem_of_ne_nil _ hne
  obtain ⟨i, hi, e⟩ := List.mem_iff_getElem.1 hx
  have := cell_lt (hc i x (by rw [List.getElem?_eq_getElem hi, e]))
  rw [← hv.1.1]; exact this
theorem NdS.ext {w w' : World} {K : Ks} {Ls : List (List Rec)} (h : NdS w K Ls) (hE : Ext w w') : NdS w' K Ls := ⟨h.nd.ext hE, h.dk.ext hE, h.good⟩
theorem FixAt.congr {w : World} {A : FixA} {n n' : Nat → Nat} (h : FixAt w A n) (hn : ∀ i, i < 4 → n' i = n i) : FixAt w A n' :=
  ⟨h.b5, h.b6, h.b7, h.b8, h.b9, h.b10, h.b11, fun i hi => by rw [hn i hi]; exact h.nd i hi, h.l0, h.l1, h.d0, h.d1, h.d2, h.d3, h.va, h.vb, h.a0, h.a1, h.a2, h.e0, h.e1, h.e2, h.i0, h.i1⟩
theorem quiet_load_midT {P : Program} {a : Act} {o : Oper} {C : World → Prop} {K : Act → Prop} {ty : TypeId} {x : Operand} (ho : o.op = .load ty x) {b off : Nat} (hx : a.eval x = .pointer (some ⟨b, off, none⟩)) {cs : Array Value} {d : TypeDesc} (hc : ∀ w, C w → w.rangeAt b off cs.toList) (hu : P.underlying ty = some d) (hd : d.isRow = true) (hi : (P.info? ty).map (·.size) = some cs.toList.length)
    (hk : K (a.put o.dst (.agg cs))) : o.quiet P a C K :=
  ⟨_, fun w hw => by unfold Oper.quietAt; rw [exec_load_mid ho hx (hc w hw) hu hd hi]; exact ⟨rfl, rfl⟩, hk⟩
theorem lost_idx (x : Int) : ∃ li : Nat, li < 4 ∧ (wrap64 (x.tmod 4 + 4)).tmod 4 = (li : Int) := by
  have h1 := Int.tmod_lt_of_pos x (show (0 : Int) < 4 by decide)
  have h2 := Int.lt_tmod_of_pos x (show (0 : Int) < 4 by decide)
  obtain ⟨z, hz⟩ : ∃ z, x.tmod 4 = z := ⟨_, rfl⟩
  rw [hz] at h1 h2 ⊢
  have e : wrap64 (z + 4) = z + 4 := by unfold wrap64; omega
  rw [e]
  have h3 := Int.tmod_nonneg 4 (show (0 : Int) ≤ z + 4 by omega)
  have h4 := Int.tmod_lt_of_pos (z + 4) (show (0 : Int) < 4 by decide)
  exact ⟨((z + 4).tmod 4).toNat, by omega, by omega⟩
theorem rows_succ (ss : List ByteArray) (V : Nat → Value) (k : Nat) (v : Value) : ((List.range (k + 1)).map fun j => (blC (bRec ss j) (if j = k then v else V j)).toList).flatten = ((List.range k).map fun j => (blC (bRec ss j) (V j)).toList).flatten ++ (blC (bRec ss k) v).toList := by
  rw [List.range_succ, List.map_append, List.flatten_append]
  congr 1
  · congr 1
    exact List.map_congr_left fun j hj => by simp [Nat.ne_of_lt (List.mem_range.1 hj)]
  · simp
theorem withX_facts {M : Nat → List (List Rec)} {x : Rec} {k id0 : Nat} (rn : List Nat) (hg : ∀ i, i < 4 → GoodL (M i)) (hk : k ≤ 8) (hx : x.2.size ≤ 500 ∧ x.1 < 18446744073709551616) (h0 : x.1 = id0) (hM : ∀ i, i < 4 → (M i).length ≤ k ∧ tot (M i) ≤ 538 * k ∧ ∀ y ∈ (M i).flatten, y.1 < id0) :
    ∀ i, i < 4 → (withX M x rn i).length ≤ k + 1 ∧ tot (withX M x rn i) ≤ 538 * (k + 1) ∧ (∀ y ∈ (withX M x rn i).flatten, y.1 < id0 + 1) ∧ (∀ y ∈ (M i).flatten, y ∈ (withX M x rn i).flatten) ∧ (i ∈ rn → x ∈ (withX M x rn i).flatten) := by
  intro i hi
  obtain ⟨a, b, c⟩ := hM i hi
  have hf := frec_size 1 x.1 x.2
  have hfe : (rbs x).size = (frec 1 x.1 x.2).size := rfl
  obtain ⟨_, h2, h3⟩ := (hg i hi).add (x := x) (by omega) (by omega) hx (fun y hy => by have := c y hy; omega)
  unfold withX
  split
  · rename_i hm
    rw [layAdd_flat]
    refine ⟨by omega, by omega, fun y hy => ?_, fun y hy => List.mem_append_left _ hy, fun _ => List.mem_append_right _ (List.mem_singleton.2 rfl)⟩
    rcases List.mem_append.1 hy with q | q
    · have := c y q; omega
    · rw [List.mem_singleton.1 q]; omega
  · rename_i hm
    exact ⟨by omega, by omega, fun y hy => by have := c y hy; omega, fun y hy => hy, fun h => absurd h hm⟩
set_option maxRecDepth 100000 in
set_option maxHeartbeats 8000000 in
theorem stored_law (w0 : World) (ss : List ByteArray) (sv : Value) (hS : Sl w0 sv (ss.map Value.string)) (lostv : Int) (hlv : -9223372036854775808 ≤ lostv ∧ lostv ≤ 9223372036854775807) (chv : Value) (ch : List Int) (hch : Sl w0 chv (ch.map (Value.int .i64))) (hcr : ∀ x ∈ ch, I64 x) (hcl : ch.length ≤ 9223372036854775807) (hT : Tab w0) :
    Calls Tryz.prog 4 #[sv, .int .i64 lostv, chv] w0 fun e w' => e = .returned (.bool true) ∧ Ext w0 w' := by
  obtain ⟨sA, sc, rfl, hsx⟩ := hS
  rw [List.length_map]
  have hS : Sl w0 (.slice sA ss.length sc) (ss.map Value.string) := ⟨sA, sc, by rw [List.length_map], hsx⟩
  clear hsx
  go_enter Tryz.func4, Tryz.ntmps4
  go_wp2_with fail
  refine (live_any w0 hT).mono ?_
  rintro e w1 ⟨rfl, hE1⟩
  have cm := msite_any w1 (hT.ext hE1)
  go_wp2_with fail
  refine cm.mono ?_
  rintro e w2 ⟨A, K, rfl, hI, hE2, hK⟩
  clear cm
  have hK0 : ∀ i b, i < 4 → (K i).has b → w0.heap.size ≤ b := fun i b hi hb => by have := hK i b hi hb; have := hE1.size; omega
  have hK2 : ∀ i b, i < 4 → (K i).has b → b < w2.heap.size := fun i b hi hb => (hI.nd i hi).lt b hb
  have hA2 : ∀ b, A.blk b → b < w2.heap.size := hI.fix.lt
  have hT2 := hI.tab.lt
  have hE02 := hE1.trans hE2
  have hB02 : w0.heap.size ≤ w2.heap.size := hE02.size
  obtain ⟨B2, hB2⟩ : ∃ B2, w2.heap.size = B2 := ⟨_, rfl⟩
  rw [hB2] at hK2 hA2 hT2 hB02
  clear hK hE1 hE2
  go_wp2_with fail
  have hbr0 : (w2.alloc (.cells #[] 58)).ownsRow B2 58 13 (.slice (some ⟨B2, 0, none⟩) 0 0) 0 [] := ⟨rfl, .inr ⟨B2, 0, #[], rfl, Nat.le_refl _, by rw [← hB2]; exact At.new w2 58 #[], Nat.le_refl _, Nat.zero_le _, rfl, rfl⟩⟩
  have hEw := (Ext.refl w2).alloc (.cells #[] 58)
  have hI3 := hI.ext hEw
  have hE3 := hE02.trans hEw
  have hs3 := hEw.size
  generalize w2.alloc (.cells #[] 58) = W at hbr0 hI3 hE3 hs3 ⊢
  rw [hB2] at hs3
  obtain ⟨n, hn⟩ : ∃ n, min ss.length 8 = n := ⟨_, rfl⟩
  rw [show min (ss.length : Int) 8 = (n : Int) by omega]
  have hn8 : n ≤ 8 := by omega
  have hnl : n ≤ ss.length := by omega
  clear hI hE02 hEw hB2 hn
  go_loopw [8, 10] (fun bv iv wr => ∃ (k : Nat) (M : Nat → List (List Rec)) (V : Nat → Value) (RN : Nat → List Nat), k ≤ n ∧ iv = .int .i64 (k : Int) ∧ SiteIn wr A K M ∧ (∀ i, i < 4 → (M i).length ≤ k ∧ tot (M i) ≤ 538 * k ∧ ∀ y ∈ (M i).flatten, y.1 < 8589934592 + (k + 1)) ∧ Bls wr B2 ss M k bv V RN ∧ B2 ≤ wr.heap.size ∧ Ext w0 wr) (fun _ iv _ => n - (intOf iv).toNat)
  case atStart => exact ⟨0, fun _ => [], fun _ => .slice none 0 0, fun _ => [], by omega, rfl, hI3, fun i hi => ⟨Nat.le_refl _, Nat.le_refl _, fun y hy => absurd hy List.not_mem_nil⟩, ⟨hbr0, fun j hj => absurd hj (by omega), fun j hj => absurd hj (by omega)⟩, hs3, hE3⟩
  case round =>
    clear hbr0 hI3 hE3 hs3
    obtain ⟨k, M, V, RN, hk, rfl, hI, hM, hB, hBw, hE⟩ := hrel
    rename World => wr
    by_cases hlt : k < n
    · obtain ⟨s, hs⟩ : ∃ s, ss[k]? = some s := ⟨_, List.getElem?_eq_getElem (by omega)⟩
      obtain ⟨b, o, rfl, hcell⟩ := (hS.ext hE).pick (k := k) (x := .string s) (by rw [List.getElem?_map, hs]; rfl)
      have hlk : k < ss.length := by omega
      go_wp2_with fail
      go_quiet (fail)
      have hdt : s.extract 0 (min (s.size : Int) 500).toNat = cut500 s := by unfold cut500; congr 1; omega
      have hcid : ∀ w : World, Calls Tryz.prog 7 #[.int .i64 2, .int .i64 ((k : Int) + 1)] w fun e w' => e = .returned (.int .u64 ((8589934592 + (k + 1) : Nat) : Int)) ∧ Ext w w' := fun w => by simpa using mid2_any w (k + 1) (by omega)
      have hbk : bRec ss k = (8589934592 + (k + 1), cut500 s) := by unfold bRec; rw [hs]; rfl
      have hcs := cut500_size s
      have hEq := (Ext.refl wr).drewN nq
      rw [hdt]
      generalize wr.drewN nq = wq at hEq ⊢
      generalize cut500 s = data at hbk hcs ⊢
      obtain ⟨id, hid⟩ : ∃ id, 8589934592 + (k + 1) = id := ⟨_, rfl⟩
      rw [hid] at hcid hbk
      clear hcell hdt hs
      go_wp2_with fail
      refine (hcid wq).mono ?_
      rintro e w3 ⟨rfl, hE3⟩
      clear hcid
      have hE13 := hEq.trans hE3
      have hI3 := hI.ext hE13
      have hB3 := hB.ext hE13
      have hE03 := hE.trans hE13
      have hs3 : B2 ≤ w3.heap.size := by have := hE13.size; omega
      have cst := store_any w3 A K M hI3 (fun i hi => by obtain ⟨a, b, _⟩ := hM i hi; omega) id (by omega) (fun i hi y hy => by have := (hM i hi).2.2 y hy; omega) data hcs
      clear hI hB hE hBw hEq hE3 hE13
      go_wp2_with fail
      refine cst.mono ?_
      rintro e w4 ⟨v, rn, rfl, hI4, hC4, h2, hnd, hlt4, hv⟩
      clear cst
      have hB4 := hB3.off hC4 (fun b ⟨i, hi, hb⟩ => hK2 i b hi hb)
      have hE04 : Ext w0 w4 := (hE03.chg_trans hC4).mono (fun b hb ⟨i, hi, hk⟩ => by have := hK0 i b hi hk; omega)
      have hs4 : B2 ≤ w4.heap.size := by have := hC4.size; omega
      obtain ⟨vA, vc, rfl⟩ := own_slc hv
      have cs := sum_any (w4.alloc (.cells #[.string data] 9)) (.slice (some ⟨w4.heap.size, 0, none⟩) 1 1) [data] (sl_one w4 9 (.string data) 1) (by simp) (by intro s hs; simp at hs; subst hs; unfold maxLen; omega) (hI4.tab.alloc _)
      simp only [List.flatMap_cons, List.flatMap_nil, List.append_nil] at cs
      have hgood : ∀ i, i < 4 → GoodL (M i) := fun i hi => (hI3.nd i hi).2
      clear hB3 hE03 hI3 hC4
      go_wp2_with fail
      refine cs.mono ?_
      rintro e w5 ⟨rfl, rfl⟩
      clear cs
      have hEa := (Ext.refl w4).alloc (.cells #[.string data] 9)
      have hI5 := hI4.ext hEa
      have hB5 := hB4.ext hEa
      have hv5 := own_chg hv hEa (fun _ h => h.elim)
      have hE05 := hE04.trans hEa
      have hs5 : B2 ≤ (w4.alloc (.cells #[.string data] 9)).heap.size := by have := hEa.size; omega
      generalize w4.alloc (.cells #[.string data] 9) = w5 at hI5 hB5 hv5 hE05 hs5 ⊢
      clear hI4 hB4 hv hE04 hs4 hEa
      go_wp2_with (at_builtin; refine wpList_append_row w5 hB5.row 53 Tryz.underlying53 bl13_info (by simp [Value.oneCell']) rfl (by decide) (by decide) rfl (by omega) hs5 rfl _ _ rfl rfl rfl ?_)
      intro v1 w6 hO6 hC6
      have hge6 := own_ge hB5.row
      have hI6 := hI5.off hC6 (fun i b hi hb hh => by have := hge6 b hb; have := hK2 i b hi hh; omega) (fun b hA hb => by have := hge6 b hb; have := hA2 b hA; omega) (fun hb => by have := hge6 _ hb; omega)
      have hE06 : Ext w0 w6 := (hE05.chg_trans hC6).mono (fun b hb hp => by have := hge6 b hp; omega)
      have hV6 : ∀ j, j < k → w6.ownsRow B2 3 1 (V j) 2 (((RN j).map Int.ofNat).map (Value.int .i64)) := fun j hj => own_off (hB5.v j hj) hC6 (own_types (hB5.v j hj) hB5.row (by decide))
      have hv6 : w6.ownsRow B2 3 1 (.slice vA 2 vc) 2 ((rn.map Int.ofNat).map (Value.int .i64)) := own_base (own_off hv5 hC6 (own_types hv5 hB5.row (by decide))) hs3
      have htwo := hB5.two
      have hs6 : B2 ≤ w6.heap.size := by have := hC6.size; omega
      have hwx := withX_facts (M := M) (x := (id, data)) (k := k) (id0 := id) rn hgood (by omega) ⟨hcs, by omega⟩ rfl (fun i hi => by have := hM i hi; rw [hid] at this; exact this)
      have hfl : (((List.range k).map fun j => (blC (bRec ss j) (V j)).toList).flatten ++ #[Value.int .u64 (id : Int), .string ⟨#[]⟩, .int .i64 (data.size : Int), .int .u32 (crc data.data.toList : Nat), .slice vA 2 vc, .bool false, .int .i64 0, .int .i64 0, .bool false, .int .i64 0, .int .i64 0, .int .i64 0, .bool false].toList) = ((List.range (k + 1)).map fun j => (blC (bRec ss j) (if j = k then .slice vA 2 vc else V j)).toList).flatten := by
        rw [rows_succ, hbk]
      clear hC6 hge6 hB5 hI5 hE05 hv5 hgood
      go_wp2_with fail
      go_roundw
      case rel =>
        refine ⟨k + 1, withX M (id, data) rn, fun j => if j = k then .slice vA 2 vc else V j, fun j => if j = k then rn else RN j, by omega, by go_num, hI6, fun i hi => ?_, ⟨?_, fun j hj => ?_, fun j hj => ?_⟩, hs6, hE06⟩
        · obtain ⟨a, b, c, _⟩ := hwx i hi
          exact ⟨a, b, fun y hy => by have := c y hy; omega⟩
        · rw [← hfl]; exact hO6
        · by_cases hjk : j = k
          · simp only [if_pos hjk]; exact hv6
          · simp only [if_neg hjk]; exact hV6 j (by omega)
        · by_cases hjk : j = k
          · simp only [if_pos hjk]
            refine ⟨h2, hnd, fun i hi => ⟨hlt4 i hi, ?_⟩⟩
            rw [hjk, hbk]
            exact (hwx i (hlt4 i hi)).2.2.2.2 hi
          · simp only [if_neg hjk]
            obtain ⟨a, b, c⟩ := htwo j (by omega)
            exact ⟨a, b, fun i hi => ⟨(c i hi).1, (hwx i (c i hi).1).2.2.2.1 _ (c i hi).2⟩⟩
      case measure => simp [intOf]; omega
    · have hkn : k = n := by omega
      subst hkn
      clear hk hlt
      have hap := hI.ap
      have hchb := Sl.blt hch
      have hKP : ∀ i b, i < 4 → (K i).has b → b < wr.heap.size := fun i b hi hb => (hI.nd i hi).lt b hb
      obtain ⟨P2, hP2⟩ : ∃ P2, wr.heap.size = P2 := ⟨_, rfl⟩
      rw [hP2] at hKP hBw
      have hsz0 : P2 ≤ wr.heap.size := by omega
      clear hP2
      go_wp2_with fail
      go_loopw [15] (fun iv wx => ∃ (d : Nat) (K' : Nat → Ks), d ≤ 4 ∧ iv = .int .i64 (d : Int) ∧ FixAt wx A (fun i => (K i).n) ∧ Tab wx ∧ (∀ i, i < d → NdR wx (K' i) (M i) false ∧ (K' i).n = (K i).n ∧ (K' i).d = (K i).d ∧ (∀ b, (K' i).has b → (K i).has b ∨ P2 ≤ b)) ∧ (∀ i, d ≤ i → i < 4 → NdO wx (K i) (M i)) ∧ Bls wx B2 ss M k u8 V RN ∧ P2 ≤ wx.heap.size ∧ Ext w0 wx) (fun iv _ => 4 - (intOf iv).toNat)
      case atStart => exact ⟨0, K, by omega, rfl, hI.fix, hI.tab, fun i hi => absurd hi (by omega), fun i _ hi => hI.nd i hi, hB, hsz0, hE⟩
      case round =>
        clear hI hB hE hsz0
        obtain ⟨d, K', hd4, rfl, hF, hTx, hR, hO, hB, hsz, hE⟩ := hrel
        rename World => wx
        by_cases hlt : d < 4
        · have cn := fun w (h : FixAt w A (fun i => (K i).n)) => nodeI_any w A _ h d hlt
          have hN := hO d (Nat.le_refl _) hlt
          have hKs : ∀ i, i < 4 → i ≠ d → ∀ b, (K d).has b → ¬ (K i).has b := fun i hi hne b hb => hap.nn d i b hlt hi (fun e => hne e.symm) hb
          have hg := hap.st d hlt
          have cn1 := cn wx hF
          go_wp2_with fail
          refine cn1.mono ?_
          rintro e w3 ⟨rfl, hE3⟩
          clear cn1
          have cs := nstopT_any w3 (K d) (M d) (hN.ext hE3) chv ch ((hch.ext hE).ext hE3) hcr hcl (fun b o n c hv hne hb => by have := hchb b o n c hv hne; have := hK0 d b hlt hb; omega)
          go_wp2_with fail
          refine cs.mono ?_
          rintro e w4 ⟨rfl, hC4, hS4⟩
          clear cs
          have hF4 : FixAt w4 A (fun i => (K i).n) := (hF.ext hE3).chg hC4 (fun b hA hb => hap.fx d b hlt hb hA)
          have hT4 := (hTx.ext hE3).chg hC4 hg
          have cn2 := cn w4 hF4
          go_wp2_with fail
          refine cn2.mono ?_
          rintro e w5 ⟨rfl, hE5⟩
          clear cn2 cn
          have cst := nstartT_any w5 (K d) (M d) (NdS.ext hS4 hE5) (hT4.ext hE5) hg
          go_wp2_with fail
          refine cst.mono ?_
          rintro e w6 ⟨s', c', rfl, hs', hc', hC6, hN6⟩
          clear cst
          have hCC : Chg (K d).has wx w6 := ((hE3.chg_trans hC4).ext_trans hE5).trans hC6 (fun _ _ h => h)
          have hs35 : P2 ≤ w5.heap.size := by have := hE3.size; have := hC4.size; have := hE5.size; omega
          go_wp2_with fail
          go_roundw
          case rel =>
            refine ⟨d + 1, fun i => if i = d then { K d with s := s', c := c' } else K' i, by omega, by go_num, hF.chg hCC (fun b hA hb => hap.fx d b hlt hb hA), hTx.chg hCC hg, fun i hi => ?_, fun i hi hi4 => (hO i (by omega) hi4).chg hCC (fun b hb => hKs i hi4 (by omega) b hb), hB.off hCC (fun b hb => hK2 d b hlt hb), by have := hCC.size; omega, (hE.chg_trans hCC).mono (fun b hb hk => by have := hK0 d b hlt hk; omega)⟩
            by_cases hid : i = d
            · simp only [if_pos hid]
              rw [hid]
              refine ⟨hN6, rfl, rfl, fun b hb => ?_⟩
              rcases hb with e | e | e | e | e
              · exact .inl (.inl e)
              · exact .inr (by rw [show b = s' from e]; omega)
              · exact .inl (.inr (.inr (.inl e)))
              · exact .inl (.inr (.inr (.inr (.inl e))))
              · exact .inr (by rw [show b = c' from e]; omega)
            · simp only [if_neg hid]
              obtain ⟨a, b, b2, c⟩ := hR i (by omega)
              refine ⟨a.chg hCC (fun q hq hh => ?_), b, b2, c⟩
              rcases c q hh with h | h
              · exact hKs i (by omega) hid q hq h
              · have := hKP d q hlt hq; omega
          case measure => simp [intOf]; omega
        · obtain rfl : d = 4 := by omega
          go_wp2_with fail
          obtain ⟨li, hli, hle⟩ := lost_idx lostv
          rw [hle]
          clear hle
          have cn := nodeI_any wx A _ hF li hli
          obtain ⟨hRl, hRn, hRd, hRb⟩ := hR li hli
          have HR := Lib.hid hR
          clear hR
          refine cn.mono ?_
          rintro e w3 ⟨rfl, hE3⟩
          clear cn
          have hR3 := hRl.ext hE3
          have k0 : w3.cell? ⟨(K li).n, 0, none⟩ = some (.pointer (some ⟨(K' li).d, 0, none⟩)) := by rw [← hRn]; exact hR3.nd.cell 0
          have clo := loseT_any w3 (K' li).d (K' li).m _ hR3.st.dk
          have HRD := Lib.hid hRd
          clear hRd hRn
          go_wp2_with fail
          refine clo.mono ?_
          rintro e w4 ⟨rfl, hC4, hd4⟩
          clear clo k0
          have hdh : (K li).has (K' li).d := .inr (.inr (.inl HRD.out))
          have hdP : (K' li).d < P2 := hKP li _ hli hdh
          have hSt : SiteR w4 A K' M (fun i => decide (i = li)) := by
            refine ⟨(hF.ext hE3).chg hC4 (fun b hA hb => hap.fx li b hli (by rw [hb]; exact hdh) hA) |>.congr (fun i hi => (HR.out i hi).2.1), fun i hi => ?_, (hTx.ext hE3).chg hC4 (fun e => hap.st li hli (by rw [e]; exact hdh))⟩
            by_cases hil : i = li
            · rw [decide_eq_true hil, hil]
              have hnd : (K' li).n ≠ (K' li).d := hR3.nd.ne hR3.st.dk.1 (by decide)
              exact ⟨hR3.nd.chg hC4 hnd, ⟨hR3.st.st.chg hC4 hR3.st.sd, hd4, hR3.st.ch.chg hC4 (fun e => hR3.st.dc e.symm), hR3.st.ne⟩, hR3.good⟩
            · rw [decide_eq_false hil]
              refine ((HR.out i hi).1.ext hE3).chg hC4 (fun b hb hh => ?_)
              subst hb
              rcases (HR.out i hi).2.2.2 _ hh with h | h
              · exact hap.nn i li _ hi hli hil h hdh
              · omega
          have hB4 := (hB.ext hE3).off hC4 (fun b hb => by rw [hb]; exact hK2 li _ hli hdh)
          have hE4 : Ext w0 w4 := ((hE.trans hE3).chg_trans hC4).mono (fun b hb hk => by have := hK0 li _ hli hdh; omega)
          have hone : ∃ l, ∀ i, i < 4 → (fun i => decide (i = li)) i = decide (i = l) := ⟨li, fun _ _ => rfl⟩
          clear hR3 hd4 hC4 hRl hRb hO hF hTx hB hsz hE hE3 hdh hdP
          obtain ⟨lost, hlost⟩ : ∃ lost : Nat → Bool, (fun i => decide (i = li)) = lost := ⟨_, rfl⟩
          rw [hlost] at hSt hone
          clear hlost
          have hslB := Sln.of_own hB4.row (fun r hr => by obtain ⟨j, _, rfl⟩ := List.mem_map.1 hr; rfl) (by simp)
          obtain ⟨uA, uc, rfl⟩ := own_slc hB4.row
          obtain ⟨uA', uc', huv, hux⟩ := hslB
          simp only [Value.slice.injEq] at huv
          obtain ⟨hua, -⟩ := huv
          subst hua
          go_wp2_with fail
          go_loopw [103] (fun iv wx => ∃ j : Nat, j ≤ k ∧ iv = .int .i64 (j : Int) ∧ Ext w4 wx) (fun iv _ => k - (intOf iv).toNat)
          case atStart => exact ⟨0, Nat.zero_le _, rfl, Ext.refl _⟩
          case round =>
            obtain ⟨j, hj, rfl, hEj⟩ := hrel
            rename World => wy
            by_cases hjk : j < k
            · obtain ⟨gb, go, hub, huc⟩ := hux (by
                intro e
                have := congrArg List.length e
                simp at this
                omega)
              subst hub
              have hrow := huc j ((blC (bRec ss j) (V j)).toList) (by rw [List.getElem?_map, List.getElem?_range hjk]; rfl)
              have hRg : wy.rangeAt gb (go + j * 13) (blC (bRec ss j) (V j)).toList := fun i v hv => by
                have := hrow i v hv
                exact (Ext.cell (p := ⟨gb, go + j * 13 + i, none⟩) hEj (cell_lt this)).trans this
              have hSy := hSt.ext hEj
              have hb : BlobOn wy M lost (bRec ss j) (V j) (RN j) := by
                obtain ⟨a, b, c⟩ := hB4.two j hjk
                exact ⟨Sl.of_own (own_chg (hB4.v j hjk) hEj (fun _ h => h.elim)), a, b, fun i hi => (c i hi).1, fun i hi => (c i hi).2, hone⟩
              obtain ⟨vA, vc, hve⟩ := own_slc (hB4.v j hjk)
              rw [hve] at hRg hb
              obtain ⟨s, hs⟩ : ∃ s, ss[j]? = some s := ⟨_, List.getElem?_eq_getElem (by omega)⟩
              have hbj : bRec ss j = (8589934592 + (j + 1), cut500 s) := by unfold bRec; rw [hs]; rfl
              have hcz := cut500_size s
              rw [hbj] at hRg hb
              obtain ⟨bs, os, rfl, hcell⟩ := (hS.ext (hE4.trans hEj)).pick (k := j) (x := .string s) (by rw [List.getElem?_map, hs]; rfl)
              have hjl : j < ss.length := by omega
              have hdt : s.extract 0 (min (s.size : Int) 500).toNat = cut500 s := by unfold cut500; congr 1; omega
              have HDT := Lib.hid hdt
              obtain ⟨x, hx⟩ : ∃ x : Rec, (8589934592 + (j + 1), cut500 s) = x := ⟨_, rfl⟩
              have hx2 : cut500 s = x.2 := by rw [← hx]
              have HX := Lib.hid hx2
              rw [hx] at hRg hb
              clear hrow huc hs hbj hve hdt hx hx2
              have hZ := At.new wy 58 #[.int .u64 0, .string ⟨#[]⟩, .int .i64 0, .int .u32 0, .slice none 0 0, .bool false, .int .i64 0, .int .i64 0, .bool false, .int .i64 0, .int .i64 0, .int .i64 0, .bool false]
              have hZT := Lib.hid hZ.there
              have hA6 := hZ.cells_all (cs := blC x (.slice vA 2 vc)) rfl
              have hE6 := Ext.setCells (b := wy.heap.size) ((Ext.refl wy).alloc (.cells #[.int .u64 0, .string ⟨#[]⟩, .int .i64 0, .int .u32 0, .slice none 0 0, .bool false, .int .i64 0, .int .i64 0, .bool false, .int .i64 0, .int .i64 0, .int .i64 0, .bool false] 58)) (Nat.le_refl _) (blC x (.slice vA 2 vc)).toList 0
              clear hZ
              obtain ⟨BC, hBC⟩ : ∃ BC : Array Value, blC x (.slice vA 2 vc) = BC := ⟨_, rfl⟩
              have hBs : BC.size = 13 := by rw [← hBC]; rfl
              have hB1 : BC.all (·.oneCell') = true := by rw [← hBC]; simp [Value.oneCell']
              rw [hBC] at hRg hA6 hE6
              have HBC := Lib.hid hBC
              clear hBC
              go_upto_region 24 with (first | (refine wpList_load_mid rfl 58 _ rfl gb (go + j * 13) rfl _ _ hRg Tryz.underlying58 rfl (by rw [Array.length_toList, hBs]; exact blob_info) ?_) | (refine wpList_store_mid rfl 58 _ _ rfl wy.heap.size 0 BC rfl rfl (by rw [hBs]; exact hZT.out) (by rw [hBs]; exact blob_info) hB1 ?_))
              generalize hW6 : (wy.alloc (.cells #[.int .u64 0, .string ⟨#[]⟩, .int .i64 0, .int .u32 0, .slice none 0 0, .bool false, .int .i64 0, .int .i64 0, .bool false, .int .i64 0, .int .i64 0, .int .i64 0, .bool false] 58)).setCells wy.heap.size 0 BC.toList = W6 at hA6 hE6 ⊢
              clear hW6 hZT hRg
              obtain ⟨bb, hbb⟩ : ∃ bb, wy.heap.size = bb := ⟨_, rfl⟩
              rw [hbb] at hA6 ⊢
              clear hbb
              have hS6 := hSy.ext hE6
              have hb6 := hb.ext hE6
              have hc6 := (Ext.cell (p := ⟨bs, os + j, none⟩) hE6 (cell_lt hcell)).trans hcell
              have hEj6 := hEj.trans hE6
              have hR6 := hA6.range
              have cf := fetch_any W6 A K' M lost hS6 x _ (RN j) hb6
              rw [HBC.out] at cf
              clear hSy hb hcell hE6 hEj
              go_wp2_with (refine wpList_load_mid rfl 58 _ rfl bb 0 rfl _ _ hR6 Tryz.underlying58 rfl (by rw [Array.length_toList, hBs]; exact blob_info) ?_)
              refine cf.mono ?_
              rintro e w8 ⟨rfl, hE8⟩
              clear cf hR6
              have hS8 := hS6.ext hE8
              have hb8 := hb6.ext hE8
              have hc8 := (Ext.cell (p := ⟨bs, os + j, none⟩) hE8 (cell_lt hc6)).trans hc6
              have hbsl : bs < w8.heap.size := cell_lt hc8
              have hA8 := hA6.ext hE8
              have hEj8 := hEj6.trans hE8
              clear hS6 hb6 hc6 hA6 hEj6 hE8
              have c1 : Hid (∀ dd os, Calls Tryz.prog 18 #[.pointer (some ⟨A.b, 0, none⟩), .agg BC] (grow (redrawn w8 dd) os) fun e w'' => e = .returned (.bool true) ∧ ∃ p : Regrown, w'' = grow (redrawn w8 p.d) p.os) := Lib.hid fun dd os => Calls.ext_of (by
                have := msure_any _ A K' M lost (hS8.ext (ext_regrown w8 dd os)) x _ (RN j) (hb8.ext (ext_regrown w8 dd os))
                rw [HBC.out] at this
                exact this)
              have c6 : Hid (∀ W, (∃ p : Regrown, W = grow (redrawn w8 p.d) p.os) → W.rangeAt bb 0 BC.toList) := Lib.hid (by rintro W ⟨p, rfl⟩; exact (hA8.ext (ext_regrown w8 _ _)).range)
              have HB13 := Lib.hid (show (Tryz.prog.info? 58).map (·.size) = some BC.toList.length by rw [Array.length_toList, hBs]; exact blob_info)
              clear hS8 hb8 hA8 hBs hB1
              have hq : ∀ a : Regrown, (grow (redrawn w8 a.d) a.os).cell? ⟨bs, os + j, none⟩ = some (.string s) := fun a => (Ext.cell (p := ⟨bs, os + j, none⟩) (ext_regrown w8 a.d a.os) hbsl).trans hc8
              go_upto_region 25 with fail
              rw [show x.2 = s.extract 0 (min (s.size : Int) 500).toNat from (HDT.out.trans HX.out).symm]
              refine wp_region_quiet_ext (by kernel_rfl) (by kernel_rfl) ?_
              repeat (first | go_big_quiet_skip | (go_big_quiet_want; first | (refine quiet_load_midT rfl rfl c6.out Tryz.underlying58 rfl HB13.out ?_; go_big_quiet_on; simp only [Act.put, List.setIfInBounds_toArray, List.set_cons_succ, List.set_cons_zero]) | (go_big_quiet_op; first | go_big_quiet_on | go_big_quiet_call (first | with_reducible exact c1.out _ _))))
              refine wpQuiet_nil ?_
              intro W9 hE9
              clear hq hc8 c1 c6
              go_wp2_with fail
              go_roundw
              case rel => exact ⟨j + 1, by omega, by go_num, hEj8.trans hE9⟩
              case measure => simp [intOf]; omega
            · go_wp2_with fail
              go_ret
              exact ⟨rfl, hE4.trans hEj⟩
end Go.Proofs.YtapodcmjggmgmaaGreatDoor.Four
