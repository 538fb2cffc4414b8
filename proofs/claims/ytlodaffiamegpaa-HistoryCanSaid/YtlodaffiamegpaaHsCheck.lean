/-
  Layer 18: Check, walked.
-/
import Derived.Test.YtlodaffiamegpaaHsPartW
import Derived.Test.YtlodaffiamegpaaHistParts
namespace Go.Proofs.Ytlodaffiamegpaa
open Go.RowKit Go.Sort

theorem sln_lt {w : World} {b o n c : Nat} {l : List HRow} (h : Sln w (.slice (some ⟨b, o, none⟩) n c) 8 (l.map hrow)) (hne : l ≠ []) : b < w.heap.size :=
  cell_lt (row_cells (i := 0) h (List.length_pos_iff.2 hne)).1
theorem PrepIn.boxed {wr : World} {p : List HRow} {ov : Value} (hS : Sln wr ov 8 (p.map hrow)) (hR : ∀ x ∈ p, Sl wr (.slice x.2.1 x.1.names.length x.2.2) (x.1.names.map Value.string)) (hne : p ≠ []) (h20 : p.length ≤ 20)
    (hk : ∀ x ∈ p, x.1.kind = 1 ∨ x.1.kind = 2 ∨ x.1.kind = 3 ∨ x.1.kind = 4 ∨ x.1.kind = 5) (hxn : ∀ x ∈ p, x.1.names.length ≤ 9223372036854775807) :
    PrepIn (wr.alloc (.cells #[ov, nilS, nilS, nilS, nilS, nilS, .int .u32 0, nilS, .map none] 53)) wr.heap.size p ov where
  blk := At.new _ _ _
  ops := hS.ext ((Ext.refl wr).alloc _)
  rows := fun x hx => (hR x hx).ext ((Ext.refl wr).alloc _)
  ne := hne
  far := fun b o n c hv => by
    subst hv
    have := sln_lt hS hne; omega
  rfar := fun x hx b o n c hv hn => by
    have := sl_lt (hR x hx) hv hn; omega
  n20 := h20
  kinds := hk
  xn := hxn
  ops_lt := fun b o n c hv _ => by
    subst hv
    have := sln_lt hS hne
    have h2 := ((Ext.refl wr).alloc (.cells #[.slice (some ⟨b, o, none⟩) n c, nilS, nilS, nilS, nilS, nilS, .int .u32 0, nilS, .map none] 53)).size
    omega
theorem prep_no {ops : List HOp} {ns : List ByteArray} {vals : List (List Nat)} {put : List Nat} (hn : ns = namesOf (putN ops ops.length)) (hVO : ValsOk ops ns ops.length vals put)
    (h : ¬ ∀ i, i < ops.length → (opAt ops i).ans = true → Poss (tabOf ops ns vals put) (opAt ops i)) : ¬ Lin ops hnone := fun hl =>
  h (poss_of_lin hVO (fun n => by
    rw [hasL_iff, hn, namesOf_mem]
    unfold putN
    rw [List.take_of_length_le (Nat.le_refl _), List.mem_map]
    constructor
    · rintro ⟨p, hp, rfl⟩
      have := List.mem_filter.1 hp
      exact ⟨p, this.1, by simpa using this.2, rfl⟩
    · rintro ⟨p, hp, hk, rfl⟩
      exact ⟨p, List.mem_filter.2 ⟨hp, by simpa using hk⟩, rfl⟩) hl)
theorem putN_len' (ops : List HOp) (k : Nat) : (namesOf (putN ops k)).length ≤ k := Nat.le_trans (namesOf_len _) (putN_len ops k)
theorem prep_prob {l p : List HRow} (hp : p ∈ partsOf l) (hf : ∀ x ∈ l, badB x.1 = false) (h20 : l.length ≤ 20) {ns : List ByteArray} {vals : List (List Nat)} {put : List Nat} (hn : ns = namesOf (putN (opsOf p) p.length))
    (hVO : ValsOk (opsOf p) ns p.length vals put) (h : ∀ i, i < p.length → (opAt (opsOf p) i).ans = true → Poss (tabOf (opsOf p) ns vals put) (opAt (opsOf p) i)) : Prob (opsOf p) (tabOf (opsOf p) ns vals put) := by
  have hl := opsOf_len p
  have h2 := parts_len hp
  refine tab_prob (by rw [hl]; exact hVO) (by omega) (fun x hx => ?_) (fun i hi => ?_) ?_ ?_ (by rw [hl]; exact h)
  · obtain ⟨y, hy, rfl⟩ := List.mem_map.1 hx
    exact fine_wide (hf y (parts_sub hp hy).1)
  · rw [hl] at hi
    rw [← rowAt_op hi]
    have hm : rowAt p i ∈ p := List.mem_of_getElem? (rowAt_get hi)
    have hs := parts_sub hp hm
    have hk := fine_kind (hf _ hs.1)
    rcases hk with e | e | e | e | e
    · exact .inl e
    · exact .inr (.inr ⟨.inl e, kept_reads (.inl e) hs.2⟩)
    · exact .inr (.inl e)
    · exact .inr (.inr ⟨.inr (.inl e), kept_reads (.inr (.inl e)) hs.2⟩)
    · exact .inr (.inr ⟨.inr (.inr e), kept_reads (.inr (.inr e)) hs.2⟩)
  · rw [hn]; exact namesOf_rise _
  · rw [hn]; have := putN_len' (opsOf p) p.length; omega

theorem parts_num (l : List HRow) : (partsOf l).length ≤ l.length + 1 := by
  unfold partsOf
  split
  · simp
  · rw [List.length_map]
    have h1 := namesOf_len (namesIn (kept l))
    have h2 : (namesIn (kept l)).length = (kept l).length := List.length_map _
    have h3 : (kept l).length ≤ l.length := List.length_filter_le _ _
    omega
structure ChkIn (w : World) (l : List HRow) (ov : Value) : Prop where
  ops : Sln w ov 8 (l.map hrow)
  rows : ∀ x ∈ l, Sl w (.slice x.2.1 x.1.names.length x.2.2) (x.1.names.map Value.string)
  xn : ∀ x ∈ l, x.1.names.length ≤ 9223372036854775807
/-- what Check answers -/
def ChkRes (l : List HOp) (b : Bool) (n : Int) : Prop :=
  (20 < l.length → b = false ∧ n = 11) ∧ (l.length ≤ 20 → ((∃ x ∈ l, badB x = true) → b = false ∧ n = 1) ∧ ((∀ x ∈ l, badB x = false) → n = 0 ∧ (b = true ↔ Lin l hnone)))
theorem fine_next {l : List HRow} {k : Nat} (h : k < l.length) (h1 : ∀ x ∈ l.take k, badB x.1 = false) (h2 : badB (rowAt l k).1 = false) : ∀ x ∈ l.take (k + 1), badB x.1 = false := by
  have e : l.take (k + 1) = l.take k ++ [rowAt l k] := by
    rw [List.take_add_one, rowAt_get h]; rfl
  rw [e]
  intro x hx
  rcases List.mem_append.1 hx with hx | hx
  · exact h1 x hx
  · rw [List.mem_singleton] at hx; subst hx; exact h2
structure ChkOut (l : List HRow) (w : World) (e : Ending) (w' : World) : Prop where
  out : ∃ b n, e = .returned (.tuple #[.bool b, .int .i64 n]) ∧ ChkRes (opsOf l) b n
  ext : Ext w w'
theorem res_big {l : List HRow} (h : 20 < l.length) : ChkRes (opsOf l) false 11 := ⟨fun _ => ⟨rfl, rfl⟩, fun h2 => by rw [opsOf_len] at h2; omega⟩
theorem res_bad {l : List HRow} (h : l.length ≤ 20) {k : Nat} (hk : k < l.length) (hb : badB (rowAt l k).1 = true) : ChkRes (opsOf l) false 1 :=
  ⟨fun h2 => by rw [opsOf_len] at h2; omega, fun _ => ⟨fun _ => ⟨rfl, rfl⟩, fun hf => by
    have := hf (rowAt l k).1 (List.mem_map.2 ⟨_, List.mem_of_getElem? (rowAt_get hk), rfl⟩)
    rw [this] at hb; cases hb⟩⟩
theorem no_bad {l : List HRow} (hf : ∀ x ∈ l, badB x.1 = false) {x : HOp} (hx : x ∈ opsOf l) : ¬ badB x = true := by
  obtain ⟨y, hy, rfl⟩ := List.mem_map.1 hx
  rw [hf y hy]; simp
theorem res_no {l p : List HRow} (h : l.length ≤ 20) (hf : ∀ x ∈ l, badB x.1 = false) (hp : p ∈ partsOf l) (hn : ¬ Lin (opsOf p) hnone) : ChkRes (opsOf l) false 0 :=
  ⟨fun h2 => by rw [opsOf_len] at h2; omega, fun _ => ⟨fun ⟨x, hx, hb⟩ => absurd hb (no_bad hf hx), fun _ => ⟨rfl, ⟨fun hh => absurd hh (by simp), fun hh => absurd ((parts_lin hf).1 hh p hp) hn⟩⟩⟩⟩
theorem res_yes {l : List HRow} (h : l.length ≤ 20) (hf : ∀ x ∈ l, badB x.1 = false) (hp : ∀ p ∈ partsOf l, Lin (opsOf p) hnone) : ChkRes (opsOf l) true 0 :=
  ⟨fun h2 => by rw [opsOf_len] at h2; omega, fun _ => ⟨fun ⟨x, hx, hb⟩ => absurd hb (no_bad hf hx), fun _ => ⟨rfl, ⟨fun _ => (parts_lin hf).2 hp, fun _ => rfl⟩⟩⟩⟩
theorem walk_zero (l : List HRow) (T : HTab) (X : HLoc) (g n : Nat) (P : Prob (opsOf l) T) (hxn : ∀ x ∈ l, x.1.names.length ≤ 9223372036854775807) (w : World) (hI : WalkIn l T X g (List.replicate n 0) [] w) :
    Calls Try.prog 20 #[.pointer (some ⟨g, 0, none⟩), .int .u32 0] w fun e w' => ∃ b, e = .returned (.bool b) ∧ (b = true ↔ Lin (opsOf l) hnone) ∧ Chg (SX X) w w' := by
  refine (walk_any l T X g P hxn _ w _ _ 0 (Nat.le_refl _) hI (Nat.two_pow_pos _)).mono ?_
  rintro e w' ⟨⟨b, K', rfl, hb, _⟩, hC⟩
  exact ⟨b, rfl, hb.trans (can_zero T n), hC⟩

set_option maxRecDepth 100000 in
set_option maxHeartbeats 2000000 in
theorem check_any (w : World) (l : List HRow) (ov : Value) (hI : ChkIn w l ov) :
    Calls Try.prog 11 #[ov] w fun e w' => ChkOut l w e w' := by
  obtain ⟨LA, lc, hov⟩ := sln_slice hI.ops
  rw [List.length_map] at hov
  subst hov
  go_enter Try.func11, Try.ntmps11
  by_cases h20 : (20 : Int) < (l.length : Int)
  · go_wp2_with fail
    refine bodyPost_ret (v := .tuple #[.bool false, .int .i64 11]) (by simp [results, Try.results11, go_sem]) rfl ⟨⟨_, _, rfl, res_big (by omega)⟩, Ext.refl _⟩
  have h20' : l.length ≤ 20 := by omega
  go_wp2_with fail
  go_loopw [14] (fun iv wx => ∃ k : Nat, k ≤ l.length ∧ iv = .int .i64 (k : Int) ∧ Hid (∀ x ∈ l.take k, badB x.1 = false) ∧ Ext w wx) (fun iv _ => l.length - (intOf iv).toNat)
  case atStart => exact ⟨0, Nat.zero_le _, rfl, Lib.hid (fun x hx => by cases hx), Ext.refl _⟩
  case round =>
    obtain ⟨k, hk, rfl, HF, hE⟩ := hrel
    by_cases hlt : k < l.length
    · have hS := hI.ops.ext hE
      obtain ⟨b, o, rfl⟩ := sln_some hS (fun e => by have := List.map_eq_nil_iff.1 e; subst this; simp at hlt)
      obtain ⟨r0, r1, r2, r3, r4, r5, r6, r7⟩ := row_cells hS hlt
      have HNX := Lib.hid (fun h2 => fine_next hlt HF.out h2)
      have HBD := Lib.hid (fun h2 => res_bad h20' hlt h2)
      generalize rowAt l k = x at *
      have hXb := At.new wr 37 (opCells x)
      have hE2 := hE.alloc (.cells (opCells x) 37)
      clear hE hS
      go_upto_region 6 with fail
      clear r0 r1 r2 r3 r4 r5 r6 r7
      generalize wr.heap.size = xb at *
      generalize wr.alloc _ = W1 at *
      go_cut [42] from 18 to 42 (fun bv wx => bv = .bool (badB x.1) ∧ Ext w wx)
      case first =>
        have q0 := hXb.cell 0
        have q1 := hXb.cell 1
        have q2 := hXb.cell 2
        have q3 := hXb.cell 3
        have q4 := hXb.cell 4
        have q5 := hXb.cell 5
        have q6 := hXb.cell 6
        have q7 := hXb.cell 7
        simp at q0 q1 q2 q3 q4 q5 q6 q7
        by_cases h1 : x.1.kind < 1
        · have hb : badB x.1 = true := by unfold badB; simp [h1]
          go_wp2_with fail
          go_meet
          case rel => exact ⟨by rw [hb], hE2⟩
        by_cases h2 : 5 < x.1.kind
        · have hb : badB x.1 = true := by unfold badB; simp [h2]
          go_wp2_with fail
          go_meet
          case rel => exact ⟨by rw [hb], hE2⟩
        by_cases h3 : (32 : Int) < (x.1.name.size : Int)
        · have hb : badB x.1 = true := by
            have : 32 < x.1.name.size := by omega
            unfold badB; simp [this]
          go_wp2_with fail
          go_meet
          case rel => exact ⟨by rw [hb], hE2⟩
        have hb : badB x.1 = (x.1.ans && decide (x.1.fin < x.1.start)) := by
          have : ¬ 32 < x.1.name.size := by omega
          unfold badB; simp [h1, h2, this]
        have HB := Lib.hid hb
        clear hb
        go_wp2_with fail
        refine (answered_any _ x).mono ?_
        rintro e w1 ⟨rfl, hE1⟩
        have hX1 := hXb.ext hE1
        have p3 := hX1.cell 3
        have p4 := hX1.cell 4
        simp at p3 p4
        cases hans : x.1.ans
        · go_wp2_with fail
          go_meet
          case rel => exact ⟨by rw [HB.out, hans]; simp, hE2.trans hE1⟩
        · go_wp2_with fail
          go_meet
          case rel => exact ⟨by rw [HB.out, hans]; simp, hE2.trans hE1⟩
      case rest =>
        obtain ⟨rfl, hE⟩ := hcut
        clear hXb hE2
        cases hbad : badB x.1
        · go_wp2_with fail
          exact ⟨⟨k + 1, by omega, by go_num, Lib.hid (HNX.out hbad), hE⟩, by simp [intOf]; omega⟩
        · go_wp2_with fail
          refine bodyPost_ret (v := .tuple #[.bool false, .int .i64 1]) (by simp [results, Try.results11, go_sem]) rfl ⟨⟨_, _, rfl, HBD.out hbad⟩, hE⟩
    · obtain rfl : k = l.length := by omega
      have hf := HF.out
      rw [List.take_length] at hf
      have HF' := Lib.hid hf
      clear HF hf hk hlt
      go_wp2_with fail
      refine (parts_any wr l _ (hI.ops.ext hE) h20').mono ?_
      rintro e w1 ⟨⟨v, pvs, rfl, hPS, hpl, hPR⟩, hE1⟩
      have hE3 := hE.trans hE1
      have HPR := Lib.hid hPR
      clear hPR hE hE1
      obtain ⟨PA, pc, hv⟩ : ∃ A c, v = .slice A pvs.length c := by obtain ⟨A, c, h, _⟩ := hPS; exact ⟨A, c, h⟩
      subst hv
      have hpn := parts_num l
      generalize hps : partsOf l = ps at *
      have HPS := Lib.hid hps
      clear hps
      go_wp2_with fail
      go_loopw [47] (fun iv wx => ∃ j : Nat, j ≤ pvs.length ∧ iv = .int .i64 (j : Int) ∧ Hid (∀ p ∈ ps.take j, Lin (opsOf p) hnone) ∧ Ext w1 wx) (fun iv _ => pvs.length - (intOf iv).toNat)
      case atStart => exact ⟨0, Nat.zero_le _, rfl, Lib.hid (fun x hx => by cases hx), Ext.refl _⟩
      case round =>
        obtain ⟨j, hj, rfl, HL, hE⟩ := hrel
        by_cases hlt : j < pvs.length
        · have hpj : ps[j]? = some (ps.getD j []) := by
            rw [List.getD_eq_getElem?_getD, List.getElem?_eq_getElem (by omega)]; rfl
          have hvj : pvs[j]? = some (pvs.getD j nilS) := by
            rw [List.getD_eq_getElem?_getD, List.getElem?_eq_getElem hlt]; rfl
          have hSp := (HPR.out j _ _ hvj hpj).ext hE
          obtain ⟨nb, no, nc', hnv, hn0⟩ := sl_elem (hPS.ext hE) hvj
          injection hnv with hnv1 hnv2 hnv3
          clear hnv2
          subst hnv1 hnv3
          have hpm : ps.getD j [] ∈ ps := List.mem_of_getElem? hpj
          have hLN : Lin (opsOf (ps.getD j [])) hnone → ∀ p ∈ ps.take (j + 1), Lin (opsOf p) hnone := fun h p hp => by
            rw [List.take_add_one, hpj] at hp
            rcases List.mem_append.1 hp with hp | hp
            · exact HL.out p hp
            · simp at hp; rw [hp]; exact h
          have HLN := Lib.hid hLN
          generalize ps.getD j [] = p at *
          generalize pvs.getD j nilS = pv at *
          clear hLN hpj hvj HL
          obtain ⟨pA, pc2, hpv⟩ := sln_slice hSp
          rw [List.length_map] at hpv
          subst hpv
          have hpp : p ∈ partsOf l := by rw [HPS.out]; exact hpm
          have HPP := Lib.hid hpp
          have hbx := PrepIn.boxed hSp (fun x hx => (hI.rows x (parts_sub hpp hx).1).ext (hE3.trans hE)) (parts_ne hpp) (by have := parts_len hpp; omega) (fun x hx => fine_kind (HF'.out x (parts_sub hpp hx).1)) (fun x hx => hI.xn x (parts_sub hpp hx).1)
          have hxn : ∀ x ∈ p, x.1.names.length ≤ 9223372036854775807 := fun x hx => hI.xn x (parts_sub hpp hx).1
          have HXN := Lib.hid hxn
          clear hxn hpp hpm hSp
          have hEb := (hE3.trans hE).alloc (.cells #[.slice pA p.length pc2, nilS, nilS, nilS, nilS, nilS, .int .u32 0, nilS, .map none] 53)
          have hEb1 := hE.alloc (.cells #[.slice pA p.length pc2, nilS, nilS, nilS, nilS, nilS, .int .u32 0, nilS, .map none] 53)
          have hwsz := hE.size
          have hEw := (Ext.refl wr).alloc (.cells #[.slice pA p.length pc2, nilS, nilS, nilS, nilS, nilS, .int .u32 0, nilS, .map none] 53)
          have hsz : (wr.alloc (.cells #[.slice pA p.length pc2, nilS, nilS, nilS, nilS, nilS, .int .u32 0, nilS, .map none] 53)).heap.size = wr.heap.size + 1 := by simp
          go_upto_region 13 with fail
          clear hEb hEb1 hn0
          generalize wr.alloc _ = W2 at *
          generalize hgg : wr.heap.size = gg at *
          go_wp2_with fail
          refine (prepare_any _ _ p _ hbx).mono ?_
          rintro e w2 ⟨⟨ns, b, vals, put, T, X, hns, hT, rfl, hVO, hb, hWI, hst, hsn⟩, hC2⟩
          subst hT
          have hEx : Ext wr w2 := Chg.mono (hEw.chg_trans hC2) fun j hj h => by
            have h' : j = gg := h
            omega
          clear hEw hC2 hbx
          cases b
          · have hno : ChkRes (opsOf l) false 0 := res_no h20' HF'.out HPP.out (prep_no (ns := ns) (vals := vals) (put := put) (by rw [opsOf_len]; exact hns) (by rw [opsOf_len]; exact hVO) (fun hh => absurd (hb.2 (by rw [opsOf_len] at hh; exact hh)) (by simp)))
            have HNO := Lib.hid hno
            clear hno hb hVO hWI
            go_wp2_with fail
            refine bodyPost_ret (v := .tuple #[.bool false, .int .i64 0]) (by simp [results, Try.results11, go_sem]) rfl ⟨⟨_, _, rfl, HNO.out⟩, hE3.trans (hE.trans hEx)⟩
          · have hP := prep_prob HPP.out HF'.out h20' hns hVO (hb.1 rfl)
            have hW := walk_zero p _ X gg ns.length hP HXN.out w2 hWI
            clear hb hVO hWI hP
            have HW := Lib.hid hW
            clear hW
            go_wp2_with fail
            refine HW.out.mono ?_
            rintro e w3 ⟨b, rfl, hb, hC3⟩
            have hEz : Ext wr w3 := Chg.mono (hEx.chg_trans hC3) fun j hj h => by
              rcases h with h | h <;> omega
            clear hC3 hEx
            cases b
            · have hno : ChkRes (opsOf l) false 0 := res_no h20' HF'.out HPP.out (fun hh => absurd (hb.2 hh) (by simp))
              have HNO := Lib.hid hno
              clear hno hb
              go_wp2_with fail
              refine bodyPost_ret (v := .tuple #[.bool false, .int .i64 0]) (by simp [results, Try.results11, go_sem]) rfl ⟨⟨_, _, rfl, HNO.out⟩, hE3.trans (hE.trans hEz)⟩
            · have HY := Lib.hid (HLN.out (hb.1 rfl))
              clear hb
              go_wp2_with fail
              exact ⟨⟨j + 1, by omega, by go_num, HY, hE.trans hEz⟩, by simp [intOf]; omega⟩
        · obtain rfl : j = pvs.length := by omega
          have hf := HL.out
          rw [hpl, List.take_length] at hf
          have HL' := Lib.hid hf
          clear HL hf
          go_wp2_with fail
          refine bodyPost_ret (v := .tuple #[.bool true, .int .i64 0]) (by simp [results, Try.results11, go_sem]) rfl ⟨⟨_, _, rfl, res_yes h20' HF'.out (by rw [HPS.out]; exact HL'.out)⟩, hE3.trans hE⟩
end Go.Proofs.Ytlodaffiamegpaa
