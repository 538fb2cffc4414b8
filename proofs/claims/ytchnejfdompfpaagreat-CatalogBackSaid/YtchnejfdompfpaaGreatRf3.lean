/-
  The document's catalog: Live; the document's Good.
-/
import Derived.Test.YtchnejfdompfpaaGreatRf2
namespace Go.Proofs.YtchnejfdompfpaaGreat
open Go.RowKit Go.Sort

theorem pins_le {n : Nat} : ∀ {L : List Bl}, (∀ b ∈ L, 0 ≤ b.pins ∧ b.pins ≤ (n : Int)) → 0 ≤ pinsOf L ∧ pinsOf L ≤ (L.length : Int) * n
  | [], _ => by simp [pinsOf]
  | b :: r, h => by
    have h1 := h b (List.mem_cons_self ..)
    have h2 := pins_le (L := r) fun x hx => h x (List.mem_cons_of_mem _ hx)
    have e : pinsOf (b :: r) = b.pins + pinsOf r := rfl
    rw [e, List.length_cons]
    have e2 : ((r.length + 1 : Nat) : Int) * n = (r.length : Int) * n + n := by rw [Int.natCast_add, Int.add_mul]; simp
    rw [e2]
    omega
theorem pins_snoc (L : List Bl) (b : Bl) : pinsOf (L ++ [b]) = pinsOf L + b.pins := by
  unfold pinsOf
  induction L with
  | nil => simp
  | cons x r ih => simp only [List.cons_append, List.map_cons, List.foldr_cons] at ih ⊢; rw [ih]; omega
theorem between_any (w : World) (n m : Int) : Calls Tryz.prog 83 #[.int .i64 n, .int .i64 m] w fun e w' => e = .returned (.bool (upB n m)) ∧ w = w' := by
  go_enter Tryz.func83, Tryz.ntmps83
  unfold upB
  by_cases h1 : 0 ≤ n
  · have e1 : decide (0 ≤ n) = true := by simpa using h1
    rw [e1]
    go_wp2_with fail
    go_ret
    exact ⟨ret_bool (by simp), rfl⟩
  · have e1 : decide (0 ≤ n) = false := by simpa using h1
    rw [e1]
    go_wp2_with fail
    go_ret
    exact ⟨ret_bool (by simp), rfl⟩
section live
theorem onVol_snoc (L : List Bl) (v : Int) (k : Nat) {b : Bl} (hb : L[k]? = some b) : (L.take (k + 1)).filter (onV v) = (L.take k).filter (onV v) ++ (if onV v b = true then [b] else []) := by
  rw [List.take_add_one, hb, List.filter_append]
  by_cases e : onV v b = true <;> simp [e]
set_option maxRecDepth 100000 in
set_option maxHeartbeats 8000000 in
theorem rlive_any (w : World) (v : Value) (P : Pm) (n : Nat) (h : RfIn w v P) (hi : PInv n P) (hn : n ≤ 1000000) (vol : Nat) (hvol : vol < 12) :
    Calls Tryz.prog 28 #[v, .int .i64 (vol : Int)] w fun e w' => e = .returned (.tuple #[.int .i64 ((P.onVol vol).length : Int), .int .i64 (pinsOf (P.onVol vol))]) ∧ Ext w w' := by
  obtain ⟨lv, DV, rfl, hDV, hR⟩ := h
  have hlen : DV.length = P.L.length := by rw [← hDV, List.length_map]
  obtain ⟨A, c, rfl⟩ := own_slc hR.own
  have HX : Hid (rfArr (.slice A DV.length c) P.vols = (.slice A DV.length c :: (P.vols.map vlRow).flatten).toArray) := Lib.hid rfl
  generalize hX : rfArr (.slice A DV.length c) P.vols = X at HX ⊢
  clear hX
  have hX0 : X[0]? = some (.slice A DV.length c) := by rw [HX.out]; rfl
  have hl2 : DV.length ≤ 1000000 := by have := hi.len; omega
  have HDV := Lib.hid hDV
  have HR := Lib.hid hR
  have HPN : Hid (∀ b ∈ P.L, 0 ≤ b.pins ∧ b.pins ≤ (n : Int)) := Lib.hid (fun b hb => (hi.bl b hb).pins)
  have hsum : ∀ k, k ≤ DV.length → 0 ≤ pinsOf ((P.L.take k).filter (onV vol)) ∧ pinsOf ((P.L.take k).filter (onV vol)) ≤ 1000000000000 := fun k hk => by
    have h1 := pins_le (n := n) (L := (P.L.take k).filter (onV vol)) fun b hb => HPN.out b (List.mem_of_mem_take (List.mem_filter.1 hb).1)
    refine ⟨h1.1, Int.le_trans h1.2 ?_⟩
    have h2 : ((P.L.take k).filter (onV vol)).length ≤ 1000000 := Nat.le_trans (List.length_filter_le _ _) (Nat.le_trans (List.length_take_le _ _) (by omega))
    have h3 : ((((P.L.take k).filter (onV vol)).length * n : Nat) : Int) ≤ ((1000000 * 1000000 : Nat) : Int) := Int.ofNat_le.2 (Nat.mul_le_mul h2 hn)
    have h4 : ((((P.L.take k).filter (onV vol)).length * n : Nat) : Int) = (((P.L.take k).filter (onV vol)).length : Int) * n := Int.natCast_mul _ _
    omega
  have HSUM := Lib.hid hsum
  have hlenk : ∀ k, ((P.L.take k).filter (onV vol)).length ≤ k := fun k => Nat.le_trans (List.length_filter_le _ _) (List.length_take_le _ _)
  have HLEN := Lib.hid hlenk
  clear hDV hlen hR hi hsum hlenk hn
  have hpar : vol % 2 = 0 ∨ vol % 2 = 1 := by omega
  go_enter Tryz.func28, Tryz.ntmps28
  have hB := At.new w 31 X
  have hE := (Ext.refl w).alloc (.cells X 31)
  go_upto_region 1 with fail
  generalize w.heap.size = xb at hB ⊢
  generalize w.alloc (.cells X 31) = W at hB hE ⊢
  have c0 := hB.cell 0
  rw [hX0] at c0
  clear hB hX0
  go_wp2_with fail
  clear c0
  go_loopw [6, 7, 14] (fun nv pv kv wr => ∃ k : Nat, kv = .int .i64 (k : Int) ∧ nv = .int .i64 (((P.L.take k).filter (onV vol)).length : Int) ∧ pv = .int .i64 (pinsOf ((P.L.take k).filter (onV vol))) ∧ k ≤ DV.length ∧ Ext w wr) (fun _ _ kv _ => DV.length - (intOf kv).toNat)
  case atStart => exact ⟨0, rfl, rfl, rfl, Nat.zero_le _, hE⟩
  case round =>
    clear hE
    obtain ⟨k, rfl, rfl, rfl, hk, hEr⟩ := hrel
    by_cases hlt : k < DV.length
    · obtain ⟨⟨b, dv⟩, hb⟩ : ∃ q, DV[k]? = some q := ⟨_, List.getElem?_eq_getElem hlt⟩
      have hbL : P.L[k]? = some b := by rw [← HDV.out, List.getElem?_map, hb]; rfl
      obtain ⟨dA, dc, rfl⟩ : ∃ A c, dv = .slice A b.disks.length c := own_slc (HR.out.dks _ (List.mem_of_getElem? hb))
      have hS := HR.out.sln.ext hEr
      obtain ⟨rb, ro, rfl⟩ := cmds_some hS (fun e => by
        have h0 := List.map_eq_nil_iff.1 e
        rw [h0] at hb; simp at hb)
      obtain ⟨r0, r1, r2, r3, r4, r5, r6, r7, r8, r9, r10, r11, r12⟩ := bl_cells hS hb
      have hYb := At.new wr 80 (blCells b (.slice dA b.disks.length dc))
      have hEb := (Ext.refl wr).alloc (.cells (blCells b (.slice dA b.disks.length dc)) 80)
      have HST := Lib.hid (onVol_snoc P.L vol k hbL)
      have hs1 := HSUM.out k hk
      have hln := HLEN.out k
      have hbp := HPN.out b (List.mem_of_getElem? hbL)
      have hs2 := HSUM.out (k + 1) hlt
      clear hb hbL hS
      go_upto_region 6 with fail
      clear r0 r1 r2 r3 r4 r5 r6 r7 r8 r9 r10 r11 r12
      have hEy := hEr.trans hEb
      clear hEr hEb
      generalize wr.heap.size = yb at hYb ⊢
      generalize wr.alloc (.cells (blCells b (.slice dA b.disks.length dc)) 80) = W2 at hYb hEy ⊢
      have d0 := hYb.cell 0
      have d1 := hYb.cell 1
      have d2 := hYb.cell 2
      have d3 := hYb.cell 3
      have d4 := hYb.cell 4
      have d5 := hYb.cell 5
      have d6 := hYb.cell 6
      have d7 := hYb.cell 7
      have d8 := hYb.cell 8
      have d9 := hYb.cell 9
      have d10 := hYb.cell 10
      have d11 := hYb.cell 11
      have d12 := hYb.cell 12
      simp at d0 d1 d2 d3 d4 d5 d6 d7 d8 d9 d10 d11 d12
      have hyl := hYb.lt
      rcases hpar with hp | hp
      · have hon : onV vol b = (b.a.there && decide (b.a.vol = (vol : Int))) := by
          unfold onV
          rw [if_neg (by omega)]
        have hq : ((vol : Int) % 2 == 1) = false := by rw [beq_eq_false_iff_ne]; omega
        rcases Bool.eq_false_or_eq_true b.a.there with ht | ht
        · rw [ht] at d5
          by_cases hv : b.a.vol = (vol : Int)
          · rw [hv] at d6
            have hn : onV vol b = true := by rw [hon, ht, hv]; simp
            have h1 := HST.out
            rw [if_pos hn] at h1
            rw [h1, pins_snoc] at hs2
            have H1 := Lib.hid h1
            clear h1 hn hon ht hv HST hYb
            generalize (P.L.take k).filter (onV vol) = T at *
            have hw1 : IntKind.i64.wrap ((T.length : Int) + 1) = (T.length : Int) + 1 := IntWalk.i64_in _ (by omega)
            have hw2 : IntKind.i64.wrap (pinsOf T + b.pins) = pinsOf T + b.pins := IntWalk.i64_in _ (by omega)
            have hwk : IntKind.i64.wrap ((k : Int) + 1) = (k : Int) + 1 := IntWalk.i64_in _ (by omega)
            go_wp2_with fail
            go_roundw
            case rel => exact ⟨k + 1, by go_num, by rw [H1.out, List.length_append]; rfl, by rw [H1.out, pins_snoc], by omega, hEy.alloc _⟩
            case measure => simp [intOf]; omega
          · have hn : onV vol b = false := by rw [hon, ht]; simp [hv]
            have hvb : (b.a.vol == (vol : Int)) = false := by rw [beq_eq_false_iff_ne]; exact hv
            have h1 := HST.out
            rw [hn, if_neg (by simp), List.append_nil] at h1
            have H1 := Lib.hid h1
            clear h1 hn hon ht hv HST hYb hs2
            go_wp2_with fail
            go_roundw
            case rel => exact ⟨k + 1, by go_num, by rw [H1.out], by rw [H1.out], by omega, hEy.alloc _⟩
            case measure => simp [intOf]; omega
        · rw [ht] at d5
          have hn : onV vol b = false := by rw [hon, ht]; simp
          have h1 := HST.out
          rw [hn, if_neg (by simp), List.append_nil] at h1
          have H1 := Lib.hid h1
          clear h1 hn hon ht HST hYb hs2
          go_wp2_with fail
          go_roundw
          case rel => exact ⟨k + 1, by go_num, by rw [H1.out], by rw [H1.out], by omega, hEy.alloc _⟩
          case measure => simp [intOf]; omega
      · have hon : onV vol b = (b.b.there && decide (b.b.vol = (vol : Int))) := by
          unfold onV
          rw [if_pos (by omega)]
        have hq : ((vol : Int) % 2 == 1) = true := by rw [beq_iff_eq]; omega
        rcases Bool.eq_false_or_eq_true b.b.there with ht | ht
        · rw [ht] at d8
          by_cases hv : b.b.vol = (vol : Int)
          · rw [hv] at d9
            have hn : onV vol b = true := by rw [hon, ht, hv]; simp
            have h1 := HST.out
            rw [if_pos hn] at h1
            rw [h1, pins_snoc] at hs2
            have H1 := Lib.hid h1
            clear h1 hn hon ht hv HST hYb
            generalize (P.L.take k).filter (onV vol) = T at *
            have hw1 : IntKind.i64.wrap ((T.length : Int) + 1) = (T.length : Int) + 1 := IntWalk.i64_in _ (by omega)
            have hw2 : IntKind.i64.wrap (pinsOf T + b.pins) = pinsOf T + b.pins := IntWalk.i64_in _ (by omega)
            have hwk : IntKind.i64.wrap ((k : Int) + 1) = (k : Int) + 1 := IntWalk.i64_in _ (by omega)
            go_wp2_with fail
            go_roundw
            case rel => exact ⟨k + 1, by go_num, by rw [H1.out, List.length_append]; rfl, by rw [H1.out, pins_snoc], by omega, hEy.alloc _⟩
            case measure => simp [intOf]; omega
          · have hn : onV vol b = false := by rw [hon, ht]; simp [hv]
            have hvb : (b.b.vol == (vol : Int)) = false := by rw [beq_eq_false_iff_ne]; exact hv
            have h1 := HST.out
            rw [hn, if_neg (by simp), List.append_nil] at h1
            have H1 := Lib.hid h1
            clear h1 hn hon ht hv HST hYb hs2
            go_wp2_with fail
            go_roundw
            case rel => exact ⟨k + 1, by go_num, by rw [H1.out], by rw [H1.out], by omega, hEy.alloc _⟩
            case measure => simp [intOf]; omega
        · rw [ht] at d8
          have hn : onV vol b = false := by rw [hon, ht]; simp
          have h1 := HST.out
          rw [hn, if_neg (by simp), List.append_nil] at h1
          have H1 := Lib.hid h1
          clear h1 hn hon ht HST hYb hs2
          go_wp2_with fail
          go_roundw
          case rel => exact ⟨k + 1, by go_num, by rw [H1.out], by rw [H1.out], by omega, hEy.alloc _⟩
          case measure => simp [intOf]; omega
    · obtain rfl : k = DV.length := by omega
      have hT : P.L.take DV.length = P.L := List.take_of_length_le (by rw [← HDV.out]; simp)
      rw [hT]
      go_wp2_with fail
      refine bodyPost_ret (v := .tuple #[.int .i64 (((P.L.filter (onV vol)).length : Nat) : Int), .int .i64 (pinsOf (P.L.filter (onV vol)))]) (by simp [results, Tryz.results28, go_sem]) rfl ?_
      exact ⟨rfl, hEr⟩
end live
end Go.Proofs.YtchnejfdompfpaaGreat
