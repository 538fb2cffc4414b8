/-
  Layer 15: the walk of PlaceFits.
-/
import Derived.Test.YthpockgijchfgaaPlaceSome
namespace Go.Proofs.Ythpockgijchfgaa
open Go.RowKit Go.Sort

theorem sl_elem {w : World} {v : Value} {xs : List Value} {i : Nat} {x : Value} (h : Sl w v xs) (hx : xs[i]? = some x) : ∃ b o c, v = .slice (some ⟨b, o, none⟩) xs.length c ∧ w.cell? ⟨b, o + i, none⟩ = some x := by
  obtain ⟨A, c, hv, hc⟩ := h
  obtain ⟨b, o, rfl, hc2⟩ := hc (fun e => by subst e; simp at hx)
  exact ⟨b, o, c, hv, hc2 i x hx⟩
set_option maxRecDepth 100000 in
set_option maxHeartbeats 4000000 in
theorem fitsw_any (w : World) (v : Value) (l : List Spot) (hS : SlnC w v 2 (l.map Spot.cells)) (size copies : Int) :
    Calls Try.prog 3 #[v, .int .i64 size, .int .i64 copies] w fun e w' => e = .returned (.bool true) ∧ Ext w w' := by
  have hlen : (l.take 12).length ≤ 12 := by rw [List.length_take]; omega
  obtain ⟨cp, hcp, hcp20⟩ : ∃ c : Nat, min (max copies 0) 20 = (c : Int) ∧ c ≤ 20 := ⟨(min (max copies 0) 20).toNat, by omega, by omega⟩
  go_enter Try.func3, Try.ntmps3
  go_wp2_with fail
  refine (spots_any w v l hS).mono ?_
  rintro e w1 ⟨v1, v2, rfl, hS1, hE1, -⟩
  generalize l.take 12 = ks at hS1 hlen
  clear hS
  go_wp2_with fail
  refine (disks_any w1 v1 _ ks [] hS1 (Sl.nil _ 0) hlen (by decide) size cp (by omega) (by omega)).mono ?_
  rintro e w2 ⟨rv, r, rfl, hC, hown, hE2⟩
  have hS2 := hS1.ext hE2
  replace hE1 := hE1.trans hE2
  have hmem := fun d (hd : d ∈ r) => hC.mem hd
  have hris := hC.rises
  have hrl : r.length = min (able ks size ks.length) cp := by
    have := hC.len
    unfold able
    simp only [List.length_nil] at this
    split at this <;> omega
  have hal : able ks size ks.length ≤ ks.length := others_len ..
  have hrs := Sl.of_own hown
  clear hC hS1 hE2 hcp
  obtain ⟨rA, rc, rfl, hA⟩ := own_slice hown
  clear hown
  obtain ⟨LA, lc, rfl, hlx⟩ := hS2
  have hS2 : Sln w2 (.slice LA (ks.map Spot.cells).length lc) 2 (ks.map Spot.cells) := ⟨LA, lc, rfl, hlx⟩
  clear hlx
  rw [List.length_map] at hS2 ⊢
  have HM := Lib.hid hmem
  have HR := Lib.hid hrl
  clear hmem hrl
  go_wp2_with fail
  go_loopw [11, 33] (fun av iv wr => ∃ k : Nat, k ≤ ks.length ∧ iv = .int .i64 (k : Int) ∧ av = .int .i64 (able ks size k : Nat) ∧ Ext w2 wr) (fun _ iv _ => ks.length - (intOf iv).toNat)
  case atStart => exact ⟨0, Nat.zero_le _, rfl, rfl, Ext.refl _⟩
  case round =>
    obtain ⟨k, hk, rfl, rfl, hE⟩ := hrel
    by_cases hlt : k < ks.length
    · have hS3 := hS2.ext hE
      obtain ⟨b, o, rfl⟩ := sln_at hS3 hlt
      obtain ⟨r0, r1⟩ := spot_cells hS3 hlt
      have hs := able_succ ks size k
      have hkl : able ks size k ≤ k := others_len ..
      generalize spotAt ks k = s at r0 r1 hs
      generalize able ks size k = ak at hs hkl ⊢
      have HS := Lib.hid hs
      clear hs hS3
      obtain ⟨up, free⟩ := s
      cases up
      · go_wp2_with fail
        go_roundw
        case rel => exact ⟨k + 1, by omega, by go_num, by rw [HS.out]; simp [Spot.fits], hE.alloc _⟩
        case measure => simp [intOf]; omega
      · by_cases hf : size ≤ free
        · have t1 : decide (size ≤ free) = true := by simpa using hf
          go_wp2_with fail
          go_roundw
          case rel => exact ⟨k + 1, by omega, by go_num, by rw [HS.out]; simp [Spot.fits, hf], hE.alloc _⟩
          case measure => simp [intOf]; omega
        · have t1 : decide (size ≤ free) = false := by simpa using hf
          go_wp2_with fail
          go_roundw
          case rel => exact ⟨k + 1, by omega, by go_num, by rw [HS.out]; simp [Spot.fits, hf], hE.alloc _⟩
          case measure => simp [intOf]; omega
    · obtain rfl : k = ks.length := by omega
      generalize able ks size ks.length = ab at HR hal ⊢
      have hrs2 := hrs.ext hE
      have hS3 := hS2.ext hE
      clear hrs hS2
      go_wp2_with fail
      refine (awake_any wr).mono ?_
      rintro e w3 ⟨rfl, hE3⟩
      have hrs3 := hrs2.ext hE3
      have hS4 := hS3.ext hE3
      clear hrs2 hS3
      have hrl := HR.out
      have hcases : cp = r.length ∧ r.length ≤ ab ∨ ab = r.length ∧ ¬ cp ≤ r.length := by omega
      clear HR hrl
      rcases hcases with ⟨rfl, h1⟩ | ⟨rfl, h1⟩
      case' inl =>
        have t1 : decide (r.length ≤ ab) = true := by simpa using h1
        have t2 : min (ab : Int) (r.length : Int) = (r.length : Int) := by omega
      case' inr =>
        have t1 : decide (cp ≤ r.length) = false := by simpa using h1
        have t2 : min (r.length : Int) (cp : Int) = (r.length : Int) := by omega
      all_goals
        have hr12 : r.length ≤ 12 := by omega
        clear h1
        go_wp2_with fail
        clear t1 t2
        go_loopw [67] (fun iv wx => ∃ k : Nat, k ≤ r.length ∧ iv = .int .i64 (k : Int) ∧ wx = w3) (fun iv _ => r.length - (intOf iv).toNat)
        case atStart => exact ⟨0, Nat.zero_le _, rfl, rfl⟩
        case round =>
          obtain ⟨k, hk, rfl, rfl⟩ := hrel
          by_cases hlt : k < r.length
          · have hr0 : 0 < r.length := by omega
            obtain ⟨d, hd, hdl, hdf⟩ := HM.out r[k] (List.getElem_mem hlt)
            obtain ⟨rb, ro, rc', hrv, hc0⟩ := sl_elem hrs3 (x := .int .i64 r[k]) (by rw [List.getElem?_map, List.getElem?_eq_getElem hlt]; rfl)
            simp only [Value.slice.injEq] at hrv
            obtain ⟨rfl, -, rfl⟩ := hrv
            obtain ⟨b, o, rfl⟩ := sln_at hS4 hdl
            obtain ⟨q0, q1⟩ := spot_cells hS4 hdl
            rw [hd] at hc0
            generalize hsp : spotAt ks d = s at q0 q1 hdf
            obtain ⟨up, free⟩ := s
            simp only [Spot.fits, Bool.and_eq_true, decide_eq_true_eq] at hdf
            obtain ⟨rfl, hdf⟩ := hdf
            have hdlt : ¬ free < size := by omega
            have t3 : decide (free < size) = false := by simpa using hdlt
            clear hsp hdf hdlt hA
            by_cases hk0 : 0 < k
            · have hlt2 : r[k - 1] < r[k] := List.pairwise_iff_getElem.1 hris (k - 1) k (by omega) hlt (by omega)
              obtain ⟨rb2, ro2, rc2, hrv2, hc1⟩ := sl_elem hrs3 (i := k - 1) (x := .int .i64 r[k - 1]) (by rw [List.getElem?_map, List.getElem?_eq_getElem (by omega)]; rfl)
              simp only [Value.slice.injEq, Option.some.injEq, Addr.mk.injEq, and_true] at hrv2
              obtain ⟨⟨rfl, rfl⟩, -, rfl⟩ := hrv2
              rw [hd] at hlt2
              generalize r[k - 1] = dj at hc1 hlt2
              have t4 : decide ((d : Int) ≤ dj) = false := by simp; omega
              clear hd hris hrs3 hS4 hlt2 hr0
              go_wp2_with fail
              go_roundw
              case rel => exact ⟨k + 1, by omega, by go_num, trivial⟩
              case measure => simp [intOf]; omega
            · have t5 : decide (0 < k) = false := by simpa using hk0
              clear hd hris hrs3 hS4 hr0 hk0
              go_wp2_with fail
              go_roundw
              case rel => exact ⟨k + 1, by omega, by go_num, trivial⟩
              case measure => simp [intOf]; omega
          · obtain rfl : k = r.length := by omega
            go_wp2_with fail
            go_ret
            exact ⟨rfl, hE1.trans (hE.trans hE3)⟩
end Go.Proofs.Ythpockgijchfgaa
