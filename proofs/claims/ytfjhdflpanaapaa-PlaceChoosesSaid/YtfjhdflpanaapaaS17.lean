/-
  Part 17 of what the law leans on.
-/
import Derived.Test.YtfjhdflpanaapaaS8
import Derived.Test.YtfjhdflpanaapaaS16
set_option linter.unusedVariables false
set_option linter.unusedSimpArgs false
set_option linter.unusedSectionVars false
namespace Go.Proofs.Ytfjhdflpanaapaa
open Go.RowKit Go.Sort
theorem pc_vol (lv : Value) {V : List Vl} (h : V.length = 12) (k : Nat) (hk : k < 12) : (rfArr lv V)[1 + k * 3]? = some (.bool (V.getD k Vl.zero).closed) ∧ (rfArr lv V)[1 + k * 3 + 1]? = some (.bool (V.getD k Vl.zero).erase) := by
  obtain ⟨a0, a1, a2, a3, a4, a5, a6, a7, a8, a9, a10, a11, rfl⟩ := twelve h
  have h2 : k = 0 ∨ k = 1 ∨ k = 2 ∨ k = 3 ∨ k = 4 ∨ k = 5 ∨ k = 6 ∨ k = 7 ∨ k = 8 ∨ k = 9 ∨ k = 10 ∨ k = 11 := by omega
  rcases h2 with rfl | rfl | rfl | rfl | rfl | rfl | rfl | rfl | rfl | rfl | rfl | rfl <;> exact ⟨rfl, rfl⟩
set_option maxRecDepth 100000 in
set_option maxHeartbeats 4000000 in
theorem rvolume_any (w : World) (v lv : Value) (P : Pm) (n : Nat) (l : List Spot) (hR : RfIn w v P) (hi : PInv n P) (hS : Sln w lv 2 (l.map Spot.cells)) (hl : l.length ≤ 12) (pool size not_ : Int) :
    Calls Try.prog 12 #[v, lv, .int .i64 pool, .int .i64 size, .int .i64 not_] w fun e w' => e = .returned (.int .i64 (volOf P l pool size not_ l.length)) ∧ Ext w w' := by
  obtain ⟨rv, DV, rfl, hDV, hRR⟩ := hR
  obtain ⟨A, c, rfl⟩ := own_slc hRR.own
  have HV : Hid (∀ k, k < 12 → (rfArr (.slice A DV.length c) P.vols)[1 + k * 3]? = some (.bool (P.vol k).closed)) := Lib.hid fun k hk => (pc_vol _ hi.vlen k hk).1
  clear hDV hRR hi
  generalize rfArr (.slice A DV.length c) P.vols = X at HV ⊢
  obtain ⟨LA, lc, rfl, hlx⟩ := hS
  have hS : Sln w (.slice LA (l.map Spot.cells).length lc) 2 (l.map Spot.cells) := ⟨LA, lc, rfl, hlx⟩
  clear hlx
  rw [List.length_map] at hS ⊢
  go_enter Try.func12, Try.ntmps12
  have hB := At.new w 36 X
  have hE := (Ext.refl w).alloc (.cells X 36)
  go_upto_region 1 with fail
  generalize w.heap.size = xb at hB ⊢
  generalize w.alloc (.cells X 36) = W at hB hE ⊢
  go_wp2_with fail
  go_loopw [11, 17] (fun bv iv wr => ∃ k : Nat, k ≤ l.length ∧ iv = .int .i64 (k : Int) ∧ bv = .int .i64 (volOf P l pool size not_ k) ∧ Ext W wr) (fun _ iv _ => l.length - (intOf iv).toNat)
  case atStart => exact ⟨0, Nat.zero_le _, rfl, rfl, Ext.refl _⟩
  case round =>
    obtain ⟨k, hk, rfl, rfl, hEk⟩ := hrel
    by_cases hlt : k < l.length
    · have hS2 := hS.ext (hE.trans hEk)
      have hBk := hB.ext hEk
      obtain ⟨b, o, rfl⟩ := sln_at hS2 hlt
      obtain ⟨r0, r1⟩ := spot_cells hS2 hlt
      have hbr := volOf_range P l pool size not_ k
      have hbs : volOf P l pool size not_ (k + 1) = if (mayV P l pool size not_ k && (decide (volOf P l pool size not_ k < 0) || decide ((spotAt l k).free < (spotAt l (volOf P l pool size not_ k).toNat).free))) = true then (k : Int) else volOf P l pool size not_ k := rfl
      have vc := (hBk.cell (1 + k * 3)).trans (HV.out k (by omega))
      have hmay : mayV P l pool size not_ k = (decide (((k : Int) % 2) = pool) && !decide ((k : Int) = not_) && (spotAt l k).fits size && !(P.vol k).closed) := rfl
      generalize hcl : (P.vol k).closed = cl at hmay
      obtain ⟨⟨u, f⟩, hsp⟩ : ∃ s, s = spotAt l k := ⟨_, rfl⟩
      rw [← hsp] at r0 r1 hbs hmay
      generalize hbst : volOf P l pool size not_ k = bst at hbs hbr ⊢
      clear hbst
      simp only [] at r0 r1 hbs
      go_upto_region 5 with fail
      obtain ⟨wy, hwy⟩ : ∃ wy, wy = wr.alloc (.cells #[.bool u, .int .i64 f] 50) := ⟨_, rfl⟩
      have hXb := At.new wr 50 #[.bool u, .int .i64 f]
      have hvb := hBk.alloc (.cells #[.bool u, .int .i64 f] 50)
      rw [← hwy] at hXb hvb ⊢
      have hEy : Ext W wy := by rw [hwy]; exact hEk.alloc _
      clear hwy vc hBk r0 r1
      have vc := (hvb.cell (1 + k * 3)).trans (HV.out k (by omega))
      rw [hcl] at vc
      clear hcl
      generalize wr.heap.size = yb at hXb ⊢
      have x0 := hXb.cell 0
      have x1 := hXb.cell 1
      simp at x0 x1
      obtain ⟨m, hm⟩ : ∃ m, m = mayV P l pool size not_ k := ⟨_, rfl⟩
      rw [← hm] at hbs hmay
      clear hm
      go_cut [14] from 22 to 48 (fun mv wx => mv = .bool m ∧ wx = wy)
      case first =>
        clear hbs
        have HMAY := Lib.hid hmay
        clear hmay
        by_cases h1 : ((k : Int) % 2) = pool
        · have t1 : decide ((k : Int) % 2 = pool) = true := by simpa using h1
          by_cases h2 : (k : Int) = not_
          · have t2 : ((k : Int) != not_) = false := by simpa using h2
            have H2 := Lib.hid h2
            clear h2
            go_wp2_with fail
            go_meet
            case rel =>
              refine ⟨?_, rfl⟩
              have h2 := H2.out
              rw [HMAY.out]
              simp [Spot.fits, h2]
          · have t2 : ((k : Int) != not_) = true := by simpa using h2
            cases u
            · go_wp2_with fail
              go_meet
              case rel =>
                refine ⟨?_, rfl⟩
                rw [HMAY.out]
                simp [Spot.fits]
            · by_cases h3 : size ≤ f
              · have t3 : decide (size ≤ f) = true := by simpa using h3
                cases cl
                · go_wp2_with fail
                  go_meet
                  case rel =>
                    refine ⟨?_, rfl⟩
                    rw [HMAY.out]
                    simp [Spot.fits, h1, h2, h3]
                · go_wp2_with fail
                  go_meet
                  case rel =>
                    refine ⟨?_, rfl⟩
                    rw [HMAY.out]
                    simp [Spot.fits, h1, h2, h3]
              · have t3 : decide (size ≤ f) = false := by simpa using h3
                go_wp2_with fail
                go_meet
                case rel =>
                  refine ⟨?_, rfl⟩
                  rw [HMAY.out]
                  simp [Spot.fits]
                  intros; omega
        · have t1 : decide ((k : Int) % 2 = pool) = false := by simpa using h1
          go_wp2_with fail
          go_meet
          case rel =>
            refine ⟨?_, rfl⟩
            rw [HMAY.out]
            simp [Spot.fits, h1]
      case rest =>
        obtain ⟨rfl, hwc⟩ := hcut
        subst hwc
        have rg : ∀ {p : Addr} {v : Value}, wc.cell? p = some v → ∀ d os, (grow (redrawn wc d) os).cell? p = some v := fun h d os => (Ext.cell (ext_regrown wc d os) (cell_lt h)).trans h
        have rx1 := rg x1
        clear hmay vc x0 hXb hvb
        have hSy := hS.ext (hE.trans hEy)
        cases m
        · have HBK := Lib.hid (show volOf P l pool size not_ (k + 1) = bst from by rw [hbs]; simp)
          clear hbs
          go_wp2_with fail
          refine wp_region_quiet_ext (by kernel_rfl) (by kernel_rfl) ?_
          repeat (go_big_quiet_step (fail))
          refine wpQuiet_nil ?_
          intro W8 hE8
          go_wp2_with fail
          go_roundw
          case rel => exact ⟨k + 1, by omega, by go_num, by rw [HBK.out], hEy.trans hE8⟩
          case measure => simp [intOf]; omega
        · by_cases hb0 : bst < 0
          · have t2 : decide (bst < 0) = true := by simpa using hb0
            have HBK := Lib.hid (show volOf P l pool size not_ (k + 1) = (k : Int) from by rw [hbs]; simp [hb0])
            clear hbs
            go_wp2_with fail
            refine wp_region_quiet_ext (by kernel_rfl) (by kernel_rfl) ?_
            repeat (go_big_quiet_step (fail))
            refine wpQuiet_nil ?_
            intro W8 hE8
            go_wp2_with fail
            go_roundw
            case rel => exact ⟨k + 1, by omega, by go_num, by rw [HBK.out], hEy.trans hE8⟩
            case measure => simp [intOf]; omega
          · have t2 : decide (bst < 0) = false := by simpa using hb0
            obtain ⟨j, rfl⟩ : ∃ j : Nat, bst = (j : Int) := ⟨bst.toNat, by omega⟩
            have hjl : j < l.length := by omega
            obtain ⟨_, q1⟩ := spot_cells hSy hjl
            have q1r := rg q1
            rw [show ((j : Int)).toNat = j from rfl] at hbs
            generalize (spotAt l j).free = g at q1 q1r hbs
            by_cases hg : f < g
            · have t3 : decide (f < g) = true := by simpa using hg
              have HBK := Lib.hid (show volOf P l pool size not_ (k + 1) = (k : Int) from by rw [hbs]; simp [hg])
              clear hbs
              go_wp2_with fail
              refine wp_region_quiet_ext (by kernel_rfl) (by kernel_rfl) ?_
              repeat (go_big_quiet_step (fail))
              refine wpQuiet_nil ?_
              intro W8 hE8
              go_wp2_with fail
              go_roundw
              case rel => exact ⟨k + 1, by omega, by go_num, by rw [HBK.out], hEy.trans hE8⟩
              case measure => simp [intOf]; omega
            · have t3 : decide (f < g) = false := by simpa using hg
              have HBK := Lib.hid (show volOf P l pool size not_ (k + 1) = (j : Int) from by rw [hbs]; simp [hg]; omega)
              clear hbs
              go_wp2_with fail
              refine wp_region_quiet_ext (by kernel_rfl) (by kernel_rfl) ?_
              repeat (go_big_quiet_step (fail))
              refine wpQuiet_nil ?_
              intro W8 hE8
              go_wp2_with fail
              go_roundw
              case rel => exact ⟨k + 1, by omega, by go_num, by rw [HBK.out], hEy.trans hE8⟩
              case measure => simp [intOf]; omega
    · obtain rfl : k = l.length := by omega
      go_wp2_with fail
      go_ret
      exact ⟨rfl, hE.trans hEk⟩
end Go.Proofs.Ytfjhdflpanaapaa
namespace Go.Proofs.Ytfjhdflpanaapaa
open Go.RowKit Go.Sort
def skipR (P : Pm) (l : List Spot) (items : List Int) (i : Nat) : Bool := decide (items.length ≤ i) || decide (items.getD i 0 = 0) || !(spotAt l i).up || !(P.vol i).closed || (P.vol i).erase
theorem goneOf_skip {P : Pm} {l : List Spot} {items : List Int} {i : Nat} (h : skipR P l items i = true) : goneOf P l items i = 0 := by
  unfold skipR at h
  unfold goneOf
  rw [if_neg]
  generalize items.getD i 0 = x at h ⊢
  intro h2
  simp only [Bool.and_eq_true, Bool.or_eq_true, decide_eq_true_eq, Bool.not_eq_true'] at h h2
  obtain ⟨⟨⟨⟨⟨a, b⟩, c⟩, d⟩, e⟩, f⟩ := h2
  rw [c, d, e] at h
  simp at h
  omega
theorem goneOf_none {P : Pm} {l : List Spot} {items : List Int} {i : Nat} (h : (P.onVol i).length = 0) : goneOf P l items i = 0 := by
  unfold goneOf
  rw [if_neg]
  intro h2
  simp only [Bool.and_eq_true, decide_eq_true_eq] at h2
  exact h2.2 h
theorem goneOf_some {P : Pm} {l : List Spot} {items : List Int} {i : Nat} (h : skipR P l items i = false) (hn : ∀ x ∈ items, 0 ≤ x) (hl : (P.onVol i).length ≠ 0) : 0 < items.getD i 0 ∧ goneOf P l items i = (items.getD i 0 - ((P.onVol i).length : Int)) * 100 / items.getD i 0 := by
  unfold skipR at h
  simp only [Bool.or_eq_false_iff, decide_eq_false_iff_not, Bool.not_eq_false'] at h
  obtain ⟨⟨⟨⟨a, b⟩, c⟩, d⟩, e⟩ := h
  have hx : 0 ≤ items.getD i 0 := by
    rw [List.getD_eq_getElem?_getD, List.getElem?_eq_getElem (by omega)]
    exact hn _ (List.getElem_mem _)
  refine ⟨by omega, ?_⟩
  unfold goneOf
  rw [if_pos]
  rw [c, d, e]
  generalize items.getD i 0 = x at b hx ⊢
  simp [hl]
  omega
def goneR (x n : Int) : Int := if n = 0 then 0 else 100 * max (x - n) 0 / x
theorem best_same {P : Pm} {l : List Spot} {items : List Int} {percent : Int} {i : Nat} (hn : ∀ x ∈ items, 0 ≤ x) (h : skipR P l items i = false) (m : Int) (hm : 0 ≤ m) :
    (decide (m < goneR (items.getD i 0) ((P.onVol i).length : Int)) && decide (percent ≤ goneR (items.getD i 0) ((P.onVol i).length : Int))) = (decide (m < goneOf P l items i) && decide (percent ≤ goneOf P l items i)) ∧
    (m < goneR (items.getD i 0) ((P.onVol i).length : Int) → goneR (items.getD i 0) ((P.onVol i).length : Int) = goneOf P l items i) := by
  by_cases hl : (P.onVol i).length = 0
  · rw [goneOf_none hl]
    unfold goneR
    rw [hl]
    simp
  · obtain ⟨h1, h2⟩ := goneOf_some h hn hl
    rw [h2]
    unfold goneR
    rw [if_neg (by omega)]
    generalize items.getD i 0 = x at h1 ⊢
    generalize ((P.onVol i).length : Int) = n at ⊢
    by_cases hc : n ≤ x
    · rw [show max (x - n) 0 = x - n by omega, show 100 * (x - n) = (x - n) * 100 by omega]
      exact ⟨rfl, fun _ => rfl⟩
    · rw [show max (x - n) 0 = 0 by omega]
      have hneg : (x - n) * 100 / x < 0 := Int.ediv_neg_of_neg_of_pos (by omega) h1
      generalize (x - n) * 100 / x = q at hneg
      simp
      constructor
      · have a1 : decide (m < 0) = false := by simp; omega
        have a2 : decide (m < q) = false := by simp; omega
        rw [a1, a2]
        rfl
      · intro hh; omega
end Go.Proofs.Ytfjhdflpanaapaa
namespace Go.Proofs.Ytfjhdflpanaapaa
open Go.RowKit Go.Sort
theorem ints_cell {w : World} {A : Option Addr} {n c : Nat} {l : List Int} (h : Sl w (.slice A n c) (l.map (Value.int .i64))) (k : Nat) (hk : k < l.length) : ∃ b o, A = some ⟨b, o, none⟩ ∧ w.cell? ⟨b, o + k, none⟩ = some (.int .i64 (l.getD k 0)) := by
  obtain ⟨A', c', ha, hc⟩ := h
  have hne : l.map (Value.int .i64) ≠ [] := fun e => by rw [List.map_eq_nil_iff.1 e] at hk; simp at hk
  obtain ⟨b, o, rfl, hcc⟩ := hc hne
  injection ha with ha q1 q2
  refine ⟨b, o, ha, hcc k _ ?_⟩
  rw [List.getElem?_map, List.getElem?_eq_getElem hk, List.getD_eq_getElem?_getD, List.getElem?_eq_getElem hk]
  rfl
set_option maxRecDepth 100000 in
set_option maxHeartbeats 4000000 in
theorem rsparse_any (w : World) (v lv iv : Value) (P : Pm) (n : Nat) (l : List Spot) (items : List Int) (hR : RfIn w v P) (hi : PInv n P) (hn : n ≤ 1000) (hS : Sln w lv 2 (l.map Spot.cells)) (hl : l.length ≤ 12) (hI : Sl w iv (items.map (Value.int .i64))) (hil : items.length ≤ 12) (hir : ∀ x ∈ items, 0 ≤ x ∧ x ≤ 1000000) (percent : Int) :
    Calls Try.prog 14 #[v, lv, iv, .int .i64 percent] w fun e w' => e = .returned (.int .i64 (sparseOf P l items percent l.length).1) ∧ Ext w w' := by
  have HRF := Lib.hid hR
  obtain ⟨rv, DV, rfl, hDV, hRR⟩ := hR
  obtain ⟨A, c, rfl⟩ := own_slc hRR.own
  have HV : Hid (∀ k, k < 12 → (rfArr (.slice A DV.length c) P.vols)[1 + k * 3]? = some (.bool (P.vol k).closed) ∧ (rfArr (.slice A DV.length c) P.vols)[1 + k * 3 + 1]? = some (.bool (P.vol k).erase)) := Lib.hid fun k hk => pc_vol _ hi.vlen k hk
  have H37 := Lib.hid (rfArr_size (.slice A DV.length c) hi.vlen)
  have HON : Hid (∀ k : Nat, (P.onVol k).length ≤ 1000) := Lib.hid fun k => Nat.le_trans (List.length_filter_le _ _) (Nat.le_trans hi.len hn)
  clear hDV hRR
  generalize rfArr (.slice A DV.length c) P.vols = X at HV HRF H37 ⊢
  have HII := Lib.hid hi
  clear hi
  have HI1 : Hid ((Try.prog.info? 36).map (·.size) = some X.toList.length) := Lib.hid (by rw [Array.length_toList, H37.out]; exact rf_cinfo)
  obtain ⟨LA, lc, rfl, hlx⟩ := hS
  have hS : Sln w (.slice LA (l.map Spot.cells).length lc) 2 (l.map Spot.cells) := ⟨LA, lc, rfl, hlx⟩
  clear hlx
  obtain ⟨IA, ic, rfl, hix⟩ := hI
  have hI : Sl w (.slice IA (items.map (Value.int .i64)).length ic) (items.map (Value.int .i64)) := ⟨IA, ic, rfl, hix⟩
  clear hix
  rw [List.length_map] at hS hI
  rw [List.length_map, List.length_map]
  have HIR : Hid (∀ k, 0 ≤ items.getD k 0 ∧ items.getD k 0 ≤ 1000000) := Lib.hid fun k => by
    rw [List.getD_eq_getElem?_getD]
    cases h : items[k]? with
    | none => simp
    | some x => exact hir x (List.mem_of_getElem? h)
  have HIN := Lib.hid (fun x (hx : x ∈ items) => (hir x hx).1)
  clear hir
  go_enter Try.func14, Try.ntmps14
  have hB := At.new w 36 X
  have hE := (Ext.refl w).alloc (.cells X 36)
  go_upto_region 1 with fail
  generalize w.heap.size = xb at hB ⊢
  generalize w.alloc (.cells X 36) = W at hB hE ⊢
  go_wp2_with fail
  go_loopw [9, 10, 18] (fun bv mv iv wr => ∃ k : Nat, k ≤ l.length ∧ iv = .int .i64 (k : Int) ∧ bv = .int .i64 (sparseOf P l items percent k).1 ∧ mv = .int .i64 (sparseOf P l items percent k).2 ∧ Ext W wr) (fun _ _ iv _ => l.length - (intOf iv).toNat)
  case atStart => exact ⟨0, Nat.zero_le _, rfl, rfl, rfl, Ext.refl _⟩
  case round =>
    obtain ⟨k, hk, rfl, rfl, rfl, hEk⟩ := hrel
    by_cases hlt : k < l.length
    · have hS2 := hS.ext (hE.trans hEk)
      have hBk := hB.ext hEk
      obtain ⟨b, o, rfl⟩ := sln_at hS2 hlt
      obtain ⟨r0, r1⟩ := spot_cells hS2 hlt
      have hmost := sparseOf_nn P l items percent k
      have hbs : sparseOf P l items percent (k + 1) = if (decide ((sparseOf P l items percent k).2 < goneOf P l items k) && decide (percent ≤ goneOf P l items k)) = true then ((k : Int), goneOf P l items k) else sparseOf P l items percent k := rfl
      have hsk0 : skipR P l items k = (decide (items.length ≤ k) || decide (items.getD k 0 = 0) || !(spotAt l k).up || !(P.vol k).closed || (P.vol k).erase) := rfl
      generalize hbst : sparseOf P l items percent k = bst at hbs hmost ⊢
      clear hbst
      obtain ⟨best, most⟩ := bst
      simp only [] at hbs hmost ⊢
      obtain ⟨u, hu⟩ : ∃ u, u = (spotAt l k).up := ⟨_, rfl⟩
      obtain ⟨f, hf⟩ : ∃ u, u = (spotAt l k).free := ⟨_, rfl⟩
      rw [← hu] at r0 hsk0
      rw [← hf] at r1
      obtain ⟨cl, hcl⟩ : ∃ u, u = (P.vol k).closed := ⟨_, rfl⟩
      obtain ⟨er, her⟩ : ∃ u, u = (P.vol k).erase := ⟨_, rfl⟩
      rw [← hcl, ← her] at hsk0
      clear hu hf
      go_upto_region 6 with fail
      obtain ⟨wy, hwy⟩ : ∃ wy, wy = wr.alloc (.cells #[.bool u, .int .i64 f] 50) := ⟨_, rfl⟩
      have hXb := At.new wr 50 #[.bool u, .int .i64 f]
      have hvb := hBk.alloc (.cells #[.bool u, .int .i64 f] 50)
      rw [← hwy] at hXb hvb ⊢
      have hEy : Ext W wy := by rw [hwy]; exact hEk.alloc _
      clear hwy hBk r0 r1 hEk
      have vc := (hvb.cell (1 + k * 3)).trans (HV.out k (by omega)).1
      have ve := (hvb.cell (1 + k * 3 + 1)).trans (HV.out k (by omega)).2
      rw [← hcl] at vc
      rw [← her] at ve
      clear hcl her
      generalize wr.heap.size = yb at hXb ⊢
      have x0 := hXb.cell 0
      simp at x0
      clear hXb
      obtain ⟨sk, hsk1⟩ : ∃ m, m = skipR P l items k := ⟨_, rfl⟩
      have hsk : sk = (decide (items.length ≤ k) || decide (items.getD k 0 = 0) || !u || !cl || er) := by rw [hsk1, hsk0]
      clear hsk0
      have hEy0 := hE.trans hEy
      obtain ⟨it, hitk⟩ : ∃ it, it = items.getD k 0 := ⟨_, rfl⟩
      rw [← hitk] at hsk
      replace hitk := hitk.symm
      have hir := HIR.out k
      rw [hitk] at hir
      go_cut [53] from 23 to 53 (fun mv wx => mv = .bool sk ∧ wx = wy)
      case first =>
        clear hbs hmost
        have HSK := Lib.hid hsk
        clear hsk
        by_cases h1 : items.length ≤ k
        · have t1 : decide (items.length ≤ k) = true := by simpa using h1
          go_wp2_with fail
          go_meet
          case rel =>
            refine ⟨?_, rfl⟩
            rw [HSK.out]
            simp [h1]
        · have t1 : decide (items.length ≤ k) = false := by simpa using h1
          obtain ⟨ib, io, rfl, ic⟩ := ints_cell (hI.ext hEy0) k (by omega)
          rw [hitk] at ic
          by_cases h2 : it = 0
          · subst h2
            have HK2 := Lib.hid hitk
            clear hitk
            go_wp2_with fail
            go_meet
            case rel =>
              refine ⟨?_, rfl⟩
              rw [HSK.out]
              have := HK2.out; simp
          · have t2 : decide (it = 0) = false := by simpa using h2
            have HK2 := Lib.hid hitk
            clear hitk
            cases u
            · go_wp2_with fail
              go_meet
              case rel =>
                refine ⟨?_, rfl⟩
                rw [HSK.out]
                simp
            · cases cl
              · go_wp2_with fail
                go_meet
                case rel =>
                  refine ⟨?_, rfl⟩
                  rw [HSK.out]
                  simp
              · cases er
                · go_wp2_with fail
                  go_meet
                  case rel =>
                    refine ⟨?_, rfl⟩
                    rw [HSK.out]
                    simp [h1, h2]
                · go_wp2_with fail
                  go_meet
                  case rel =>
                    refine ⟨?_, rfl⟩
                    rw [HSK.out]
                    simp
      case rest =>
        obtain ⟨rfl, hwc⟩ := hcut
        subst hwc
        clear hsk vc ve x0
        cases sk
        · obtain ⟨hb1, hb2⟩ := best_same (percent := percent) HIN.out hsk1.symm most hmost
          have hki : k < items.length ∧ items.getD k 0 ≠ 0 := by
            have h := hsk1
            unfold skipR at h
            generalize items.getD k 0 = q at h ⊢
            simp at h
            exact ⟨by omega, by omega⟩
          rw [hitk] at hki hb1 hb2
          obtain ⟨hkl, hit0⟩ := hki
          have hpn := HON.out k
          obtain ⟨pn, hpe⟩ : ∃ pn : Nat, pn = (P.onVol k).length := ⟨_, rfl⟩
          rw [← hpe] at hb1 hb2 hpn
          have HBS := Lib.hid (show sparseOf P l items percent (k + 1) = if (decide (most < goneR it pn) && decide (percent ≤ goneR it pn)) = true then ((k : Int), goneR it pn) else (best, most) from by
            rw [hbs, hb1]
            by_cases hc : (decide (most < goneOf P l items k) && decide (percent ≤ goneOf P l items k)) = true
            · rw [if_pos hc, if_pos hc]
              rw [← hb1] at hc
              rw [hb2 (by simp at hc; exact hc.1)]
            · rw [if_neg hc, if_neg hc])
          clear hbs hb1 hb2 hsk1
          have HRL := Lib.hid (rlive_any wc (.agg X) P n (HRF.out.ext hEy0) HII.out (by omega) k (by omega))
          rw [← hpe] at HRL
          have HRG := Lib.hid hvb.range
          go_upto_region 8 with (refine wpList_load_mid rfl 36 _ rfl xb 0 rfl _ _ HRG.out Try.underlying36 rfl HI1.out ?_)
          refine HRL.out.mono ?_
          rintro e w2 ⟨rfl, hE2⟩
          have hEy2 := hEy.trans hE2
          obtain ⟨ib, io, rfl, ic2⟩ := ints_cell (hI.ext (hEy0.trans hE2)) k hkl
          rw [hitk] at ic2
          have HK2 := Lib.hid hitk
          have rg : ∀ {p : Addr} {v : Value}, w2.cell? p = some v → ∀ d os, (grow (redrawn w2 d) os).cell? p = some v := fun h d os => (Ext.cell (ext_regrown w2 d os) (cell_lt h)).trans h
          have rx := rg ic2
          clear HRL HRG hvb hE2 hitk hpe
          generalize pinsOf (P.onVol k) = pp
          go_upto_region 8 with fail
          refine wp_region_quiet_ext (by kernel_rfl) (by kernel_rfl) ?_
          repeat (go_big_quiet_step (fail))
          refine wpQuiet_nil ?_
          intro W8 hE8
          by_cases hp : pn = 0
          · subst hp
            have t1 : decide ((0 : Int) = 0) = true := by simp
            have t2 : decide (most < 0) = false := by simp; omega
            generalize 100 * max (it - ((0 : Nat) : Int)) 0 / it = q
            have HBK := Lib.hid (show sparseOf P l items percent (k + 1) = (best, most) from by rw [HBS.out]; simp [goneR]; omega)
            go_wp2_with fail
            go_roundw
            case rel => exact ⟨k + 1, by omega, by go_num, by rw [HBK.out], by rw [HBK.out], hEy2.trans hE8⟩
            case measure => simp [intOf]; omega
          · have t1 : decide ((pn : Int) = 0) = false := by simp; omega
            have hg : goneR it pn = 100 * max (it - (pn : Int)) 0 / it := by unfold goneR; rw [if_neg (by omega)]
            rw [hg] at HBS
            clear hg
            generalize 100 * max (it - (pn : Int)) 0 / it = q at HBS ⊢
            by_cases h1 : most < q
            · have t2 : decide (most < q) = true := by simpa using h1
              by_cases h2 : percent ≤ q
              · have t3 : decide (percent ≤ q) = true := by simpa using h2
                have HBK := Lib.hid (show sparseOf P l items percent (k + 1) = ((k : Int), q) from by rw [HBS.out]; simp [h1, h2])
                go_wp2_with fail
                go_roundw
                case rel => exact ⟨k + 1, by omega, by go_num, by rw [HBK.out], by rw [HBK.out], hEy2.trans hE8⟩
                case measure => simp [intOf]; omega
              · have t3 : decide (percent ≤ q) = false := by simpa using h2
                have HBK := Lib.hid (show sparseOf P l items percent (k + 1) = (best, most) from by rw [HBS.out]; simp [h1] <;> omega)
                go_wp2_with fail
                go_roundw
                case rel => exact ⟨k + 1, by omega, by go_num, by rw [HBK.out], by rw [HBK.out], hEy2.trans hE8⟩
                case measure => simp [intOf]; omega
            · have t2 : decide (most < q) = false := by simpa using h1
              have HBK := Lib.hid (show sparseOf P l items percent (k + 1) = (best, most) from by rw [HBS.out]; simp [h1] <;> omega)
              go_wp2_with fail
              go_roundw
              case rel => exact ⟨k + 1, by omega, by go_num, by rw [HBK.out], by rw [HBK.out], hEy2.trans hE8⟩
              case measure => simp [intOf]; omega
        · have HG := Lib.hid (goneOf_skip hsk1.symm)
          have HBK := Lib.hid (show sparseOf P l items percent (k + 1) = (best, most) by rw [hbs, HG.out]; rw [if_neg]; simp; omega)
          clear hbs hsk1
          go_wp2_with fail
          go_roundw
          case rel => exact ⟨k + 1, by omega, by go_num, by rw [HBK.out], by rw [HBK.out], hEy⟩
          case measure => simp [intOf]; omega
    · obtain rfl : k = l.length := by omega
      go_wp2_with fail
      go_ret
      exact ⟨rfl, hE.trans hEk⟩
end Go.Proofs.Ytfjhdflpanaapaa
