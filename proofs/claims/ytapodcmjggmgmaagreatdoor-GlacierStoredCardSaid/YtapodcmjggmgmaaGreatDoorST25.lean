/-
  Part 25 of what the law leans on.
-/
import Derived.Test.YtapodcmjggmgmaaGreatDoorST24
set_option linter.unusedVariables false
set_option linter.unusedSimpArgs false
set_option linter.unusedSectionVars false
namespace Go.Proofs.YtapodcmjggmgmaaGreatDoor.Four
open Go.Proofs.YtapodcmjggmgmaaGreatDoor Go.RowKit Go.Sort
def fitAll (U : Nat → Int) : List Spot := (List.range 4).map fun i => ⟨true, 20000 - U i⟩
theorem fitAll_flat (U : Nat → Int) : ((fitAll U).map Spot.cells).flatten = [.bool true, .int .i64 (20000 - U 0), .bool true, .int .i64 (20000 - U 1), .bool true, .int .i64 (20000 - U 2), .bool true, .int .i64 (20000 - U 3)] := rfl
theorem fitAll_at (U : Nat → Int) (i : Nat) (hi : i < 4) : spotAt (fitAll U) i = ⟨true, 20000 - U i⟩ := by
  rcases (show i = 0 ∨ i = 1 ∨ i = 2 ∨ i = 3 by omega) with rfl | rfl | rfl | rfl <;> rfl
theorem mayF (U : Nat → Int) (size : Int) (hU : ∀ i, i < 4 → size ≤ 20000 - U i) (dn : List Nat) (i : Nat) (hi : i < 4) : mayB (fitAll U) size (dn.map Int.ofNat) i = decide (i ∉ dn) := by
  unfold mayB Spot.fits
  rw [fitAll_at _ _ hi]
  have h2 := hU i hi
  have hc : (dn.map Int.ofNat).contains (Int.ofNat i) = decide (i ∈ dn) := by
    rw [List.contains_eq_mem]
    exact decide_eq_decide.2 ofnat_mem
  rw [show ((i : Nat) : Int) = Int.ofNat i from rfl, hc, decide_eq_true h2]
  simp
theorem chosen4 (U : Nat → Int) (dn : List Nat) (r : List Int) (size : Int) (hU : ∀ i, i < 4 → size ≤ 20000 - U i) (hdn : ∀ i ∈ dn, i < 4) (hnd : dn.Nodup) (hlen : dn.length ≤ 2) (h : Chosen (fitAll U) size 2 (dn.map Int.ofNat) r) :
    ∃ rn : List Nat, r = rn.map Int.ofNat ∧ rn.Nodup ∧ (∀ i ∈ rn, i < 4) ∧ (∀ i ∈ dn, i ∈ rn) ∧ rn.length = 2 ∧ (dn.length = 2 → ∀ i ∈ rn, i ∈ dn) := by
  obtain ⟨ys, h1, h2, h3, h4⟩ := h
  rw [List.length_map] at h3
  have hyd : ys.Nodup := h1.nodup_iff.2 (others_nodup _ _ _ _)
  have hym : ∀ i ∈ ys, i < 4 ∧ i ∉ dn := fun i hi => by
    obtain ⟨a, b⟩ := others_lt (h1.mem_iff.1 hi)
    have a : i < 4 := a
    rw [mayF U size hU dn i a] at b
    exact ⟨a, by simpa using b⟩
  have hyl : 4 ≤ ys.length + dn.length := by
    rw [h1.length_eq]
    show 4 ≤ ((List.range 4).filter (mayB (fitAll U) size (dn.map Int.ofNat))).length + _
    rw [List.filter_congr (fun i hi => mayF U size hU dn i (List.mem_range.1 hi))]
    clear h1 h2 h3 h4 hyd hym hU
    match dn, hdn, hnd, hlen with
    | [], _, _, _ => decide
    | [a], h, _, _ =>
      have := h a (by simp)
      rcases (show a = 0 ∨ a = 1 ∨ a = 2 ∨ a = 3 by omega) with rfl | rfl | rfl | rfl <;> decide
    | [a, b], h, hn, _ =>
      have h1 := h a (by simp)
      have h2 := h b (by simp)
      rcases (show a = 0 ∨ a = 1 ∨ a = 2 ∨ a = 3 by omega) with rfl | rfl | rfl | rfl <;> rcases (show b = 0 ∨ b = 1 ∨ b = 2 ∨ b = 3 by omega) with rfl | rfl | rfl | rfl <;> first | decide | (simp at hn)
    | _ :: _ :: _ :: _, _, _, hl => simp at hl
  obtain ⟨X, hX⟩ : ∃ X : List Nat, (if dn.length < 2 then ys.take (2 - dn.length) else []) = X := ⟨_, rfl⟩
  have hXs : X.Sublist ys := by rw [← hX]; split; exact List.take_sublist _ _; exact List.nil_sublist _
  have hXl : dn.length + X.length = 2 := by rw [← hX]; split <;> simp <;> omega
  have hp : r.Perm ((dn ++ X).map Int.ofNat) := by
    rw [List.map_append, ← hX]
    refine h3.trans (List.Perm.of_eq ?_)
    congr 1
    by_cases hl : dn.length < 2
    · rw [if_pos (by omega), if_pos hl]
      congr 2; omega
    · rw [if_neg (by omega), if_neg hl]; rfl
  have hq : (r.map Int.toNat).Perm (dn ++ X) := by
    have := hp.map Int.toNat
    rw [List.map_map, show (Int.toNat ∘ Int.ofNat : Nat → Nat) = id from rfl, List.map_id] at this
    exact this
  have hr : r = (r.map Int.toNat).map Int.ofNat := by
    rw [List.map_map]
    symm
    rw [List.map_congr_left (g := id) (fun x hx => ?_), List.map_id]
    obtain ⟨i, _, rfl⟩ := List.mem_map.1 (hp.mem_iff.1 hx)
    rfl
  have hnx : (dn ++ X).Nodup := List.nodup_append.2 ⟨hnd, hyd.sublist hXs, fun a ha b hb e => (hym b (hXs.subset hb)).2 (e ▸ ha)⟩
  have hl := hq.length_eq
  rw [List.length_append] at hl
  refine ⟨r.map Int.toNat, hr, hq.nodup_iff.2 hnx, fun i hi => ?_, fun i hi => hq.mem_iff.2 (List.mem_append_left _ hi), by omega, fun e i hi => ?_⟩
  · rcases List.mem_append.1 (hq.mem_iff.1 hi) with h | h
    · exact hdn i h
    · exact (hym i (hXs.subset h)).1
  · have : X = [] := List.eq_nil_of_length_eq_zero (by omega)
    subst this
    simpa using hq.mem_iff.1 hi
structure Apart (A : FixA) (K : Nat → Ks) : Prop where
  nn : ∀ i j k, i < 4 → j < 4 → i ≠ j → (K i).has k → ¬ (K j).has k
  fx : ∀ i k, i < 4 → (K i).has k → ¬ A.blk k
  st : ∀ i, i < 4 → ¬ (K i).has 0
theorem FixAt.lt {w : World} {A : FixA} {n : Nat → Nat} (h : FixAt w A n) : ∀ k, A.blk k → k < w.heap.size := by
  rintro k (rfl | rfl | rfl | rfl | rfl | rfl | rfl | rfl)
  · exact cell_lt h.b5
  · exact cell_lt (h.nd 0 (by decide))
  · exact cell_lt h.l0
  · exact cell_lt h.va
  · exact cell_lt h.d0
  · exact cell_lt h.a0
  · exact cell_lt h.e0
  · exact cell_lt h.i0
structure SiteIn (w : World) (A : FixA) (K : Nat → Ks) (M : Nat → List (List Rec)) : Prop where
  fix : FixAt w A (fun i => (K i).n)
  nd : ∀ i, i < 4 → NdO w (K i) (M i)
  ap : Apart A K
  tab : Tab w
theorem SiteIn.ext {w w' : World} {A : FixA} {K : Nat → Ks} {M : Nat → List (List Rec)} (h : SiteIn w A K M) (hE : Ext w w') : SiteIn w' A K M := ⟨h.fix.ext hE, fun i hi => (h.nd i hi).ext hE, h.ap, h.tab.ext hE⟩
def withX (M : Nat → List (List Rec)) (x : Rec) (hv : List Nat) (i : Nat) : List (List Rec) := if i ∈ hv then layAdd (M i) x else M i
structure StS (w0 w : World) (A : FixA) (K : Nat → Ks) (M : Nat → List (List Rec)) (x : Rec) (rb : Nat) (hv : List Nat) : Prop where
  nd : ∀ i, i < 4 → NdO w (K i) (withX M x hv i)
  fix : FixAt w A (fun i => (K i).n)
  tab : Tab w
  ref : At w rb 4 #[.bool false, .bool false, .bool false, .bool false]
  lt : ∀ i ∈ hv, i < 4
  nod : hv.Nodup
  chg : Chg (fun k => ∃ i, i < 4 ∧ (K i).has k) w0 w
  kl : ∀ i k, i < 4 → (K i).has k → k < w0.heap.size
  hrb : w0.heap.size ≤ rb
  al : ∀ k, A.blk k → k < w0.heap.size
  tl : 0 < w0.heap.size
section
variable {w0 w w' : World} {A : FixA} {K : Nat → Ks} {M : Nat → List (List Rec)} {x : Rec} {rb : Nat} {hv : List Nat}
theorem StS.site (h : StS w0 w A K M x rb hv) : SiteAt w A K (withX M x hv) 0 (fun i => (tot (withX M x hv i) : Int)) := ⟨h.fix, fun i hi => ⟨h.nd i hi, rfl⟩⟩
theorem StS.off (h : StS w0 w A K M x rb hv) {S : Nat → Prop} (hC : Chg S w w') (hS : ∀ k, S k → w0.heap.size ≤ k ∧ k ≠ rb) : StS w0 w' A K M x rb hv := by
  have hK : ∀ j, j < 4 → ∀ k, S k → ¬ (K j).has k := fun j hj k e hk => by have := h.kl j k hj hk; have := (hS k e).1; omega
  exact ⟨fun j hj => (h.nd j hj).chg hC (hK j hj), h.fix.chg hC (fun k hk e => by have := h.al k hk; have := (hS k e).1; omega), h.tab.chg hC (fun e => by have := h.tl; have := (hS _ e).1; omega), h.ref.chg hC (fun e => (hS _ e).2 rfl), h.lt, h.nod, h.chg.trans hC (fun k hk e => by have := (hS k e).1; omega), h.kl, h.hrb, h.al, h.tl⟩
theorem StS.ext (h : StS w0 w A K M x rb hv) (hE : Ext w w') : StS w0 w' A K M x rb hv := h.off hE (fun _ h => h.elim)
theorem StS.put (h : StS w0 w A K M x rb hv) (hap : Apart A K) {i : Nat} (hi : i < 4) (hn : i ∉ hv) (hC : Chg (K i).has w w') (hN : NdO w' (K i) (layAdd (M i) x)) : StS w0 w' A K M x rb (hv ++ [i]) where
  nd j hj := by
    by_cases hji : j = i
    · subst hji
      unfold withX
      rw [if_pos (by simp)]
      exact hN
    · have := (h.nd j hj).chg hC (fun k hk => hap.nn i j k hi hj (fun e => hji e.symm) hk)
      unfold withX at this ⊢
      by_cases hm : j ∈ hv
      · rw [if_pos (List.mem_append_left _ hm)]; rw [if_pos hm] at this; exact this
      · rw [if_neg (by simp [hm, hji])]; rw [if_neg hm] at this; exact this
  fix := h.fix.chg hC (fun k hk hp => hap.fx i k hi hp hk)
  tab := h.tab.chg hC (hap.st i hi)
  ref := h.ref.chg hC (fun hp => by have := h.kl i _ hi hp; have := h.hrb; omega)
  lt j hj := by
    rcases List.mem_append.1 hj with q | q
    · exact h.lt j q
    · simp at q; omega
  nod := List.nodup_append.2 ⟨h.nod, by simp, fun a ha b hb e => by simp at hb; subst hb; exact hn (e ▸ ha)⟩
  chg := h.chg.trans hC (fun k _ hk => ⟨i, hi, hk⟩)
  kl := h.kl
  hrb := h.hrb
  al := h.al
  tl := h.tl
end
end Go.Proofs.YtapodcmjggmgmaaGreatDoor.Four
namespace Go.Proofs.YtapodcmjggmgmaaGreatDoor.Four
open Go.Proofs.YtapodcmjggmgmaaGreatDoor Go.RowKit Go.Sort
set_option maxRecDepth 100000 in
set_option maxHeartbeats 4000000 in
theorem store_any (w0 : World) (A : FixA) (K : Nat → Ks) (M : Nat → List (List Rec)) (h0 : SiteIn w0 A K M) (hM : ∀ i, i < 4 → (M i).length ≤ 10 ∧ tot (M i) ≤ 10000) (id : Nat) (hi64 : id < 18446744073709551616) (hid : ∀ i, i < 4 → ∀ y ∈ (M i).flatten, y.1 < id) (data : ByteArray) (hd : data.size ≤ 500) :
    Calls Tryz.prog 8 #[.pointer (some ⟨A.b, 0, none⟩), .int .u64 (id : Int), .string data] w0 fun e w' => ∃ (v : Value) (rn : List Nat), e = .returned (.tuple #[v, .int .i64 0]) ∧ SiteIn w' A K (withX M (id, data) rn) ∧
      Chg (fun k => ∃ i, i < 4 ∧ (K i).has k) w0 w' ∧ rn.length = 2 ∧ rn.Nodup ∧ (∀ i ∈ rn, i < 4) ∧ w'.ownsRow w0.heap.size 3 1 v 2 ((rn.map Int.ofNat).map (Value.int .i64)) := by
  have b9 := h0.fix.b9
  have hmk : ∀ w : World, (Instr.makeSlice 84 (.int .i64 4) (.int .i64 4)).run Tryz.prog w = .ok (.slice (some ⟨w.heap.size, 0, none⟩) 4 4) (w.alloc (.cells #[.bool false, .bool false, .bool false, .bool false] 4)) := fun _ => by kernel_rfl
  go_enter Tryz.func8, Tryz.ntmps8
  go_wp2_with fail
  have hRf := At.new w0 4 #[.bool false, .bool false, .bool false, .bool false]
  have hE0 := (Ext.refl w0).alloc (.cells #[.bool false, .bool false, .bool false, .bool false] 4)
  generalize w0.alloc (.cells #[.bool false, .bool false, .bool false, .bool false] 4) = W at hRf hE0 ⊢
  obtain ⟨rb, hrb⟩ : ∃ rb, w0.heap.size = rb := ⟨_, rfl⟩
  rw [hrb] at hRf ⊢
  have hS0 : StS w0 W A K M (id, data) rb [] := ⟨fun i hi => by unfold withX; rw [if_neg (by simp)]; exact (h0.nd i hi).ext hE0, h0.fix.ext hE0, h0.tab.ext hE0, hRf, by simp, List.nodup_nil, hE0.chg, fun i k hi hk => (h0.nd i hi).lt k hk, by omega, h0.fix.lt, h0.tab.lt⟩
  have hap := h0.ap
  have hRB := Lib.hid hrb
  have hfs : (rbs (id, data)).size ≤ 538 := by have := frec_size 1 id data; show (frec 1 id data).size ≤ 538; omega
  have hadd : ∀ i, i < 4 → (h : GoodL (M i)) → GoodL (layAdd (M i) (id, data)) ∧ (layAdd (M i) (id, data)).length ≤ (M i).length + 1 ∧ tot (layAdd (M i) (id, data)) = tot (M i) + (rbs (id, data)).size := fun i hi h => h.add (by have := (hM i hi).1; omega) (by have := (hM i hi).2; omega) ⟨hd, hi64⟩ (hid i hi)
  have hgood : ∀ i, i < 4 → GoodL (M i) := fun i hi => (h0.nd i hi).2
  have HU : ∀ dn i, i < 4 → (data.size : Int) ≤ 20000 - (tot (withX M (id, data) dn i) : Int) := fun dn i hi => by
    have h1 := (hM i hi).2
    unfold withX
    split
    · rw [(hadd i hi (hgood i hi)).2.2]; omega
    · omega
  have HADD := Lib.hid (And.intro hadd (And.intro hgood HU))
  clear hmk b9 hRf hE0 hrb h0 hadd hgood HU hfs
  go_loopw [8] (fun dv wr => ∃ (dn : List Nat), StS w0 wr A K M (id, data) rb dn ∧ wr.ownsRow w0.heap.size 3 1 dv dn.length ((dn.map Int.ofNat).map (Value.int .i64)) ∧ dn.length ≤ 2) (fun dv _ => 3 - lenV dv)
  case atStart => exact ⟨[], hS0, World.ownsRow_nil _ _ _ _, by simp⟩
  case round =>
    clear hS0
    obtain ⟨dn, hS, hdv, hdl⟩ := hrel
    rename World => w1
    obtain ⟨dA, dc, rfl⟩ := own_slc hdv
    obtain ⟨U, hU⟩ : ∃ U : Nat → Int, (fun i => (tot (withX M (id, data) dn i) : Int)) = U := ⟨_, rfl⟩
    have hsite := hS.site
    rw [hU] at hsite
    have hUf : ∀ i, i < 4 → (data.size : Int) ≤ 20000 - U i := fun i hi => by rw [← hU]; exact HADD.out.2.2 dn i hi
    clear hU
    have hw := world_any w1 A K _ 0 U hsite
    clear hsite
    go_wp2_with fail
    refine hw.mono ?_
    rintro e w2 ⟨v0, v1, v2, v3, v4, rfl, hv0, hE2⟩
    clear hw
    obtain ⟨g, gc, rfl, hgb, _, hgn, hgm, _⟩ := own_some hv0 (by decide)
    unfold wCells
    have hfi : ∀ (y : Value) (w : World), (Instr.field 87 (.agg #[y, v1, v2, v3, v4, .int .i64 2, .int .i64 0, .int .i64 0, .int .i64 0]) 0).run Tryz.prog w = .ok y w := fun _ _ => by kernel_rfl
    go_wp2_with fail
    clear hfi
    have hsp : spotsOf U 4 = fitAll U := rfl
    rw [hsp] at hv0
    go_loopw [36] (fun iv wr => ∃ k : Nat, k ≤ 4 ∧ iv = .int .i64 (k : Int) ∧ wr.ownsRow w1.heap.size 90 2 (.slice (some ⟨g, 0, none⟩) 4 gc) 4 (((fitAll U).map Spot.cells).flatten) ∧ Ext w1 wr) (fun iv _ => 4 - (intOf iv).toNat)
    case atStart => exact ⟨0, by omega, rfl, hv0, hE2⟩
    case round =>
      clear hv0 hE2
      obtain ⟨k, hk, rfl, hv0, hE2⟩ := hrel
      by_cases hlt : k < 4
      · have hrc := (hS.ext hE2).ref.cell k
        have hsc := own_cell hv0 (j := k * 2) (x := .bool true) (by rw [fitAll_flat]; rcases (show k = 0 ∨ k = 1 ∨ k = 2 ∨ k = 3 by omega) with rfl | rfl | rfl | rfl <;> rfl)
        have hfz := (own_fz hv0 (k * 2)).1
        have hset := own_set hv0 (j := k * 2) (by omega) (.bool true)
        have hflat : (((fitAll U).map Spot.cells).flatten).set (k * 2) (.bool true) = ((fitAll U).map Spot.cells).flatten := by
          rw [fitAll_flat]
          rcases (show k = 0 ∨ k = 1 ∨ k = 2 ∨ k = 3 by omega) with rfl | rfl | rfl | rfl <;> rfl
        rw [hflat] at hset
        have hEs := hE2.setCell (p := ⟨g, k * 2, none⟩) hgb (.bool true)
        clear hv0 hflat
        rcases (show k = 0 ∨ k = 1 ∨ k = 2 ∨ k = 3 by omega) with rfl | rfl | rfl | rfl
        · simp at hrc hsc hfz hset hEs
          go_wp2_with fail
          go_roundw
          case rel => exact ⟨1, by omega, rfl, hset, hEs⟩
          case measure => simp [intOf]
        · simp at hrc hsc hfz hset hEs
          go_wp2_with fail
          go_roundw
          case rel => exact ⟨2, by omega, rfl, hset, hEs⟩
          case measure => simp [intOf]
        · simp at hrc hsc hfz hset hEs
          go_wp2_with fail
          go_roundw
          case rel => exact ⟨3, by omega, rfl, hset, hEs⟩
          case measure => simp [intOf]
        · simp at hrc hsc hfz hset hEs
          go_wp2_with fail
          go_roundw
          case rel => exact ⟨4, by omega, rfl, hset, hEs⟩
          case measure => simp [intOf]
      · obtain rfl : k = 4 := by omega
        rename World => w3
        have hS3 := hS.ext hE2
        have b5 := hS3.fix.b5
        have hdv3 := own_chg hdv hE2 (fun _ h => h.elim)
        have cd := disks_any w3 (.slice (some ⟨g, 0, none⟩) 4 gc) (.slice dA dn.length dc) (fitAll U) (dn.map Int.ofNat) (sln_own hv0 rfl) (Sl.of_own hdv3) (by show 4 ≤ 12; decide) (by rw [List.length_map]; omega) (data.size : Int) 2 (by decide) (by decide)
        clear hv0 hE2 hS hdv
        go_wp2_with fail
        refine cd.mono ?_
        rintro e w4 ⟨cv, r, rfl, hch, hcv, hE4⟩
        clear cd
        obtain ⟨rn, rfl, hrnd, hrlt, hdr, h2, hreq⟩ := chosen4 U dn r (data.size : Int) hUf hS3.lt hS3.nod hdl hch
        clear hch hUf
        have hS4 := hS3.ext hE4
        have hdv4 := own_chg hdv3 hE4 (fun _ h => h.elim)
        have hw03 : w0.heap.size ≤ w3.heap.size := hS3.chg.size
        rw [List.length_map] at hcv ⊢
        clear hS3 hdv3 hE4
        have hb : decide ((2 : Int) ≤ (rn.length : Int)) = true := by simp; omega
        rw [hb]
        obtain ⟨cA, cc, rfl⟩ := own_slc hcv
        rw [h2] at hcv ⊢
        clear hb
        replace hcv := own_base hcv hw03
        by_cases hd2 : dn.length = 2
        · have hrd := hreq hd2
          clear hreq
          rw [hd2] at hdv4 ⊢
          go_wp2_with fail
          go_ret2
          have hwx : withX M (id, data) rn = withX M (id, data) dn := by
            funext i
            unfold withX
            by_cases hm : i ∈ rn
            · rw [if_pos hm, if_pos (hrd i hm)]
            · rw [if_neg hm, if_neg (fun q => hm (hdr i q))]
          exact ⟨_, rn, rfl, ⟨hS4.fix, fun i hi => by rw [hwx]; exact hS4.nd i hi, hap, hS4.tab⟩, hS4.chg, h2, hrnd, hrlt, hcv⟩
        · clear hreq
          have hlt2 : dn.length < 2 := by omega
          have hbe : ((2 : Int) == (dn.length : Int)) = false := by simp; omega
          have hdlt : ∀ k, some k = (Value.slice dA dn.length dc).ownBlock → k < w4.heap.size := own_lt hdv4
          have hclt : ∀ k, some k = (Value.slice cA 2 cc).ownBlock → k < w4.heap.size := own_lt hcv
          have hrlt4 : rb < w4.heap.size := hS4.ref.lt
          have hw04 : w0.heap.size ≤ w4.heap.size := hS4.chg.size
          go_wp2_with fail
          go_loopw [16, 95] (fun tv iv wr => ∃ (k : Nat) (tk : List Nat), k ≤ 2 ∧ iv = .int .i64 (k : Int) ∧ StS w0 wr A K M (id, data) rb (dn ++ tk) ∧
            wr.ownsRow w4.heap.size 3 1 tv tk.length ((tk.map Int.ofNat).map (Value.int .i64)) ∧ wr.ownsRow w0.heap.size 3 1 (.slice dA dn.length dc) dn.length ((dn.map Int.ofNat).map (Value.int .i64)) ∧ wr.ownsRow w0.heap.size 3 1 (.slice cA 2 cc) 2 ((rn.map Int.ofNat).map (Value.int .i64)) ∧ w4.heap.size ≤ wr.heap.size ∧ tk.length ≤ k ∧
            (∀ i ∈ tk, i ∈ rn.take k) ∧ (∀ i ∈ rn.take k, i ∈ dn ∨ i ∈ tk)) (fun _ iv _ => 2 - (intOf iv).toNat)
          case atStart => exact ⟨0, [], by omega, rfl, by rw [List.append_nil]; exact hS4, World.ownsRow_nil _ _ _ _, hdv4, hcv, Nat.le_refl _, Nat.le_refl _, by simp, by simp⟩
          case round =>
            clear hS4 hdv4 hcv
            obtain ⟨k, tk, hk, rfl, hS5, htv, hdv5, hcv5, hsz, htl, hq1, hq2⟩ := hrel
            by_cases hkl : k < 2
            · obtain ⟨i, hi⟩ : ∃ i, rn[k]? = some i := ⟨_, List.getElem?_eq_getElem (by omega)⟩
              obtain ⟨him, htk, hdrop, hit, hir⟩ := split_at hi hrnd
              have hi3 := hrlt i him
              obtain ⟨b', o', rfl, hcell⟩ := (Sl.of_own hcv5).pick (k := k) (x := .int .i64 (i : Int)) (by simp [hi])
              have cm := mhas_any wr (.slice dA dn.length dc) (dn.map Int.ofNat) (Sl.of_own hdv5) (i : Int) (by rw [List.length_map]; omega)
              have hm : ((i : Int) ∈ dn.map Int.ofNat) ↔ i ∈ dn := ofnat_mem
              have hge := Lib.hid (own_ge htv)
              by_cases hmd : i ∈ dn
              · rw [decide_eq_true (hm.2 hmd)] at cm
                clear hm
                go_wp2_with fail
                refine cm.mono ?_
                rintro e w5 ⟨rfl, hE5⟩
                clear cm hcell
                go_wp2_with fail
                go_roundw
                case rel =>
                  refine ⟨k + 1, tk, by omega, by go_num, hS5.ext hE5, own_chg htv hE5 (fun _ h => h.elim), own_chg hdv5 hE5 (fun _ h => h.elim), own_chg hcv5 hE5 (fun _ h => h.elim), by have := hE5.size; omega, by omega, ?_, ?_⟩
                  · intro j hj; rw [htk]; exact List.mem_append_left _ (hq1 j hj)
                  · intro j hj
                    rw [htk] at hj
                    rcases List.mem_append.1 hj with q | q
                    · exact hq2 j q
                    · simp at q; subst q; exact .inl hmd
                case measure => simp [intOf]; omega
              · rw [decide_eq_false (fun q => hmd (hm.1 q))] at cm
                clear hm
                have hnk : i ∉ dn ++ tk := fun q => by
                  rcases List.mem_append.1 q with q | q
                  · exact hmd q
                  · exact hit (hq1 i q)
                have hN := hS5.nd i hi3
                unfold withX at hN
                rw [if_neg hnk] at hN
                have HQ := Lib.hid (And.intro hq1 (And.intro hq2 htk))
                clear hq1 hq2 htk hdrop hi him hit hir
                go_wp2_with fail
                refine cm.mono ?_
                rintro e w5 ⟨rfl, hE5⟩
                clear cm hcell
                replace hS5 := hS5.ext hE5
                replace htv := own_chg htv hE5 (fun _ h => h.elim)
                replace hdv5 := own_chg hdv5 hE5 (fun _ h => h.elim)
                replace hcv5 := own_chg hcv5 hE5 (fun _ h => h.elim)
                replace hsz : w4.heap.size ≤ w5.heap.size := by have := hE5.size; omega
                have b9 := hS5.fix.b9
                have bnd := hS5.fix.nd i hi3
                have hMi := hM i hi3
                have hfs : (rbs (id, data)).size ≤ 538 := by have := frec_size 1 id data; show (frec 1 id data).size ≤ 538; omega
                have cp := nputT_any w5 (K i) (M i) (hN.ext hE5) id hi64 data hd (by omega) (by omega) (hid i hi3) hS5.tab (hap.st i hi3)
                clear hE5 hMi hfs
                go_wp2_with fail
                refine cp.mono ?_
                rintro e w6 ⟨rfl, hC6, hN6⟩
                clear cp b9 bnd
                have hKe : ∀ k, (K i).has k → k < w0.heap.size := fun k hk => hS5.kl i k hi3 hk
                have hsz6 := hC6.size
                replace htv := own_off htv hC6 (fun k hk hp => by have := hge.out k hk; have := hKe k hp; omega)
                replace hdv5 := own_off hdv5 hC6 (fun k hk hp => by have := own_ge hdv5 k hk; have := hKe k hp; omega)
                replace hcv5 := own_off hcv5 hC6 (fun k hk hp => by have := own_ge hcv5 k hk; have := hKe k hp; omega)
                have hS6 := hS5.put hap hi3 hnk hC6 hN6
                rw [List.append_assoc] at hS6
                clear hS5 hC6 hN6 hN hKe
                obtain ⟨i0, hi0, hz0, hz1, hz2⟩ := info_parts int_info
                go_wp2_with (at_builtin; refine wpList_append_own _ rfl _ _ 30 rfl w4.heap.size 3 i0 (.int .i64 0) 1 8 Tryz.underlying30 hi0 hz0 hz1 hz2 rfl (by decide) _ _ _ rfl (htv.alloc _) ⟨w6.heap.size, 0, none⟩ 1 1 [.int .i64 (i : Int)] rfl rfl ?c1 ?c2 ?c3 ?c4 ?c5 ?_)
                case c1 => exact cell_one
                case c2 => simp [Value.oneCell']
                case c3 => unfold maxLen; omega
                case c4 => omega
                case c5 => simp; omega
                intro v1 w7 htv7 hg7 _
                have hEa : Ext w6 (w6.alloc (.cells #[.int .i64 (i : Int)] 3)) := (Ext.refl w6).alloc _
                have hC7 := Chg.of_grown hg7
                have hge7 : ∀ k, some k = u16.ownBlock → w4.heap.size ≤ k := own_ge htv
                have hS7 := (hS6.ext hEa).off hC7 (fun k hk => ⟨by have := hge7 k hk; omega, by have := hge7 k hk; omega⟩)
                have hdv7 := own_off (own_chg hdv5 hEa (fun _ h => h.elim)) hC7 (fun k hk hp => by have := hge7 k hp; have := hdlt k hk; omega)
                have hcv7 := own_off (own_chg hcv5 hEa (fun _ h => h.elim)) hC7 (fun k hk hp => by have := hge7 k hp; have := hclt k hk; omega)
                have hs7 : w4.heap.size ≤ w7.heap.size := by have := hEa.size; have := hC7.size; omega
                clear hg7 hEa hC7 hge7 hS6 hdv5 hcv5 htv
                go_wp2
                go_roundw
                case rel =>
                  obtain ⟨hq1, hq2, htk⟩ := HQ.out
                  refine ⟨k + 1, tk ++ [i], by omega, by go_num, hS7, by simpa using htv7, hdv7, hcv7, hs7, by simp; omega, ?_, ?_⟩
                  · intro j hj
                    rw [htk]
                    rcases List.mem_append.1 hj with q | q
                    · exact List.mem_append_left _ (hq1 j q)
                    · exact List.mem_append_right _ q
                  · intro j hj
                    rw [htk] at hj
                    rcases List.mem_append.1 hj with q | q
                    · rcases hq2 j q with h | h
                      · exact .inl h
                      · exact .inr (List.mem_append_left _ h)
                    · exact .inr (List.mem_append_right _ q)
                case measure => simp [intOf]; omega
            · obtain rfl : k = 2 := by omega
              rename World => w7
              have hrt : rn.take 2 = rn := List.take_of_length_le (by omega)
              rw [hrt] at hq1 hq2
              have hdr5 : ∀ x ∈ dn ++ tk, x ∈ rn := fun x hx => by
                rcases List.mem_append.1 hx with q | q
                · exact hdr x q
                · exact hq1 x q
              have hdt := nodup_len hS5.nod hdr5
              rw [List.length_append, h2] at hdt
              go_wp2_with (at_builtin; refine wpList_append_sln hdv5 (Sl.of_own htv).sln (one_lenI _) (ints_oneI _) 30 Tryz.underlying30 int_info rfl (by decide) (by decide) (by simp; omega) (by omega) rfl _ _ rfl rfl rfl ?_)
              intro v1 w8 hdv8 hC8
              have hge8 := own_ge hdv5
              have hS8 := hS5.off hC8 (fun k hk => ⟨hge8 k hk, by have := own_noat hdv5 ⟨_, hS5.ref⟩ (by decide) k hk; exact this⟩)
              have hfl : ∀ q : List Nat, (q.map ((fun x => [x]) ∘ Value.int .i64 ∘ Int.ofNat)).flatten = (q.map Int.ofNat).map (Value.int .i64) := fun q => by
                induction q with
                | nil => rfl
                | cons a q ih => rw [List.map_cons, List.flatten_cons, ih]; rfl
              rw [hfl] at hdv8
              have hdv9 : w8.ownsRow w0.heap.size 3 1 v1 (dn ++ tk).length (((dn ++ tk).map Int.ofNat).map (Value.int .i64)) := by simpa using hdv8
              have hlV : lenV v1 = dn.length + tk.length := by obtain ⟨_, _, rfl⟩ := own_slc hdv9; simp [lenV]
              have hnew : ∃ i ∈ rn, i ∉ dn := by
                refine Classical.byContradiction fun hx => ?_
                have := nodup_len hrnd (m := dn) (fun y hy => Classical.byContradiction fun hy2 => hx ⟨y, hy, hy2⟩)
                omega
              clear hfl hdv8 hC8 hge8 hS5 hdv5 hcv5 htv hdr5 hbe
              go_wp2
              go_roundw
              case rel => exact ⟨dn ++ tk, hS8, hdv9, by rw [List.length_append]; exact hdt⟩
              case measure =>
                rw [hlV]
                simp only [lenV]
                obtain ⟨i, hi, hin⟩ := hnew
                rcases hq2 i hi with q | q
                · exact absurd q hin
                · have h3 := List.length_pos_of_mem q
                  omega
end Go.Proofs.YtapodcmjggmgmaaGreatDoor.Four
