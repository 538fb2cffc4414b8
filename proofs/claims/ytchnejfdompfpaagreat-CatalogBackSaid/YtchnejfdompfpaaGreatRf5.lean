/-
  The document's catalog: Names.
-/
import Derived.Test.YtchnejfdompfpaaGreatRf4
namespace Go.Proofs.YtchnejfdompfpaaGreat
open Go.RowKit Go.Sort

theorem str_infoR : (Tryz.prog.info? 9).map (fun i => (i.zero, i.size, i.bytes)) = some (some (.string ByteArray.empty), 1, 16) := by kernel_rfl
theorem own_lowR {w : World} {b b' : Nat} {e : TypeId} {size : Nat} {v : Value} {n : Nat} {xs : List Value} (h : w.ownsRow b e size v n xs) (hb : b' ≤ b) : w.ownsRow b' e size v n xs := by
  obtain ⟨h1, h2⟩ := h
  refine ⟨h1, ?_⟩
  rcases h2 with h2 | ⟨g, cap, cur, h3, h4, h5⟩
  · exact .inl h2
  · exact .inr ⟨g, cap, cur, h3, Nat.le_trans hb h4, h5⟩
theorem less_eqR (a b : ByteArray) : Op.bytesLess a.toList b.toList = blt a b := by
  have key : ∀ (x y : List UInt8), Op.bytesLess x y = decide (x < y) := by
    intro x
    induction x with
    | nil => intro y; cases y <;> simp [Op.bytesLess]
    | cons a x ih =>
      intro y
      cases y with
      | nil => simp [Op.bytesLess]
      | cons b y =>
        have := ih y
        simp [Op.bytesLess, List.cons_lt_cons_iff, this]
        by_cases e : a = b <;> simp [e]
  rw [key, Lib.toList_data, Lib.toList_data]; rfl
/-- a name is put in its place -/
def nst (m : ByteArray) (s : List ByteArray × Bool) (n : ByteArray) : List ByteArray × Bool := if (!s.2 && blt m n) = true then (s.1 ++ [m, n], true) else (s.1 ++ [n], s.2)
def nfin (m : ByteArray) (s : List ByteArray × Bool) : List ByteArray := if s.2 = true then s.1 else s.1 ++ [m]
def nins (O : List ByteArray) (m : ByteArray) : List ByteArray := nfin m (O.foldl (nst m) ([], false))
def leS (a b : ByteArray) : Prop := leN a b = true
theorem leS_tr {a b c : ByteArray} (h : leS a b) (h' : leS b c) : leS a c := by
  unfold leS at *; simp only [leN, decide_eq_true_eq] at *; exact List.le_trans h h'
theorem leS_of_blt {a b : ByteArray} (h : blt a b = true) : leS a b := by
  unfold leS blt at *; simp only [leN, decide_eq_true_eq] at *; exact Std.le_of_lt h
theorem leS_of_not {a b : ByteArray} (h : blt a b = false) : leS b a := by
  unfold leS blt at *; simp only [leN, decide_eq_true_eq, decide_eq_false_iff_not] at *; exact Std.not_lt.1 h
theorem nst_on (m : ByteArray) : ∀ (l O : List ByteArray), l.foldl (nst m) (O, true) = (O ++ l, true)
  | [], O => by simp
  | n :: r, O => by
    have e : nst m (O, true) n = (O ++ [n], true) := rfl
    rw [List.foldl_cons, e, nst_on m r]; simp
theorem nins_perm (m : ByteArray) : ∀ (l O : List ByteArray), (nfin m (l.foldl (nst m) (O, false))).Perm (O ++ m :: l)
  | [], O => by simp [nfin]
  | n :: r, O => by
    rw [List.foldl_cons]
    cases hb : blt m n
    · have e : nst m (O, false) n = (O ++ [n], false) := by unfold nst; rw [hb]; rfl
      rw [e]
      refine (nins_perm m r _).trans ?_
      rw [List.append_assoc]
      exact (List.Perm.swap m n r).append_left O
    · have e : nst m (O, false) n = (O ++ [m, n], true) := by unfold nst; rw [hb]; rfl
      rw [e, nst_on]
      simp [nfin]
theorem nins_sorted (m : ByteArray) : ∀ (l O : List ByteArray), (O ++ l).Pairwise leS → (∀ x ∈ O, leS x m) → (nfin m (l.foldl (nst m) (O, false))).Pairwise leS
  | [], O, h, h2 => by
    rw [List.append_nil] at h
    show (O ++ [m]).Pairwise leS
    rw [List.pairwise_append]
    exact ⟨h, List.pairwise_singleton _ _, fun x hx y hy => by rw [List.mem_singleton.1 hy]; exact h2 x hx⟩
  | n :: r, O, h, h2 => by
    rw [List.foldl_cons]
    cases hb : blt m n
    · have e : nst m (O, false) n = (O ++ [n], false) := by unfold nst; rw [hb]; rfl
      rw [e]
      refine nins_sorted m r (O ++ [n]) (by simpa using h) fun x hx => ?_
      rcases List.mem_append.1 hx with hx | hx
      · exact h2 x hx
      · rw [List.mem_singleton.1 hx]; exact leS_of_not hb
    · have e : nst m (O, false) n = (O ++ [m, n], true) := by unfold nst; rw [hb]; rfl
      rw [e, nst_on]
      show ((O ++ [m, n]) ++ r).Pairwise leS
      have e2 : (O ++ [m, n]) ++ r = O ++ (m :: n :: r) := by simp
      rw [e2]
      obtain ⟨p1, p2, p3⟩ := List.pairwise_append.1 h
      rw [List.pairwise_append]
      refine ⟨p1, List.pairwise_cons.2 ⟨fun y hy => ?_, p2⟩, fun x hx y hy => ?_⟩
      · rcases List.mem_cons.1 hy with rfl | hy
        · exact leS_of_blt hb
        · exact leS_tr (leS_of_blt hb) ((List.pairwise_cons.1 p2).1 y hy)
      · rcases List.mem_cons.1 hy with rfl | hy
        · exact h2 x hx
        · exact p3 x hx y hy
theorem ninsAll (l : List ByteArray) : (l.foldl nins []).Perm l ∧ (l.foldl nins []).Pairwise leS := by
  have key : ∀ (l O : List ByteArray), O.Pairwise leS → (l.foldl nins O).Perm (O ++ l) ∧ (l.foldl nins O).Pairwise leS := by
    intro l
    induction l with
    | nil => intro O h; simpa using h
    | cons m r ih =>
      intro O h
      rw [List.foldl_cons]
      have h1 : (nins O m).Perm (m :: O) := nins_perm m O []
      have h2 : (nins O m).Pairwise leS := nins_sorted m O [] (by simpa using h) fun x hx => by cases hx
      obtain ⟨g1, g2⟩ := ih _ h2
      refine ⟨g1.trans ((h1.append_right r).trans ?_), g2⟩
      simpa using (List.perm_middle (a := m) (l₁ := O) (l₂ := r)).symm
  simpa using key l [] List.Pairwise.nil
theorem names_ins (L : List Bl) : (((L.filter fun b => !b.dead).map Bl.name).foldl nins []) = namesL L := by
  obtain ⟨h1, h2⟩ := ninsAll ((L.filter fun b => !b.dead).map Bl.name)
  have tr : ∀ a b c : ByteArray, leN a b = true → leN b c = true → leN a c = true := fun a b c h h' => leS_tr h h'
  have tot : ∀ a b : ByteArray, (leN a b || leN b a) = true := fun a b => by simp only [leN, Bool.or_eq_true, decide_eq_true_eq]; exact List.le_total _ _
  refine List.Perm.eq_of_pairwise (le := fun a b => leN a b = true) (fun a b _ _ g1 g2 => ?_) h2 (List.pairwise_mergeSort tr tot _) (h1.trans (List.mergeSort_perm _ leN).symm)
  simp only [leN, decide_eq_true_eq] at g1 g2
  exact ByteArray.ext (by have := List.le_antisymm g1 g2; exact Array.toList_inj.1 this)
theorem nst_len (m : ByteArray) (s : List ByteArray × Bool) (n : ByteArray) : (nst m s n).1.length ≤ s.1.length + 2 := by
  unfold nst; split <;> simp
theorem nins_len (O : List ByteArray) (m : ByteArray) : (nins O m).length = O.length + 1 := by
  exact (nins_perm m O []).length_eq
/-- the names of the first blobs, put in their places -/
def nmsK (L : List Bl) (k : Nat) : List ByteArray := (((L.take k).filter fun b => !b.dead).map Bl.name).foldl nins []
theorem nmsK_step {L : List Bl} {k : Nat} {b : Bl} (h : L[k]? = some b) : nmsK L (k + 1) = if b.dead = true then nmsK L k else nins (nmsK L k) b.name := by
  unfold nmsK
  rw [List.take_add_one, h, Option.toList_some, List.filter_append, List.map_append, List.foldl_append]
  cases hd : b.dead <;> simp [hd]
theorem nmsK_len (L : List Bl) (k : Nat) : (nmsK L k).length ≤ k := by
  unfold nmsK
  have h := (ninsAll (((L.take k).filter fun b => !b.dead).map Bl.name)).1.length_eq
  rw [h, List.length_map]
  exact Nat.le_trans (List.length_filter_le _ _) (List.length_take_le _ _)
set_option maxRecDepth 100000 in
set_option maxHeartbeats 8000000 in
theorem rnames_any (w : World) (v : Value) (P : Pm) (h : RfIn w v P) (hl : P.L.length ≤ 1000000) :
    Calls Tryz.prog 84 #[v] w fun e w' => ∃ nv, e = .returned nv ∧ w'.ownsRow w.heap.size 9 1 nv (namesL P.L).length ((namesL P.L).map Value.string) ∧ Ext w w' := by
  obtain ⟨lv, DV, rfl, hDV, hR⟩ := h
  have hlen : DV.length = P.L.length := by rw [← hDV, List.length_map]
  obtain ⟨A, c, rfl⟩ := own_slc hR.own
  have HX : Hid (rfArr (.slice A DV.length c) P.vols = (.slice A DV.length c :: (P.vols.map vlRow).flatten).toArray) := Lib.hid rfl
  generalize hX : rfArr (.slice A DV.length c) P.vols = X at HX ⊢
  clear hX
  have hX0 : X[0]? = some (.slice A DV.length c) := by rw [HX.out]; rfl
  have hl2 : DV.length ≤ 1000000 := by omega
  have HDV := Lib.hid hDV
  have HR := Lib.hid hR
  clear hDV hlen hR hl
  go_enter Tryz.func84, Tryz.ntmps84
  have hB := At.new w 31 X
  have hE := (Ext.refl w).alloc (.cells X 31)
  go_upto_region 1 with fail
  obtain ⟨b0, hb0⟩ : ∃ b0, w.heap.size = b0 := ⟨_, rfl⟩
  rw [hb0] at hB ⊢
  have hlt0 := hB.lt
  generalize w.alloc (.cells X 31) = W at hB hE hlt0 ⊢
  have hOb := own_empty (w := W) (base := b0) (e := 9) (size := 1) (by omega)
  have hE1 := hE.alloc (.cells #[] 9)
  have hB1 := hB.alloc (.cells #[] 9)
  go_upto_region 2 with fail
  generalize W.heap.size = ob at hOb ⊢
  generalize World.alloc _ _ = W1 at hOb hE1 hB1 ⊢
  have HB0 := Lib.hid hb0
  clear hE hB hlt0 hb0
  have c0 := hB1.cell 0
  rw [hX0] at c0
  clear hB1
  go_wp2_with fail
  clear c0 hX0
  go_loopw [3, 14] (fun ov kv wr => ∃ k : Nat, kv = .int .i64 (k : Int) ∧ k ≤ DV.length ∧ wr.ownsRow b0 9 1 ov (nmsK P.L k).length ((nmsK P.L k).map Value.string) ∧ Ext w wr) (fun _ kv _ => DV.length - (intOf kv).toNat)
  case atStart => exact ⟨0, rfl, Nat.zero_le _, hOb, hE1⟩
  case round =>
    clear hOb hE1
    obtain ⟨k, rfl, hk, hO, hEr⟩ := hrel
    obtain ⟨oA, oc, rfl⟩ := own_slc hO
    have hkl := nmsK_len P.L k
    by_cases hlt : k < DV.length
    · obtain ⟨⟨b, dv⟩, hb⟩ : ∃ q, DV[k]? = some q := ⟨_, List.getElem?_eq_getElem hlt⟩
      have hbL : P.L[k]? = some b := by rw [← HDV.out, List.getElem?_map, hb]; rfl
      obtain ⟨dA, dc, rfl⟩ : ∃ A c, dv = .slice A b.disks.length c := own_slc (HR.out.dks _ (List.mem_of_getElem? hb))
      have hS := HR.out.sln.ext hEr
      obtain ⟨rb, ro, rfl⟩ := cmds_some hS (fun e => by
        have h0 := List.map_eq_nil_iff.1 e
        rw [h0] at hb; simp at hb)
      obtain ⟨r0, r1, r2, r3, r4, r5, r6, r7, r8, r9, r10, r11, r12⟩ := bl_cells hS hb
      have hYb := At.new wr 80 (blCells b (.slice dA b.disks.length dc))
      have hEb := (Ext.refl wr).alloc (.cells (blCells b (.slice dA b.disks.length dc)) 80)
      have HST := Lib.hid (nmsK_step hbL)
      generalize nmsK P.L k = O at hO hkl HST ⊢
      clear hb hbL hS
      go_upto_region 5 with fail
      clear r0 r1 r2 r3 r4 r5 r6 r7 r8 r9 r10 r11 r12
      have hOy := own_keep hO hEb (fun _ _ hh => hh)
      have hEy := hEr.trans hEb
      clear hO hEr hEb
      generalize wr.heap.size = yb at hYb ⊢
      generalize wr.alloc (.cells (blCells b (.slice dA b.disks.length dc)) 80) = W2 at *
      have d12 := hYb.cell 12
      simp at d12
      rcases Bool.eq_false_or_eq_true b.dead with hd | hd
      · rw [hd] at d12
        have h1 := HST.out
        rw [if_pos hd] at h1
        have H1 := Lib.hid h1
        clear h1 hd hYb HST
        go_wp2_with fail
        go_roundw
        case rel => exact ⟨k + 1, by go_num, by omega, by rw [H1.out]; exact hOy, hEy⟩
        case measure => simp [intOf]; omega
      · rw [hd] at d12
        have h1 := HST.out
        rw [if_neg (by rw [hd]; simp)] at h1
        have H1 := Lib.hid h1
        clear h1 hd HST
        go_upto_region 6 with fail
        have hNb := own_empty (w := W2) (base := W2.heap.size) (e := 9) (size := 1) (Nat.le_refl _)
        have hEn := (Ext.refl W2).alloc (.cells #[] 9)
        go_upto_region 7 with fail
        have hb02 : b0 ≤ W2.heap.size := by have := hEy.size; have := HB0.out; omega
        generalize hnb : W2.heap.size = nb at hNb hb02 ⊢
        generalize World.alloc _ _ = W3 at hNb hEn ⊢
        go_wp2_with fail
        go_loopw [6, 7, 23] (fun nv bv jv wx => ∃ (j : Nat) (N : List ByteArray) (d : Bool), jv = .int .i64 (j : Int) ∧ bv = .bool d ∧ j ≤ O.length ∧ N.length ≤ 2 * j ∧ Hid ((O.take j).foldl (nst b.name) ([], false) = (N, d)) ∧ wx.ownsRow nb 9 1 nv N.length (N.map Value.string) ∧ Ext W2 wx) (fun _ _ jv _ => O.length - (intOf jv).toNat)
        case atStart => exact ⟨0, [], false, rfl, rfl, Nat.zero_le _, Nat.le_refl _, Lib.hid rfl, hNb, hEn⟩
        case round =>
          clear hNb hEn
          obtain ⟨j, N, d, rfl, rfl, hj, hNl, HF, hN, hEx⟩ := hrel
          obtain ⟨nA, nc, rfl⟩ := own_slc hN
          have d1 := (hYb.ext hEx).cell 1
          simp at d1
          have hnx : nb ≤ wr.heap.size := by have := hEx.size; omega
          by_cases hjl : j < O.length
          · obtain ⟨m, hm⟩ : ∃ m, O[j]? = some m := ⟨_, List.getElem?_eq_getElem hjl⟩
            have hOx := own_keep hOy hEx (fun _ _ hh => hh)
            have hic : ∃ ib, oA = some ⟨ib, 0, none⟩ := by
              rcases hOx.2 with ⟨e, h0⟩ | ⟨g, cap, cur, e, _⟩
              · omega
              · injection e with e1 _ _; exact ⟨g, e1⟩
            obtain ⟨ib, rfl⟩ := hic
            have i1 := hOx.cellAt j (by omega)
            rw [List.getElem?_map, hm] at i1
            simp only [Option.map_some] at i1
            have HST := Lib.hid (show (O.take (j + 1)).foldl (nst b.name) ([], false) = nst b.name (N, d) m by rw [fold_take hm, HF.out])
            clear hm HF hOx
            cases d
            · have hbl : Op.bytesLess b.name.toList m.toList = blt b.name m := less_eqR _ _
              cases hbb : blt b.name m
              · rw [hbb] at hbl
                have HN : Hid ((O.take (j + 1)).foldl (nst b.name) ([], false) = (N ++ [m], false)) := Lib.hid (by rw [HST.out]; unfold nst; rw [hbb]; rfl)
                clear HST hbb
                go_wp2_with (at_builtin; refine wpList_append_row _ hN 63 Tryz.underlying63 str_infoR rfl rfl (by decide) (by decide) rfl (by omega) (by omega) rfl _ _ rfl rfl rfl ?_)
                intro v1 w3 hO3 hC3
                have k1 : w3.ownsRow nb 9 1 v1 (N ++ [m]).length ((N ++ [m]).map Value.string) := by simpa using hO3
                have k2 : Ext W2 w3 := Chg.own_ext hEx hC3 hN (by omega)
                clear hO3 hC3 hN hEx i1 d1 hbl
                obtain ⟨vA, vc, rfl⟩ := own_slc k1
                go_wp2_with fail
                go_roundw
                case rel => exact ⟨j + 1, _, false, by go_num, rfl, by omega, by simp; omega, HN, k1, k2⟩
                case measure => simp [intOf]; omega
              · rw [hbb] at hbl
                have HN : Hid ((O.take (j + 1)).foldl (nst b.name) ([], false) = (N ++ [b.name, m], true)) := Lib.hid (by rw [HST.out]; unfold nst; rw [hbb]; rfl)
                clear HST hbb
                go_wp2_with (at_builtin; refine wpList_append_row _ hN 63 Tryz.underlying63 str_infoR rfl rfl (by decide) (by decide) rfl (by omega) (by omega) rfl _ _ rfl rfl rfl ?_)
                intro v1 w3 hO3 hC3
                have k1 : w3.ownsRow nb 9 1 v1 (N ++ [b.name]).length ((N ++ [b.name]).map Value.string) := by simpa using hO3
                have k2 : Ext W2 w3 := Chg.own_ext hEx hC3 hN (by omega)
                have k3 := k2.size
                clear hO3 hC3 hN hEx i1 d1 hbl
                obtain ⟨vA, vc, rfl⟩ := own_slc k1
                go_wp2_with (at_builtin; refine wpList_append_row _ k1 63 Tryz.underlying63 str_infoR rfl rfl (by decide) (by decide) rfl (by simp; omega) (by omega) rfl _ _ rfl rfl rfl ?_)
                intro v2 w4 hO4 hC4
                have m1 : w4.ownsRow nb 9 1 v2 (N ++ [b.name, m]).length ((N ++ [b.name, m]).map Value.string) := by simpa using hO4
                have m2 : Ext W2 w4 := Chg.own_ext k2 (by simpa using hC4) k1 (by omega)
                clear hO4 hC4 k1 k2 k3
                obtain ⟨uA, uc, rfl⟩ := own_slc m1
                go_wp2_with fail
                go_roundw
                case rel => exact ⟨j + 1, _, true, by go_num, rfl, by omega, by simp; omega, HN, m1, m2⟩
                case measure => simp [intOf]; omega
            · have HN : Hid ((O.take (j + 1)).foldl (nst b.name) ([], false) = (N ++ [m], true)) := Lib.hid (by rw [HST.out]; rfl)
              clear HST
              go_wp2_with (at_builtin; refine wpList_append_row _ hN 63 Tryz.underlying63 str_infoR rfl rfl (by decide) (by decide) rfl (by omega) (by omega) rfl _ _ rfl rfl rfl ?_)
              intro v1 w3 hO3 hC3
              have k1 : w3.ownsRow nb 9 1 v1 (N ++ [m]).length ((N ++ [m]).map Value.string) := by simpa using hO3
              have k2 : Ext W2 w3 := Chg.own_ext hEx hC3 hN (by omega)
              clear hO3 hC3 hN hEx i1 d1
              obtain ⟨vA, vc, rfl⟩ := own_slc k1
              go_wp2_with fail
              go_roundw
              case rel => exact ⟨j + 1, _, true, by go_num, rfl, by omega, by simp; omega, HN, k1, k2⟩
              case measure => simp [intOf]; omega
          · obtain rfl : j = O.length := by omega
            have hf := HF.out
            rw [List.take_length] at hf
            have HN : Hid (nins O b.name = nfin b.name (N, d)) := Lib.hid (by unfold nins; rw [hf])
            clear hf HF
            cases d
            · go_wp2_with (at_builtin; refine wpList_append_row _ hN 63 Tryz.underlying63 str_infoR rfl rfl (by decide) (by decide) rfl (by omega) (by omega) rfl _ _ rfl rfl rfl ?_)
              intro v1 w3 hO3 hC3
              have k1 : w3.ownsRow nb 9 1 v1 (N ++ [b.name]).length ((N ++ [b.name]).map Value.string) := by simpa using hO3
              have k2 : Ext W2 w3 := Chg.own_ext hEx hC3 hN (by omega)
              have k3 := hEy.trans k2
              have k4 := own_lowR k1 hb02
              clear hO3 hC3 hN hEx d1 k1 k2
              obtain ⟨vA, vc, rfl⟩ := own_slc k4
              go_wp2_with fail
              go_roundw
              case rel => exact ⟨k + 1, by go_num, by omega, by rw [H1.out, HN.out]; exact k4, k3⟩
              case measure => simp [intOf]; omega
            · have k3 := hEy.trans hEx
              have k4 := own_lowR hN hb02
              clear hN hEx d1
              go_wp2_with fail
              go_roundw
              case rel => exact ⟨k + 1, by go_num, by omega, by rw [H1.out, HN.out]; exact k4, k3⟩
              case measure => simp [intOf]; omega
    · obtain rfl : k = DV.length := by omega
      have hT : nmsK P.L DV.length = namesL P.L := by
        unfold nmsK
        rw [List.take_of_length_le (by rw [← HDV.out]; simp), names_ins]
      rw [hT] at hO ⊢
      clear hT
      go_wp2_with fail
      go_ret
      exact ⟨_, rfl, by rw [HB0.out]; exact hO, hEr⟩
end Go.Proofs.YtchnejfdompfpaaGreat
