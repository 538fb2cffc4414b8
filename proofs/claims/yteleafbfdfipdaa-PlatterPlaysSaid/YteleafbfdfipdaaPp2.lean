/-
  The document's disk (glacierref04): set.
-/
import Derived.Test.YteleafbfdfipdaaPp1
import Derived.Deep.CutRange
import Derived.Deep.CutBlock
namespace Go.Proofs.Yteleafbfdfipdaa
open Go.RowKit Go.Sort

theorem less_eq (a b : ByteArray) : Op.bytesLess a.toList b.toList = blt a b := by
  have key : ∀ (x y : List UInt8), Op.bytesLess x y = decide (x < y) := by
    intro x
    induction x with
    | nil => intro y; cases y <;> simp [Op.bytesLess]
    | cons a x ih =>
      intro y
      cases y with
      | nil => simp [Op.bytesLess]
      | cons b y =>
        rw [Bool.eq_iff_iff]
        have := ih y
        simp [Op.bytesLess, List.cons_lt_cons_iff, this]
  rw [key, ByteArray.toList_eq, ByteArray.toList_eq]; rfl
def setGo (n : ByteArray) (f : Fl) : List FRow → Bool → List FRow
  | [], dn => if dn then [] else [(n, f)]
  | (x, g) :: r, dn => if x = n then setGo n f r dn else if !dn && blt n x then (n, f) :: (x, g) :: setGo n f r true else (x, g) :: setGo n f r dn
def setL (n : ByteArray) (f : Fl) (L : List FRow) : List FRow := setGo n f L (!f.nt && !f.st)
theorem setGo_nil (n : ByteArray) (f : Fl) (dn : Bool) : setGo n f [] dn = if dn then [] else [(n, f)] := rfl
theorem setGo_cons (n : ByteArray) (f : Fl) (x : ByteArray) (g : Fl) (r : List FRow) (dn : Bool) : setGo n f ((x, g) :: r) dn = if x = n then setGo n f r dn else if !dn && blt n x then (n, f) :: (x, g) :: setGo n f r true else (x, g) :: setGo n f r dn := rfl
theorem file_info : (Try.prog.info? 60).map (fun i => (i.zero, i.size, i.bytes)) = some (some (.agg #[.string ⟨#[]⟩, .bool false, .string ⟨#[]⟩, .bool false, .string ⟨#[]⟩]), 5, 64) := by kernel_rfl

theorem frows_snoc {w : World} {base : Nat} {v : Value} {o : List FRow} {n : ByteArray} {f : Fl} (h : w.ownsRow base 60 5 v (o.length + 1) ((o.map frow).flatten ++ [.string n, .bool f.nt, .string f.nx, .bool f.st, .string f.sx])) :
    w.ownsRow base 60 5 v (o ++ [(n, f)]).length (((o ++ [(n, f)]).map frow).flatten) := by
  have e : ((o ++ [(n, f)]).map frow).flatten = (o.map frow).flatten ++ [.string n, .bool f.nt, .string f.nx, .bool f.st, .string f.sx] := by simp [frow]
  rw [e, List.length_append]
  exact h
theorem own_far {w : World} {base : Nat} {e : TypeId} {size : Nat} {v : Value} {n : Nat} {xs : List Value} (h : w.ownsRow base e size v n xs) {g : Nat} (i : Nat) (hg : g < base) (u : Value) : (w.setCell ⟨g, i, none⟩ u).ownsRow base e size v n xs :=
  own_chg h ((Chg.refl (· = g) w).setCell (p := ⟨g, i, none⟩) (.inl rfl) u) (fun k hk => by omega)
theorem own_slc {w : World} {base : Nat} {e : TypeId} {size : Nat} {v : Value} {n : Nat} {xs : List Value} (h : w.ownsRow base e size v n xs) : ∃ A c, v = .slice A n c := by
  rcases h.2 with ⟨rfl, rfl⟩ | ⟨g, cap, cur, rfl, _⟩
  · exact ⟨none, 0, rfl⟩
  · exact ⟨_, _, rfl⟩
theorem own_at_least {w : World} {base : Nat} {e : TypeId} {size : Nat} {v : Value} {n : Nat} {xs : List Value} (h : w.ownsRow base e size v n xs) {w1 w2 : World} (hC : Chg (fun j => base ≤ j) w1 w) (hc : Chg (fun k => some k = v.ownBlock) w w2) : Chg (fun j => base ≤ j) w1 w2 :=
  Chg.trans hC hc fun k _ hk => own_ge h k hk

set_option maxRecDepth 100000 in
set_option maxHeartbeats 1000000 in
theorem rset_any (w : World) (lv : Value) (room fail : Int) (lost : Bool) (L : List FRow) (h : RkIn w lv L) (hl : L.length ≤ 1000000) (n : ByteArray) (f : Fl) :
    Calls Try.prog 44 #[.agg #[lv, .int .i64 room, .bool lost, .int .i64 fail], .agg (fcells n f)] w fun e w' =>
      ∃ lv', e = .returned (.agg #[lv', .int .i64 room, .bool lost, .int .i64 fail]) ∧ RkIn w' lv' (setL n f L) ∧ Ext w w' := by
  obtain ⟨A, c, rfl⟩ := rk_slice h
  go_enter Try.func44, Try.ntmps44
  go_upto_region 2 with fail
  have hE : Ext w ((((w.alloc (.cells #[.slice A L.length c, .int .i64 room, .bool lost, .int .i64 fail] 29)).alloc (.cells (fcells n f) 60)).alloc (.cells #[.slice none 0 0, .int .i64 0, .bool false, .int .i64 0] 29)).alloc (.cells #[] 60)) := ((((Ext.refl w).alloc _).alloc _).alloc _).alloc _
  have hD : At ((((w.alloc (.cells #[.slice A L.length c, .int .i64 room, .bool lost, .int .i64 fail] 29)).alloc (.cells (fcells n f) 60)).alloc (.cells #[.slice none 0 0, .int .i64 0, .bool false, .int .i64 0] 29)).alloc (.cells #[] 60)) w.heap.size 29 #[.slice A L.length c, .int .i64 room, .bool lost, .int .i64 fail] := (((At.new _ _ _).alloc _).alloc _).alloc _
  have hX : At ((((w.alloc (.cells #[.slice A L.length c, .int .i64 room, .bool lost, .int .i64 fail] 29)).alloc (.cells (fcells n f) 60)).alloc (.cells #[.slice none 0 0, .int .i64 0, .bool false, .int .i64 0] 29)).alloc (.cells #[] 60)) (w.heap.size + 1) 60 (fcells n f) := ((At.new_eq (by simp) _ _).alloc _).alloc _
  have hZ : At ((((w.alloc (.cells #[.slice A L.length c, .int .i64 room, .bool lost, .int .i64 fail] 29)).alloc (.cells (fcells n f) 60)).alloc (.cells #[.slice none 0 0, .int .i64 0, .bool false, .int .i64 0] 29)).alloc (.cells #[] 60)) (w.heap.size + 1 + 1) 29 #[.slice none 0 0, .int .i64 0, .bool false, .int .i64 0] := (At.new_eq (by simp) _ _).alloc _
  have hO : World.ownsRow ((((w.alloc (.cells #[.slice A L.length c, .int .i64 room, .bool lost, .int .i64 fail] 29)).alloc (.cells (fcells n f) 60)).alloc (.cells #[.slice none 0 0, .int .i64 0, .bool false, .int .i64 0] 29)).alloc (.cells #[] 60)) (w.heap.size + 1 + 1 + 1) 60 5 (.slice (some ⟨w.heap.size + 1 + 1 + 1, 0, none⟩) 0 0) 0 [] := by
    have := World.ownsRow_made (base := w.heap.size + 1 + 1 + 1) (e := 60) (size := 5) (((w.alloc (.cells #[.slice A L.length c, .int .i64 room, .bool lost, .int .i64 fail] 29)).alloc (.cells (fcells n f) 60)).alloc (.cells #[.slice none 0 0, .int .i64 0, .bool false, .int .i64 0] 29)) #[] 0 (by simp) (Nat.zero_le _) rfl
    simpa using this
  have hyo : w.heap.size < w.heap.size + 1 + 1 + 1 := by omega
  have hxo : w.heap.size + 1 < w.heap.size + 1 + 1 + 1 := by omega
  have hzo : w.heap.size + 1 + 1 < w.heap.size + 1 + 1 + 1 := by omega
  have hyz : w.heap.size ≠ w.heap.size + 1 + 1 := by omega
  have hwy : w.heap.size ≤ w.heap.size := Nat.le_refl _
  have hwz : w.heap.size ≤ w.heap.size + 1 + 1 := by omega
  have hwo : w.heap.size ≤ w.heap.size + 1 + 1 + 1 := by omega
  generalize ((((w.alloc _).alloc _).alloc _).alloc _ : World) = W at hE hD hX hZ hO ⊢
  generalize w.heap.size + 1 + 1 + 1 = ob at *
  generalize w.heap.size + 1 + 1 = zb at *
  generalize w.heap.size + 1 = xb at *
  obtain ⟨yb, hyb⟩ : ∃ yb, yb = w.heap.size := ⟨_, rfl⟩
  rw [← hyb] at hD hyo hyz ⊢
  replace hwy : w.heap.size ≤ yb := by omega
  clear hyb
  have x1 := hX.cell 1
  have x3 := hX.cell 3
  have d0 := hD.cell 0
  simp at x1 x3 d0
  obtain ⟨dn0, hdn⟩ : ∃ dn0 : Bool, dn0 = (!f.nt && !f.st) := ⟨_, rfl⟩
  have HSL : Hid (setL n f L = setGo n f L dn0) := Lib.hid (by rw [hdn]; rfl)
  obtain ⟨wo, hwo'⟩ : ∃ wo : World, wo = W := ⟨_, rfl⟩
  have HJ := Lib.hid (And.intro hE (And.intro hD (And.intro hX (And.intro hZ (And.intro hO h)))))
  clear hE hD hX hZ hO h
  go_cut [6] from 10 to 19 (fun tv wx => tv = .bool dn0 ∧ wx = wo)
  case first =>
    clear HJ HSL d0
    obtain ⟨n1, s1, n2, s2⟩ := f
    simp only at x1 x3 hdn
    subst hwo'
    cases n1
    · go_wp2_with fail
      go_meet
      case rel => exact ⟨by rw [hdn]; rfl, rfl⟩
    · go_wp2_with fail
      go_meet
      case rel => exact ⟨by rw [hdn]; rfl, rfl⟩
  case rest =>
    obtain ⟨rfl, hwc⟩ := hcut
    subst hwc
    subst hwo'
    obtain ⟨hE, hD, hX, hZ, hO, h⟩ := HJ.out
    clear HJ hdn
    have hob : ob < wc.heap.size := (hO.lt ob rfl).2
    clear x1 x3
    go_wp2_with fail
    clear d0
    go_loopw [5, 6, 23] (fun ov dv kv wr => ∃ (k : Nat) (o : List FRow) (dn : Bool), kv = .int .i64 (k : Int) ∧ dv = .bool dn ∧ k ≤ L.length ∧ o.length ≤ 2 * k ∧ Hid (setL n f L = o ++ setGo n f (L.drop k) dn) ∧ wr.ownsRow ob 60 5 ov o.length ((o.map frow).flatten) ∧ Chg (fun j => ob ≤ j) wc wr) (fun _ _ kv _ => L.length - (intOf kv).toNat)
    case atStart => exact ⟨0, [], dn0, rfl, rfl, Nat.zero_le _, by simp, HSL, hO, Chg.refl _ _⟩
    case round =>
      clear hO HSL
      obtain ⟨k, o, dn, rfl, rfl, hk, hol, HPL, hO, hC⟩ := hrel
      have hEr : Ext w wr := Chg.trans hE hC (fun j hj hh => by omega)
      have hr := h.ext hEr
      have hbase := hC.size
      by_cases hlt : k < L.length
      · obtain ⟨⟨x, g⟩, hb⟩ : ∃ q, L[k]? = some q := ⟨_, List.getElem?_eq_getElem hlt⟩
        have hpl := HPL.out
        rw [drop_some hb, setGo_cons] at hpl
        replace HPL := Lib.hid hpl
        clear hpl
        obtain ⟨rb, ro, rfl⟩ := rk_some hr (fun e => by rw [e] at hb; simp at hb)
        obtain ⟨r0, r1, r2, r3, r4⟩ := rk_cells hr hb
        have hEx := (Ext.refl wr).alloc (.cells (fcells x g) 60)
        have hY := At.new wr 60 (fcells x g)
        have hXr := (hX.chg hC (by omega)).alloc (.cells (fcells x g) 60)
        clear hb
        go_upto_region 6 with fail
        clear r0 r1 r2 r3 r4
        have hYy : wr.heap.size ≤ wr.heap.size := Nat.le_refl _
        generalize hyyd : wr.heap.size = yy at hY hYy ⊢
        generalize wr.alloc (.cells (fcells x g) 60) = W1 at hY hXr hEx ⊢
        have hO1 := own_chg hO hEx (fun j hj => hj.elim)
        have hyown : ∀ j, some j = u5.ownBlock → j = yy → False := fun j hj e => by
          have := (hO.lt j hj.symm).2
          omega
        have hs1 := hEx.size
        have hC1 := hC.ext_trans hEx
        have hbase1 := hC1.size
        clear hO hC hEx hr hEr hbase
        have y0 := hY.cell 0
        have x0 := hXr.cell 0
        simp at x0 y0
        by_cases hx : x = n
        · subst hx
          rw [if_pos rfl] at HPL
          go_wp2_with fail
          go_roundw
          case rel => exact ⟨k + 1, o, dn, by go_num, rfl, by omega, by omega, HPL, hO1, hC1⟩
          case measure => simp [intOf]; omega
        · have hxl : (x.toList == n.toList) = false := by
            rw [beq_eq_false_iff_ne]
            exact fun e => hx (toList_inj.1 e)
          rw [if_neg hx] at HPL
          have hxn := hx
          clear hx
          have y1 := hY.cell 1
          have y2 := hY.cell 2
          have y3 := hY.cell 3
          have y4 := hY.cell 4
          simp at y1 y2 y3 y4
          rcases Bool.eq_false_or_eq_true (!dn && blt n x) with hd | hd
          · rw [hd, if_pos rfl] at HPL
            obtain rfl : dn = false := by cases dn <;> simp at hd ⊢
            have hless : Op.bytesLess x.toList n.toList = false := by
              rw [less_eq]
              have hnx : blt n x = true := by simpa using hd
              rcases Bool.eq_false_or_eq_true (blt x n) with hq | hq
              · have := blt_ordd.tr hnx hq
                rw [blt_ordd.irr] at this; cases this
              · exact hq
            clear hd
            have x1 := hXr.cell 1
            have x2 := hXr.cell 2
            have x3 := hXr.cell 3
            have x4 := hXr.cell 4
            simp at x1 x2 x3 x4
            go_wp2_with (at_builtin; refine wpList_append_row _ hO1 25 Try.underlying25 file_info rfl rfl (by decide) (by decide) rfl (by omega) (by omega) rfl _ _ rfl rfl rfl ?_)
            intro v2 w2 hO2 hCa
            replace hO2 := frows_snoc hO2
            obtain ⟨o2, ho2⟩ : ∃ o2, o2 = o ++ [(n, f)] := ⟨_, rfl⟩
            rw [← ho2] at hO2
            have hol2 : o2.length ≤ 2 * k + 1 := by rw [ho2, List.length_append, List.length_singleton]; omega
            have HO2 := Lib.hid ho2
            clear ho2
            have hY2 := hY.chg hCa (fun e => hyown _ e rfl)
            have hC2 := own_at_least hO1 hC1 hCa
            clear hXr hY hO1 hCa hC1 y0 y1 y2 y3 y4 x0 x1 x2 x3 x4
            have hs2 := hC2.size
            have y0 := hY2.cell 0
            have y1 := hY2.cell 1
            have y2 := hY2.cell 2
            have y3 := hY2.cell 3
            have y4 := hY2.cell 4
            simp at y0 y1 y2 y3 y4
            go_wp2_with (at_builtin; refine wpList_append_row _ hO2 25 Try.underlying25 file_info rfl rfl (by decide) (by decide) rfl (by omega) (by omega) rfl _ _ rfl rfl rfl ?_)
            intro v3 w3 hO3 hCb
            replace hO3 := frows_snoc hO3
            have hC3 := own_at_least hO2 hC2 hCb
            clear hO2 hC2 hCb y0 y1 y2 y3 y4 hY2
            go_wp2_with fail
            go_roundw
            case rel => exact ⟨k + 1, o2 ++ [(x, g)], true, by go_num, rfl, by omega, by simp only [List.length_append, List.length_singleton]; omega, Lib.hid (by rw [HPL.out, HO2.out]; simp), hO3, hC3⟩
            case measure => simp [intOf]; omega
          · rw [hd, if_neg Bool.false_ne_true] at HPL
            have hless : dn = false → Op.bytesLess x.toList n.toList = true := by
              rintro rfl
              rw [less_eq]
              have hnx : blt n x = false := by simpa using hd
              rcases Bool.eq_false_or_eq_true (blt x n) with hq | hq
              · exact hq
              · exact absurd (blt_ordd.tot hq hnx) hxn
            clear hd
            have HL := Lib.hid hless
            clear hless
            cases dn
            · have hl1 := HL.out rfl
              go_wp2_with (at_builtin; refine wpList_append_row _ hO1 25 Try.underlying25 file_info rfl rfl (by decide) (by decide) rfl (by omega) (by omega) rfl _ _ rfl rfl rfl ?_)
              intro v3 w3 hO3 hCb
              replace hO3 := frows_snoc hO3
              have hC3 := own_at_least hO1 hC1 hCb
              clear hXr hY hO1 hCb hC1 y0 y1 y2 y3 y4 x0
              go_wp2_with fail
              go_roundw
              case rel => exact ⟨k + 1, o ++ [(x, g)], false, by go_num, rfl, by omega, by simp only [List.length_append, List.length_singleton]; omega, Lib.hid (by rw [HPL.out]; simp), hO3, hC3⟩
              case measure => simp [intOf]; omega
            · go_wp2_with (at_builtin; refine wpList_append_row _ hO1 25 Try.underlying25 file_info rfl rfl (by decide) (by decide) rfl (by omega) (by omega) rfl _ _ rfl rfl rfl ?_)
              intro v3 w3 hO3 hCb
              replace hO3 := frows_snoc hO3
              have hC3 := own_at_least hO1 hC1 hCb
              clear hXr hY hO1 hCb hC1 y0 y1 y2 y3 y4 x0
              go_wp2_with fail
              go_roundw
              case rel => exact ⟨k + 1, o ++ [(x, g)], true, by go_num, rfl, by omega, by simp only [List.length_append, List.length_singleton]; omega, Lib.hid (by rw [HPL.out]; simp), hO3, hC3⟩
              case measure => simp [intOf]; omega
      · obtain rfl : k = L.length := by omega
        have hpl := HPL.out
        rw [List.drop_length, setGo_nil] at hpl
        replace HPL := Lib.hid hpl
        clear hpl
        obtain ⟨oA, oc, rfl⟩ := own_slc hO
        cases dn
        · have hXr := hX.chg hC (by omega)
          have x0 := hXr.cell 0
          have x1 := hXr.cell 1
          have x2 := hXr.cell 2
          have x3 := hXr.cell 3
          have x4 := hXr.cell 4
          simp at x0 x1 x2 x3 x4
          go_wp2_with (at_builtin; refine wpList_append_row _ hO 25 Try.underlying25 file_info rfl rfl (by decide) (by decide) rfl (by omega) (by omega) rfl _ _ rfl rfl rfl ?_)
          intro v3 w3 hO3 hCb
          replace hO3 := frows_snoc hO3
          have hC3 := own_at_least hO hC hCb
          clear hXr hO hCb hC x0 x1 x2 x3 x4
          rw [List.length_append, List.length_singleton] at hO3
          obtain ⟨pA, pc, rfl⟩ := own_slc hO3
          go_upto_region 14 with fail
          have hDz := hD.chg hC3 (by omega)
          have hZz := hZ.chg hC3 (by omega)
          have hEz : Ext w w3 := Chg.trans hE hC3 (fun j hj hh => by omega)
          have d0 := hDz.cell 0
          have d1 := hDz.cell 1
          have d2 := hDz.cell 2
          have d3 := hDz.cell 3
          have f0 := hDz.frozen 0
          simp at d0 d1 d2 d3
          go_upto_region 15 with fail
          have hD2 : At (w3.setCell ⟨yb, 0, none⟩ (.slice pA (o.length + 1) pc)) yb 29 #[.slice pA (o.length + 1) pc, .int .i64 room, .bool lost, .int .i64 fail] := hDz.set 0 _
          have hZ2 : At (w3.setCell ⟨yb, 0, none⟩ (.slice pA (o.length + 1) pc)) zb 29 #[.slice none 0 0, .int .i64 0, .bool false, .int .i64 0] := hZz.far (fun e => hyz e.symm) _
          have hE2 : Ext w (w3.setCell ⟨yb, 0, none⟩ (.slice pA (o.length + 1) pc)) := hEz.setCell hwy _
          have hO2 := own_far hO3 (g := yb) 0 (by omega) (.slice pA (o.length + 1) pc)
          clear d0 d1 d2 d3 f0 hDz hZz hEz
          generalize w3.setCell ⟨yb, 0, none⟩ (.slice pA (o.length + 1) pc) = W4 at hD2 hZ2 hE2 hO2 ⊢
          have d0 := hD2.cell 0
          have d1 := hD2.cell 1
          have d2 := hD2.cell 2
          have d3 := hD2.cell 3
          have z0 := hZ2.cell 0
          have z1 := hZ2.cell 1
          have z2 := hZ2.cell 2
          have z3 := hZ2.cell 3
          have f0 := hZ2.frozen 0
          have f1 := hZ2.frozen 1
          have f2 := hZ2.frozen 2
          have f3 := hZ2.frozen 3
          simp at d0 d1 d2 d3 z0 z1 z2 z3
          go_wp2_with fail
          have hZ3 := at_anew hZ2 (vs := #[.slice pA (o.length + 1) pc, .int .i64 room, .bool lost, .int .i64 fail]) rfl
          refine bodyPost_ret (v := .agg #[.slice pA (o.length + 1) pc, .int .i64 room, .bool lost, .int .i64 fail]) (results_one Try.results44 _ rfl (hZ3.loadv Try.underlying29 rfl (by kernel_rfl))) rfl ?_
          refine ⟨_, rfl, ?_, ext_anew hwz [.slice pA (o.length + 1) pc, .int .i64 room, .bool lost, .int .i64 fail] 0 _ hE2⟩
          rw [HPL.out]
          exact Sln.of_own (own_chg hO2 (chg_setAll W4 zb [.slice pA (o.length + 1) pc, .int .i64 room, .bool lost, .int .i64 fail] 0 W4 (Chg.refl _ _)) (fun j hj => by omega)) (fun r hr => by obtain ⟨p, _, rfl⟩ := List.mem_map.1 hr; rfl) (by simp)
        · go_upto_region 14 with fail
          have hDz := hD.chg hC (by omega)
          have hZz := hZ.chg hC (by omega)
          have hEz : Ext w wr := Chg.trans hE hC (fun j hj hh => by omega)
          have d0 := hDz.cell 0
          have d1 := hDz.cell 1
          have d2 := hDz.cell 2
          have d3 := hDz.cell 3
          have f0 := hDz.frozen 0
          simp at d0 d1 d2 d3
          go_upto_region 15 with fail
          have hD2 : At (wr.setCell ⟨yb, 0, none⟩ (.slice oA o.length oc)) yb 29 #[.slice oA o.length oc, .int .i64 room, .bool lost, .int .i64 fail] := hDz.set 0 _
          have hZ2 : At (wr.setCell ⟨yb, 0, none⟩ (.slice oA o.length oc)) zb 29 #[.slice none 0 0, .int .i64 0, .bool false, .int .i64 0] := hZz.far (fun e => hyz e.symm) _
          have hE2 : Ext w (wr.setCell ⟨yb, 0, none⟩ (.slice oA o.length oc)) := hEz.setCell hwy _
          have hO2 := own_far hO (g := yb) 0 (by omega) (.slice oA o.length oc)
          clear d0 d1 d2 d3 f0 hDz hZz hEz
          generalize wr.setCell ⟨yb, 0, none⟩ (.slice oA o.length oc) = W4 at hD2 hZ2 hE2 hO2 ⊢
          have d0 := hD2.cell 0
          have d1 := hD2.cell 1
          have d2 := hD2.cell 2
          have d3 := hD2.cell 3
          have z0 := hZ2.cell 0
          have z1 := hZ2.cell 1
          have z2 := hZ2.cell 2
          have z3 := hZ2.cell 3
          have f0 := hZ2.frozen 0
          have f1 := hZ2.frozen 1
          have f2 := hZ2.frozen 2
          have f3 := hZ2.frozen 3
          simp at d0 d1 d2 d3 z0 z1 z2 z3
          go_wp2_with fail
          have hZ3 := at_anew hZ2 (vs := #[.slice oA o.length oc, .int .i64 room, .bool lost, .int .i64 fail]) rfl
          refine bodyPost_ret (v := .agg #[.slice oA o.length oc, .int .i64 room, .bool lost, .int .i64 fail]) (results_one Try.results44 _ rfl (hZ3.loadv Try.underlying29 rfl (by kernel_rfl))) rfl ?_
          refine ⟨_, rfl, ?_, ext_anew hwz [.slice oA o.length oc, .int .i64 room, .bool lost, .int .i64 fail] 0 _ hE2⟩
          rw [HPL.out, if_pos trivial, List.append_nil]
          exact Sln.of_own (own_chg hO2 (chg_setAll W4 zb [.slice oA o.length oc, .int .i64 room, .bool lost, .int .i64 fail] 0 W4 (Chg.refl _ _)) (fun j hj => by omega)) (fun r hr => by obtain ⟨p, _, rfl⟩ := List.mem_map.1 hr; rfl) (by simp)
end Go.Proofs.Yteleafbfdfipdaa
