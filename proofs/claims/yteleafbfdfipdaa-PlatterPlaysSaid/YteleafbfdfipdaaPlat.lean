/-
  Walks through platter: a disk is a block of five cells and a map of files.
-/
import Derived.Test.YteleafbfdfipdaaMeter
import Derived.StillTailTactics
import Derived.Lib.QuietBelow
namespace Go.Proofs.Yteleafbfdfipdaa
open Go.RowKit Go.Sort

/-- A file: does it exist now, its text; the same of what is durable. -/
structure Fl where
  nt : Bool
  nx : ByteArray
  st : Bool
  sx : ByteArray
  deriving DecidableEq

def Fl.val (f : Fl) : Value := .agg #[.bool f.nt, .string f.nx, .bool f.st, .string f.sx]
def Fl.zero : Fl := ⟨false, ByteArray.empty, false, ByteArray.empty⟩
def wt (a b : ByteArray) : Int := max (a.size : Int) (b.size : Int)
theorem wt_nonneg (a b : ByteArray) : 0 ≤ wt a b := by unfold wt; omega
theorem wt_le (a b : ByteArray) (ha : a.size ≤ maxLen) (hb : b.size ≤ maxLen) : wt a b ≤ 9223372036854775807 := by unfold wt; unfold maxLen at ha hb; omega

theorem weight_any (n1 n2 : Bool) (s1 s2 : ByteArray) (w : World) (_h1 : s1.size ≤ maxLen) (_h2 : s2.size ≤ maxLen) :
    Calls Try.prog 50 #[.agg #[.bool n1, .string s1, .bool n2, .string s2]] w fun e w' => e = .returned (.int .i64 (wt s1 s2)) ∧ Ext w w' := by
  unfold maxLen at _h1 _h2
  go_enter Try.func50, Try.ntmps50
  go_wp2
  all_goals (go_ret; exact ⟨ret_i64 (by unfold wt; omega), (Ext.refl _).alloc _⟩)

theorem weight_re (n1 n2 : Bool) (s1 s2 : ByteArray) (W : World) (h1 : s1.size ≤ maxLen) (h2 : s2.size ≤ maxLen) (dd : Nat) (os : Array Obj) :
    Calls Try.prog 50 #[.agg #[.bool n1, .string s1, .bool n2, .string s2]] (grow (redrawn W dd) os) fun e w'' => e = .returned (.int .i64 (wt s1 s2)) ∧ ∃ p : Regrown, w'' = grow (redrawn W p.d) p.os :=
  Calls.ext_of (weight_any n1 n2 s1 s2 _ h1 h2)

structure Dk where
  room : Int
  used : Int
  lost : Bool
  armed : Int
  files : List (ByteArray × Fl)

def DkAt (w : World) (d m : Nat) (D : Dk) : Prop :=
  At w d 45 #[.int .i64 D.room, .int .i64 D.used, .bool D.lost, .int .i64 D.armed, .map (some m)] ∧ MapAt strWay Fl.val w m D.files

def Dk.get (D : Dk) (n : ByteArray) : Fl := (lget n D.files).getD Fl.zero
def putf (L : List (ByteArray × Fl)) (n : ByteArray) (f : Fl) : List (ByteArray × Fl) := if f.nt || f.st then (n, f) :: ldel n L else ldel n L

theorem zero_file (w : World) : (zeroValue 81).run Try.prog w = .ok Fl.zero.val w := by kernel_rfl
theorem map_files : Try.prog.underlying 43 = some (.map 9 81) := by kernel_rfl
theorem key_files : Try.prog.underlying 9 = some .string := by kernel_rfl

theorem DkAt.look {w : World} {d m : Nat} {D : Dk} (h : DkAt w d m D) (n : ByteArray) :
    (Instr.lookup 43 (.map (some m)) (.string n) false).run Try.prog w = .ok (.agg #[.bool (D.get n).nt, .string (D.get n).nx, .bool (D.get n).st, .string (D.get n).sx]) w := by
  have := h.2.lookup (K := strWay) map_files key_files zero_file n
  rw [show (Instr.lookup 43 (.map (some m)) (.string n) false) = (Instr.lookup 43 (.map (some m)) (strWay.val n) false) from rfl, this]
  unfold Dk.get
  cases lget n D.files <;> rfl
theorem files_upd {w : World} {m : Nat} {L : List (ByteArray × Fl)} (h : MapAt strWay Fl.val w m L) (n : ByteArray) (x y : Bool) (s1 s2 : ByteArray) :
    ∃ w', (Instr.mapUpdate 43 (.map (some m)) (.string n) (.agg #[.bool x, .string s1, .bool y, .string s2])).run Try.prog w = .ok () w' ∧ MapAt strWay Fl.val w' m ((n, ⟨x, s1, y, s2⟩) :: ldel n L) ∧ Chg (· = m) w w' :=
  h.update (K := strWay) map_files key_files n ⟨x, s1, y, s2⟩
theorem DkAt.ext {w w' : World} {d m : Nat} {D : Dk} (h : DkAt w d m D) (he : Ext w w') : DkAt w' d m D := ⟨h.1.ext he, h.2.ext he⟩
theorem DkAt.alloc {w : World} {d m : Nat} {D : Dk} (h : DkAt w d m D) (o : Obj) : DkAt (w.alloc o) d m D := ⟨h.1.alloc o, h.2.alloc o⟩

theorem At.nd {w : World} {d : Nat} {t : TypeId} {room used armed : Int} {lost : Bool} {mv : Value} (h : At w d t #[.int .i64 room, .int .i64 used, .bool lost, .int .i64 armed, mv]) (u : Int) :
    At (w.setCell ⟨d, 1, none⟩ (.int .i64 u)) d t #[.int .i64 room, .int .i64 u, .bool lost, .int .i64 armed, mv] := h.set 1 _

/-- what is used behind a put that needs g bytes more -/
def nuse (used g : Int) : Int := if 0 < g then used + g else used - min (-g) used

section put
variable (w : World) (d m : Nat) (D : Dk) (hD : DkAt w d m D) (n : ByteArray) (n1 n2 : Bool) (s1 s2 : ByteArray) (h1 : s1.size ≤ maxLen) (h2 : s2.size ≤ maxLen)
  (g1 : (D.get n).nx.size ≤ maxLen) (g2 : (D.get n).sx.size ≤ maxLen) (hu0 : 0 ≤ D.used) (hu1 : D.used ≤ D.room) (hr : D.room ≤ 9223372036854775807)
include hD h1 h2 g1 g2 hu0 hu1 hr
set_option maxRecDepth 100000 in
set_option maxHeartbeats 400000 in
theorem put_full (hg : D.room - D.used < wt s1 s2 - wt (D.get n).nx (D.get n).sx) (hg0 : 0 < wt s1 s2 - wt (D.get n).nx (D.get n).sx) :
    Calls Try.prog 41 #[.pointer (some ⟨d, 0, none⟩), .string n, .agg #[.bool n1, .string s1, .bool n2, .string s2]] w fun e w' => e = .returned (.int .i64 7) ∧ Ext w w' := by
  have k1 := wt_nonneg s1 s2
  have k2 := wt_le s1 s2 h1 h2
  have k3 := wt_nonneg (D.get n).nx (D.get n).sx
  have k4 := wt_le (D.get n).nx (D.get n).sx g1 g2
  go_enter Try.func41, Try.ntmps41
  go_wp2
  have hB := At.new w 81 #[.bool n1, .string s1, .bool n2, .string s2]
  have hE := (Ext.refl w).alloc (.cells #[.bool n1, .string s1, .bool n2, .string s2] 81)
  replace hD := hD.alloc (.cells #[.bool n1, .string s1, .bool n2, .string s2] 81)
  generalize w.alloc (.cells #[.bool n1, .string s1, .bool n2, .string s2] 81) = W at hB hE hD ⊢
  generalize w.heap.size = bx at hB ⊢
  refine wp_region_quiet_ext (by kernel_rfl) (by kernel_rfl) ?_
  have c0 := hB.cell_regrown 0
  have c1 := hB.cell_regrown 1
  have c2 := hB.cell_regrown 2
  have c3 := hB.cell_regrown 3
  have c4 := hD.1.cell_regrown 4
  have cl := fun dd os => (hD.ext (ext_regrown W dd os)).look n
  have cw1 := weight_re n1 n2 s1 s2 W h1 h2
  have cw2 := weight_re (D.get n).nt (D.get n).st (D.get n).nx (D.get n).sx W g1 g2
  repeat (go_big_quiet_step (first | with_reducible exact cw1 _ _ | with_reducible exact cw2 _ _))
  refine wpQuiet_nil ?_
  intro W2 hE2
  clear c0 c1 c2 c3 c4 cl cw1 cw2
  replace hD := hD.ext hE2
  replace hE := hE.trans hE2
  have d0 := hD.1.cell 0
  have d1 := hD.1.cell 1
  go_wp2_with (go_at_call 51; refine (take_full _ _ _ _ _ d0 d1 hu0 hu1 hr _ (Int.le_of_lt hg0) hg).mono ?_; rintro e w' ⟨rfl, k, rfl⟩)
  go_ret
  exact ⟨rfl, hE.drewN _⟩

set_option maxRecDepth 100000 in
set_option maxHeartbeats 1000000 in
theorem put_ok (hg : wt s1 s2 - wt (D.get n).nx (D.get n).sx ≤ D.room - D.used ∨ wt s1 s2 - wt (D.get n).nx (D.get n).sx ≤ 0) :
    Calls Try.prog 41 #[.pointer (some ⟨d, 0, none⟩), .string n, .agg #[.bool n1, .string s1, .bool n2, .string s2]] w fun e w' => e = .returned (.int .i64 0) ∧ Chg (fun k => k = d ∨ k = m) w w' ∧
      DkAt w' d m { D with used := nuse D.used (wt s1 s2 - wt (D.get n).nx (D.get n).sx), files := putf D.files n ⟨n1, s1, n2, s2⟩ } := by
  have k1 := wt_nonneg s1 s2
  have k2 := wt_le s1 s2 h1 h2
  have k3 := wt_nonneg (D.get n).nx (D.get n).sx
  have k4 := wt_le (D.get n).nx (D.get n).sx g1 g2
  go_enter Try.func41, Try.ntmps41
  go_wp2
  have hB := At.new w 81 #[.bool n1, .string s1, .bool n2, .string s2]
  have hE := (Ext.refl w).alloc (.cells #[.bool n1, .string s1, .bool n2, .string s2] 81)
  replace hD := hD.alloc (.cells #[.bool n1, .string s1, .bool n2, .string s2] 81)
  generalize w.alloc (.cells #[.bool n1, .string s1, .bool n2, .string s2] 81) = W at hB hE hD ⊢
  generalize w.heap.size = bx at hB ⊢
  refine wp_region_quiet_ext (by kernel_rfl) (by kernel_rfl) ?_
  have c0 := hB.cell_regrown 0
  have c1 := hB.cell_regrown 1
  have c2 := hB.cell_regrown 2
  have c3 := hB.cell_regrown 3
  have c4 := hD.1.cell_regrown 4
  have cl := fun dd os => (hD.ext (ext_regrown W dd os)).look n
  have cw1 := weight_re n1 n2 s1 s2 W h1 h2
  have cw2 := weight_re (D.get n).nt (D.get n).st (D.get n).nx (D.get n).sx W g1 g2
  repeat (go_big_quiet_step (first | with_reducible exact cw1 _ _ | with_reducible exact cw2 _ _))
  refine wpQuiet_nil ?_
  intro W2 hE2
  clear c0 c1 c2 c3 c4 cl cw1 cw2
  replace hD := hD.ext hE2
  replace hE := hE.trans hE2
  replace hB := hB.ext hE2
  have d0 := hD.1.cell 0
  have d1 := hD.1.cell 1
  have df := hD.1.frozen 1
  by_cases hg0 : 0 < wt s1 s2 - wt (D.get n).nx (D.get n).sx
  · have hn : nuse D.used (wt s1 s2 - wt (D.get n).nx (D.get n).sx) = D.used + (wt s1 s2 - wt (D.get n).nx (D.get n).sx) := if_pos hg0
    replace hg : wt s1 s2 - wt (D.get n).nx (D.get n).sx ≤ D.room - D.used := by omega
    go_wp2_with fail
    refine (take_ok _ _ _ _ _ d0 d1 df hu0 hu1 hr _ (Int.le_of_lt hg0) hg).mono ?_
    rintro e w' ⟨rfl, k, rfl⟩
    have hD3 : DkAt ((W2.drewN k).setCell ⟨d, 0 + 1, none⟩ (.int .i64 (D.used + (wt s1 s2 - wt (D.get n).nx (D.get n).sx)))) d m { D with used := nuse D.used (wt s1 s2 - wt (D.get n).nx (D.get n).sx) } := by
      rw [hn]; exact ⟨(hD.1.drewN k).nd _, (hD.2.drewN k).setCell _ _⟩
    have hE3 : Chg (fun k => k = d ∨ k = m) w ((W2.drewN k).setCell ⟨d, 0 + 1, none⟩ (.int .i64 (D.used + (wt s1 s2 - wt (D.get n).nx (D.get n).sx)))) := (hE.chg.drewN k).setCell (.inl (.inl rfl)) _
    have hB3 : At ((W2.drewN k).setCell ⟨d, 0 + 1, none⟩ (.int .i64 (D.used + (wt s1 s2 - wt (D.get n).nx (D.get n).sx)))) bx 81 #[.bool n1, .string s1, .bool n2, .string s2] := (hB.drewN k).far (hB.ne hD.1 (by decide)) _
    generalize (W2.drewN k).setCell ⟨d, 0 + 1, none⟩ (.int .i64 (D.used + (wt s1 s2 - wt (D.get n).nx (D.get n).sx))) = W3 at hD3 hE3 hB3 ⊢
    clear hn hD hE hB d0 d1 df hE2 hg hg0 k1 k2 k3 k4
    have b0 := hB3.cell 0
    have b2 := hB3.cell 2
    have e4 := hD3.1.cell 4
    cases n1
    · cases n2
      · obtain ⟨W4, hrun, hM4, hE4⟩ := hD3.2.delete (K := strWay) map_files key_files n
        have hrun' : ∀ ty, (Builtin.delete_ #[43, 9] ty #[.map (some m), .string n]).run Try.prog W3 = .ok (.tuple #[]) W4 := hrun
        clear hrun
        go_wp2
        go_ret
        exact ⟨rfl, hE3.trans hE4 (fun k _ h => .inr h), hD3.1.chg hE4 (fun h => hD3.2.ne_at hD3.1 h.symm), hM4⟩
      · skip
        have hq := fun wx => run_eql_map_nil (P := Try.prog) wx 43 9 81 (some m) map_files
        have b1 := hB3.cell 1
        have b3 := hB3.cell 3
        go_wp2_with fail
        obtain ⟨W4, hrun, hM4, hE4⟩ := files_upd (w := W3.drew) hD3.2 n false true s1 s2
        go_region
        all_goals
          go_wp2
          go_ret
          exact ⟨rfl, hE3.drew.trans hE4 (fun k _ h => .inr h), hD3.1.drew.chg hE4 (fun h => hD3.2.ne_at hD3.1 h.symm), hM4⟩
    · skip
      have hq := fun wx => run_eql_map_nil (P := Try.prog) wx 43 9 81 (some m) map_files
      have b1 := hB3.cell 1
      have b3 := hB3.cell 3
      go_wp2_with fail
      obtain ⟨W4, hrun, hM4, hE4⟩ := files_upd (w := W3.drew) hD3.2 n true n2 s1 s2
      go_region
      all_goals
        go_wp2
        go_ret
        exact ⟨rfl, hE3.drew.trans hE4 (fun k _ h => .inr h), hD3.1.drew.chg hE4 (fun h => hD3.2.ne_at hD3.1 h.symm), hM4⟩
  · clear hg
    have d1' : W2.drew.cell? ⟨d, 0 + 1, none⟩ = some (.int .i64 D.used) := d1
    have cu := used_any d 0 D.used W2.drew d1'
    go_wp2_with fail
    go_still_tail 10, (by kernel_rfl)
    rcases (show D.used < -(wt s1 s2 - wt (D.get n).nx (D.get n).sx) ∨ -(wt s1 s2 - wt (D.get n).nx (D.get n).sx) ≤ D.used by omega) with hm | hm
    · have hn : nuse D.used (wt s1 s2 - wt (D.get n).nx (D.get n).sx) = D.used - D.used := by unfold nuse; rw [if_neg (by omega)]; omega
      still_call cu
      repeat still_step
      refine wpStill_nil ?_
      go_wp2_with fail
      all_goals
        refine (give_ok d 0 D.room D.used W2.drew d1' df hu1 hr _ (by omega) (by omega)).mono ?_
        rintro e w' ⟨rfl, rfl⟩
        have hD3 : DkAt (W2.drew.setCell ⟨d, 0 + 1, none⟩ (.int .i64 (D.used - D.used))) d m { D with used := nuse D.used (wt s1 s2 - wt (D.get n).nx (D.get n).sx) } := by
          rw [hn]; exact ⟨hD.1.drew.nd _, hD.2.drew.setCell _ _⟩
        have hE3 : Chg (fun k => k = d ∨ k = m) w (W2.drew.setCell ⟨d, 0 + 1, none⟩ (.int .i64 (D.used - D.used))) := hE.chg.drew.setCell (.inl (.inl rfl)) _
        have hB3 : At (W2.drew.setCell ⟨d, 0 + 1, none⟩ (.int .i64 (D.used - D.used))) bx 81 #[.bool n1, .string s1, .bool n2, .string s2] := hB.drew.far (hB.ne hD.1 (by decide)) _
        generalize W2.drew.setCell ⟨d, 0 + 1, none⟩ (.int .i64 (D.used - D.used)) = W3 at hD3 hE3 hB3 ⊢
        clear hn hD hE hB d0 d1 d1' df hE2 hg0 k1 k2 k3 k4 cu hm
        have b0 := hB3.cell 0
        have b2 := hB3.cell 2
        have e4 := hD3.1.cell 4
        cases n1
        · cases n2
          · obtain ⟨W4, hrun, hM4, hE4⟩ := hD3.2.delete (K := strWay) map_files key_files n
            have hrun' : ∀ ty, (Builtin.delete_ #[43, 9] ty #[.map (some m), .string n]).run Try.prog W3 = .ok (.tuple #[]) W4 := hrun
            clear hrun
            go_wp2
            go_ret
            exact ⟨rfl, hE3.trans hE4 (fun k _ h => .inr h), hD3.1.chg hE4 (fun h => hD3.2.ne_at hD3.1 h.symm), hM4⟩
          · skip
            have hq := fun wx => run_eql_map_nil (P := Try.prog) wx 43 9 81 (some m) map_files
            have b1 := hB3.cell 1
            have b3 := hB3.cell 3
            go_wp2_with fail
            obtain ⟨W4, hrun, hM4, hE4⟩ := files_upd (w := W3.drew) hD3.2 n false true s1 s2
            go_region
            all_goals
              go_wp2
              go_ret
              exact ⟨rfl, hE3.drew.trans hE4 (fun k _ h => .inr h), hD3.1.drew.chg hE4 (fun h => hD3.2.ne_at hD3.1 h.symm), hM4⟩
        · skip
          have hq := fun wx => run_eql_map_nil (P := Try.prog) wx 43 9 81 (some m) map_files
          have b1 := hB3.cell 1
          have b3 := hB3.cell 3
          go_wp2_with fail
          obtain ⟨W4, hrun, hM4, hE4⟩ := files_upd (w := W3.drew) hD3.2 n true n2 s1 s2
          go_region
          all_goals
            go_wp2
            go_ret
            exact ⟨rfl, hE3.drew.trans hE4 (fun k _ h => .inr h), hD3.1.drew.chg hE4 (fun h => hD3.2.ne_at hD3.1 h.symm), hM4⟩
    · have hn : nuse D.used (wt s1 s2 - wt (D.get n).nx (D.get n).sx) = D.used - -(wt s1 s2 - wt (D.get n).nx (D.get n).sx) := by unfold nuse; rw [if_neg (by omega)]; omega
      still_call cu
      repeat still_step
      refine wpStill_nil ?_
      go_wp2_with fail
      all_goals
        refine (give_ok d 0 D.room D.used W2.drew d1' df hu1 hr _ (by omega) (by omega)).mono ?_
        rintro e w' ⟨rfl, rfl⟩
        have hD3 : DkAt (W2.drew.setCell ⟨d, 0 + 1, none⟩ (.int .i64 (D.used - -(wt s1 s2 - wt (D.get n).nx (D.get n).sx)))) d m { D with used := nuse D.used (wt s1 s2 - wt (D.get n).nx (D.get n).sx) } := by
          rw [hn]; exact ⟨hD.1.drew.nd _, hD.2.drew.setCell _ _⟩
        have hE3 : Chg (fun k => k = d ∨ k = m) w (W2.drew.setCell ⟨d, 0 + 1, none⟩ (.int .i64 (D.used - -(wt s1 s2 - wt (D.get n).nx (D.get n).sx)))) := hE.chg.drew.setCell (.inl (.inl rfl)) _
        have hB3 : At (W2.drew.setCell ⟨d, 0 + 1, none⟩ (.int .i64 (D.used - -(wt s1 s2 - wt (D.get n).nx (D.get n).sx)))) bx 81 #[.bool n1, .string s1, .bool n2, .string s2] := hB.drew.far (hB.ne hD.1 (by decide)) _
        generalize W2.drew.setCell ⟨d, 0 + 1, none⟩ (.int .i64 (D.used - -(wt s1 s2 - wt (D.get n).nx (D.get n).sx))) = W3 at hD3 hE3 hB3 ⊢
        clear hn hD hE hB d0 d1 d1' df hE2 hg0 k1 k2 k3 k4 cu hm
        have b0 := hB3.cell 0
        have b2 := hB3.cell 2
        have e4 := hD3.1.cell 4
        cases n1
        · cases n2
          · obtain ⟨W4, hrun, hM4, hE4⟩ := hD3.2.delete (K := strWay) map_files key_files n
            have hrun' : ∀ ty, (Builtin.delete_ #[43, 9] ty #[.map (some m), .string n]).run Try.prog W3 = .ok (.tuple #[]) W4 := hrun
            clear hrun
            go_wp2
            go_ret
            exact ⟨rfl, hE3.trans hE4 (fun k _ h => .inr h), hD3.1.chg hE4 (fun h => hD3.2.ne_at hD3.1 h.symm), hM4⟩
          · skip
            have hq := fun wx => run_eql_map_nil (P := Try.prog) wx 43 9 81 (some m) map_files
            have b1 := hB3.cell 1
            have b3 := hB3.cell 3
            go_wp2_with fail
            obtain ⟨W4, hrun, hM4, hE4⟩ := files_upd (w := W3.drew) hD3.2 n false true s1 s2
            go_region
            all_goals
              go_wp2
              go_ret
              exact ⟨rfl, hE3.drew.trans hE4 (fun k _ h => .inr h), hD3.1.drew.chg hE4 (fun h => hD3.2.ne_at hD3.1 h.symm), hM4⟩
        · skip
          have hq := fun wx => run_eql_map_nil (P := Try.prog) wx 43 9 81 (some m) map_files
          have b1 := hB3.cell 1
          have b3 := hB3.cell 3
          go_wp2_with fail
          obtain ⟨W4, hrun, hM4, hE4⟩ := files_upd (w := W3.drew) hD3.2 n true n2 s1 s2
          go_region
          all_goals
            go_wp2
            go_ret
            exact ⟨rfl, hE3.drew.trans hE4 (fun k _ h => .inr h), hD3.1.drew.chg hE4 (fun h => hD3.2.ne_at hD3.1 h.symm), hM4⟩
end put
end Go.Proofs.Yteleafbfdfipdaa
