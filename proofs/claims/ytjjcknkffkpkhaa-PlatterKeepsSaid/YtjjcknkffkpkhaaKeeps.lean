/-
  PlatterKeeps: the walk.
-/
import Derived.Test.YtjjcknkffkpkhaaActs
import Derived.Deep.DeepFit
namespace Go.Proofs.Ytjjcknkffkpkhaa
open Go.RowKit Go.Sort

set_option maxRecDepth 100000 in
set_option maxHeartbeats 4000000 in
theorem keeps_any (s1 : ByteArray) (av : Value) (acts : List Act) (cv : Value) (ch : List Int) (w : World) (h1 : s1.size ≤ maxLen) (hA : Sln w av 7 (acts.map Act.cells)) (hAok : ∀ x ∈ acts, x.Ok) (hal : acts.length ≤ maxLen)
    (hS : Sl w cv (ch.map (Value.int .i64))) (hr : ∀ x ∈ ch, I64 x) (hcl : ch.length ≤ maxLen) :
    Calls Try.prog 7 #[.string s1, av, cv] w fun e w' => e = .returned (.bool true) ∧ Ext w w' := by
  unfold maxLen at hcl hal
  have hcb := sl_block hS
  have g1 := cut_size s1 60
  have k1 := cut_any s1 60 w h1 (by omega)
  generalize cut s1 60 = mine at g1 k1
  obtain ⟨A, c, rfl, hx⟩ := hA
  rw [List.length_map]
  go_enter Try.func7, Try.ntmps7
  go_wp2_with fail
  refine k1.mono ?_
  rintro e w' ⟨rfl, rfl⟩
  clear k1
  go_wp2_with fail
  refine (new_any _ _).mono ?_
  rintro e w1 ⟨d, m, rfl, hD, hE, hd, hm⟩
  go_wp2_with fail
  refine (awake_any _).mono ?_
  rintro e w1' ⟨rfl, hE1⟩
  replace hD := hD.ext hE1
  replace hE := hE.trans hE1
  clear hE1
  go_wp2_with fail
  have c1 := write_any w1' d m (Dk.new 100000) hD (Dk.new_ok 100000 (by decide)) bM mine (by unfold maxLen; omega)
  rw [mine_first mine g1] at c1
  refine c1.mono ?_
  rintro e w2 ⟨rfl, hC2, hD2⟩
  clear c1
  go_wp2_with fail
  have c2 := sync_any _ d m _ (hD2.alloc (.cells #[.string bM] 9)) (mine_ok mine g1 _ _ (Nat.zero_le _)) (.slice (some ⟨w2.heap.size, 0, none⟩) 1 1) [bM] (sl_one w2 9 _ 1) (by intro n hn; simp at hn; subst hn; unfold maxLen; decide) (by simp) (by simp) (fun h => by cases h)
  rw [mine_second mine g1] at c2
  refine c2.mono ?_
  rintro e w3 ⟨rfl, hC3, hD3⟩
  clear c2
  have X : Ext _ w3 := (hE.chg_trans ((hC2.alloc (.cells #[.string bM] 9)).trans hC3 (fun _ _ h => h))).mono (fun k hk h => by rcases h with rfl | rfl <;> omega)
  have hH3 := mine_holds mine g1
  clear hC2 hC3 hD hE hD2
  generalize (⟨100000, mine.size, false, 0, [(bM, ⟨true, mine, true, mine⟩)]⟩ : Dk) = D3 at hD3 hH3
  go_wp2_with fail
  go_loopw [8] (fun i wr => ∃ (k : Nat) (D : Dk), k ≤ acts.length ∧ k ≤ 20 ∧ i = .int .i64 k ∧ DkAt wr d m D ∧ Holds1 bM mine (60 * (k + 1)) (k + 1) D ∧ Chg (fun k => k = d ∨ k = m) w3 wr) (fun i _ => acts.length - (intOf i).toNat)
  case atStart => exact ⟨0, D3, Nat.zero_le _, Nat.zero_le _, rfl, hD3, hH3, Chg.refl _ _⟩
  case round =>
    clear hD3 hH3
    obtain ⟨k, D, hk, hk20, rfl, hD, hH, hCk⟩ := hrel
    by_cases hlt : k < acts.length ∧ k < 20
    · obtain ⟨hlt, hlt20⟩ := hlt
      have hne' : acts.map Act.cells ≠ [] := by intro e; rw [List.map_eq_nil_iff] at e; subst e; simp at hlt
      obtain ⟨b, o, rfl, hc⟩ := hx hne'
      have hs : acts[k]? = some acts[k] := List.getElem?_eq_getElem hlt
      have hrow := hc k acts[k].cells (by rw [List.getElem?_map, hs]; rfl)
      obtain ⟨hnum, ha, hb⟩ := hAok acts[k] (List.getElem_mem hlt)
      clear hc hs hx
      generalize acts[k] = act at hrow hnum ha hb
      obtain ⟨kind, num, a5, b60, ⟨m1, m2, m3⟩, ⟨n1, n2, n3⟩, by_⟩ := act
      simp only at hnum ha hb
      have hblt : b < _ := World.block_lt_of_cell? _ _ (hrow 0 _ rfl)
      have far : ∀ j u, (Act.cells ⟨kind, num, a5, b60, ⟨m1, m2, m3⟩, ⟨n1, n2, n3⟩, by_⟩)[j]? = some u → wr.cell? ⟨b, o + k * 7 + j, none⟩ = some u := fun j u hj => by
        have h0 := hrow j u hj
        have h1 := (Ext.cell X (p := ⟨b, o + k * 7 + j, none⟩) hblt).trans h0
        exact (hCk.cell (p := ⟨b, o + k * 7 + j, none⟩) (cell_lt h1) (fun h => by rcases h with h | h <;> simp only at h <;> omega)).trans h1
      have r0 : wr.cell? ⟨b, o + k * 7, none⟩ = some (.int .i64 kind) := far 0 _ rfl
      have r1 : wr.cell? ⟨b, o + k * 7 + 1, none⟩ = some (.int .i64 num) := far 1 _ rfl
      have r2 : wr.cell? ⟨b, o + k * 7 + 2, none⟩ = some (.string a5) := far 2 _ rfl
      have r3 : wr.cell? ⟨b, o + k * 7 + 3, none⟩ = some (.string b60) := far 3 _ rfl
      have r4 : wr.cell? ⟨b, o + k * 7 + 4, none⟩ = some (.slice m1 m2 m3) := far 4 _ rfl
      have r5 : wr.cell? ⟨b, o + k * 7 + 5, none⟩ = some (.slice n1 n2 n3) := far 5 _ rfl
      have r6 : wr.cell? ⟨b, o + k * 7 + 6, none⟩ = some (.int .u8 by_) := far 6 _ rfl
      clear far hrow
      have hnm : (⟨#[120]⟩ ++ cut a5 5 : ByteArray).size ≤ maxLen := by have := cut_size a5 5; unfold maxLen; rw [ByteArray.size_append]; show 1 + _ ≤ _; omega
      have hne := xname_ne (cut a5 5)
      have hc5 := cut_size a5 5
      by_cases q1 : kind = 1
      · subst q1
        go_wp2_with fail
        refine (cut_any a5 5 _ ha (by omega)).mono ?_
        rintro e w' ⟨rfl, rfl⟩
        go_wp2_with fail
        refine (cut_any b60 60 _ hb (by omega)).mono ?_
        rintro e w' ⟨rfl, rfl⟩
        have hc60 := cut_size b60 60
        go_wp2_with fail
        have cc := fun o => write_any (wr.alloc o) d m D (hD.alloc o) hH.ok (⟨#[120]⟩ ++ cut a5 5) (cut b60 60) (by unfold maxLen; omega)
        have hH2 : Holds1 bM mine (60 * (k + 1 + 1)) (k + 1 + 1) (D.change (⟨#[120]⟩ ++ cut a5 5) (fun _ => cut b60 60)).2 := hH.change hnm hne (by omega) (by unfold maxLen; omega) (by show (cut b60 60).size ≤ _; omega)
        generalize (D.change (⟨#[120]⟩ ++ cut a5 5) (fun _ => cut b60 60)) = q at cc hH2
        obtain ⟨r1, D2⟩ := q
        simp only at cc hH2
        with_reducible refine (cc _).mono ?_
        clear cc
        rintro e w2 ⟨rfl, hC2, hD2⟩
        have hC3 : Chg (fun k => k = d ∨ k = m) w3 w2 := (hCk.alloc _).trans hC2 (fun _ _ h => h)
        clear hCk hC2 hD hH
        go_wp2_with fail
        go_roundw
        case rel => exact ⟨k + 1, D2, by omega, by omega, by go_num, hD2, hH2, hC3⟩
        case measure => simp [intOf]; omega
      have e1 : (kind == 1) = false := by simpa using q1
      clear q1
      by_cases q2 : kind = 2
      · subst q2
        go_wp2_with fail
        refine (cut_any a5 5 _ ha (by omega)).mono ?_
        rintro e w' ⟨rfl, rfl⟩
        go_wp2_with fail
        refine (cut_any b60 60 _ hb (by omega)).mono ?_
        rintro e w' ⟨rfl, rfl⟩
        have hc60 := cut_size b60 60
        go_wp2_with fail
        have cc := fun o => append_any (wr.alloc o) d m D (hD.alloc o) hH.ok (⟨#[120]⟩ ++ cut a5 5) (cut b60 60) (by have := (hH.small (⟨#[120]⟩ ++ cut a5 5)).1; omega)
        have hH2 : Holds1 bM mine (60 * (k + 1 + 1)) (k + 1 + 1) (D.change (⟨#[120]⟩ ++ cut a5 5) (fun x => x ++ cut b60 60)).2 := hH.change hnm hne (by omega) (by unfold maxLen; omega) (by have := (hH.small (⟨#[120]⟩ ++ cut a5 5)).1; show (_ ++ cut b60 60).size ≤ _; rw [ByteArray.size_append]; omega)
        generalize (D.change (⟨#[120]⟩ ++ cut a5 5) (fun x => x ++ cut b60 60)) = q at cc hH2
        obtain ⟨r1, D2⟩ := q
        simp only at cc hH2
        with_reducible refine (cc _).mono ?_
        clear cc
        rintro e w2 ⟨rfl, hC2, hD2⟩
        have hC3 : Chg (fun k => k = d ∨ k = m) w3 w2 := (hCk.alloc _).trans hC2 (fun _ _ h => h)
        clear hCk hC2 hD hH
        go_wp2_with fail
        go_roundw
        case rel => exact ⟨k + 1, D2, by omega, by omega, by go_num, hD2, hH2, hC3⟩
        case measure => simp [intOf]; omega
      have e2 : (kind == 2) = false := by simpa using q2
      clear q2
      by_cases q3 : kind = 3
      · subst q3
        go_wp2_with fail
        refine (cut_any a5 5 _ ha (by omega)).mono ?_
        rintro e w' ⟨rfl, rfl⟩
        go_wp2_with fail
        have c2 := remove_any ((wr.alloc (.cells #[.int .i64 3, .int .i64 num, .string a5, .string b60, .slice m1 m2 m3, .slice n1 n2 n3, .int .u8 by_] 47)).alloc (.cells #[.string (⟨#[120]⟩ ++ cut a5 5)] 9)) d m D ((hD.alloc _).alloc _) hH.ok (.slice (some ⟨wr.heap.size + 1, 0, none⟩) 1 1) [⟨#[120]⟩ ++ cut a5 5] (sl_one' _ 9 _ 1 (by simp)) (by intro n hn; simp only [List.mem_cons, List.not_mem_nil, or_false] at hn; subst hn; exact hnm) (by simp)
        have hH2 : Holds1 bM mine (60 * (k + 1 + 1)) (k + 1 + 1) (D.remove [⟨#[120]⟩ ++ cut a5 5]).2 := (hH.remove hnm hne (by unfold maxLen; omega)).mono (by omega) (by omega)
        generalize (D.remove [⟨#[120]⟩ ++ cut a5 5]) = q at c2 hH2
        obtain ⟨r1, D2⟩ := q
        simp only at c2 hH2
        go_fit c2
        clear c2
        rintro e w2 ⟨rfl, hC2, hD2⟩
        have hC3 : Chg (fun k => k = d ∨ k = m) w3 w2 := ((hCk.alloc _).alloc _).trans hC2 (fun _ _ h => h)
        clear hCk hC2 hD hH
        go_wp2_with fail
        go_roundw
        case rel => exact ⟨k + 1, D2, by omega, by omega, by go_num, hD2, hH2, hC3⟩
        case measure => simp [intOf]; omega
      have e3 : (kind == 3) = false := by simpa using q3
      clear q3
      by_cases q4 : kind = 4
      · subst q4
        go_wp2_with fail
        refine (cut_any a5 5 _ ha (by omega)).mono ?_
        rintro e w' ⟨rfl, rfl⟩
        go_wp2_with fail
        have c2 := sync_any ((wr.alloc (.cells #[.int .i64 4, .int .i64 num, .string a5, .string b60, .slice m1 m2 m3, .slice n1 n2 n3, .int .u8 by_] 47)).alloc (.cells #[.string (⟨#[120]⟩ ++ cut a5 5)] 9)) d m D ((hD.alloc _).alloc _) hH.ok (.slice (some ⟨wr.heap.size + 1, 0, none⟩) 1 1) [⟨#[120]⟩ ++ cut a5 5] (sl_one' _ 9 _ 1 (by simp)) (by intro n hn; simp only [List.mem_cons, List.not_mem_nil, or_false] at hn; subst hn; exact hnm) (by simp) (by have := hH.few; omega) (fun h => by cases h)
        have hH2 : Holds1 bM mine (60 * (k + 1 + 1)) (k + 1 + 1) (D.sync [⟨#[120]⟩ ++ cut a5 5]).2 := (hH.sync (by intro n hn; simp only [List.mem_cons, List.not_mem_nil, or_false] at hn; subst hn; exact hnm) (by unfold maxLen; omega)).mono (by omega) (by omega)
        generalize (D.sync [⟨#[120]⟩ ++ cut a5 5]) = q at c2 hH2
        obtain ⟨r1, D2⟩ := q
        simp only at c2 hH2
        go_fit c2
        clear c2
        rintro e w2 ⟨rfl, hC2, hD2⟩
        have hC3 : Chg (fun k => k = d ∨ k = m) w3 w2 := ((hCk.alloc _).alloc _).trans hC2 (fun _ _ h => h)
        clear hCk hC2 hD hH
        go_wp2_with fail
        go_roundw
        case rel => exact ⟨k + 1, D2, by omega, by omega, by go_num, hD2, hH2, hC3⟩
        case measure => simp [intOf]; omega
      have e4 : (kind == 4) = false := by simpa using q4
      clear q4
      by_cases q5 : kind = 5
      · subst q5
        go_wp2_with fail
        refine (cut_any a5 5 _ ha (by omega)).mono ?_
        rintro e w' ⟨rfl, rfl⟩
        go_wp2_with fail
        have cc := fun o => sync_any (wr.alloc o) d m D (hD.alloc o) hH.ok (.slice none 0 0) [] (Sl.nil _ _) (by simp) (by simp) (by have := hH.few; omega) (fun _ => ⟨_, rfl⟩)
        have hH2 : Holds1 bM mine (60 * (k + 1 + 1)) (k + 1 + 1) (D.sync []).2 := (hH.sync (by simp) (by unfold maxLen; omega)).mono (by omega) (by omega)
        generalize (D.sync []) = q at cc hH2
        obtain ⟨r1, D2⟩ := q
        simp only at cc hH2
        with_reducible refine (cc _).mono ?_
        clear cc
        rintro e w2 ⟨rfl, hC2, hD2⟩
        have hC3 : Chg (fun k => k = d ∨ k = m) w3 w2 := (hCk.alloc _).trans hC2 (fun _ _ h => h)
        clear hCk hC2 hD hH
        go_wp2_with fail
        go_roundw
        case rel => exact ⟨k + 1, D2, by omega, by omega, by go_num, hD2, hH2, hC3⟩
        case measure => simp [intOf]; omega
      have e5 : (kind == 5) = false := by simpa using q5
      clear q5
      by_cases q9 : kind = 9
      · subst q9
        go_wp2_with fail
        refine (cut_any a5 5 _ ha (by omega)).mono ?_
        rintro e w' ⟨rfl, rfl⟩
        go_wp2_with fail
        have qn : ∀ t dr os out, World.cell? { heap := (wr.alloc (.cells #[.int .i64 9, .int .i64 num, .string a5, .string b60, .slice m1 m2 m3, .slice n1 n2 n3, .int .u8 by_] 47)).heap, tape := t, drawn := dr, os := os, output := out } ⟨wr.heap.size, 1, none⟩ = some (.int .i64 num) := fun _ _ _ _ => (At.new wr 47 #[.int .i64 9, .int .i64 num, .string a5, .string b60, .slice m1 m2 m3, .slice n1 n2 n3, .int .u8 by_]).cell 1
        go_still_tail 5, (by kernel_rfl)
        clear qn
        go_wp2_with fail
        have c9 := fail_any (wr.alloc (.cells #[.int .i64 9, .int .i64 num, .string a5, .string b60, .slice m1 m2 m3, .slice n1 n2 n3, .int .u8 by_] 47)).drew d m D (hD.alloc _) num hnum.2
        have hH2 : Holds1 bM mine (60 * (k + 1 + 1)) (k + 1 + 1) (D.fail num) := (hH.fail num).mono (by omega) (by omega)
        generalize (D.fail num) = D2 at c9 hH2
        refine c9.mono ?_
        clear c9
        rintro e w2 ⟨rfl, hC2, hD2⟩
        have hC3 : Chg (fun k => k = d ∨ k = m) w3 w2 := ((hCk.alloc _).drew).trans hC2 (fun _ _ h => .inl h)
        clear hCk hC2 hD hH
        go_wp2_with fail
        go_roundw
        case rel => exact ⟨k + 1, D2, by omega, by omega, by go_num, hD2, hH2, hC3⟩
        case measure => simp [intOf]; omega
      have e9 : (kind == 9) = false := by simpa using q9
      clear q9
      go_wp2_with fail
      refine (cut_any a5 5 _ ha (by omega)).mono ?_
      rintro e w' ⟨rfl, rfl⟩
      go_wp2_with fail
      go_roundw
      case rel => exact ⟨k + 1, D, by omega, by omega, by go_num, hD.alloc _, hH.mono (by omega) (by omega), hCk.alloc _⟩
      case measure => simp [intOf]; omega
    · by_cases hlt1 : k < acts.length
      · have hlt20 : 20 ≤ k := by omega
        clear hlt hx
        go_wp2_with fail
        have hok : (D.crash ch).Ok := hH.ok.crash ch
        have hget : (D.crash ch).get bM = ⟨true, mine, true, mine⟩ := by rw [crash_get D ch bM (by rw [hH.have_]; simp [Fl.safe]), hH.have_]
        have hsafe := crash_safe D ch
        have hlost : (D.crash ch).lost = false := by rw [crash_lost]; exact hH.lost
        refine (crash_any _ d m D hD hH.ok (fun n => by have := hH.small n; omega) (by have := hH.few; omega) cv ch ((hS.ext X).chg hCk (fun b o n c hv hne hb => by have := hcb b o n c hv hne; omega)) hr hcl (fun b o n c hv hne hb => by have := hcb b o n c hv hne; omega)).mono ?_
        rintro e w5 ⟨rfl, hC5, hD5⟩
        generalize D.crash ch = D5 at hok hget hsafe hlost hD5
        clear hD hH
        go_wp2_with fail
        refine (fail_any _ d m D5 hD5 (-1) (by decide)).mono ?_
        rintro e w6 ⟨rfl, hC6, hD6⟩
        have hok6 : (D5.fail (-1)).Ok := ⟨hok.u0, hok.u1, hok.r1, Int.le_refl _, by show (0 : Int) ≤ 9223372036854775807; decide, hok.srt, hok.keys, hok.t⟩
        have he6 : (D5.fail (-1)).e = 0 := by unfold Dk.e tryE Dk.fail; simp [hlost]
        have hread : (D5.fail (-1)).read bM = (mine, 0) := by
          unfold Dk.read
          have hg : (D5.fail (-1)).get bM = ⟨true, mine, true, mine⟩ := hget
          rw [if_neg (by rw [he6]; simp), hg, if_pos rfl]
        go_wp2_with fail
        have c7 := read_any w6 d m _ hD6 hok6 bM
        rw [hread] at c7
        refine c7.mono ?_
        rintro e w7 ⟨rfl, hC7, hD7⟩
        clear c7
        have hall : (D5.fail (-1)).tick.allSafe = true := allSafe_of hok.srt hsafe
        go_wp2_with fail
        have c8 := safe_any w7 d m _ hD7
        rw [hall] at c8
        refine c8.mono ?_
        rintro e w8 ⟨rfl, hE8⟩
        clear c8
        go_wp2_with fail
        go_ret
        exact ⟨rfl, (X.chg_trans (((hCk.trans hC5 (fun _ _ h => h)).trans hC6 (fun _ _ h => .inl h)).trans hC7 (fun _ _ h => .inl h) |>.ext_trans hE8)).mono (fun k hk h => by rcases h with rfl | rfl <;> omega)⟩
      · clear hlt hx
        go_wp2_with fail
        have hok : (D.crash ch).Ok := hH.ok.crash ch
        have hget : (D.crash ch).get bM = ⟨true, mine, true, mine⟩ := by rw [crash_get D ch bM (by rw [hH.have_]; simp [Fl.safe]), hH.have_]
        have hsafe := crash_safe D ch
        have hlost : (D.crash ch).lost = false := by rw [crash_lost]; exact hH.lost
        refine (crash_any _ d m D hD hH.ok (fun n => by have := hH.small n; omega) (by have := hH.few; omega) cv ch ((hS.ext X).chg hCk (fun b o n c hv hne hb => by have := hcb b o n c hv hne; omega)) hr hcl (fun b o n c hv hne hb => by have := hcb b o n c hv hne; omega)).mono ?_
        rintro e w5 ⟨rfl, hC5, hD5⟩
        generalize D.crash ch = D5 at hok hget hsafe hlost hD5
        clear hD hH
        go_wp2_with fail
        refine (fail_any _ d m D5 hD5 (-1) (by decide)).mono ?_
        rintro e w6 ⟨rfl, hC6, hD6⟩
        have hok6 : (D5.fail (-1)).Ok := ⟨hok.u0, hok.u1, hok.r1, Int.le_refl _, by show (0 : Int) ≤ 9223372036854775807; decide, hok.srt, hok.keys, hok.t⟩
        have he6 : (D5.fail (-1)).e = 0 := by unfold Dk.e tryE Dk.fail; simp [hlost]
        have hread : (D5.fail (-1)).read bM = (mine, 0) := by
          unfold Dk.read
          have hg : (D5.fail (-1)).get bM = ⟨true, mine, true, mine⟩ := hget
          rw [if_neg (by rw [he6]; simp), hg, if_pos rfl]
        go_wp2_with fail
        have c7 := read_any w6 d m _ hD6 hok6 bM
        rw [hread] at c7
        refine c7.mono ?_
        rintro e w7 ⟨rfl, hC7, hD7⟩
        clear c7
        have hall : (D5.fail (-1)).tick.allSafe = true := allSafe_of hok.srt hsafe
        go_wp2_with fail
        have c8 := safe_any w7 d m _ hD7
        rw [hall] at c8
        refine c8.mono ?_
        rintro e w8 ⟨rfl, hE8⟩
        clear c8
        go_wp2_with fail
        go_ret
        exact ⟨rfl, (X.chg_trans (((hCk.trans hC5 (fun _ _ h => h)).trans hC6 (fun _ _ h => .inl h)).trans hC7 (fun _ _ h => .inl h) |>.ext_trans hE8)).mono (fun k hk h => by rcases h with rfl | rfl <;> omega)⟩
end Go.Proofs.Ytjjcknkffkpkhaa
