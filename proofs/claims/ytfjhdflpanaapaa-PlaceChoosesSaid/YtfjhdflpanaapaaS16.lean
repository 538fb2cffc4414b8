/-
  Part 16 of what the law leans on.
-/
import Derived.Test.YtfjhdflpanaapaaS3
import Derived.Test.YtfjhdflpanaapaaS6
import Derived.Test.YtfjhdflpanaapaaS7
import Derived.Test.YtfjhdflpanaapaaS13
import Derived.Test.YtfjhdflpanaapaaS15
set_option linter.unusedVariables false
set_option linter.unusedSimpArgs false
set_option linter.unusedSectionVars false
namespace Go.Proofs.Ytfjhdflpanaapaa
open Go.RowKit Go.Sort
theorem turnsOf_len (l : List Spot) (size copies : Int) (hv : List Int) : ∀ t, (turnsOf l size copies hv t).length ≤ hv.length + t
  | 0 => Nat.le_refl _
  | t + 1 => by
    have := turnsOf_len l size copies hv t
    unfold turnsOf
    split
    · simp; omega
    · omega
theorem outI_len (ch : List Int) : ∀ n, (outI ch n).length ≤ n
  | 0 => Nat.le_refl _
  | n + 1 => by
    have := outI_len ch n
    unfold outI
    split
    · simp; omega
    · omega
theorem bestOf_range (l : List Spot) (size : Int) (ch : List Int) (n : Nat) : -1 ≤ bestOf l size ch n ∧ bestOf l size ch n < n := by
  rcases bestOf_spec l size ch n with ⟨h, _⟩ | ⟨b, h, h2, _⟩ <;> rw [h] <;> omega
theorem own_ext {w w' : World} {base : Nat} {e : TypeId} {size : Nat} {v : Value} {n : Nat} {xs : List Value} (h : w.ownsRow base e size v n xs) (hE : Ext w w') : w'.ownsRow base e size v n xs := own_keep h (Ext.chg (S := fun _ => False) hE) (fun _ _ h => h)
theorem own_lower {w : World} {base base' : Nat} {e : TypeId} {size : Nat} {v : Value} {n : Nat} {xs : List Value} (h : w.ownsRow base e size v n xs) (hb : base' ≤ base) : w.ownsRow base' e size v n xs := by
  obtain ⟨h1, h2⟩ := h
  rcases h2 with h2 | ⟨g, cap, cur, hv, hb', r⟩
  · exact ⟨h1, .inl h2⟩
  · exact ⟨h1, .inr ⟨g, cap, cur, hv, by omega, r⟩⟩
set_option maxRecDepth 100000 in
set_option maxHeartbeats 4000000 in
theorem rdisks_any (w : World) (lv hvv : Value) (l : List Spot) (hv : List Int) (hS : Sln w lv 2 (l.map Spot.cells)) (hH : Sl w hvv (hv.map (Value.int .i64))) (hl : l.length ≤ 12) (hhl : hv.length ≤ 12) (size copies : Int) :
    Calls Try.prog 9 #[lv, .int .i64 size, .int .i64 copies, hvv] w fun e w' => ∃ v : Value, e = .returned (.tuple #[v, .bool (decide (copies ≤ ((outI (turnsOf l size copies hv l.length) 12).length : Int)))]) ∧ w'.ownsRow w.heap.size 3 1 v (outI (turnsOf l size copies hv l.length) 12).length ((outI (turnsOf l size copies hv l.length) 12).map (Value.int .i64)) ∧ Ext w w' := by
  obtain ⟨i0, hi, hz0, hz1, hz2⟩ := info_parts int_info
  obtain ⟨LA, lc, rfl, hlx⟩ := hS
  have hS : Sln w (.slice LA (l.map Spot.cells).length lc) 2 (l.map Spot.cells) := ⟨LA, lc, rfl, hlx⟩
  clear hlx
  rw [List.length_map] at hS ⊢
  go_enter Try.func9, Try.ntmps9
  have hO0 := own_empty' w 3 1 rfl
  have hE0 := (Ext.refl w).alloc (.cells #[] 3)
  go_wp2_with (at_builtin; refine wpList_append_sln hO0 ((hH.ext hE0).sln) (one_len _) (ints_one _) 23 Try.underlying23 int_info rfl (by decide) (by decide) (by simp; omega) (by simp) rfl _ _ rfl rfl rfl ?_)
  intro cv w1 hown hgrow
  have hE1 : Ext w w1 := Chg.own_ext hE0 hgrow hO0 (Nat.le_refl _)
  clear hgrow hO0 hE0
  have HB := Lib.hid (show w.heap.size ≤ w1.heap.size from hE1.size)
  replace hown : w1.ownsRow w.heap.size 3 1 cv hv.length (hv.map (Value.int .i64)) := by
    have e : ∀ q : List Int, (q.map ((fun x => [x]) ∘ Value.int .i64)).flatten = q.map (Value.int .i64) := fun q => by
      induction q with
      | nil => rfl
      | cons a q ih => simp [ih]
    rw [e] at hown
    exact hown
  clear hH
  go_wp2_with fail
  go_loopw [10, 11] (fun cv tv wr => ∃ t : Nat, t ≤ l.length ∧ tv = .int .i64 (t : Int) ∧ wr.ownsRow w.heap.size 3 1 cv (turnsOf l size copies hv t).length ((turnsOf l size copies hv t).map (Value.int .i64)) ∧ Ext w wr) (fun _ tv _ => l.length - (intOf tv).toNat)
  case atStart => exact ⟨0, Nat.zero_le _, rfl, hown, hE1⟩
  case round =>
    clear hown
    obtain ⟨w2, hw2⟩ : ∃ w2, w2 = wr := ⟨_, rfl⟩
    subst hw2
    obtain ⟨t, ht, rfl, hown, hE⟩ := hrel
    by_cases hlt : t < l.length
    · have hS2 := hS.ext hE
      have hcl := turnsOf_len l size copies hv t
      have htu : turnsOf l size copies hv (t + 1) = if 0 ≤ bestOf l size (turnsOf l size copies hv t) l.length ∧ ((turnsOf l size copies hv t).length : Int) < copies then turnsOf l size copies hv t ++ [bestOf l size (turnsOf l size copies hv t) l.length] else turnsOf l size copies hv t := rfl
      generalize turnsOf l size copies hv t = ch at hown hcl htu
      have HTU := Lib.hid htu
      clear htu
      obtain ⟨b, o, rfl⟩ := sln_at hS2 hlt
      go_wp2_with fail
      go_loopw [12, 28] (fun bv iv wx => ∃ k : Nat, k ≤ l.length ∧ iv = .int .i64 (k : Int) ∧ bv = .int .i64 (bestOf l size ch k) ∧ Ext w2 wx) (fun _ iv _ => l.length - (intOf iv).toNat)
      case atStart => exact ⟨0, Nat.zero_le _, rfl, rfl, Ext.refl _⟩
      case round =>
        obtain ⟨k, hk, rfl, rfl, hEk⟩ := hrel
        by_cases hlk : k < l.length
        · have hSk := hS2.ext hEk
          obtain ⟨r0, r1⟩ := spot_cells hSk hlk
          have hbr := bestOf_range l size ch k
          have hbs : bestOf l size ch (k + 1) = if ((spotAt l k).fits size && !(ch.contains (k : Int)) && (decide (bestOf l size ch k < 0) || decide ((spotAt l (bestOf l size ch k).toNat).free < (spotAt l k).free))) = true then (k : Int) else bestOf l size ch k := rfl
          obtain ⟨⟨u, f⟩, hsp⟩ : ∃ s, s = spotAt l k := ⟨_, rfl⟩
          rw [← hsp] at r0 r1 hbs
          generalize hbst : bestOf l size ch k = bst at hbs hbr ⊢
          clear hbst
          simp only [] at r0 r1 hbs
          go_upto_region 9 with fail
          obtain ⟨wy, hwy⟩ : ∃ wy, wy = wr.alloc (.cells #[.bool u, .int .i64 f] 50) := ⟨_, rfl⟩
          have hXb := At.new wr 50 #[.bool u, .int .i64 f]
          rw [← hwy] at hXb ⊢
          have hEy : Ext w2 wy := by rw [hwy]; exact hEk.alloc _
          clear hwy
          have hSy := hS2.ext hEy
          generalize wr.heap.size = yb at hXb ⊢
          have HIN : Hid (∀ dd os, Calls Try.prog 24 #[.int .i64 (k : Int), u10] (grow (redrawn wy dd) os) fun e w'' => e = .returned (.bool (ch.contains (k : Int))) ∧ ∃ p : Regrown, w'' = grow (redrawn wy p.d) p.os) := Lib.hid fun dd os => Calls.ext_of (rin_any _ (k : Int) u10 ch (Sl.of_own (own_ext hown (hEy.trans (ext_regrown wy dd os)))) (by omega))
          have rg : ∀ {p : Addr} {u : Value}, wy.cell? p = some u → ∀ d os, (grow (redrawn wy d) os).cell? p = some u := fun h d os => (Ext.cell (ext_regrown wy d os) (cell_lt h)).trans h
          have x0 := hXb.cell 0
          have x1 := hXb.cell 1
          simp at x0 x1
          have rx0 := rg x0
          have rx1 := rg x1
          clear hXb r0 r1 hsp
          cases u
          · have HBK := Lib.hid (show bestOf l size ch (k + 1) = bst from by rw [hbs]; simp [Spot.fits])
            clear hbs
            go_wp2_with fail
            refine wp_region_quiet_ext (by kernel_rfl) (by kernel_rfl) ?_
            repeat (go_big_quiet_step (with_reducible exact HIN.out _ _))
            refine wpQuiet_nil ?_
            intro W8 hE8
            go_wp2_with fail
            go_roundw
            case rel => exact ⟨k + 1, by omega, by go_num, by rw [HBK.out], hEy.trans hE8⟩
            case measure => simp [intOf]; omega
          · by_cases hf : size ≤ f
            · have t1 : decide (size ≤ f) = true := by simpa using hf
              cases hin : ch.contains (k : Int)
              · rw [hin] at HIN hbs
                by_cases hb0 : bst < 0
                · have t2 : decide (bst < 0) = true := by simpa using hb0
                  have HBK := Lib.hid (show bestOf l size ch (k + 1) = (k : Int) from by rw [hbs]; simp [Spot.fits, hf, hb0])
                  clear hbs
                  go_wp2_with fail
                  refine wp_region_quiet_ext (by kernel_rfl) (by kernel_rfl) ?_
                  repeat (go_big_quiet_step (with_reducible exact HIN.out _ _))
                  refine wpQuiet_nil ?_
                  intro W8 hE8
                  go_wp2_with fail
                  go_roundw
                  case rel => exact ⟨k + 1, by omega, by go_num, by rw [HBK.out], hEy.trans hE8⟩
                  case measure => simp [intOf]; omega
                · have t2 : decide (bst < 0) = false := by simpa using hb0
                  obtain ⟨j, rfl⟩ : ∃ j : Nat, bst = (j : Int) := ⟨bst.toNat, by omega⟩
                  have hjl : j < l.length := by omega
                  obtain ⟨_, q1⟩ := spot_cells hSy hjl
                  have q1r := rg q1
                  rw [show ((j : Int)).toNat = j from rfl] at hbs
                  generalize (spotAt l j).free = g at q1 q1r hbs
                  by_cases hg : g < f
                  · have t3 : decide (g < f) = true := by simpa using hg
                    have HBK := Lib.hid (show bestOf l size ch (k + 1) = (k : Int) from by rw [hbs]; simp [Spot.fits, hf, hg])
                    clear hbs
                    go_wp2_with fail
                    refine wp_region_quiet_ext (by kernel_rfl) (by kernel_rfl) ?_
                    repeat (go_big_quiet_step (with_reducible exact HIN.out _ _))
                    refine wpQuiet_nil ?_
                    intro W8 hE8
                    go_wp2_with fail
                    go_roundw
                    case rel => exact ⟨k + 1, by omega, by go_num, by rw [HBK.out], hEy.trans hE8⟩
                    case measure => simp [intOf]; omega
                  · have t3 : decide (g < f) = false := by simpa using hg
                    have HBK := Lib.hid (show bestOf l size ch (k + 1) = (j : Int) from by rw [hbs]; simp [Spot.fits, hf, hg]; omega)
                    clear hbs
                    go_wp2_with fail
                    refine wp_region_quiet_ext (by kernel_rfl) (by kernel_rfl) ?_
                    repeat (go_big_quiet_step (with_reducible exact HIN.out _ _))
                    refine wpQuiet_nil ?_
                    intro W8 hE8
                    go_wp2_with fail
                    go_roundw
                    case rel => exact ⟨k + 1, by omega, by go_num, by rw [HBK.out], hEy.trans hE8⟩
                    case measure => simp [intOf]; omega
              · rw [hin] at HIN hbs
                have HBK := Lib.hid (show bestOf l size ch (k + 1) = bst from by rw [hbs]; simp [Spot.fits])
                clear hbs
                go_wp2_with fail
                refine wp_region_quiet_ext (by kernel_rfl) (by kernel_rfl) ?_
                repeat (go_big_quiet_step (with_reducible exact HIN.out _ _))
                refine wpQuiet_nil ?_
                intro W8 hE8
                go_wp2_with fail
                go_roundw
                case rel => exact ⟨k + 1, by omega, by go_num, by rw [HBK.out], hEy.trans hE8⟩
                case measure => simp [intOf]; omega
            · have t1 : decide (size ≤ f) = false := by simpa using hf
              have HBK := Lib.hid (show bestOf l size ch (k + 1) = bst from by rw [hbs]; simp [Spot.fits, hf])
              clear hbs
              go_wp2_with fail
              refine wp_region_quiet_ext (by kernel_rfl) (by kernel_rfl) ?_
              repeat (go_big_quiet_step (with_reducible exact HIN.out _ _))
              refine wpQuiet_nil ?_
              intro W8 hE8
              go_wp2_with fail
              go_roundw
              case rel => exact ⟨k + 1, by omega, by go_num, by rw [HBK.out], hEy.trans hE8⟩
              case measure => simp [intOf]; omega
        · obtain rfl : k = l.length := by omega
          have hbr := bestOf_range l size ch l.length
          generalize bestOf l size ch l.length = bst at HTU hbr ⊢
          have hown3 := own_ext hown hEk
          have hE3 := hE.trans hEk
          clear hown hE hEk hS2
          have hcl2 : ch.length ≤ 24 := by omega
          by_cases h0 : 0 ≤ bst
          · by_cases h1 : (ch.length : Int) < copies
            · have t1 : decide (0 ≤ bst) = true := by simpa using h0
              have t2 : decide ((ch.length : Int) < copies) = true := by simpa using h1
              have hnx : turnsOf l size copies hv (t + 1) = ch ++ [bst] := by rw [HTU.out, if_pos ⟨h0, h1⟩]
              have HNX := Lib.hid hnx
              clear hnx
              obtain ⟨CA, cc, rfl⟩ := own_slc hown3
              go_wp2_with (at_builtin; refine wpList_append_own _ rfl _ _ 23 rfl w.heap.size 3 i0 (.int .i64 0) 1 8 Try.underlying23 hi hz0 hz1 hz2 rfl (by decide) _ _ _ rfl (hown3.alloc _) ⟨wr.heap.size, 0, none⟩ 1 1 [.int .i64 bst] rfl rfl ?c1 ?c2 ?c3 ?c4 ?c5 ?_)
              case c1 => exact cell_one
              case c2 => simp [Value.oneCell']
              case c3 => unfold maxLen; omega
              case c4 => omega
              case c5 => have := hE3.size; simp; omega
              intro v1 w4 hown4 hgrow4 _
              have hge := own_ge (hown3.alloc (.cells #[.int .i64 bst] 3))
              have hE4 : Ext w w4 := Chg.mono ((hE3.alloc _).chg_trans (Chg.of_grown hgrow4)) fun j hj h => by have := hge j h; omega
              clear hgrow4 hge
              go_wp2
              go_roundw
              case rel => exact ⟨t + 1, by omega, by go_num, by rw [HNX.out]; simpa using hown4, hE4⟩
              case measure => simp [intOf]; omega
            · have t1 : decide (0 ≤ bst) = true := by simpa using h0
              have t2 : decide ((ch.length : Int) < copies) = false := by simpa using h1
              have hnx : turnsOf l size copies hv (t + 1) = ch := by rw [HTU.out, if_neg (fun h => h1 h.2)]
              have HNX := Lib.hid hnx
              clear hnx
              obtain ⟨CA, cc, rfl⟩ := own_slc hown3
              go_wp2_with fail
              go_roundw
              case rel => exact ⟨t + 1, by omega, by go_num, by rw [HNX.out]; exact hown3, hE3⟩
              case measure => simp [intOf]; omega
          · have t1 : decide (0 ≤ bst) = false := by simpa using h0
            have hnx : turnsOf l size copies hv (t + 1) = ch := by rw [HTU.out, if_neg (fun h => h0 h.1)]
            have HNX := Lib.hid hnx
            clear hnx
            go_wp2_with fail
            go_roundw
            case rel => exact ⟨t + 1, by omega, by go_num, by rw [HNX.out]; exact hown3, hE3⟩
            case measure => simp [intOf]; omega
    · obtain rfl : t = l.length := by omega
      have hcl := turnsOf_len l size copies hv l.length
      generalize hch : turnsOf l size copies hv l.length = ch at hown hcl ⊢
      have HCH := Lib.hid hch
      clear hch
      go_wp2_with fail
      have hO := own_empty (w := w2) (base := w2.heap.size) (e := 3) (size := 1) (Nat.le_refl _)
      have hEo := (Ext.refl w2).alloc (.cells #[] 3)
      generalize w2.alloc (.cells #[] 3) = w3 at hO hEo ⊢
      have hcs := Sl.of_own hown
      go_loopw [15, 16] (fun ov iv wr => ∃ k : Nat, k ≤ 12 ∧ iv = .int .i64 (k : Int) ∧ wr.ownsRow w2.heap.size 3 1 ov (outI ch k).length ((outI ch k).map (Value.int .i64)) ∧ Ext w2 wr) (fun _ iv _ => 12 - (intOf iv).toNat)
      case atStart => exact ⟨0, Nat.zero_le _, rfl, hO, hEo⟩
      case round =>
        clear hO
        obtain ⟨k, hk, rfl, hownk, hEk⟩ := hrel
        by_cases hlk : k < 12
        · have hck := hcs.ext hEk
          have hEw := hE.trans hEk
          have hol := outI_len ch k
          have hon : outI ch (k + 1) = if ch.contains (k : Int) = true then outI ch k ++ [(k : Int)] else outI ch k := rfl
          generalize outI ch k = os at hownk hol hon
          have HIC := rin_any wr (k : Int) u10 ch hck (by omega)
          have t0 : decide (k < 12) = true := by simpa using hlk
          go_wp2_with fail
          refine HIC.mono ?_
          rintro e w5 ⟨rfl, hE5⟩
          have hown5 := own_ext hownk hE5
          have hEw5 := hEw.trans hE5
          have hE35 := hEk.trans hE5
          clear HIC hownk hEk hck hEw
          cases hc : ch.contains (k : Int)
          · rw [hc] at hon
            have HON := Lib.hid (show outI ch (k + 1) = os by rw [hon]; simp)
            clear hon
            go_wp2_with fail
            go_roundw
            case rel => exact ⟨k + 1, by omega, by go_num, by rw [HON.out]; exact hown5, hE35⟩
            case measure => simp [intOf]; omega
          · rw [hc] at hon
            have HON := Lib.hid (show outI ch (k + 1) = os ++ [(k : Int)] by rw [hon]; simp)
            clear hon
            obtain ⟨CA, cc, rfl⟩ := own_slc hown5
            go_wp2_with (at_builtin; refine wpList_append_own _ rfl _ _ 23 rfl w2.heap.size 3 i0 (.int .i64 0) 1 8 Try.underlying23 hi hz0 hz1 hz2 rfl (by decide) _ _ _ rfl (hown5.alloc _) ⟨w5.heap.size, 0, none⟩ 1 1 [.int .i64 (k : Int)] rfl rfl ?c1 ?c2 ?c3 ?c4 ?c5 ?_)
            case c1 => exact cell_one
            case c2 => simp [Value.oneCell']
            case c3 => unfold maxLen; omega
            case c4 => omega
            case c5 => have := hE35.size; simp; omega
            intro v1 w6 hown6 hgrow6 _
            have hge := own_ge (hown5.alloc (.cells #[.int .i64 (k : Int)] 3))
            have hE6 : Ext w2 w6 := Chg.mono ((hE35.alloc _).chg_trans (Chg.of_grown hgrow6)) fun j hj h => by have := hge j h; omega
            clear hgrow6 hge
            go_wp2
            go_roundw
            case rel => exact ⟨k + 1, by omega, by go_num, by rw [HON.out]; simpa using hown6, hE6⟩
            case measure => simp [intOf]; omega
        · obtain rfl : k = 12 := by omega
          have hEw := hE.trans hEk
          have hres := own_lower hownk hE.size
          generalize hos : outI ch 12 = os at hres ⊢
          have HOS := Lib.hid hos
          clear hownk hos
          obtain ⟨OA, oc, rfl⟩ := own_slc hres
          go_wp2_with fail
          go_ret2
          rw [HCH.out, HOS.out]
          exact ⟨_, rfl, hres, hEw⟩
end Go.Proofs.Ytfjhdflpanaapaa
namespace Go.Proofs.Ytfjhdflpanaapaa
def mayV (P : Pm) (l : List Spot) (pool size not_ : Int) (i : Nat) : Bool := decide (((i : Int) % 2) = pool) && !decide ((i : Int) = not_) && (spotAt l i).fits size && !(P.vol i).closed
def volOf (P : Pm) (l : List Spot) (pool size not_ : Int) : Nat → Int
  | 0 => -1
  | n + 1 => if (mayV P l pool size not_ n && (decide (volOf P l pool size not_ n < 0) || decide ((spotAt l n).free < (spotAt l (volOf P l pool size not_ n).toNat).free))) = true then (n : Int) else volOf P l pool size not_ n
theorem volOf_range (P : Pm) (l : List Spot) (pool size not_ : Int) : ∀ n, -1 ≤ volOf P l pool size not_ n ∧ volOf P l pool size not_ n < n
  | 0 => by simp [volOf]
  | n + 1 => by
    have := volOf_range P l pool size not_ n
    unfold volOf
    split <;> constructor <;> omega
def goneOf (P : Pm) (l : List Spot) (items : List Int) (i : Nat) : Int :=
  if (decide (i < items.length) && decide (0 < items.getD i 0) && (spotAt l i).up && (P.vol i).closed && !(P.vol i).erase && decide ((P.onVol i).length ≠ 0)) = true then (items.getD i 0 - ((P.onVol i).length : Int)) * 100 / items.getD i 0 else 0
def sparseOf (P : Pm) (l : List Spot) (items : List Int) (percent : Int) : Nat → Int × Int
  | 0 => (-1, 0)
  | n + 1 => if (decide ((sparseOf P l items percent n).2 < goneOf P l items n) && decide (percent ≤ goneOf P l items n)) = true then ((n : Int), goneOf P l items n) else sparseOf P l items percent n
theorem sparseOf_nn (P : Pm) (l : List Spot) (items : List Int) (percent : Int) : ∀ n, 0 ≤ (sparseOf P l items percent n).2
  | 0 => Int.le_refl _
  | n + 1 => by
    have := sparseOf_nn P l items percent n
    unfold sparseOf
    split
    · rename_i h
      rw [Bool.and_eq_true, decide_eq_true_eq] at h
      have := h.1
      show 0 ≤ goneOf P l items n
      omega
    · exact this
end Go.Proofs.Ytfjhdflpanaapaa
