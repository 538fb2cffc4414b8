/-
  command.Disk: disks as a list, rising, each once.
-/
import Derived.Test.YtchnejfdompfpaaCompactI
import Derived.Test.YtchnejfdompfpaaCmdGood
namespace Go.Proofs.Ytchnejfdompfpaa
open Go.RowKit

def diskOf (l : List Int) : List Int := Lib.compact (sortI (l.filter fun d => upB d 5))

set_option maxHeartbeats 2000000 in
set_option maxRecDepth 100000 in
theorem disk_any (w : World) (lv : Value) (l : List Int) (hS : Sl w lv (l.map (Value.int .i64))) (hl : l.length ≤ 17592186043904) :
    Calls Try.prog 14 #[lv] w fun e w' => ∃ v, e = .returned v ∧ w'.ownsRow w.heap.size 3 1 v (diskOf l).length ((diskOf l).map (Value.int .i64)) ∧ Ext w w' := by
  obtain ⟨A, c, rfl, hx⟩ := hS
  rw [List.length_map]
  have hl0 : (l.length : Int) ≤ 17592186043904 := by omega
  obtain ⟨i0, hi, hz0, hz1, hz2⟩ := info_parts int_info
  go_enter Try.func14, Try.ntmps14
  go_wp2_with fail
  go_loopw [3, 8] (fun rv iv wr => ∃ (k : Nat) (r : List Int), k ≤ l.length ∧ iv = .int .i64 (k : Int) ∧ r = (l.take k).filter (fun d => upB d 5) ∧ r.length ≤ k ∧ wr.ownsRow w.heap.size 3 1 rv r.length (r.map (Value.int .i64)) ∧ Ext w wr) (fun _ iv _ => l.length - (intOf iv).toNat)
  case atStart => exact ⟨0, [], Nat.zero_le _, rfl, rfl, Nat.le_refl _, ⟨rfl, .inl ⟨rfl, rfl⟩⟩, Ext.refl _⟩
  case round =>
    obtain ⟨k, r, hk, rfl, hr, hrk, hown, hE⟩ := hrel
    by_cases hlt : k < l.length
    · obtain ⟨b, o, rfl, hcell⟩ := hx (by intro e; rw [List.map_eq_nil_iff] at e; rw [e] at hlt; simp at hlt)
      have hc0 := hcell k _ (by rw [List.getElem?_map, List.getElem?_eq_getElem hlt]; rfl)
      have r0 : wr.cell? ⟨b, o + k, none⟩ = some (.int .i64 l[k]) := (Ext.cell (p := ⟨b, o + k, none⟩) hE (cell_lt hc0)).trans hc0
      have htk : (l.take (k + 1)).filter (fun d => upB d 5) = r ++ (if upB l[k] 5 then [l[k]] else []) := by
        rw [List.take_succ_eq_append_getElem hlt, List.filter_append, ← hr]
        congr 1
        simp only [List.filter_cons, List.filter_nil]
      clear hcell hx hc0
      generalize l[k] = x at r0 htk
      clear hr
      cases hu : upB x 5
      · rw [hu] at htk
        have HT := Lib.hid htk
        clear htk
        go_wp2_with fail
        refine (upTo_is hu _).mono ?_
        rintro e w' ⟨rfl, rfl⟩
        go_wp2_with fail
        go_roundw
        case rel => exact ⟨k + 1, r, by omega, by go_num, by rw [HT.out]; simp, by omega, hown, hE⟩
        case measure => simp [intOf]; omega
      · rw [hu] at htk
        have HT := Lib.hid htk
        clear htk
        have hsz := hE.size
        go_wp2_with fail
        refine (upTo_is hu _).mono ?_
        rintro e w' ⟨rfl, rfl⟩
        go_wp2_with (at_builtin; refine wpList_append_own _ rfl _ _ 33 rfl w.heap.size 3 i0 (.int .i64 0) 1 8 Try.underlying33 hi hz0 hz1 hz2 rfl (by decide) _ _ _ rfl (hown.alloc _) ⟨wr.heap.size, 0, none⟩ 1 1 [.int .i64 x] rfl rfl ?c1 ?c2 ?c3 ?c4 ?c5 ?_)
        case c1 => exact cell_one
        case c2 => simp [Value.oneCell']
        case c3 => unfold maxLen; omega
        case c4 => omega
        case c5 => simp; omega
        intro v1 w1 hown1 hgrow1 _
        have hge := own_ge (hown.alloc (.cells #[.int .i64 x] 3))
        have hE1 : Ext w w1 := Chg.mono ((hE.alloc _).chg_trans (Chg.of_grown hgrow1)) fun j hj h => by have := hge j h; omega
        clear hgrow1 hge
        go_wp2
        go_roundw
        case rel => exact ⟨k + 1, r ++ [x], by omega, by go_num, by rw [HT.out]; simp, by simp; omega, by simpa using hown1, hE1⟩
        case measure => simp [intOf]; omega
    · have hge : l.length ≤ k := by omega
      rw [List.take_of_length_le (by omega)] at hr
      have HR := Lib.hid hr
      clear hr hx
      go_wp2_with fail
      refine (sort_own hown (by omega)).mono ?_
      rintro e w1 ⟨rfl, hown1, hC1⟩
      have hgb := own_ge hown
      have hE1 : Ext w w1 := Chg.mono (hE.chg_trans hC1) fun j hj h => by have := hgb j h; omega
      go_wp2_with fail
      refine (compact_own hown1 (by omega)).mono ?_
      rintro e w2 ⟨v', rfl, hown2, _, _, hC2⟩
      have hE2 : Ext w w2 := Chg.mono (hE1.chg_trans hC2) fun j hj h => by have := hgb j h; omega
      go_wp2_with fail
      go_ret
      rw [HR.out] at hown2
      exact ⟨_, rfl, hown2, hE2⟩
end Go.Proofs.Ytchnejfdompfpaa
