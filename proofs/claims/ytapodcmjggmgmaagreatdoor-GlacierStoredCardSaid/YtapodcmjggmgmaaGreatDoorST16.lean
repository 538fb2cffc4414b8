/-
  Part 16 of what the law leans on.
-/
import Derived.Test.YtapodcmjggmgmaaGreatDoorST15
set_option linter.unusedVariables false
set_option linter.unusedSimpArgs false
set_option linter.unusedSectionVars false
namespace Go.Proofs.YtapodcmjggmgmaaGreatDoor
open Go.RowKit Go.Sort
set_option maxRecDepth 100000 in
theorem open_end (w : World) (s : ByteArray) (hs : s.size < 8) : Calls Tryz.prog 109 #[.string s] w fun e w' => ∃ x : Int, e = .returned (.tuple #[.string ByteArray.empty, .int .i64 0, .int .i64 x]) ∧ x ≠ 0 ∧ Ext w w' := by
  go_enter Tryz.func109, Tryz.ntmps109
  go_wp2_with fail
  go_ret3
  exact ⟨_, rfl, by decide, Ext.refl w⟩
def frs (cs : List ByteArray) : List UInt8 := cs.flatMap fun c => frameL c.data.toList
theorem frs_append (a b : List ByteArray) : frs (a ++ b) = frs a ++ frs b := List.flatMap_append ..
theorem frs_cons (c : ByteArray) (b : List ByteArray) : frs (c :: b) = frameL c.data.toList ++ frs b := rfl
theorem frs_take (cs : List ByteArray) (k : Nat) {c : ByteArray} (h : cs[k]? = some c) : (frs (cs.take (k + 1))).length = (frs (cs.take k)).length + (8 + c.size) := by
  rw [List.take_add_one, h]
  show (frs (cs.take k ++ [c])).length = _
  rw [frs_append, List.length_append]
  have : (frs [c]).length = 8 + c.size := by
    show (frameL c.data.toList ++ []).length = _
    rw [List.append_nil, frameL_length]; rfl
  omega
theorem frs_drop (cs : List ByteArray) (k : Nat) : (frs cs).drop (frs (cs.take k)).length = frs (cs.drop k) := by
  have e : frs cs = frs (cs.take k) ++ frs (cs.drop k) := by rw [← frs_append, List.take_append_drop]
  rw [e, List.drop_left]
set_option maxRecDepth 100000 in
set_option maxHeartbeats 2000000 in
theorem scan_any (w : World) (s : ByteArray) (cs : List ByteArray) (hs : s.data.toList = frs cs) (hc : ∀ c ∈ cs, c.size ≤ 1048576) (hl : cs.length ≤ 100000) (hsz : s.size ≤ 1000000) (hT : Tab w) :
    Calls Tryz.prog 108 #[.string s] w fun e w' => ∃ v, e = .returned (.tuple #[v, .int .i64 (s.size : Int)]) ∧ w'.ownsRow w.heap.size 9 1 v cs.length (cs.map Value.string) ∧ Ext w w' := by
  have hss : s.size = (frs cs).length := by rw [← hs]; rfl
  go_enter Tryz.func108, Tryz.ntmps108
  go_wp2_with fail
  go_loopw [4, 5] (fun lv av wr => ∃ k : Nat, k ≤ cs.length ∧ av = .int .i64 ((frs (cs.take k)).length : Int) ∧ wr.ownsRow w.heap.size 9 1 lv k ((cs.take k).map Value.string) ∧ Ext w wr) (fun _ av _ => s.size + 1 - (intOf av).toNat)
  case atStart => exact ⟨0, Nat.zero_le _, rfl, World.ownsRow_nil _ _ _ _, Ext.refl w⟩
  case round =>
    obtain ⟨k, hk, rfl, hown, hE⟩ := hrel
    rename World => wr
    have hle : (frs (cs.take k)).length ≤ s.size := by
      rw [hss]
      have e : frs cs = frs (cs.take k) ++ frs (cs.drop k) := by rw [← frs_append, List.take_append_drop]
      rw [e, List.length_append]; omega
    have hrest : (s.extract (frs (cs.take k)).length s.size).data.toList = frs (cs.drop k) := by
      rw [extract_list, hs, frs_drop, List.take_of_length_le]
      rw [← frs_drop, List.length_drop]; omega
    obtain ⟨a, ha⟩ : ∃ a, (frs (cs.take k)).length = a := ⟨_, rfl⟩
    by_cases hlt : k < cs.length
    · obtain ⟨c, hck⟩ : ∃ c, cs[k]? = some c := ⟨_, List.getElem?_eq_getElem hlt⟩
      have hd : cs.drop k = c :: cs.drop (k + 1) := by
        rw [List.drop_eq_getElem_cons hlt]
        rw [List.getElem?_eq_getElem hlt] at hck
        rw [Option.some.inj hck]
      have hta := frs_take cs k hck
      rw [hd, frs_cons] at hrest
      have hcs := hc c (List.mem_of_getElem? hck)
      have hnext : a + (8 + c.size) ≤ s.size := by
        rw [← ha, ← hta, hss]
        have e : frs cs = frs (cs.take (k + 1)) ++ frs (cs.drop (k + 1)) := by rw [← frs_append, List.take_append_drop]
        rw [e, List.length_append]; omega
      rw [ha] at hle hrest hta ⊢
      have co := open_frame wr (s.extract a s.size) c (frs (cs.drop (k + 1))) hrest hcs (by rw [ByteArray.size_extract]; omega) (hT.ext hE)
      have HTA := Lib.hid hta
      clear hrest hta hs hss hd
      go_wp2_with fail
      refine co.mono ?_
      rintro e w2 ⟨rfl, hE2⟩
      clear co
      have hown2 := own_chg hown hE2 (fun _ h => h.elim)
      have hEE := hE.trans hE2
      obtain ⟨i0, hi0, hz0, hz1, hz2⟩ := info_parts str_info
      go_wp2_with (at_builtin; refine wpList_append_own _ rfl _ _ 22 rfl w.heap.size 9 i0 (.string ByteArray.empty) 1 16 Tryz.underlying22 hi0 hz0 hz1 hz2 rfl (by decide) _ _ _ rfl (hown2.alloc _) ⟨w2.heap.size, 0, none⟩ 1 1 [.string c] rfl rfl ?c1 ?c2 ?c3 ?c4 ?c5 ?_)
      case c1 => exact cell_one
      case c2 => simp [Value.oneCell']
      case c3 => unfold maxLen; omega
      case c4 => omega
      case c5 => have := hEE.size; simp; omega
      intro v1 w4 hown4 hgrow4 _
      have hge := own_ge (hown2.alloc (.cells #[.string c] 9))
      have hE4 : Ext w w4 := Chg.mono ((hEE.alloc _).chg_trans (Chg.of_grown hgrow4)) fun j hj h => by have := hge j h; omega
      clear hgrow4 hge hown hown2 hE hE2 hEE
      go_wp2_with fail
      go_roundw
      case rel =>
        refine ⟨k + 1, by omega, ?_, ?_, hE4⟩
        · rw [HTA.out]; go_num
        · rw [List.take_add_one, hck]; simpa using hown4
      case measure => simp [intOf]; omega
    · obtain rfl : k = cs.length := by omega
      have hat : a = s.size := by rw [← ha, List.take_length, hss]
      rw [List.drop_length] at hrest
      have h0 : (s.extract a s.size).size < 8 := by rw [ByteArray.size_extract]; omega
      rw [ha] at hle ⊢
      have co := open_end wr (s.extract a s.size) h0
      rw [List.take_length] at hown
      have HAT := Lib.hid hat
      clear hrest hs hss hT h0 hat hk hlt
      go_wp2_with fail
      refine co.mono ?_
      rintro e w2 ⟨x, rfl, hx, hE2⟩
      have hx' : (x != 0) = true := by simpa using hx
      clear co hx
      go_wp2_with fail
      go_ret2
      exact ⟨_, by rw [HAT.out]; rfl, own_chg hown hE2 (fun _ h => h.elim), hE.trans hE2⟩
end Go.Proofs.YtapodcmjggmgmaaGreatDoor
