/-
  Acts; a disk with one file that is synced.
-/
import Derived.Test.YteleafbfdfipdaaMany
import Derived.Test.YteleafbfdfipdaaOne
import Derived.Test.YteleafbfdfipdaaOpen
namespace Go.Proofs.Yteleafbfdfipdaa
open Go.RowKit Go.Sort

theorem Sln.chg_new {S : Nat → Prop} {w w' : World} {v : Value} {size : Nat} {xs : List (List Value)} (h : Sln w v size xs) (he : Chg S w w') (hS : ∀ k, S k → w.heap.size ≤ k) : Sln w' v size xs := by
  obtain ⟨A, c, hv, hx⟩ := h
  refine ⟨A, c, hv, fun hn => ?_⟩
  obtain ⟨b, o, rfl, hc⟩ := hx hn
  refine ⟨b, o, rfl, fun i row hi j x hj => ?_⟩
  have h0 := hc i row hi j x hj
  have hl : b < w.heap.size := World.block_lt_of_cell? _ _ h0
  exact (he.cell (p := ⟨b, o + i * size + j, none⟩) hl (fun hs => by have := hS _ hs; simp only at this; omega)).trans h0

structure Act where
  kind : Int
  num : Int
  a : ByteArray
  b : ByteArray
  more : Option Addr × Nat × Nat
  choice : Option Addr × Nat × Nat
  by_ : Int
def Act.cells (x : Act) : List Value := [.int .i64 x.kind, .int .i64 x.num, .string x.a, .string x.b, .slice x.more.1 x.more.2.1 x.more.2.2, .slice x.choice.1 x.choice.2.1 x.choice.2.2, .int .u8 x.by_]
def Act.Ok (x : Act) : Prop := (-9223372036854775808 ≤ x.num ∧ x.num ≤ 9223372036854775807) ∧ x.a.size ≤ maxLen ∧ x.b.size ≤ maxLen

abbrev bM : ByteArray := ⟨#[109, 105, 110, 101]⟩
theorem xname_ne (s : ByteArray) : bM ≠ ⟨#[120]⟩ ++ s := fun h => by
  have := congrArg (fun b : ByteArray => b.data.toList) h
  simp [ByteArray.data_append] at this
theorem sl_one' (w : World) (t : TypeId) (x : Value) (c : Nat) {g : Nat} (h : g = w.heap.size) : Sl (w.alloc (.cells #[x] t)) (.slice (some ⟨g, 0, none⟩) 1 c) [x] := by subst h; exact sl_one w t x c

theorem mine_first (mine : ByteArray) (h : mine.size ≤ 60) : (Dk.new 100000).change bM (fun _ => mine) = (0, ⟨100000, mine.size, false, 0, [(bM, ⟨true, mine, false, ByteArray.empty⟩)]⟩) := by
  have hw : wt mine ByteArray.empty = mine.size := by unfold wt; simp only [ByteArray.size_empty]; omega
  have hz : wt Fl.zero.nx Fl.zero.sx = 0 := rfl
  unfold Dk.change
  rw [if_neg (by simp [Dk.e, tryE, Dk.new]), if_neg (by decide), new_get]
  unfold Dk.put Dk.grow
  have hg : (Dk.new 100000).tick.get bM = Fl.zero := rfl
  rw [hg, hz]
  simp only
  rw [show wt mine Fl.zero.sx = mine.size from hw]
  rw [if_neg (by simp only [Dk.new, Dk.tick]; omega)]
  simp only [lputf, Dk.new, Dk.tick, lput]
  rw [show nuse 0 ((mine.size : Int) - 0) = mine.size by unfold nuse; split <;> omega]
  rfl
theorem mine_second (mine : ByteArray) (h : mine.size ≤ 60) : (⟨100000, mine.size, false, 0, [(bM, ⟨true, mine, false, ByteArray.empty⟩)]⟩ : Dk).sync [bM] = (0, ⟨100000, mine.size, false, 0, [(bM, ⟨true, mine, true, mine⟩)]⟩) := by
  have hw : wt mine ByteArray.empty = mine.size := by unfold wt; simp only [ByteArray.size_empty]; omega
  have hw2 : wt mine mine = mine.size := by unfold wt; omega
  have hget : (⟨100000, mine.size, false, 0, [(bM, ⟨true, mine, false, ByteArray.empty⟩)]⟩ : Dk).get bM = ⟨true, mine, false, ByteArray.empty⟩ := by
    unfold Dk.get; simp only; rw [lget_cons, if_pos rfl]; rfl
  unfold Dk.sync
  rw [if_neg (by simp [Dk.e, tryE])]
  show (0, Dk.sync1 _ bM) = _
  unfold Dk.sync1
  rw [show Dk.tick (⟨100000, mine.size, false, 0, [(bM, ⟨true, mine, false, ByteArray.empty⟩)]⟩ : Dk) = ⟨100000, mine.size, false, 0, [(bM, ⟨true, mine, false, ByteArray.empty⟩)]⟩ from rfl, hget]
  unfold Dk.put Dk.grow
  rw [hget]
  simp only
  rw [hw, hw2, if_neg (by omega)]
  have e : lput blt bM (⟨true, mine, true, mine⟩ : Fl) [(bM, (⟨true, mine, false, ByteArray.empty⟩ : Fl))] = [(bM, (⟨true, mine, true, mine⟩ : Fl))] := by
    unfold lput
    rw [if_neg (by show ¬ blt bM bM = true; decide), if_neg (by show ¬ blt bM bM = true; decide)]
  simp only [lputf, Bool.or_self, if_true]
  rw [e, show nuse (mine.size : Int) ((mine.size : Int) - mine.size) = mine.size by unfold nuse; split <;> omega]
theorem mine_ok (mine : ByteArray) (h : mine.size ≤ 60) (st : Bool) (sx : ByteArray) (hx : sx.size ≤ 60) : (⟨100000, mine.size, false, 0, [(bM, ⟨true, mine, st, sx⟩)]⟩ : Dk).Ok := by
  refine ⟨by simp only; omega, by simp only; omega, by show (100000 : Int) ≤ 9223372036854775807; decide, Int.le_refl _, by show (0 : Int) ≤ 9223372036854775807; decide, by simp [Rises], fun p hp => ?_, fun n => ?_⟩
  · rw [show p = (bM, ⟨true, mine, st, sx⟩) by simpa using hp]; exact (by unfold maxLen; decide : 4 ≤ maxLen)
  · unfold Dk.get; simp only; rw [lget_cons]; unfold maxLen
    split
    · simp only [Option.getD_some]; omega
    · exact ⟨Nat.zero_le _, Nat.zero_le _⟩
theorem mine_holds (mine : ByteArray) (h : mine.size ≤ 60) : Holds1 bM mine 60 1 ⟨100000, mine.size, false, 0, [(bM, ⟨true, mine, true, mine⟩)]⟩ := by
  refine ⟨mine_ok mine h _ _ h, rfl, ?_, fun n => ?_, by simp⟩
  · unfold Dk.get; simp only; rw [lget_cons, if_pos rfl]; rfl
  · unfold Dk.get; simp only; rw [lget_cons]
    split
    · exact ⟨h, h⟩
    · exact ⟨Nat.zero_le _, Nat.zero_le _⟩

end Go.Proofs.Yteleafbfdfipdaa
