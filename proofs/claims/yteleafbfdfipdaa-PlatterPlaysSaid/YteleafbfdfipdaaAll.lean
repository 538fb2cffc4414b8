/-
  The names of a disk's files, sorted: slices.Sorted of maps.Keys, and all.
-/
import Derived.Test.YteleafbfdfipdaaLay
import Derived.Test.YteleafbfdfipdaaKeys
import Derived.Test.YteleafbfdfipdaaPlat2
namespace Go.Proofs.Yteleafbfdfipdaa
open Go.RowKit Go.Sort Go.Shelf

theorem keys_sorts (m : Nat) : AnyZ.SortsIn Try.prog Try.sorted_ren Fence.wide m :=
  ⟨fun blk off cap ss W hH hblk hsz => callsIn_wide.2 (AnyM.slices_Sort_string Try.sort blk off cap ss W hH hblk hsz),
   fun p cap W => callsIn_wide.2 (AnyM.slices_Sort_string_none Try.sort p cap W)⟩

theorem keys_any (mb : Option Nat) (W : World) : Calls Try.prog 48 #[.map mb] W fun e w' =>
    e = .returned (.func (.func 57) #[] #[.pointer (some ⟨W.heap.size, 0, none⟩)]) ∧ w' = W.alloc (.cells #[.map mb] 43) :=
  (callsIn_wide (n := 5)).1 (AnyZ.keys_in Try.keys Fence.wide 5 trivial rfl mb W)

set_option maxHeartbeats 1000000 in
theorem sortedOwn_any {H : Type} (b nn : Nat) (D0 : DataW H) (R : Value → Option (DataW H × List MemPlace)) (w : World) (hown : w.ownsMap Try.prog 9 R b nn D0) (hmax : Maps.size D0 ≤ maxLen) (hbytes : Maps.size D0 * 16 ≤ 140737488355328) :
    Calls Try.prog 47 #[.func (.func 57) #[] #[.pointer (some ⟨w.heap.size, 0, none⟩)]] (w.alloc (.cells #[.map (some b)] 43)) fun e w' => ∃ (v : Value) (ss : List (List UInt8)), e = .returned v ∧ ss.Perm (strKeys D0) ∧
      w'.ownsRow (w.alloc (.cells #[.map (some b)] 43)).heap.size 9 1 v ss.length ((ss.mergeSort (fun x y => decide (x ≤ y))).map encStr) ∧ (v = .slice none 0 0 ↔ ss = []) ∧ Below (w.alloc (.cells #[.map (some b)] 43)).heap.size (w.alloc (.cells #[.map (some b)] 43)) w' := by
  have hbl := hown.lt
  have hseq : SeqGives Fence.wide 2 Try.prog 57 #[.pointer (some ⟨w.heap.size, 0, none⟩)] encStr (fun ss => ss.Perm (strKeys D0)) (Maps.size D0) (w.alloc (.cells #[.map (some b)] 43)) :=
    AnyZ.keys_gives (ρ := Try.keys_ren) { Try.keys with } Fence.wide _ trivial rfl (by omega) w.heap.size b nn D0 _ (by simp) (by simp) (by
      obtain ⟨es, clock, hb, Ft, hs, hD⟩ := hown
      exact ⟨es, clock, (Below.heap_alloc _ _ b hbl).trans hb, Ft, hs, hD⟩)
  exact (callsIn_wide (n := 5)).1 (AnyZ.sorted_in Try.sorted Fence.wide 5 trivial trivial trivial trivial rfl (by omega) (keys_sorts _) (enters_of Try.func56 (by kernel_rfl) rfl) 57 #[.pointer (some ⟨w.heap.size, 0, none⟩)] trivial (enters_of Try.func57 (by kernel_rfl) rfl) _ _ hmax hbytes _ hseq)

theorem sorted_any {L : List (ByteArray × Fl)} (w : World) (m : Nat) (h : MapAt strWay Fl.val w m L) (hr : Rises blt L) (hk : ∀ p ∈ L, p.1.size ≤ maxLen) (hl : L.length ≤ 1048576) :
    Calls Try.prog 47 #[.func (.func 57) #[] #[.pointer (some ⟨w.heap.size, 0, none⟩)]] (w.alloc (.cells #[.map (some m)] 43)) fun e w' =>
      ∃ v, e = .returned v ∧ Sl w' v (L.map fun p => .string p.1) ∧ Ext w w' := by
  obtain ⟨D, hown, hD, hsz⟩ := own_of_map h key_files (by unfold maxLen; omega) hk
  refine (sortedOwn_any m _ D _ w hown (by unfold maxLen; omega) (by omega)).mono ?_
  rintro e w' ⟨v, ss, rfl, hss, hrow, _, hb⟩
  have hp := hss.trans hD
  rw [mergeSort_rises hr hp] at hrow
  exact ⟨v, rfl, Sl.of_own hrow, ((Ext.refl w).alloc _).trans (Ext.of_below hb)⟩

theorem all_any (w : World) (d m : Nat) (D : Dk) (hD : DkAt w d m D) (hr : Rises blt D.files) (hk : ∀ p ∈ D.files, p.1.size ≤ maxLen) (hl : D.files.length ≤ 1048576) :
    Calls Try.prog 37 #[.pointer (some ⟨d, 0, none⟩)] w fun e w' => ∃ v, e = .returned v ∧ Sl w' v (D.files.map fun p => .string p.1) ∧ Ext w w' := by
  have c4 : w.cell? ⟨d, 4, none⟩ = some (.map (some m)) := hD.1.cell 4
  have hM := hD.2
  go_enter Try.func37, Try.ntmps37
  go_wp2_with fail
  refine (keys_any _ _).mono ?_
  rintro e w' ⟨rfl, rfl⟩
  go_wp2_with fail
  refine (sorted_any w m hM hr hk hl).mono ?_
  rintro e w' ⟨v, rfl, hS, hE⟩
  go_wp2_with fail
  go_ret
  exact ⟨v, rfl, hS, hE⟩
end Go.Proofs.Yteleafbfdfipdaa
