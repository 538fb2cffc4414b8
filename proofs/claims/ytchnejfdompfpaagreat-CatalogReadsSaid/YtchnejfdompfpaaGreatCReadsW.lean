/-
  CatalogReads: the walk.
-/
import Derived.Test.YtchnejfdompfpaaGreatRdCat
import Derived.Test.YtchnejfdompfpaaGreatCatWrite
namespace Go.Proofs.YtchnejfdompfpaaGreat
open Go.RowKit Go.Sort

set_option maxRecDepth 100000 in
set_option maxHeartbeats 4000000 in
theorem reads_law (w : World) (s0 : ByteArray) (hs : s0.size ≤ maxLen) :
    Calls Tryz.prog 4 #[.string s0] w fun e w' => e = .returned (.bool true) ∧ Ext w w' := by
  have hcut := fun W => cut_any s0 300 W hs (by omega)
  have hsz := cut_size s0 300
  generalize cut s0 300 = s at hcut hsz
  go_enter Tryz.func4, Tryz.ntmps4
  go_wp2_with fail
  refine (hcut _).mono ?_
  rintro e w1 ⟨rfl, rfl⟩
  clear hcut
  go_wp2_with fail
  refine (cread_any _ s (by omega)).mono ?_
  rintro e w2 ⟨h1, h2, hE⟩
  have hinv := fun P h => rdCat_inv (s := s.data.toList) (P := P) h
  generalize rdCat s.data.toList = R at h1 h2 hinv
  obtain ⟨P, er⟩ := R
  simp only at h1 h2
  by_cases he : er = 0
  · subst he
    obtain ⟨B, c, mb, mn, hB, rfl, hC⟩ := h1 rfl
    obtain ⟨hP, henc, hlen⟩ := hinv P rfl
    have hl : s.data.toList.length = s.size := by simp
    have HW := Lib.hid (fun W (hW : Ext w2 W) => cwrite_gen (hC.ext hW) hP (by omega) (by omega))
    have hse : (⟨P.enc.toArray⟩ : ByteArray) = s := by rw [henc]
    rw [hse] at HW
    clear h1 h2 hinv hP henc hlen hC hl hse
    go_wp2_with fail
    refine (awake_any w2).mono ?_
    rintro e w3 ⟨rfl, hE3⟩
    have X3 := hE.trans hE3
    go_wp2_with fail
    refine (HW.out _ hE3).mono ?_
    rintro e w4 ⟨rfl, hE4⟩
    have X4 := X3.trans hE4
    go_wp2_with fail
    go_ret
    exact ⟨ret_bool (by simp), X4⟩
  · obtain rfl := h2 he
    clear h1 h2 hinv
    go_wp2_with fail
    refine (awake_any w2).mono ?_
    rintro e w3 ⟨rfl, hE3⟩
    have X3 := hE.trans hE3
    go_wp2_with fail
    go_ret
    exact ⟨ret_bool (by simp), X3⟩
end Go.Proofs.YtchnejfdompfpaaGreat
