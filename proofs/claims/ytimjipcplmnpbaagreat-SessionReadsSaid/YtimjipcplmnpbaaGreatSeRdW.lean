/-
  SessionReads: the walk.
-/
import Derived.Test.YtimjipcplmnpbaaGreatSeRdM
import Derived.Test.YtimjipcplmnpbaaGreatSeW
import Derived.Test.YtimjipcplmnpbaaGreatSe6
namespace Go.Proofs.YtimjipcplmnpbaaGreat
open Go.RowKit Go.Sort

set_option maxRecDepth 100000 in
set_option maxHeartbeats 4000000 in
theorem sreads_law (w : World) (s0 : ByteArray) (hs : s0.size ≤ maxLen) :
    Calls Tryz.prog 7 #[.string s0] w fun e w' => e = .returned (.bool true) ∧ Ext w w' := by
  have hcut := fun W => cut_any s0 400 W hs (by omega)
  have hsz := cut_size s0 400
  generalize cut s0 400 = s at hcut hsz
  go_enter Tryz.func7, Tryz.ntmps7
  go_wp2_with fail
  refine (hcut _).mono ?_
  rintro e w1 ⟨rfl, rfl⟩
  clear hcut
  go_wp2_with fail
  refine (sread_any _ s (by omega)).mono ?_
  rintro e w2 ⟨h1, h2, hE⟩
  have hl : s.data.toList.length = s.size := by simp
  have hinv := fun M h => rdMach_inv (s := s.data.toList) (M := M) h (by omega)
  generalize rdMach s.data.toList = R at h1 h2 hinv
  obtain ⟨M, er⟩ := R
  simp only at h1 h2
  by_cases he : er = 0
  · subst he
    obtain ⟨m, rfl, hM⟩ := h1 rfl
    obtain ⟨hP, henc⟩ := hinv M rfl
    have HW := Lib.hid (fun W (hW : Ext w2 W) => mwrite_gen (hM.ext hW) hP)
    have hse : (⟨M.enc.toArray⟩ : ByteArray) = s := by rw [henc]
    rw [hse] at HW
    clear h1 h2 hinv hP henc hM hl hse
    go_wp2_with fail
    refine (sawake_any w2).mono ?_
    rintro e w3 ⟨rfl, hE3⟩
    have X3 := hE.trans hE3
    go_wp2_with fail
    refine (HW.out _ hE3).mono ?_
    rintro e w4 ⟨rfl, hE4⟩
    have X4 := X3.trans hE4
    go_wp2_with fail
    go_ret
    exact ⟨ret_bool (by simp), X4⟩
  · obtain rfl := h2 he
    clear h1 h2 hinv
    go_wp2_with fail
    refine (sawake_any w2).mono ?_
    rintro e w3 ⟨rfl, hE3⟩
    have X3 := hE.trans hE3
    go_wp2_with fail
    go_ret
    exact ⟨ret_bool (by simp), X3⟩
end Go.Proofs.YtimjipcplmnpbaaGreat
