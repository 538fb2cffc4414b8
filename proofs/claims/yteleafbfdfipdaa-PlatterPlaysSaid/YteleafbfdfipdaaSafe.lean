/-
  Walks through platter: Safe, Fail.
-/
import Derived.Test.YteleafbfdfipdaaCrash
import Derived.Test.YteleafbfdfipdaaBase
import Derived.Deep.LoopGhost
namespace Go.Proofs.Yteleafbfdfipdaa
open Go.RowKit Go.Sort

def Dk.allSafe (D : Dk) : Bool := D.files.all fun p => p.2.safe

set_option maxRecDepth 100000 in
set_option maxHeartbeats 1000000 in
theorem safe_any (w : World) (d m : Nat) (D : Dk) (hD : DkAt w d m D) :
    Calls Try.prog 10 #[.pointer (some ⟨d, 0, none⟩)] w fun e w' => e = .returned (.bool D.allSafe) ∧ Ext w w' := by
  have c4 : w.cell? ⟨d, 4, none⟩ = some (.map (some m)) := hD.1.cell 4
  obtain ⟨w0, hrun, hR, hE⟩ := hD.2.range map_files
  go_enter Try.func10, Try.ntmps10
  go_wp2_with fail
  clear hrun c4
  obtain ⟨r, hr⟩ : ∃ r, r = w.heap.size := ⟨_, rfl⟩
  rw [← hr] at hR ⊢
  have hrg : w.heap.size ≤ r := by omega
  clear hr
  go_loopg [] D.files.length (fun k wr => ∃ left done, left.length = k ∧ D.files.Perm (done ++ left) ∧ (done.all fun p => p.2.safe) = true ∧ RangeAt strWay Fl.val wr m r D.files left ∧ Ext w wr)
  case atStart => exact ⟨D.files, [], rfl, List.Perm.refl _, rfl, hR, hE⟩
  case round =>
    obtain ⟨left, done, rfl, hp, hdone, hRk, hEk⟩ := hrel
    rcases hRk.next (P := Try.prog) 0 with ⟨rfl, hrun⟩ | ⟨p, left', w1, hperm, hrun, hR1, hC1, hent⟩
    · have hrun' : ∀ ty, (Instr.next (.pointer (some ⟨r, 0, none⟩)) false ty).run Try.prog wr = .ok (.tuple #[.bool false]) wr := fun _ => hrun
      clear hrun
      have hfin : D.allSafe = true := by
        rw [List.append_nil] at hp
        unfold Dk.allSafe
        rw [List.all_eq_true] at hdone ⊢
        exact fun p h => hdone p (hp.mem_iff.1 h)
      have H := Lib.hid hfin
      have HP := Lib.hid hp
      have HDN := Lib.hid hdone
      clear hfin hp hdone
      go_wp2_with fail
      go_ret
      rw [H.out]
      exact ⟨rfl, hEk⟩
    · have hrun' : ∀ ty, (Instr.next (.pointer (some ⟨r, 0, none⟩)) false ty).run Try.prog wr = .ok (.tuple #[.bool true, .string p.1, .agg #[.bool p.2.nt, .string p.2.nx, .bool p.2.st, .string p.2.sx]]) w1 := fun _ => hrun
      have hent' : (Instr.entry (.pointer (some ⟨r, 0, none⟩))).run Try.prog w1 = .ok (.tuple #[.string p.1, .agg #[.bool p.2.nt, .string p.2.nx, .bool p.2.st, .string p.2.sx]]) w1 := hent
      clear hrun hent
      have hlen : left'.length < left.length := by have := hperm.length_eq; simp at this; omega
      have hp' : D.files.Perm ((p :: done) ++ left') := hp.trans ((hperm.append_left done).trans List.perm_middle)
      have hmem : p ∈ D.files := hp'.mem_iff.2 (by simp)
      have hE1 : Ext w w1 := Chg.trans hEk hC1 (fun k hk h => by omega)
      have HP := Lib.hid hp'
      have HP0 := Lib.hid hp
      have HDN := Lib.hid hdone
      have HPM := Lib.hid hperm
      clear hp' hdone hp hperm
      obtain ⟨nm, n1, s1, n2, s2⟩ := p
      simp only at hrun' hent'
      by_cases hnn : n1 = n2
      · subst hnn
        by_cases hxx : s1 = s2
        · subst hxx
          go_wp2_with fail
          go_roundg left'.length
          case measure => exact hlen
          case rel => exact ⟨left', (nm, ⟨n1, s1, n1, s1⟩) :: done, rfl, HP.out, by rw [List.all_cons, HDN.out]; simp [Fl.safe], hR1.ext ((Ext.refl _).alloc _), hE1.alloc _⟩
        · have hxl : ¬ s1.toList = s2.toList := fun h => hxx (toList_inj.1 h)
          have hfin : D.allSafe = false := by
            unfold Dk.allSafe; rw [List.all_eq_false]; exact ⟨_, hmem, by simp [Fl.safe, hxx]⟩
          have H := Lib.hid hfin
          clear hfin hxx
          go_wp2_with fail
          go_ret
          rw [H.out]
          exact ⟨rfl, hE1.alloc _⟩
      · have hfin : D.allSafe = false := by
          unfold Dk.allSafe; rw [List.all_eq_false]; exact ⟨_, hmem, by simp [Fl.safe, hnn]⟩
        have H := Lib.hid hfin
        clear hfin
        cases n1 <;> cases n2
        · exact absurd rfl hnn
        · clear hnn
          go_wp2_with fail
          go_ret
          rw [H.out]
          exact ⟨rfl, hE1.alloc _⟩
        · clear hnn
          go_wp2_with fail
          go_ret
          rw [H.out]
          exact ⟨rfl, hE1.alloc _⟩
        · exact absurd rfl hnn

def Dk.fail (D : Dk) (n : Int) : Dk := { D with armed := if n < 0 then 0 else min n 1073741824 + 1 }
theorem fail_any (w : World) (d m : Nat) (D : Dk) (hD : DkAt w d m D) (n : Int) (hn : n ≤ 9223372036854775807) :
    Calls Try.prog 14 #[.pointer (some ⟨d, 2, none⟩), .int .i64 n] w fun e w' => e = .returned (.tuple #[]) ∧ Chg (fun k => k = d) w w' ∧ DkAt w' d m (D.fail n) := by
  have c3 : w.cell? ⟨d, 3, none⟩ = some (.int .i64 D.armed) := hD.1.cell 3
  have f3 : w.frozen? ⟨d, 3, none⟩ = false := hD.1.frozen 3
  by_cases h : n < 0
  · have hfin : D.fail n = { D with armed := 0 } := by unfold Dk.fail; rw [if_pos h]
    have H := Lib.hid hfin
    clear hfin
    go_enter Try.func14, Try.ntmps14
    go_wp2_with fail
    refine bodyPost_ret (results_none rfl _ _ _) rfl ?_
    rw [H.out]
    exact ⟨rfl, (Chg.refl (fun k => k = d) _).setCell (.inl rfl) _, hD.chg_armed 0⟩
  · have hfin : D.fail n = { D with armed := min n 1073741824 + 1 } := by unfold Dk.fail; rw [if_neg h]
    have H := Lib.hid hfin
    clear hfin
    go_enter Try.func14, Try.ntmps14
    go_wp2_with fail
    go_end0
    rw [H.out]
    exact ⟨rfl, (Chg.refl (fun k => k = d) _).setCell (.inl rfl) _, hD.chg_armed _⟩
end Go.Proofs.Yteleafbfdfipdaa
