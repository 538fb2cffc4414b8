/-
  command: upTo, Good, IsClient.
-/
import Derived.Test.YtchnejfdompfpaaChecked
import Derived.Test.YtchnejfdompfpaaCmd
import Derived.Test.YtchnejfdompfpaaSlices
import Derived.BigQuiet
import Derived.WalkSpells
import Derived.WalkLawsBesides
namespace Go.Proofs.Ytchnejfdompfpaa
open Go.RowKit

theorem upTo_any (n l : Int) (w : World) : Calls Try.prog 30 #[.int .i64 n, .int .i64 l] w fun e w' => e = .returned (.bool (upB n l)) ∧ w = w' := by
  unfold upB
  by_cases h : 0 ≤ n
  · have t1 : decide (0 ≤ n) = true := by simpa using h
    by_cases h2 : n ≤ l
    · have t2 : decide (n ≤ l) = true := by simpa using h2
      go_enter Try.func30, Try.ntmps30
      go_wp2
      go_ret
      exact ⟨by simp [h, h2], rfl⟩
    · have t2 : decide (n ≤ l) = false := by simpa using h2
      go_enter Try.func30, Try.ntmps30
      go_wp2
      go_ret
      exact ⟨by simp, rfl⟩
  · have t1 : decide (0 ≤ n) = false := by simpa using h
    go_enter Try.func30, Try.ntmps30
    go_wp2
    go_ret
    exact ⟨by simp, rfl⟩
theorem upTo_is {n l : Int} {b : Bool} (h : upB n l = b) (w : World) : Calls Try.prog 30 #[.int .i64 n, .int .i64 l] w fun e w' => e = .returned (.bool b) ∧ w = w' := by
  rw [← h]; exact upTo_any n l w

section
variable (w : World) (c : Cmd) (dv : Value)
set_option maxRecDepth 100000 in
set_option maxHeartbeats 4000000 in
theorem good_any (hS : Sl w dv (c.disks.map (Value.int .i64))) (hl : c.disks.length ≤ 9223372036854775807) (hn : c.name.size ≤ 9223372036854775807) :
    Calls Try.prog 19 #[cmdVal c dv] w fun r w' => r = .returned (.bool c.good) ∧ Ext w w' := by
  obtain ⟨dA, dc, rfl, hx⟩ := hS
  rw [List.length_map]
  unfold cmdVal
  have u0 := fun b (h : upB c.kind 14 = b) => upTo_is h
  go_enter Try.func19, Try.ntmps19
  go_wp2_with fail
  have hB := At.new w 35 #[.int .i64 c.kind, .int .i64 c.client, .int .i64 c.seq, .string c.name, .int .u64 (c.blob : Int), .int .i64 c.size, .int .u32 (c.sum : Int), .slice dA c.disks.length dc, .int .i64 c.pool, .int .i64 c.vol, .int .i64 c.at_]
  have hE := (Ext.refl w).alloc (.cells #[.int .i64 c.kind, .int .i64 c.client, .int .i64 c.seq, .string c.name, .int .u64 (c.blob : Int), .int .i64 c.size, .int .u32 (c.sum : Int), .slice dA c.disks.length dc, .int .i64 c.pool, .int .i64 c.vol, .int .i64 c.at_] 35)
  generalize w.alloc (.cells #[.int .i64 c.kind, .int .i64 c.client, .int .i64 c.seq, .string c.name, .int .u64 (c.blob : Int), .int .i64 c.size, .int .u32 (c.sum : Int), .slice dA c.disks.length dc, .int .i64 c.pool, .int .i64 c.vol, .int .i64 c.at_] 35) = W at hB hE ⊢
  generalize w.heap.size = b at hB ⊢
  have c0 := hB.cell 0
  have c1 := hB.cell 1
  have c2 := hB.cell 2
  have c3 := hB.cell 3
  have c5 := hB.cell 5
  have c7 := hB.cell 7
  have c8 := hB.cell 8
  have c9 := hB.cell 9
  have c10 := hB.cell 10
  simp at c0 c1 c2 c3 c5 c7 c8 c9 c10
  -- BODY
  cases hk : upB c.kind 14
  · have hfin : c.good = false := by simp only [Cmd.good, hk, Bool.false_and]
    have HF := Lib.hid hfin
    clear hfin
    refine (upTo_is hk _).mono ?_
    rintro e w' ⟨rfl, rfl⟩
    go_wp2_with fail
    go_ret
    rw [HF.out]
    exact ⟨rfl, hE⟩
  · cases hk0 : (c.kind == 0)
    · have hkn : (c.kind != 0) = true := by rw [bne, hk0]; rfl
      refine (upTo_is hk _).mono ?_
      rintro e w' ⟨rfl, rfl⟩
      go_wp2_with fail
      go_loop [17] (fun iv => ∃ k : Nat, k ≤ c.disks.length ∧ iv = .int .i64 (k : Int) ∧ ∀ j, j < k → stepOk c.disks j = true) (fun iv => c.disks.length - (intOf iv).toNat)
      case atStart => exact ⟨0, Nat.zero_le _, rfl, fun j hj => by omega⟩
      case round =>
        obtain ⟨k, hkl, rfl, hok⟩ := hrel
        by_cases hlt : k < c.disks.length
        · obtain ⟨bd, od, rfl, hcell⟩ := hx (by intro e; rw [List.map_eq_nil_iff] at e; rw [e] at hlt; simp at hlt)
          have r0 : W.cell? ⟨bd, od + k, none⟩ = some (.int .i64 c.disks[k]) := (Ext.cell (p := ⟨bd, od + k, none⟩) hE (cell_lt (hcell k _ (by rw [List.getElem?_map, List.getElem?_eq_getElem hlt]; rfl)))).trans (hcell k _ (by rw [List.getElem?_map, List.getElem?_eq_getElem hlt]; rfl))
          have hgk : c.disks.getD k 0 = c.disks[k] := by rw [List.getD_eq_getElem?_getD, List.getElem?_eq_getElem hlt]; rfl
          have hso : stepOk c.disks k = (upB c.disks[k] 5 && (k == 0 || decide (c.disks.getD (k - 1) 0 < c.disks[k]))) := by unfold stepOk; rw [hgk]
          have hbad : stepOk c.disks k = false → c.good = false := fun h => by
            have : risesB c.disks = false := by
              unfold risesB
              rw [List.all_eq_false]
              exact ⟨k, List.mem_range.2 hlt, by rw [h]; simp⟩
            simp only [Cmd.good, this, Bool.and_false, Bool.false_and]
          have hr1 : 0 < k → W.cell? ⟨bd, od + (k - 1), none⟩ = some (.int .i64 (c.disks.getD (k - 1) 0)) := fun h => by
            have hl' : k - 1 < c.disks.length := by omega
            have hg : c.disks.getD (k - 1) 0 = c.disks[k - 1] := by rw [List.getD_eq_getElem?_getD, List.getElem?_eq_getElem hl']; rfl
            rw [hg]
            exact (Ext.cell (p := ⟨bd, od + (k - 1), none⟩) hE (cell_lt (hcell (k - 1) _ (by rw [List.getElem?_map, List.getElem?_eq_getElem hl']; rfl)))).trans (hcell (k - 1) _ (by rw [List.getElem?_map, List.getElem?_eq_getElem hl']; rfl))
          clear hcell hx hgk
          generalize c.disks[k] = dk at r0 hso
          generalize c.disks.getD (k - 1) 0 = dp at hso hr1
          cases hu : upB dk 5
          · have hfin := hbad (by rw [hso, hu]; rfl)
            have HF := Lib.hid hfin
            clear hfin hso hbad hr1 hok
            go_wp2_with fail
            refine (upTo_is hu _).mono ?_
            rintro e w' ⟨rfl, rfl⟩
            go_wp2_with fail
            go_ret
            rw [HF.out]
            exact ⟨rfl, hE⟩
          · by_cases hk00 : k = 0
            · have hstep : stepOk c.disks k = true := by rw [hso, hu, hk00]; rfl
              have hok' : ∀ j, j < k + 1 → stepOk c.disks j = true := fun j hj => by
                by_cases e : j = k
                · rw [e]; exact hstep
                · exact hok j (by omega)
              have HK := Lib.hid hok'
              have hkz : (k : Int) ≤ 0 := by omega
              have t0 : decide ((0 : Int) < (k : Int)) = false := by simp; omega
              clear hso hbad hr1 hok hok' hstep hk00
              go_wp2_with fail
              refine (upTo_is hu _).mono ?_
              rintro e w' ⟨rfl, rfl⟩
              go_wp2_with fail
              go_round
              case rel => exact ⟨k + 1, by omega, by go_num, HK.out⟩
              case measure => simp [intOf]; omega
            · have hkp : (1 : Int) ≤ (k : Int) := by omega
              have t0 : decide ((0 : Int) < (k : Int)) = true := by simp; omega
              have r1 := hr1 (by omega)
              have ek : ((k - 1 : Nat) : Int) = (k : Int) - 1 := by omega
              have ekn : ((k : Int) - 1).toNat = k - 1 := by omega
              by_cases hlt2 : dp < dk
              · have hstep : stepOk c.disks k = true := by rw [hso, hu]; simp [hlt2]
                have hok' : ∀ j, j < k + 1 → stepOk c.disks j = true := fun j hj => by
                  by_cases e : j = k
                  · rw [e]; exact hstep
                  · exact hok j (by omega)
                have HK := Lib.hid hok'
                have t1 : decide (dk ≤ dp) = false := by simp; omega
                clear hso hbad hr1 hok hok' hstep hk00
                go_wp2_with fail
                refine (upTo_is hu _).mono ?_
                rintro e w' ⟨rfl, rfl⟩
                go_wp2_with fail
                go_round
                case rel => exact ⟨k + 1, by omega, by go_num, HK.out⟩
                case measure => simp [intOf]; omega
              · have hfin := hbad (by rw [hso, hu]; simp [hlt2, hk00])
                have HF := Lib.hid hfin
                have t1 : decide (dk ≤ dp) = true := by simp; omega
                clear hfin hso hbad hr1 hok hk00
                go_wp2_with fail
                refine (upTo_is hu _).mono ?_
                rintro e w' ⟨rfl, rfl⟩
                go_wp2_with fail
                go_ret
                rw [HF.out]
                exact ⟨rfl, hE⟩
        · have hge : c.disks.length ≤ k := by omega
          have hr : risesB c.disks = true := by
            unfold risesB
            rw [List.all_eq_true]
            exact fun j hj => hok j (by have := List.mem_range.1 hj; omega)
          clear hok hlt hx
          cases hclient : upB c.client 1073741824
          · have hfin : c.good = false := by
              simp only [Cmd.good, hclient, Bool.false_and, Bool.and_false]
            have HF := Lib.hid hfin
            clear hfin
            go_wp2_with fail
            refine (upTo_is hclient _).mono ?_
            rintro e w' ⟨rfl, rfl⟩
            go_wp2_with fail
            go_ret
            rw [HF.out]
            exact ⟨rfl, hE⟩
          · cases hseq : upB c.seq 1073741824
            · have hfin : c.good = false := by
                simp only [Cmd.good, hseq, Bool.false_and, Bool.and_false]
              have HF := Lib.hid hfin
              clear hfin
              go_wp2_with fail
              refine (upTo_is hclient _).mono ?_
              rintro e w' ⟨rfl, rfl⟩
              go_wp2_with fail
              refine (upTo_is hseq _).mono ?_
              rintro e w' ⟨rfl, rfl⟩
              go_wp2_with fail
              go_ret
              rw [HF.out]
              exact ⟨rfl, hE⟩
            · cases hname : decide (c.name.size ≤ 32)
              · have t32 : decide ((c.name.size : Int) ≤ 32) = false := by simp at hname ⊢; omega
                have hfin : c.good = false := by
                  simp only [Cmd.good, hname, Bool.false_and, Bool.and_false]
                have HF := Lib.hid hfin
                clear hfin
                go_wp2_with fail
                refine (upTo_is hclient _).mono ?_
                rintro e w' ⟨rfl, rfl⟩
                go_wp2_with fail
                refine (upTo_is hseq _).mono ?_
                rintro e w' ⟨rfl, rfl⟩
                go_wp2_with fail
                go_ret
                rw [HF.out]
                exact ⟨rfl, hE⟩
              · have t32 : decide ((c.name.size : Int) ≤ 32) = true := by simp at hname ⊢; omega
                cases hsize : upB c.size 4000
                · have hfin : c.good = false := by
                    simp only [Cmd.good, hsize, Bool.false_and, Bool.and_false]
                  have HF := Lib.hid hfin
                  clear hfin
                  go_wp2_with fail
                  refine (upTo_is hclient _).mono ?_
                  rintro e w' ⟨rfl, rfl⟩
                  go_wp2_with fail
                  refine (upTo_is hseq _).mono ?_
                  rintro e w' ⟨rfl, rfl⟩
                  go_wp2_with fail
                  refine (upTo_is hsize _).mono ?_
                  rintro e w' ⟨rfl, rfl⟩
                  go_wp2_with fail
                  go_ret
                  rw [HF.out]
                  exact ⟨rfl, hE⟩
                · cases hpool : upB c.pool 1
                  · have hfin : c.good = false := by
                      simp only [Cmd.good, hpool, Bool.false_and, Bool.and_false]
                    have HF := Lib.hid hfin
                    clear hfin
                    go_wp2_with fail
                    refine (upTo_is hclient _).mono ?_
                    rintro e w' ⟨rfl, rfl⟩
                    go_wp2_with fail
                    refine (upTo_is hseq _).mono ?_
                    rintro e w' ⟨rfl, rfl⟩
                    go_wp2_with fail
                    refine (upTo_is hsize _).mono ?_
                    rintro e w' ⟨rfl, rfl⟩
                    go_wp2_with fail
                    refine (upTo_is hpool _).mono ?_
                    rintro e w' ⟨rfl, rfl⟩
                    go_wp2_with fail
                    go_ret
                    rw [HF.out]
                    exact ⟨rfl, hE⟩
                  · cases hvol : upB c.vol 11
                    · have hfin : c.good = false := by
                        simp only [Cmd.good, hvol, Bool.false_and, Bool.and_false]
                      have HF := Lib.hid hfin
                      clear hfin
                      go_wp2_with fail
                      refine (upTo_is hclient _).mono ?_
                      rintro e w' ⟨rfl, rfl⟩
                      go_wp2_with fail
                      refine (upTo_is hseq _).mono ?_
                      rintro e w' ⟨rfl, rfl⟩
                      go_wp2_with fail
                      refine (upTo_is hsize _).mono ?_
                      rintro e w' ⟨rfl, rfl⟩
                      go_wp2_with fail
                      refine (upTo_is hpool _).mono ?_
                      rintro e w' ⟨rfl, rfl⟩
                      go_wp2_with fail
                      refine (upTo_is hvol _).mono ?_
                      rintro e w' ⟨rfl, rfl⟩
                      go_wp2_with fail
                      go_ret
                      rw [HF.out]
                      exact ⟨rfl, hE⟩
                    · cases hat : upB c.at_ 1073741824
                      · have hfin : c.good = false := by
                          simp only [Cmd.good, hat, Bool.and_false]
                        have HF := Lib.hid hfin
                        clear hfin
                        go_wp2_with fail
                        refine (upTo_is hclient _).mono ?_
                        rintro e w' ⟨rfl, rfl⟩
                        go_wp2_with fail
                        refine (upTo_is hseq _).mono ?_
                        rintro e w' ⟨rfl, rfl⟩
                        go_wp2_with fail
                        refine (upTo_is hsize _).mono ?_
                        rintro e w' ⟨rfl, rfl⟩
                        go_wp2_with fail
                        refine (upTo_is hpool _).mono ?_
                        rintro e w' ⟨rfl, rfl⟩
                        go_wp2_with fail
                        refine (upTo_is hvol _).mono ?_
                        rintro e w' ⟨rfl, rfl⟩
                        go_wp2_with fail
                        refine (upTo_is hat _).mono ?_
                        rintro e w' ⟨rfl, rfl⟩
                        go_wp2_with fail
                        go_ret
                        rw [HF.out]
                        exact ⟨rfl, hE⟩
                      · have hfin : c.good = true := by
                          simp only [Cmd.good, hk, hkn, hr, hclient, hseq, hname, hsize, hpool, hvol, hat, Bool.and_true]
                        have HF := Lib.hid hfin
                        clear hfin
                        go_wp2_with fail
                        refine (upTo_is hclient _).mono ?_
                        rintro e w' ⟨rfl, rfl⟩
                        go_wp2_with fail
                        refine (upTo_is hseq _).mono ?_
                        rintro e w' ⟨rfl, rfl⟩
                        go_wp2_with fail
                        refine (upTo_is hsize _).mono ?_
                        rintro e w' ⟨rfl, rfl⟩
                        go_wp2_with fail
                        refine (upTo_is hpool _).mono ?_
                        rintro e w' ⟨rfl, rfl⟩
                        go_wp2_with fail
                        refine (upTo_is hvol _).mono ?_
                        rintro e w' ⟨rfl, rfl⟩
                        go_wp2_with fail
                        refine (upTo_is hat _).mono ?_
                        rintro e w' ⟨rfl, rfl⟩
                        go_wp2_with fail
                        go_ret
                        rw [HF.out]
                        exact ⟨rfl, hE⟩
    · have hkn : (c.kind != 0) = false := by rw [bne, hk0]; rfl
      have hfin : c.good = false := by simp only [Cmd.good, hkn, Bool.false_and, Bool.and_false]
      have HF := Lib.hid hfin
      clear hfin
      refine (upTo_is hk _).mono ?_
      rintro e w' ⟨rfl, rfl⟩
      go_wp2_with fail
      go_ret
      rw [HF.out]
      exact ⟨rfl, hE⟩
  -- ENDBODY
end
end Go.Proofs.Ytchnejfdompfpaa
