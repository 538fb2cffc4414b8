/-
  The document's Good.
-/
import Derived.Test.YtchnejfdompfpaaGreatRf3
namespace Go.Proofs.YtchnejfdompfpaaGreat
open Go.RowKit Go.Sort

/-- the disks up to k may be -/
def dkOk (ds : List Int) (k : Nat) : Prop := ∀ i, i < k → stepOk ds i = true
theorem dk_ge {ds : List Int} {k : Nat} (h : dkOk ds k) (i : Nat) (hi : i < k) : 0 ≤ ds.getD i 0 := by
  have := h i hi
  unfold stepOk upB at this
  simp only [Bool.and_eq_true, decide_eq_true_eq] at this
  exact this.1.1
def lastD (ds : List Int) (k : Nat) : Int := if k = 0 then -1 else ds.getD (k - 1) 0
theorem lastD_ge {ds : List Int} {k : Nat} (h : dkOk ds k) : -1 ≤ lastD ds k := by
  unfold lastD
  split
  · omega
  · have := dk_ge h (k - 1) (by omega); omega
theorem dk_step {ds : List Int} {k : Nat} (h : dkOk ds k) {d : Int} (hd : ds.getD k 0 = d) : (d ≤ lastD ds k ∨ 5 < d) ↔ stepOk ds k = false := by
  unfold stepOk upB
  rw [hd]
  have h1 := lastD_ge h
  unfold lastD at h1 ⊢
  by_cases hk : k = 0
  · subst hk
    simp
    omega
  · rw [if_neg hk] at h1 ⊢
    have h2 := dk_ge h (k - 1) (by omega)
    simp only [List.getD_eq_getElem?_getD] at h1 h2 ⊢
    simp [hk]
    omega
theorem dk_all {ds : List Int} (h : dkOk ds ds.length) : risesB ds = true := by
  unfold risesB
  exact List.all_eq_true.2 fun k hk => h k (List.mem_range.1 hk)
theorem dk_bad {ds : List Int} {k : Nat} (hk : k < ds.length) (h : stepOk ds k = false) : risesB ds = false := by
  cases e : risesB ds
  · rfl
  · unfold risesB at e
    rw [List.all_eq_true.1 e k (List.mem_range.2 hk)] at h
    cases h
set_option maxRecDepth 100000 in
set_option maxHeartbeats 8000000 in
theorem rgood_any (w : World) (c : Cmd) (dv : Value) (hS : Sl w dv (c.disks.map (Value.int .i64))) (hl : c.disks.length ≤ 17592186043904) (hnm : c.name.size ≤ 9223372036854775807) :
    Calls Tryz.prog 62 #[cmdVal c dv] w fun e w' => e = .returned (.bool c.good) ∧ Ext w w' := by
  obtain ⟨dA, dc, rfl, hx⟩ := hS
  rw [List.length_map]
  unfold cmdVal
  go_enter Tryz.func62, Tryz.ntmps62
  have hB := At.new w 75 #[.int .i64 c.kind, .int .i64 c.client, .int .i64 c.seq, .string c.name, .int .u64 (c.blob : Int), .int .i64 c.size, .int .u32 (c.sum : Int), .slice dA c.disks.length dc, .int .i64 c.pool, .int .i64 c.vol, .int .i64 c.at_]
  have hE := (Ext.refl w).alloc (.cells #[.int .i64 c.kind, .int .i64 c.client, .int .i64 c.seq, .string c.name, .int .u64 (c.blob : Int), .int .i64 c.size, .int .u32 (c.sum : Int), .slice dA c.disks.length dc, .int .i64 c.pool, .int .i64 c.vol, .int .i64 c.at_] 75)
  go_upto_region 1 with fail
  generalize w.heap.size = xb at hB ⊢
  generalize w.alloc (.cells #[.int .i64 c.kind, .int .i64 c.client, .int .i64 c.seq, .string c.name, .int .u64 (c.blob : Int), .int .i64 c.size, .int .u32 (c.sum : Int), .slice dA c.disks.length dc, .int .i64 c.pool, .int .i64 c.vol, .int .i64 c.at_] 75) = W at hB hE ⊢
  have c7 := hB.cell 7
  simp at c7
  go_wp2_with fail
  clear c7
  go_loopw [3, 9] (fun lv kv wr => ∃ k : Nat, kv = .int .i64 (k : Int) ∧ lv = .int .i64 (lastD c.disks k) ∧ k ≤ c.disks.length ∧ dkOk c.disks k ∧ wr = W) (fun _ kv _ => c.disks.length - (intOf kv).toNat)
  case atStart => exact ⟨0, rfl, rfl, Nat.zero_le _, fun i hi => by omega, rfl⟩
  case round =>
    obtain ⟨k, rfl, rfl, hk, hok, rfl⟩ := hrel
    by_cases hlt : k < c.disks.length
    · obtain ⟨b, o, rfl, hcell⟩ := hx (by intro e; rw [List.map_eq_nil_iff] at e; rw [e] at hlt; simp at hlt)
      obtain ⟨d, hd⟩ : ∃ d, c.disks[k]? = some d := ⟨_, List.getElem?_eq_getElem hlt⟩
      have r0 := hcell k (.int .i64 d) (by rw [List.getElem?_map, hd]; rfl)
      have r1 : wr.cell? ⟨b, o + k, none⟩ = some (.int .i64 d) := (hE.cell (p := ⟨b, o + k, none⟩) (cell_lt r0)).trans r0
      have hdd : c.disks.getD k 0 = d := by rw [List.getD_eq_getElem?_getD, hd]; rfl
      have hst := dk_step hok hdd
      have hll : lastD c.disks (k + 1) = d := by unfold lastD; rw [if_neg (by omega)]; exact hdd
      have HLL := Lib.hid hll
      have HOK := Lib.hid hok
      have HST := Lib.hid hst
      clear hcell r0 hd hdd hst hll hok hB
      generalize hla : lastD c.disks k = la at HST ⊢
      clear hla
      by_cases h1 : d ≤ la
      · have hb := dk_bad hlt (HST.out.1 (.inl h1))
        have hg : c.good = false := by unfold Cmd.good; rw [hb]; simp
        have HG := Lib.hid hg
        clear hb hg
        go_wp2_with fail
        go_ret
        exact ⟨by rw [HG.out]; rfl, hE⟩
      · by_cases h2 : 5 < d
        · have hb := dk_bad hlt (HST.out.1 (.inr h2))
          have hg : c.good = false := by unfold Cmd.good; rw [hb]; simp
          have HG := Lib.hid hg
          clear hb hg
          go_wp2_with fail
          go_ret
          exact ⟨by rw [HG.out]; rfl, hE⟩
        · have hs : stepOk c.disks k = true := by
            cases e : stepOk c.disks k
            · have := HST.out.2 e; omega
            · rfl
          have HS := Lib.hid hs
          clear hs
          go_wp2_with fail
          go_roundw
          case rel =>
            refine ⟨k + 1, by go_num, by rw [HLL.out], by omega, fun i hi => ?_, by first | rfl | trivial⟩
            by_cases e : i = k
            · subst e; exact HS.out
            · exact HOK.out i (by omega)
          case measure => simp [intOf]; omega
    · obtain rfl : k = c.disks.length := by omega
      have hrs := dk_all hok
      have HRS := Lib.hid hrs
      clear hx hok hrs
      have c0 := hB.cell 0
      have c1 := hB.cell 1
      have c2 := hB.cell 2
      have c3 := hB.cell 3
      have c4 := hB.cell 4
      have c5 := hB.cell 5
      have c6 := hB.cell 6
      have c7 := hB.cell 7
      have c8 := hB.cell 8
      have c9 := hB.cell 9
      have c10 := hB.cell 10
      simp at c0 c1 c2 c3 c4 c5 c6 c7 c8 c9 c10
      clear hB
      obtain ⟨gB1, hgB1⟩ : ∃ g, upB c.client 1073741824 = g := ⟨_, rfl⟩
      have KB1 := Lib.hid (fun X => between_any X c.client 1073741824)
      rw [hgB1] at KB1
      have HB1 := Lib.hid hgB1
      clear hgB1
      obtain ⟨gB2, hgB2⟩ : ∃ g, upB c.seq 1073741824 = g := ⟨_, rfl⟩
      have KB2 := Lib.hid (fun X => between_any X c.seq 1073741824)
      rw [hgB2] at KB2
      have HB2 := Lib.hid hgB2
      clear hgB2
      obtain ⟨gB4, hgB4⟩ : ∃ g, upB c.size 4000 = g := ⟨_, rfl⟩
      have KB4 := Lib.hid (fun X => between_any X c.size 4000)
      rw [hgB4] at KB4
      have HB4 := Lib.hid hgB4
      clear hgB4
      obtain ⟨gB5, hgB5⟩ : ∃ g, upB c.pool 1 = g := ⟨_, rfl⟩
      have KB5 := Lib.hid (fun X => between_any X c.pool 1)
      rw [hgB5] at KB5
      have HB5 := Lib.hid hgB5
      clear hgB5
      obtain ⟨gB6, hgB6⟩ : ∃ g, upB c.vol 11 = g := ⟨_, rfl⟩
      have KB6 := Lib.hid (fun X => between_any X c.vol 11)
      rw [hgB6] at KB6
      have HB6 := Lib.hid hgB6
      clear hgB6
      obtain ⟨gB7, hgB7⟩ : ∃ g, upB c.at_ 1073741824 = g := ⟨_, rfl⟩
      have KB7 := Lib.hid (fun X => between_any X c.at_ 1073741824)
      rw [hgB7] at KB7
      have HB7 := Lib.hid hgB7
      clear hgB7
      have HK : Hid ((upB c.kind 14 && (c.kind != 0)) = (decide (0 < c.kind) && decide (c.kind < 15))) := Lib.hid (by
        unfold upB
        rw [Bool.eq_iff_iff]
        simp
        omega)
      have fin : ∀ (k1 k2 nn : Bool), decide (0 < c.kind) = k1 → decide (c.kind < 15) = k2 → decide (c.name.size ≤ 32) = nn → c.good = (k1 && k2 && gB1 && gB2 && nn && gB4 && gB5 && gB6 && gB7) := by
        intro k1 k2 nn e1 e2 e3
        unfold Cmd.good
        rw [HK.out, e1, e2, HRS.out, HB1.out, HB2.out, e3, HB4.out, HB5.out, HB6.out, HB7.out, Bool.and_true]
      have FIN := Lib.hid fin
      clear fin HK
      by_cases h1 : 0 < c.kind
      rotate_left
      · skip
        have HG : Hid (c.good = false) := Lib.hid (by rw [FIN.out _ _ _ (decide_eq_false h1) rfl rfl]; simp)
        go_wp2_with fail
        go_ret
        exact ⟨by rw [HG.out]; rfl, hE⟩
      · by_cases h2 : c.kind < 15
        rotate_left
        · skip
          have HG : Hid (c.good = false) := Lib.hid (by rw [FIN.out _ _ _ (decide_eq_true h1) (decide_eq_false h2) rfl]; simp)
          go_wp2_with fail
          go_ret
          exact ⟨by rw [HG.out]; rfl, hE⟩
        · skip
          go_wp2_with fail
          refine (KB1.out _).mono ?_
          rintro e w' ⟨rfl, hw'⟩
          subst hw'
          cases gB1
          · skip
            have HG : Hid (c.good = false) := Lib.hid (by rw [FIN.out _ _ _ (decide_eq_true h1) (decide_eq_true h2) rfl]; simp)
            go_wp2_with fail
            go_ret
            exact ⟨by rw [HG.out]; rfl, hE⟩
          · skip
            go_wp2_with fail
            refine (KB2.out _).mono ?_
            rintro e w' ⟨rfl, hw'⟩
            subst hw'
            cases gB2
            · skip
              have HG : Hid (c.good = false) := Lib.hid (by rw [FIN.out _ _ _ (decide_eq_true h1) (decide_eq_true h2) rfl]; simp)
              go_wp2_with fail
              go_ret
              exact ⟨by rw [HG.out]; rfl, hE⟩
            · skip
              by_cases hn : c.name.size ≤ 32
              rotate_left
              · skip
                have HG : Hid (c.good = false) := Lib.hid (by rw [FIN.out _ _ _ (decide_eq_true h1) (decide_eq_true h2) (decide_eq_false hn)]; simp)
                go_wp2_with fail
                go_ret
                exact ⟨by rw [HG.out]; rfl, hE⟩
              · skip
                go_wp2_with fail
                refine (KB4.out _).mono ?_
                rintro e w' ⟨rfl, hw'⟩
                subst hw'
                cases gB4
                · skip
                  have HG : Hid (c.good = false) := Lib.hid (by rw [FIN.out _ _ _ (decide_eq_true h1) (decide_eq_true h2) (decide_eq_true hn)]; simp)
                  go_wp2_with fail
                  go_ret
                  exact ⟨by rw [HG.out]; rfl, hE⟩
                · skip
                  go_wp2_with fail
                  refine (KB5.out _).mono ?_
                  rintro e w' ⟨rfl, hw'⟩
                  subst hw'
                  cases gB5
                  · skip
                    have HG : Hid (c.good = false) := Lib.hid (by rw [FIN.out _ _ _ (decide_eq_true h1) (decide_eq_true h2) (decide_eq_true hn)]; simp)
                    go_wp2_with fail
                    go_ret
                    exact ⟨by rw [HG.out]; rfl, hE⟩
                  · skip
                    go_wp2_with fail
                    refine (KB6.out _).mono ?_
                    rintro e w' ⟨rfl, hw'⟩
                    subst hw'
                    cases gB6
                    · skip
                      have HG : Hid (c.good = false) := Lib.hid (by rw [FIN.out _ _ _ (decide_eq_true h1) (decide_eq_true h2) (decide_eq_true hn)]; simp)
                      go_wp2_with fail
                      go_ret
                      exact ⟨by rw [HG.out]; rfl, hE⟩
                    · skip
                      go_wp2_with fail
                      refine (KB7.out _).mono ?_
                      rintro e w' ⟨rfl, hw'⟩
                      subst hw'
                      cases gB7
                      · skip
                        have HG : Hid (c.good = false) := Lib.hid (by rw [FIN.out _ _ _ (decide_eq_true h1) (decide_eq_true h2) (decide_eq_true hn)]; simp)
                        go_wp2_with fail
                        go_ret
                        exact ⟨by rw [HG.out]; rfl, hE⟩
                      · skip
                        have HG : Hid (c.good = true) := Lib.hid (by rw [FIN.out _ _ _ (decide_eq_true h1) (decide_eq_true h2) (decide_eq_true hn)]; simp)
                        go_wp2_with fail
                        go_ret
                        exact ⟨by rw [HG.out]; rfl, hE⟩
end Go.Proofs.YtchnejfdompfpaaGreat
