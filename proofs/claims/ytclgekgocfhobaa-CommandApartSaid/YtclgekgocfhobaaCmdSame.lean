/-
  are two commands the same?
-/
import Derived.Test.YtclgekgocfhobaaCmdGood
namespace Go.Proofs.Ytclgekgocfhobaa
open Go.RowKit

def sameB (a b : Cmd) : Bool := decide (a.disks = b.disks) && (a.kind == b.kind) && (a.client == b.client) && (a.seq == b.seq) && decide (a.name.toList = b.name.toList) && (a.blob == b.blob) && (a.size == b.size) && (a.sum == b.sum) && (a.pool == b.pool) && (a.vol == b.vol) && (a.at_ == b.at_)
set_option maxRecDepth 100000 in
set_option maxHeartbeats 4000000 in
theorem same_any (w : World) (a b : Cmd) (av bv : Value) (hS : Sl w av (a.disks.map (Value.int .i64))) (hT : Sl w bv (b.disks.map (Value.int .i64))) (hl : a.disks.length ≤ 9223372036854775807) (_hl2 : b.disks.length ≤ 9223372036854775807) :
    Calls Try.prog 14 #[cmdVal a av, cmdVal b bv] w fun e w' => e = .returned (.bool (sameB a b)) ∧ Ext w w' := by
  obtain ⟨A, c, rfl, hx⟩ := hS
  obtain ⟨B, d, rfl, hy⟩ := hT
  rw [List.length_map, List.length_map]
  unfold cmdVal
  generalize hfin : sameB a b = F
  have HF := Lib.hid hfin
  clear hfin
  go_enter Try.func14, Try.ntmps14
  by_cases hlen : a.disks.length = b.disks.length
  · have tl : (((a.disks.length : Nat) : Int) != (b.disks.length : Int)) = false := by simp [hlen]
    have tl2 : (a.disks.length != b.disks.length) = false := by simp [hlen]
    have HL := Lib.hid hlen
    clear hlen
    have hB0 := At.new w 35 #[.int .i64 a.kind, .int .i64 a.client, .int .i64 a.seq, .string a.name, .int .u64 (a.blob : Int), .int .i64 a.size, .int .u32 (a.sum : Int), .slice A a.disks.length c, .int .i64 a.pool, .int .i64 a.vol, .int .i64 a.at_]
    have hB := hB0.alloc (.cells #[.int .i64 b.kind, .int .i64 b.client, .int .i64 b.seq, .string b.name, .int .u64 (b.blob : Int), .int .i64 b.size, .int .u32 (b.sum : Int), .slice B b.disks.length d, .int .i64 b.pool, .int .i64 b.vol, .int .i64 b.at_] 35)
    have hD := At.new (w.alloc (.cells #[.int .i64 a.kind, .int .i64 a.client, .int .i64 a.seq, .string a.name, .int .u64 (a.blob : Int), .int .i64 a.size, .int .u32 (a.sum : Int), .slice A a.disks.length c, .int .i64 a.pool, .int .i64 a.vol, .int .i64 a.at_] 35)) 35 #[.int .i64 b.kind, .int .i64 b.client, .int .i64 b.seq, .string b.name, .int .u64 (b.blob : Int), .int .i64 b.size, .int .u32 (b.sum : Int), .slice B b.disks.length d, .int .i64 b.pool, .int .i64 b.vol, .int .i64 b.at_]
    have hE : Ext w ((w.alloc (.cells #[.int .i64 a.kind, .int .i64 a.client, .int .i64 a.seq, .string a.name, .int .u64 (a.blob : Int), .int .i64 a.size, .int .u32 (a.sum : Int), .slice A a.disks.length c, .int .i64 a.pool, .int .i64 a.vol, .int .i64 a.at_] 35)).alloc (.cells #[.int .i64 b.kind, .int .i64 b.client, .int .i64 b.seq, .string b.name, .int .u64 (b.blob : Int), .int .i64 b.size, .int .u32 (b.sum : Int), .slice B b.disks.length d, .int .i64 b.pool, .int .i64 b.vol, .int .i64 b.at_] 35)) := ((Ext.refl w).alloc _).alloc _
    go_wp2_with fail
    generalize (w.alloc (.cells #[.int .i64 a.kind, .int .i64 a.client, .int .i64 a.seq, .string a.name, .int .u64 (a.blob : Int), .int .i64 a.size, .int .u32 (a.sum : Int), .slice A a.disks.length c, .int .i64 a.pool, .int .i64 a.vol, .int .i64 a.at_] 35)).alloc (.cells #[.int .i64 b.kind, .int .i64 b.client, .int .i64 b.seq, .string b.name, .int .u64 (b.blob : Int), .int .i64 b.size, .int .u32 (b.sum : Int), .slice B b.disks.length d, .int .i64 b.pool, .int .i64 b.vol, .int .i64 b.at_] 35) = W at hB hD hE ⊢
    have hbd : (w.alloc (.cells #[.int .i64 a.kind, .int .i64 a.client, .int .i64 a.seq, .string a.name, .int .u64 (a.blob : Int), .int .i64 a.size, .int .u32 (a.sum : Int), .slice A a.disks.length c, .int .i64 a.pool, .int .i64 a.vol, .int .i64 a.at_] 35)).heap.size = w.heap.size + 1 := by simp
    rw [hbd] at hD
    clear hbd hB0
    obtain ⟨b0, hb0⟩ : ∃ x, x = w.heap.size := ⟨_, rfl⟩
    rw [← hb0] at hB hD ⊢
    clear hb0
    go_loopw [16] (fun iv wr => ∃ k : Nat, k ≤ a.disks.length ∧ iv = .int .i64 (k : Int) ∧ (∀ j, j < k → a.disks[j]? = b.disks[j]?) ∧ At wr b0 35 #[.int .i64 a.kind, .int .i64 a.client, .int .i64 a.seq, .string a.name, .int .u64 (a.blob : Int), .int .i64 a.size, .int .u32 (a.sum : Int), .slice A a.disks.length c, .int .i64 a.pool, .int .i64 a.vol, .int .i64 a.at_] ∧ At wr (b0 + 1) 35 #[.int .i64 b.kind, .int .i64 b.client, .int .i64 b.seq, .string b.name, .int .u64 (b.blob : Int), .int .i64 b.size, .int .u32 (b.sum : Int), .slice B b.disks.length d, .int .i64 b.pool, .int .i64 b.vol, .int .i64 b.at_] ∧ Ext w wr) (fun iv _ => a.disks.length - (intOf iv).toNat)
    case atStart => exact ⟨0, Nat.zero_le _, rfl, fun j hj => by omega, hB, hD, hE⟩
    case round =>
      clear hB hD hE
      obtain ⟨k, hk, rfl, hpre, hB, hD, hE⟩ := hrel
      by_cases hlt : k < a.disks.length
      · have hlt2 : k < b.disks.length := by rw [← HL.out]; exact hlt
        obtain ⟨ab, ao, rfl, hac⟩ := hx (by intro e; rw [List.map_eq_nil_iff] at e; rw [e] at hlt; simp at hlt)
        obtain ⟨bb, bo, rfl, hbc⟩ := hy (by intro e; rw [List.map_eq_nil_iff] at e; rw [e] at hlt2; simp at hlt2)
        have ea : a.disks[k]? = some a.disks[k] := List.getElem?_eq_getElem hlt
        have eb : b.disks[k]? = some b.disks[k] := List.getElem?_eq_getElem hlt2
        have q0 := hac k (.int .i64 a.disks[k]) (by rw [List.getElem?_map, ea]; rfl)
        have q1 := hbc k (.int .i64 b.disks[k]) (by rw [List.getElem?_map, eb]; rfl)
        have r0 : wr.drew.cell? ⟨ab, ao + k, none⟩ = some (.int .i64 a.disks[k]) := (Ext.cell (p := ⟨ab, ao + k, none⟩) hE (cell_lt q0)).trans q0
        have r1 : wr.drew.cell? ⟨bb, bo + k, none⟩ = some (.int .i64 b.disks[k]) := (Ext.cell (p := ⟨bb, bo + k, none⟩) hE (cell_lt q1)).trans q1
        have r0' : wr.cell? ⟨ab, ao + k, none⟩ = some (.int .i64 a.disks[k]) := r0
        have r1' : wr.cell? ⟨bb, bo + k, none⟩ = some (.int .i64 b.disks[k]) := r1
        have c0 := hB.cell 7
        have c1 := hD.cell 7
        simp at c0 c1
        have hkl : (k : Int) < (a.disks.length : Int) := by omega
        have hkl2 : (k : Int) < (b.disks.length : Int) := by omega
        clear q0 q1 hac hbc hx hy r0 r1
        generalize a.disks[k] = x at ea r0'
        generalize b.disks[k] = y at eb r1'
        by_cases hxy : x = y
        · subst hxy
          have hpre' : ∀ j, j < k + 1 → a.disks[j]? = b.disks[j]? := fun j hj => by
            by_cases e : j = k
            · rw [e, ea, eb]
            · exact hpre j (by omega)
          have HP := Lib.hid hpre'
          have t0 : (x != x) = false := by simp
          clear hpre hpre' ea eb hlt
          go_wp2_with fail
          go_quiet (fail)
          go_wp2_with fail
          go_roundw
          case rel => exact ⟨k + 1, by omega, by go_num, HP.out, hB.drewN _, hD.drewN _, hE.drewN _⟩
          case measure => simp [intOf]; omega
        · have t0 : (x != y) = true := by simpa using hxy
          have hf : F = false := by
            rw [← HF.out]
            have hne : a.disks ≠ b.disks := fun e => by rw [e, eb] at ea; injection ea with ea; exact hxy ea.symm
            simp [sameB, hne]
          have HFF := Lib.hid hf
          clear hpre ea eb hf hxy hlt
          go_wp2_with fail
          go_quiet (fail)
          go_wp2_with fail
          go_ret
          exact ⟨by rw [HFF.out]; rfl, hE.drewN _⟩
      · have hge : a.disks.length ≤ k := by omega
        have hdd : a.disks = b.disks := by
          apply List.ext_getElem?
          intro j
          by_cases hj : j < k
          · exact hpre j hj
          · rw [List.getElem?_eq_none (by omega), List.getElem?_eq_none (by rw [← HL.out]; omega)]
        have HDD := Lib.hid hdd
        clear hpre hdd hlt hx hy
        have y0 := hB.cell 0
        have y1 := hB.cell 1
        have y2 := hB.cell 2
        have y3 := hB.cell 3
        have y4 := hB.cell 4
        have y5 := hB.cell 5
        have y6 := hB.cell 6
        have y8 := hB.cell 8
        have y9 := hB.cell 9
        have y10 := hB.cell 10
        have u0 := hD.cell 0
        have u1 := hD.cell 1
        have u2 := hD.cell 2
        have u3 := hD.cell 3
        have u4 := hD.cell 4
        have u5 := hD.cell 5
        have u6 := hD.cell 6
        have u8 := hD.cell 8
        have u9 := hD.cell 9
        have u10 := hD.cell 10
        simp at y0 u0 y1 u1 y2 u2 y3 u3 y4 u4 y5 u5 y6 u6 y8 u8 y9 u9 y10 u10
        cases hkind : (a.kind == b.kind)
        · clear y1 u1 y2 u2 y3 u3 y4 u4 y5 u5 y6 u6 y8 u8 y9 u9 y10 u10
          have hf : F = false := by
            rw [← HF.out]
            simp [sameB, hkind]
          have HFF := Lib.hid hf
          clear hf
          go_wp2_with fail
          go_ret
          exact ⟨by rw [HFF.out]; rfl, hE⟩
        · cases hclient : (a.client == b.client)
          · clear y2 u2 y3 u3 y4 u4 y5 u5 y6 u6 y8 u8 y9 u9 y10 u10
            have hf : F = false := by
              rw [← HF.out]
              simp [sameB, hclient]
            have HFF := Lib.hid hf
            clear hf
            go_wp2_with fail
            go_ret
            exact ⟨by rw [HFF.out]; rfl, hE⟩
          · cases hseq : (a.seq == b.seq)
            · clear y3 u3 y4 u4 y5 u5 y6 u6 y8 u8 y9 u9 y10 u10
              have hf : F = false := by
                rw [← HF.out]
                simp [sameB, hseq]
              have HFF := Lib.hid hf
              clear hf
              go_wp2_with fail
              go_ret
              exact ⟨by rw [HFF.out]; rfl, hE⟩
            · by_cases hname : a.name.toList = b.name.toList
              · cases hblob : (a.blob == b.blob)
                · clear y5 u5 y6 u6 y8 u8 y9 u9 y10 u10
                  have iblob : ((a.blob : Int) == (b.blob : Int)) = false := by simp at hblob ⊢; omega
                  have hf : F = false := by
                    rw [← HF.out]
                    simp [sameB, hblob]
                  have HFF := Lib.hid hf
                  clear hf
                  go_wp2_with fail
                  go_ret
                  exact ⟨by rw [HFF.out]; rfl, hE⟩
                · have iblob : ((a.blob : Int) == (b.blob : Int)) = true := by simp at hblob ⊢; omega
                  cases hsize : (a.size == b.size)
                  · clear y6 u6 y8 u8 y9 u9 y10 u10
                    have hf : F = false := by
                      rw [← HF.out]
                      simp [sameB, hsize]
                    have HFF := Lib.hid hf
                    clear hf
                    go_wp2_with fail
                    go_ret
                    exact ⟨by rw [HFF.out]; rfl, hE⟩
                  · cases hsum : (a.sum == b.sum)
                    · clear y8 u8 y9 u9 y10 u10
                      have isum : ((a.sum : Int) == (b.sum : Int)) = false := by simp at hsum ⊢; omega
                      have hf : F = false := by
                        rw [← HF.out]
                        simp [sameB, hsum]
                      have HFF := Lib.hid hf
                      clear hf
                      go_wp2_with fail
                      go_ret
                      exact ⟨by rw [HFF.out]; rfl, hE⟩
                    · have isum : ((a.sum : Int) == (b.sum : Int)) = true := by simp at hsum ⊢; omega
                      cases hpool : (a.pool == b.pool)
                      · clear y9 u9 y10 u10
                        have hf : F = false := by
                          rw [← HF.out]
                          simp [sameB, hpool]
                        have HFF := Lib.hid hf
                        clear hf
                        go_wp2_with fail
                        go_ret
                        exact ⟨by rw [HFF.out]; rfl, hE⟩
                      · cases hvol : (a.vol == b.vol)
                        · clear y10 u10
                          have hf : F = false := by
                            rw [← HF.out]
                            simp [sameB, hvol]
                          have HFF := Lib.hid hf
                          clear hf
                          go_wp2_with fail
                          go_ret
                          exact ⟨by rw [HFF.out]; rfl, hE⟩
                        · cases hat_ : (a.at_ == b.at_)
                          · have hf : F = false := by
                              rw [← HF.out]
                              simp [sameB, hat_]
                            have HFF := Lib.hid hf
                            clear hf
                            go_wp2_with fail
                            go_ret
                            exact ⟨by rw [HFF.out]; rfl, hE⟩
                          · have hf : F = true := by
                              rw [← HF.out]
                              simp [sameB, HDD.out, hkind, hclient, hseq, hname, hblob, hsize, hsum, hpool, hvol, hat_]
                            have HFF := Lib.hid hf
                            clear hf
                            go_wp2_with fail
                            go_ret
                            exact ⟨by rw [HFF.out]; rfl, hE⟩
              · clear y4 u4 y5 u5 y6 u6 y8 u8 y9 u9 y10 u10
                have hf : F = false := by
                  rw [← HF.out]
                  simp [sameB, hname]
                have HFF := Lib.hid hf
                clear hf
                go_wp2_with fail
                go_ret
                exact ⟨by rw [HFF.out]; rfl, hE⟩
  · have tl : (((a.disks.length : Nat) : Int) != (b.disks.length : Int)) = true := by simp; omega
    have tl2 : (a.disks.length != b.disks.length) = true := by simpa using hlen
    have hf : F = false := by
      rw [← HF.out]
      have hne : a.disks ≠ b.disks := fun e => hlen (by rw [e])
      simp [sameB, hne]
    have HFF := Lib.hid hf
    clear hf hlen
    go_wp2_with fail
    go_ret
    exact ⟨by rw [HFF.out]; rfl, ((Ext.refl w).alloc _).alloc _⟩
end Go.Proofs.Ytclgekgocfhobaa
