/-
  CommandCut: the walk.
-/
import Derived.Test.YtclgekgocfhobaaCmdAwake
import Derived.Test.YtclgekgocfhobaaCmdPlain
import Derived.Test.YtclgekgocfhobaaCut
import Derived.Test.YtclgekgocfhobaaOpenCmd
namespace Go.Proofs.Ytclgekgocfhobaa
open Go.RowKit Go.Sort

set_option maxRecDepth 100000 in
set_option maxHeartbeats 4000000 in
theorem cutw_any (w : World) (c : Cmd) (dv : Value) (hin : c.In dv w) (hdl : c.disks.length ≤ 17592186043904) (cutn : Int) (hcut : -9223372036854775808 ≤ cutn ∧ cutn ≤ 9223372036854775807) (more : ByteArray) (hmore : more.size ≤ maxLen) : Calls Try.prog 7 #[cmdVal c dv, .int .i64 cutn, .string more] w fun e w' => e = .returned (.bool true) ∧ Ext w w' := by
  have k1 : ∀ W : World, Calls Try.prog 8 #[.string more, .int .i64 20] W fun e w' => e = .returned (.string (cut more 20)) ∧ w' = W := fun W => cut_any more 20 W hmore (by omega)
  have g1 := cut_size more 20
  have ht0 : cut more 20 = ⟨#[]⟩ ↔ more = ⟨#[]⟩ := by
    unfold cut
    constructor
    · intro h
      split at h
      · rename_i hl
        have h1 := congrArg ByteArray.size h
        rw [ByteArray.size_extract] at h1
        have h2 : (⟨#[]⟩ : ByteArray).size = 0 := rfl
        omega
      · exact h
    · rintro rfl; rfl
  generalize cut more 20 = t at k1 g1 ht0
  have hnm := hin.nm
  unfold maxLen at hnm hmore
  have hwf := hin.wf
  obtain ⟨hS, A, n, rfl, _, _⟩ := hin.sl
  clear hin
  have hsb := sl_block hS
  rw [List.length_map] at hS hsb ⊢
  unfold cmdVal
  go_enter Try.func7, Try.ntmps7
  go_wp2_with fail
  have hB := At.new w 26 #[.int .i64 c.kind, .int .i64 c.client, .int .i64 c.seq, .string c.name, .int .u64 (c.blob : Int), .int .i64 c.size, .int .u32 (c.sum : Int), .slice A c.disks.length n, .int .i64 c.pool, .int .i64 c.vol, .int .i64 c.at_]
  have X := (Ext.refl w).alloc (.cells #[.int .i64 c.kind, .int .i64 c.client, .int .i64 c.seq, .string c.name, .int .u64 (c.blob : Int), .int .i64 c.size, .int .u32 (c.sum : Int), .slice A c.disks.length n, .int .i64 c.pool, .int .i64 c.vol, .int .i64 c.at_] 26)
  replace hS := hS.ext ((Ext.refl w).alloc (.cells #[.int .i64 c.kind, .int .i64 c.client, .int .i64 c.seq, .string c.name, .int .u64 (c.blob : Int), .int .i64 c.size, .int .u32 (c.sum : Int), .slice A c.disks.length n, .int .i64 c.pool, .int .i64 c.vol, .int .i64 c.at_] 26))
  generalize w.alloc (.cells #[.int .i64 c.kind, .int .i64 c.client, .int .i64 c.seq, .string c.name, .int .u64 (c.blob : Int), .int .i64 c.size, .int .u32 (c.sum : Int), .slice A c.disks.length n, .int .i64 c.pool, .int .i64 c.vol, .int .i64 c.at_] 26) = W at hB hS X ⊢
  obtain ⟨b, hb⟩ : ∃ b, b = w.heap.size := ⟨_, rfl⟩
  rw [← hb] at hB ⊢
  have hbl : w.heap.size ≤ b := by omega
  clear hb
  have y7 := hB.cell 7
  simp at y7
  have hB2 := hB
  have X2 := X
  have hS2 := hS
  clear hB X hS y7
  have y7 := hB2.cell 7
  have f7 := hB2.frozen 7
  simp at y7
  have hblt := hB2.lt
  refine (disk_any W _ c.disks hS2 hdl).mono ?_
  rintro e W2 ⟨v, rfl, hown, hE2⟩
  replace hB2 := hB2.ext hE2
  replace X2 := X2.trans hE2
  have hD := Sl.of_own hown
  have hdb : ∀ b' o n' c', v = .slice (some ⟨b', o, none⟩) n' c' → b' ≠ b := by
    rintro b' o n' c' rfl e
    have h1 := own_ge hown b' rfl
    omega
  obtain ⟨vA, vn, vc, rfl⟩ := own_slice hown
  clear y7 f7 hS2 hown hE2
  have y7 := hB2.cell 7
  have f7 := hB2.frozen 7
  simp at y7
  go_wp2_with fail
  have hB3 : At (W2.setCell ⟨b, 7, none⟩ (.slice vA vn vc)) b 26 #[.int .i64 c.kind, .int .i64 c.client, .int .i64 c.seq, .string c.name, .int .u64 (c.blob : Int), .int .i64 c.size, .int .u32 (c.sum : Int), .slice vA vn vc, .int .i64 c.pool, .int .i64 c.vol, .int .i64 c.at_] := hB2.set 7 (.slice vA vn vc)
  have X3 := X2.setCell (p := ⟨b, 7, none⟩) hbl (.slice vA vn vc)
  have hS3 : Sl (W2.setCell ⟨b, 7, none⟩ (.slice vA vn vc)) (.slice vA vn vc) ((diskOf c.disks).map (Value.int .i64)) := hD.chg ((Chg.refl (· = b) _).setCell (.inl rfl) _) fun b' o n' c' hv hne h => hdb b' o n' c' hv h
  have hd6 := diskOf_len c.disks
  have hdr : ∀ d ∈ diskOf c.disks, -9223372036854775808 ≤ d ∧ d ≤ 9223372036854775807 := fun d hd => by
    have := upB_iff.1 ((diskOf_mem c.disks d).1 hd).2; omega
  clear hB2 y7 f7 X2 hD hdb hblt hsb
  generalize diskOf c.disks = ds at hS3 hd6 hdr
  generalize W2.setCell ⟨b, 7, none⟩ (.slice vA vn vc) = W3 at hB3 X3 hS3 ⊢
  obtain ⟨c1, hc1⟩ : ∃ c1 : Cmd, c1 = ⟨c.kind, c.client, c.seq, c.name, c.blob, c.size, c.sum, ds, c.pool, c.vol, c.at_⟩ := ⟨_, rfl⟩
  have hw1 : c1.Wf := by
    rw [hc1]
    exact ⟨hwf.kind, hwf.client, hwf.seq, hwf.blob, hwf.size, hwf.sum, hwf.pool, hwf.vol, hwf.at_, hdr⟩
  have e0 : c.kind = c1.kind := by rw [hc1]
  have e1 : c.client = c1.client := by rw [hc1]
  have e2 : c.seq = c1.seq := by rw [hc1]
  have e3 : c.name = c1.name := by rw [hc1]
  have e4 : c.blob = c1.blob := by rw [hc1]
  have e5 : c.size = c1.size := by rw [hc1]
  have e6 : c.sum = c1.sum := by rw [hc1]
  have e7 : ds = c1.disks := by rw [hc1]
  have e8 : c.pool = c1.pool := by rw [hc1]
  have e9 : c.vol = c1.vol := by rw [hc1]
  have e10 : c.at_ = c1.at_ := by rw [hc1]
  rw [e0, e1, e2, e3, e4, e5, e6, e8, e9, e10] at hB3
  rw [e7] at hS3 hd6
  rw [e3] at hnm
  clear e0 e1 e2 e3 e4 e5 e6 e7 e8 e9 e10 hwf hdl hdr hc1
  refine (cawake_any _).mono ?_
  rintro e w3 ⟨rfl, hE3⟩
  replace hB3 := hB3.ext hE3
  replace hS3 := hS3.ext hE3
  replace X3 := X3.trans hE3
  clear hE3
  have y0 := hB3.cell 0
  have y1 := hB3.cell 1
  have y2 := hB3.cell 2
  have y3 := hB3.cell 3
  have y4 := hB3.cell 4
  have y5 := hB3.cell 5
  have y6 := hB3.cell 6
  have y7 := hB3.cell 7
  have y8 := hB3.cell 8
  have y9 := hB3.cell 9
  have y10 := hB3.cell 10
  simp at y0 y1 y2 y3 y4 y5 y6 y7 y8 y9 y10
  go_wp2_with fail
  have cg := good_any w3 c1 (.slice vA vn vc) hS3 (by omega) (by omega)
  unfold cmdVal at cg
  refine cg.mono ?_
  clear cg
  cases hg : c1.good
  · rintro e w4 ⟨rfl, hE4⟩
    replace X3 := X3.trans hE4
    go_wp2_with fail
    refine (cawake_any _).mono ?_
    rintro e w5 ⟨rfl, hE5⟩
    go_wp2_with fail
    go_ret
    exact ⟨rfl, X3.trans hE5⟩
  · rintro e w4 ⟨rfl, hE4⟩
    replace hB3 := hB3.ext hE4
    replace hS3 := hS3.ext hE4
    replace X3 := X3.trans hE4
    clear hE4
    clear y0 y1 y2 y3 y4 y5 y6 y7 y8 y9 y10
    have y0 := hB3.cell 0
    have y1 := hB3.cell 1
    have y2 := hB3.cell 2
    have y3 := hB3.cell 3
    have y4 := hB3.cell 4
    have y5 := hB3.cell 5
    have y6 := hB3.cell 6
    have y7 := hB3.cell 7
    have y8 := hB3.cell 8
    have y9 := hB3.cell 9
    have y10 := hB3.cell 10
    simp at y0 y1 y2 y3 y4 y5 y6 y7 y8 y9 y10
    go_wp2_with fail
    have hn32 := (Cmd.good_iff.1 hg).2.2.2.2.2.1
    have cw := write_any w4 c1 (.slice vA vn vc) hw1 hS3 (by omega) (by omega)
    unfold cmdVal at cw
    refine cw.mono ?_
    clear cw
    rintro e w5 ⟨rfl, hE5⟩
    replace X3 := X3.trans hE5
    clear hE5 hB3 hS3 y0 y1 y2 y3 y4 y5 y6 y7 y8 y9 y10
    have hlen := cenc_len c1 hd6 (Cmd.good_iff.1 hg).2.2.2.2.2.1
    have hsz : (⟨c1.enc.toArray⟩ : ByteArray).size = c1.enc.length := by show c1.enc.toArray.size = _; simp
    have hcat : ∀ r : ByteArray, ((⟨c1.enc.toArray⟩ : ByteArray) ++ r).data.toList = c1.enc ++ r.data.toList := fun r => by simp [ByteArray.data_append]
    have hcutq : ∀ k : Nat, k < c1.enc.length → cread ((⟨c1.enc.toArray⟩ : ByteArray).extract 0 k).data.toList = (Cmd.zero, 2) := fun k hk => by
      have e1 : ((⟨c1.enc.toArray⟩ : ByteArray).extract 0 k).data.toList = c1.enc.take k := by simp
      rw [e1]
      exact cread_cut hg hw1 (q := c1.enc.drop k) (List.take_append_drop k _).symm (by
        intro h
        have := congrArg List.length h
        simp at this; omega)
    have hmoreq : cread ((⟨c1.enc.toArray⟩ : ByteArray) ++ t).data.toList = if t = ⟨#[]⟩ then (c1, 0) else (Cmd.zero, 3) := by
      rw [hcat]
      split
      · rename_i h; rw [h]
        have := cread_enc hg hw1
        simpa using this
      · rename_i h
        refine cread_more hg hw1 fun hh => h ?_
        have : t.data.toList = (⟨#[]⟩ : ByteArray).data.toList := hh
        exact toList_inj.1 (by rw [ByteArray.toList_eq, ByteArray.toList_eq]; exact this)
    generalize (⟨c1.enc.toArray⟩ : ByteArray) = S at hsz hcutq hmoreq
    generalize c1.enc.length = L at hlen hsz hcutq
    clear hcat hw1 hg hd6 hnm
    -- the second half, once for both ways
    by_cases hc : 0 ≤ cutn ∧ cutn < (L : Int)
    · obtain ⟨hc0, hc1⟩ := hc
      obtain ⟨k, rfl⟩ := Int.eq_ofNat_of_zero_le hc0
      have hkL : k < L := by omega
      have t1 : decide ((0 : Int) ≤ (k : Int)) = true := by simp
      have t2 : k < S.size := by omega
      have t3 : (k : Int) ≤ (S.size : Int) := by omega
      have hkq := hcutq k hkL
      have hex : (S.extract 0 k).size ≤ 140737488355328 := by simp; omega
      clear hcutq hc0 hc1 hcut
      have hcs : S.size + t.size ≤ 9223372036854775807 := by omega
      have HSZ := Lib.hid hsz
      clear hsz
      go_wp2_with fail
      have cr := cread_any w5 (S.extract 0 k) hex
      rw [hkq] at cr
      unfold cmdVal at cr
      refine cr.mono ?_
      clear cr hkq
      rintro e w6 ⟨dv6, rfl, hS6, hE6⟩
      obtain ⟨dA, dc, rfl, _⟩ := hS6
      rw [List.length_map]
      replace X3 := (X3.trans hE6).alloc (.cells #[.int .i64 Cmd.zero.kind, .int .i64 Cmd.zero.client, .int .i64 Cmd.zero.seq, .string Cmd.zero.name, .int .u64 (Cmd.zero.blob : Int), .int .i64 Cmd.zero.size, .int .u32 (Cmd.zero.sum : Int), .slice dA Cmd.zero.disks.length dc, .int .i64 Cmd.zero.pool, .int .i64 Cmd.zero.vol, .int .i64 Cmd.zero.at_] 26)
      go_wp2_with fail
      generalize w6.alloc (.cells #[.int .i64 Cmd.zero.kind, .int .i64 Cmd.zero.client, .int .i64 Cmd.zero.seq, .string Cmd.zero.name, .int .u64 (Cmd.zero.blob : Int), .int .i64 Cmd.zero.size, .int .u32 (Cmd.zero.sum : Int), .slice dA Cmd.zero.disks.length dc, .int .i64 Cmd.zero.pool, .int .i64 Cmd.zero.vol, .int .i64 Cmd.zero.at_] 26) = w7 at X3 ⊢
      clear hE6
      refine (k1 w7).mono ?_
      clear k1
      rintro e w8 ⟨rfl, rfl⟩
      go_wp2_with fail
      have cr := cread_any w8 (S ++ t) (by rw [ByteArray.size_append]; have := HSZ.out; omega)
      rw [hmoreq] at cr
      unfold cmdVal at cr
      by_cases hte : t = ⟨#[]⟩
      · rw [if_pos hte] at cr
        have hme := ht0.1 hte
        subst hme
        refine cr.mono ?_
        clear cr
        rintro e w9 ⟨dv9, rfl, ⟨dA9, dc9, rfl, _⟩, hE9⟩
        rw [List.length_map]
        go_wp2_with fail
        go_ret
        exact ⟨rfl, (X3.trans hE9).alloc _⟩
      · rw [if_neg hte] at cr
        have hme : ¬ more.toList = [] := fun h => hte (ht0.2 (toList_inj.1 (by rw [h]; decide +kernel)))
        have hme2 : more.toList.isEmpty = false := by rw [List.isEmpty_eq_false_iff]; exact hme
        refine cr.mono ?_
        clear cr
        rintro e w9 ⟨dv9, rfl, ⟨dA9, dc9, rfl, _⟩, hE9⟩
        rw [List.length_map]
        go_wp2_with fail
        go_ret
        exact ⟨rfl, (X3.trans hE9).alloc _⟩
    · clear hcutq
      have hcs : S.size + t.size ≤ 9223372036854775807 := by omega
      have k8 := k1 w5
      clear k1
      by_cases hc0 : 0 ≤ cutn
      · obtain ⟨k, rfl⟩ := Int.eq_ofNat_of_zero_le hc0
        have t1 : decide ((0 : Int) ≤ (k : Int)) = true := by simp
        have t2 : ¬ k < S.size := by omega
        clear hcut hc hc0
        have HSZ := Lib.hid hsz
        clear hsz
        go_wp2_with fail
        refine k8.mono ?_
        clear k8
        rintro e w8 ⟨rfl, rfl⟩
        go_wp2_with fail
        have cr := cread_any w8 (S ++ t) (by rw [ByteArray.size_append]; have := HSZ.out; omega)
        rw [hmoreq] at cr
        unfold cmdVal at cr
        by_cases hte : t = ⟨#[]⟩
        · rw [if_pos hte] at cr
          have hme := ht0.1 hte
          subst hme
          refine cr.mono ?_
          clear cr
          rintro e w9 ⟨dv9, rfl, ⟨dA9, dc9, rfl, _⟩, hE9⟩
          rw [List.length_map]
          go_wp2_with fail
          go_ret
          exact ⟨rfl, (X3.trans hE9).alloc _⟩
        · rw [if_neg hte] at cr
          have hme : ¬ more.toList = [] := fun h => hte (ht0.2 (toList_inj.1 (by rw [h]; decide +kernel)))
          have hme2 : more.toList.isEmpty = false := by rw [List.isEmpty_eq_false_iff]; exact hme
          refine cr.mono ?_
          clear cr
          rintro e w9 ⟨dv9, rfl, ⟨dA9, dc9, rfl, _⟩, hE9⟩
          rw [List.length_map]
          go_wp2_with fail
          go_ret
          exact ⟨rfl, (X3.trans hE9).alloc _⟩
      · have t1 : decide ((0 : Int) ≤ cutn) = false := by simp; omega
        clear hcut hc hc0
        have HSZ := Lib.hid hsz
        clear hsz
        go_wp2_with fail
        refine k8.mono ?_
        clear k8
        rintro e w8 ⟨rfl, rfl⟩
        go_wp2_with fail
        have cr := cread_any w8 (S ++ t) (by rw [ByteArray.size_append]; have := HSZ.out; omega)
        rw [hmoreq] at cr
        unfold cmdVal at cr
        by_cases hte : t = ⟨#[]⟩
        · rw [if_pos hte] at cr
          have hme := ht0.1 hte
          subst hme
          refine cr.mono ?_
          clear cr
          rintro e w9 ⟨dv9, rfl, ⟨dA9, dc9, rfl, _⟩, hE9⟩
          rw [List.length_map]
          go_wp2_with fail
          go_ret
          exact ⟨rfl, (X3.trans hE9).alloc _⟩
        · rw [if_neg hte] at cr
          have hme : ¬ more.toList = [] := fun h => hte (ht0.2 (toList_inj.1 (by rw [h]; decide +kernel)))
          have hme2 : more.toList.isEmpty = false := by rw [List.isEmpty_eq_false_iff]; exact hme
          refine cr.mono ?_
          clear cr
          rintro e w9 ⟨dv9, rfl, ⟨dA9, dc9, rfl, _⟩, hE9⟩
          rw [List.length_map]
          go_wp2_with fail
          go_ret
          exact ⟨rfl, (X3.trans hE9).alloc _⟩
end Go.Proofs.Ytclgekgocfhobaa
