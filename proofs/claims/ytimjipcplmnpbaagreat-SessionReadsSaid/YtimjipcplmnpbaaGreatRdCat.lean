/-
  Layer 13: walk of catalog.Read.
-/
import Derived.Test.YtimjipcplmnpbaaGreatRdBlob
namespace Go.Proofs.YtimjipcplmnpbaaGreat
open Go.RowKit Go.Sort

theorem derr_any (w : World) (dB : Nat) (s : ByteArray) (d : Dc) (h : DecAt w dB s d) :
    Calls Tryz.prog 50 #[.pointer (some ⟨dB, 0, none⟩)] w fun e w' => e = .returned (.int .i64 d.err) ∧ w' = w := by
  obtain ⟨_, _, _, k, _, _, h6⟩ := h
  have c2 := h6.cell 2
  simp at c2
  clear h6
  go_enter Tryz.func50, Tryz.ntmps50
  go_wp2
  go_ret
  exact ⟨rfl, rfl⟩
theorem DecAt.drew {w : World} {b : Nat} {s : ByteArray} {d : Dc} (h : DecAt w b s d) : DecAt w.drew b s d := by
  obtain ⟨h1, h2, h3, k, h4, h5, h6⟩ := h
  exact ⟨h1, h2, h3, k, h4, h5, h6.drew⟩
theorem CtAt.dec {w w' : World} {B : Nat → Prop} {c mb mn dB : Nat} {C : Ct} {s : ByteArray} {d : Dc} (h : CtAt w B c mb mn C) (hD : DecAt w dB s d) (hc : Chg (· = dB) w w') : CtAt w' B c mb mn C := by
  obtain ⟨_, _, _, k, _, _, h6⟩ := hD
  exact h.far hc h6 (by decide) (by decide) (by decide)
theorem DecAt.lo_chg {w w' : World} {dB B : Nat} {s : ByteArray} {d : Dc} {S : Nat → Prop} (hD : DecAt w dB s d) (hc : Chg S w w') (hS : ∀ k, S k → B ≤ k) (hB : dB < B) : DecAt w' dB s d := hD.chg hc fun e => by have := hS _ e; omega
theorem RepN.skip {N : List (ByteArray × Nat)} {L : List Bl} {b : Bl} (h : RepN N L) (hd : b.dead = true) (hid : ∀ c ∈ L, c.id ≠ b.id) : RepN N (pset L b) := by
  intro k id
  rw [h k id]
  constructor
  · rintro ⟨c, h1, h2, h3, h4⟩
    exact ⟨c, mem_pset.2 (.inr ⟨h1, hid c h1⟩), h2, h3, h4⟩
  · rintro ⟨c, h1, h2, h3, h4⟩
    rcases mem_pset.1 h1 with rfl | ⟨h5, _⟩
    · rw [hd] at h2; cases h2
    · exact ⟨c, h5, h2, h3, h4⟩
theorem pset_last {L : List Bl} {b : Bl} (h : ∀ c ∈ L, c.id < b.id) : pset L b = L ++ [b] := by
  unfold pset
  have e1 : L.filter (fun c => decide (c.id < b.id)) = L := List.filter_eq_self.2 fun c hc => by have := h c hc; simpa using this
  have e2 : L.filter (fun c => decide (b.id < c.id)) = [] := List.filter_eq_nil_iff.2 fun c hc => by have := h c hc; simp; omega
  rw [e1, e2]
theorem LsW.inv {L : List Bl} (h : LsW L) (hl : L.length ≤ 1073741824) {V : List Vl} (hV : V.length = 12) (hg : ∀ v ∈ V, 0 ≤ v.gen ∧ v.gen ≤ 1073741824) : PInv 1073741824 ⟨L, V⟩ where
  asc := h.asc
  bl := fun b hb => by
    have k := h.bl b hb
    have hp : 0 < b.id := h.pos b hb
    exact ⟨⟨by omega, k.id⟩, ⟨h.nm b hb, k.name⟩, k.size, k.sum, k.rises, k.ca, k.cb, ⟨k.pins.1, k.pins.2⟩⟩
  uniq := h.uniq
  vlen := hV
  gen := hg
  len := hl
theorem lt_of_last {L : List Bl} {n : Nat} (h : LsW L) (hn : lastId L < n) : ∀ c ∈ L, c.id < n := fun c hc => by have := last_le h.asc c hc; omega
/-- a blob more -/
theorem Rep.more {C : Ct} {L : List Bl} {V : List Vl} {b : Bl} {g : Nat} {dv : Value} (h : Rep C ⟨L, V⟩) (hw : LsW L) (hid : lastId L < b.id) (hn : b.dead = false → takenB b.name L = false) :
    Rep ((C.setNames (if b.dead = true then C.names else (b.name, b.id) :: ldel b.name C.names)).add b g dv) ⟨L ++ [b], V⟩ := by
  have hlt := lt_of_last hw hid
  have hne : ∀ c ∈ L, c.id ≠ b.id := fun c hc => by have := hlt c hc; omega
  have hp := pset_last hlt
  refine ⟨?_, ?_, h.vols⟩
  · rw [← hp]
    exact h.rows.add (b := b) (dv := dv) g
  · rw [← hp]
    cases hd : b.dead
    · exact h.names.add hd (taken_false (hn hd)).2 hne
    · exact h.names.skip hd hne
def zerosV (n : Nat) : List Vl := List.replicate n Vl.zero
theorem rdVls_succ (n : Nat) (d : Dc) : rdVls (n + 1) d = ((rdVl d).1 :: (rdVls n (rdVl d).2).1, (rdVls n (rdVl d).2).2) := rfl
theorem rdVls_zero (d : Dc) : rdVls 0 d = ([], d) := rfl
theorem rdVl_all {d : Dc} {c e : Bool × Dc} {g : Nat × Dc} (h1 : d.b = c) (h2 : c.2.b = e) (h3 : e.2.i 1073741824 = g) : rdVl d = (⟨c.1, e.1, g.1⟩, g.2) := by subst h1 h2 h3; rfl
theorem rdCat_end {s : List UInt8} {L : List Bl} {d : Dc} (h : rdEnd ⟨s, 0⟩ = (L, d)) {V : List Vl} {d' : Dc} (hv : rdVls 12 d = (V, d')) : rdCat s = if d'.done.err = 0 then (⟨L, V⟩, 0) else (Pm.empty, d'.done.err) := by
  unfold rdCat
  rw [h]
  simp only
  rw [hv]
theorem Rep.vset {C : Ct} {L : List Bl} {V : List Vl} (h : Rep C ⟨L, V⟩) (vs : List Vl) : Rep (C.setVols vs) ⟨L, vs⟩ := ⟨h.rows, h.names, rfl⟩
theorem zeros_set (V : List Vl) (m : Nat) (x : Vl) : (V ++ zerosV (m + 1)).set V.length x = (V ++ [x]) ++ zerosV m := by
  rw [List.set_append_right _ _ (Nat.le_refl _), Nat.sub_self]
  unfold zerosV
  rw [List.replicate_succ, List.set_cons_zero]
  simp
theorem set_get {vs : List Vl} {j : Nat} {y : Vl} (h : vs[j]? = some y) (x : Vl) : (vs.set j x)[j]? = some x := by
  rw [List.getElem?_set, if_pos rfl, if_pos (List.getElem?_eq_some_iff.1 h).1]
/-- a cell of a volume is stored -/
theorem CtAt.volStore {w : World} {B : Nat → Prop} {c mb mn : Nat} {C : Ct} (h : CtAt w B c mb mn C) {j k : Nat} {x x' : Vl} {u : Value} (hk : k < 3) (hx : C.vols[j]? = some x) (hr : vlRow x' = (vlRow x).set k u) :
    CtAt (w.setCell ⟨c, 2 + j * 3 + k, none⟩ u) B c mb mn (C.setVols (C.vols.set j x')) ∧ Chg (· = c) w (w.setCell ⟨c, 2 + j * 3 + k, none⟩ u) := by
  have hA := At.setVol (j := k) (x' := x') (u := u) h.blk hk hx hr
  have hC := (Chg.refl (· = c) w).setCell (p := ⟨c, 2 + j * 3 + k, none⟩) (.inl rfl) u
  exact ⟨h.chgVols hC hA (by rw [List.length_set]; exact h.vlen), hC⟩
theorem pair_eta (q : List Vl × Dc) : q = ([] ++ q.1, q.2) := rfl
/-- what catalog.Read leaves -/
def RdCatOut (w : World) (s : ByteArray) (e : Ending) (w' : World) : Prop :=
  ((rdCat s.data.toList).2 = 0 → ∃ B c mb mn, w.heap.size ≤ B ∧ e = .returned (.tuple #[.pointer (some ⟨c, 0, none⟩), .int .i64 0]) ∧ CatIn w' (Hi B) c mb mn (rdCat s.data.toList).1) ∧
  ((rdCat s.data.toList).2 ≠ 0 → e = .returned (.tuple #[.pointer none, .int .i64 (rdCat s.data.toList).2])) ∧ Ext w w'
theorem rdCat_bad {s : List UInt8} {L : List Bl} {d : Dc} (h : rdEnd ⟨s, 0⟩ = (L, d)) (hd : d.err ≠ 0) : rdCat s = (Pm.empty, d.err) := by
  unfold rdCat
  rw [h]
  simp only
  rw [vls_err 12 d hd, Dc.done_stays hd, if_neg hd]
set_option maxRecDepth 100000 in
set_option maxHeartbeats 8000000 in
theorem cread_any (w : World) (s : ByteArray) (hs : s.size ≤ 140737488355328) : Calls Tryz.prog 51 #[.string s] w (RdCatOut w s) := by
  go_enter Tryz.func51, Tryz.ntmps51
  go_wp2_with fail
  refine (from_any w s hs).mono ?_
  rintro e w1 ⟨dB, rfl, hdB, hD1, hE1⟩
  have hdlt := hD1.lt
  go_wp2_with fail
  obtain ⟨B, hBe⟩ : ∃ B, w1.heap.size = B := ⟨_, rfl⟩
  have hN := cnew_any w1
  rw [hBe] at hN
  have hwB : w.heap.size ≤ B := by have := hE1.size; omega
  have hdB2 : dB < B := by omega
  clear hBe hdlt
  refine hN.mono ?_
  rintro e w2 ⟨c, mb, mn, rfl, hC2, hE2⟩
  have hD2 := hD1.chg hE2 (fun e => e)
  have X2 := hE1.trans hE2
  clear hN hD1 hE1 hE2
  go_wp2_with fail
  refine (di_any _ dB s _ hD2 100000 (by decide) (by decide)).mono ?_
  rintro e w3 ⟨rfl, hT⟩
  obtain ⟨C3, hC3, hR3⟩ := hC2
  have hC3 := hC3.dec hD2 hT.1
  have hD3 := hT.2
  have X3 : Ext w w3 := Chg.mono (Chg.trans (Ext.chg (S := (· = dB)) X2) hT.1 (fun _ _ e => e)) (fun k hk e => by have e' : k = dB := e; omega)
  have hNl := di_le ⟨s.data.toList, 0⟩ 100000 (by decide)
  have hRE : rdEnd ⟨s.data.toList, 0⟩ = rdBlobs (Dc.i ⟨s.data.toList, 0⟩ 100000).1 [] (Dc.i ⟨s.data.toList, 0⟩ 100000).2 := rfl
  clear hT hD2 X2
  generalize Dc.i ⟨s.data.toList, 0⟩ 100000 = nd at *
  obtain ⟨N, d0⟩ := nd
  simp only at hNl hRE hD3
  obtain ⟨RB, hRB⟩ : ∃ RB, rdBlobs N [] d0 = RB := ⟨_, rfl⟩
  rw [hRB] at hRE
  have HRE := Lib.hid hRE
  clear hRE
  go_wp2_with fail
  go_loopw [7, 21] (fun lv kv wr => ∃ (k : Nat) (L : List Bl) (d : Dc) (C : Ct), kv = .int .i64 (k : Int) ∧ lv = .int .u64 (lastId L : Int) ∧ k ≤ N ∧ L.length = k ∧ Hid (rdBlobs (N - k) L d = RB) ∧ LsW L ∧ DecAt wr dB s d ∧ CtAt wr (Hi B) c mb mn C ∧ Rep C ⟨L, zerosV 12⟩ ∧ Ext w wr) (fun _ kv _ => N - (intOf kv).toNat)
  case atStart => exact ⟨0, [], d0, C3, rfl, rfl, Nat.zero_le _, rfl, Lib.hid hRB, LsW.nil, hD3, hC3, hR3, X3⟩
  case round =>
    clear hD3 hC3 hR3 X3 hRB
    obtain ⟨k, L, d, C, rfl, rfl, hk, hLl, HB, hL, hD, hC, hR, X⟩ := hrel
    by_cases hlt : k < N
    · obtain ⟨m, hm⟩ : ∃ m, N - k = m + 1 := ⟨N - k - 1, by omega⟩
      have hB1 := HB.out
      have HM := Lib.hid hm
      rw [hm] at hB1
      unfold rdBlobs at hB1
      go_wp2_with fail
      refine (readBlob_any wr dB s d hD).mono ?_
      rintro e w4 ⟨g, dv, rfl, hR4⟩
      have hC4 := hC.dec hD hR4.chg
      have hgr : ∀ r ∈ C.rows, r.g ≠ g := fun r hr e => by have := (hC.bl r hr).1.lt; have := hR4.new; omega
      have hgB : Hi B g := by show B ≤ g; have := hR4.new; have hcB : B ≤ c := hC.lo.1; have := hC.blk.lt; omega
      have X4 : Ext w w4 := Chg.mono (Chg.trans (Ext.chg (S := (· = dB)) X) hR4.chg (fun _ _ e => e)) (fun k hk e => by have e' : k = dB := e; omega)
      have hD4 := hR4.dec
      have hA4 := hR4.at_
      have hO4 : w4.ownsRow 0 3 1 dv (rdB d).bl.disks.length ((rdB d).bl.disks.map (Value.int .i64)) := own_low hR4.own (Nat.zero_le _)
      have hdg : dB ≠ g := hD4.apart hA4 (by decide)
      clear hR4 hC hD X HB hm
      have hblw : ((rdB d).pn.2).err = 0 → BlW (rdB d).bl := fun e => (bl_step e).2.2
      generalize (rdB d).bl = b at *
      generalize (rdB d).pn.2 = d1 at *
      have HB1 := Lib.hid hB1
      have HLW := Lib.hid hblw
      clear hB1 hblw
      have c0 := hA4.cell 0
      simp at c0
      -- the number
      go_upto_if 30 with fail
      go_cut [] from 25 to 32 (fun wx => DecAt wx dB s (ckId L b d1) ∧ At wx g 108 (blCells b dv) ∧ wx.ownsRow 0 3 1 dv b.disks.length (b.disks.map (Value.int .i64)) ∧ CtAt wx (Hi B) c mb mn C ∧ Ext w wx)
      case first =>
        by_cases hid : b.id ≤ lastId L
        · have e1 : ckId L b d1 = d1.fail 3 := by unfold ckId; rw [if_pos (by simpa using hid)]
          go_wp2_with fail
          refine (dfail_any _ dB s _ hD4 3 (by decide)).mono ?_
          rintro e w5 ⟨rfl, hT⟩
          have hA5 := hA4.chg hT.1 (fun e => hdg e.symm)
          have hO5 := own_keep hO4 hT.1 (hD4.ownApart hO4 (by decide))
          have hC5 := hC4.dec hD4 hT.1
          have X5 : Ext w w5 := Chg.mono (Chg.trans (Ext.chg (S := (· = dB)) X4) hT.1 (fun _ _ e => e)) (fun k hk e => by have e' : k = dB := e; omega)
          go_wp2_with fail
          go_meet
          case rel => exact ⟨by rw [e1]; exact hT.2, hA5, hO5, hC5, X5⟩
        · have e1 : ckId L b d1 = d1 := by unfold ckId; rw [if_neg (by simpa using hid)]
          go_wp2_with fail
          go_meet
          case rel => exact ⟨by rw [e1]; exact hD4, hA4, hO4, hC4, X4⟩
      case rest =>
        clear hD4 hA4 hO4 hC4 X4 c0
        obtain ⟨hD5, hA5, hO5, hC5, X5⟩ := hcut
        have HCK : Hid (ckB L b d1 = ckNm L b (ckId L b d1)) := Lib.hid rfl
        generalize ckId L b d1 = d2 at hD5 HCK
        have c12 := hA5.cell 12
        simp at c12
        obtain ⟨fl, hfl⟩ : ∃ fl, b.dead = fl := ⟨_, rfl⟩
        rw [hfl] at c12
        have HFL := Lib.hid hfl
        clear hfl
        go_upto_if 37 with fail
        go_cut [9, 10] from 33 to 71 (fun _ _ wx => DecAt wx dB s (ckNm L b d2) ∧ At wx g 108 (blCells b dv) ∧ wx.ownsRow 0 3 1 dv b.disks.length (b.disks.map (Value.int .i64)) ∧ CtAt wx (Hi B) c mb mn (C.setNames (if b.dead = true then C.names else (b.name, b.id) :: ldel b.name C.names)) ∧ Ext w wx)
        case first =>
          cases fl
          rotate_left
          · have hd := HFL.out
            have e1 : ckNm L b d2 = d2 := by unfold ckNm; rw [hd]; rfl
            have HD := Lib.hid hd
            clear hd
            go_wp2_with fail
            go_meet
            case rel => exact ⟨by rw [e1]; exact hD5, hA5, hO5, by rw [if_pos HD.out]; exact hC5, X5⟩
          · have HD := HFL
            have hlk := (hC5.ext (Ext.refl wc).drew).lookName b.name
            obtain ⟨c0, c1⟩ := hC5.c0
            have a1 := hA5.cell 1
            simp at a1
            go_upto_region 11 with fail
            go_region
            have hDd : DecAt wc.drew dB s d2 := hD5.drew
            have hAd := hA5.drew
            have hOd := own_keep hO5 (Ext.refl wc).drew (fun _ _ hh => hh)
            have hCd := hC5.ext (Ext.refl wc).drew
            have Xd := X5.drew
            clear hlk c0 c1 a1 c12 hD5 hA5 hO5 hC5 X5
            generalize wc.drew = wd at *
            have htk : takenB b.name L = ((lget b.name C.names).isSome || decide (b.name = ByteArray.empty)) := by
              unfold takenB
              rw [Rep.named hCd hR (hL.inv (by omega) (by rfl) (fun v hv => by rw [List.eq_of_mem_replicate hv]; decide)) b.name]
              unfold Pm.named
              simp only
              congr 1
              rw [Option.isSome_map]
              cases h : L.find? (liveB b.name) with
              | none =>
                rw [List.find?_eq_none] at h
                exact List.any_eq_false.2 h
              | some x => exact List.any_eq_true.2 ⟨x, List.mem_of_find?_eq_some h, List.find?_some h⟩
            have he1 : b.name.toList.isEmpty = decide (b.name = ByteArray.empty) := by
              by_cases hn : b.name = ByteArray.empty
              · rw [hn, Lib.toList_data]; rfl
              · rw [decide_eq_false hn]
                cases he : b.name.toList.isEmpty
                · rfl
                · exact absurd (toList_inj.1 (by rw [List.isEmpty_iff.1 he, Lib.toList_data]; rfl)) hn
            have a1 := hAd.cell 1
            simp at a1
            generalize lget b.name C.names = lo at htk ⊢
            have HTK := Lib.hid htk
            clear htk
            have HE1 := Lib.hid he1
            obtain ⟨tk, htk2⟩ : ∃ tk, takenB b.name L = tk := ⟨_, rfl⟩
            have HT2 := Lib.hid htk2
            rw [htk2] at HTK
            clear htk2
            obtain ⟨wo, hwo⟩ : ∃ wo : World, wo = wd := ⟨_, rfl⟩
            go_upto_region 12 with fail
            go_cut [57] from 50 to 57 (fun tv wx => tv = .bool tk ∧ wx = wo)
            case first =>
              clear hDd hAd hOd hCd Xd
              cases lo with
              | some q =>
                obtain rfl : tk = true := HTK.out
                clear he1
                go_wp2_with fail
                go_meet
                case rel => exact ⟨by first | rfl | simp, hwo.symm⟩
              | none =>
                by_cases hn : b.name = ByteArray.empty
                · obtain rfl : tk = true := by rw [HTK.out, hn]; rfl
                  have he2 : b.name.toList.isEmpty = true := by rw [HE1.out, hn]; rfl
                  clear he1 hn
                  go_wp2_with fail
                  go_meet
                  case rel => exact ⟨by first | rfl | simp [he2] | simp, hwo.symm⟩
                · obtain rfl : tk = false := by rw [HTK.out, decide_eq_false hn]; rfl
                  have he2 : b.name.toList.isEmpty = false := by rw [HE1.out, decide_eq_false hn]
                  clear he1 hn
                  go_wp2_with fail
                  go_meet
                  case rel => exact ⟨by first | rfl | simp [he2] | simp, hwo.symm⟩
            case rest =>
              obtain ⟨rfl, hwc⟩ := hcut
              subst hwc
              subst hwo
              clear a1 he1 HTK HE1
              go_upto_if 57 with fail
              go_cut [] from 58 to 59 (fun wx => DecAt wx dB s (ckNm L b d2) ∧ At wx g 108 (blCells b dv) ∧ wx.ownsRow 0 3 1 dv b.disks.length (b.disks.map (Value.int .i64)) ∧ CtAt wx (Hi B) c mb mn C ∧ Ext w wx)
              case first =>
                cases tk
                · have e1 : ckNm L b d2 = d2 := by unfold ckNm; rw [HT2.out, HD.out]; rfl
                  go_wp2_with fail
                  go_meet
                  case rel => exact ⟨by rw [e1]; exact hDd, hAd, hOd, hCd, Xd⟩
                · have e1 : ckNm L b d2 = d2.fail 3 := by unfold ckNm; rw [HT2.out, HD.out]; rfl
                  go_wp2_with fail
                  refine (dfail_any _ dB s _ hDd 3 (by decide)).mono ?_
                  rintro e w5 ⟨rfl, hT⟩
                  have hA5 := hAd.chg hT.1 (fun e => hdg e.symm)
                  have hO5 := own_keep hOd hT.1 (hDd.ownApart hOd (by decide))
                  have hC5 := hCd.dec hDd hT.1
                  have X5 : Ext w w5 := Chg.mono (Chg.trans (Ext.chg (S := (· = dB)) Xd) hT.1 (fun _ _ e => e)) (fun k hk e => by have e' : k = dB := e; omega)
                  go_wp2_with fail
                  go_meet
                  case rel => exact ⟨by rw [e1]; exact hT.2, hA5, hO5, hC5, X5⟩
              case rest =>
                clear hDd hAd hOd hCd Xd
                obtain ⟨hD6, hA6, hO6, hC6, X6⟩ := hcut
                obtain ⟨w7, hup, hC7, hCh7⟩ := (hC6.ext ((Ext.refl wc).drew)).addName b.name b.id
                obtain ⟨c0, c1⟩ := hC6.c0
                have a0 := hA6.cell 0
                have a1 := hA6.cell 1
                simp at a0 a1
                have hmnB : B ≤ mn := hC6.lo.2.2.1
                have hD7 : DecAt w7 dB s (ckNm L b d2) := DecAt.chg hD6.drew hCh7 (fun e => by have e' : dB = mn := e; omega)
                have hA7 := hA6.drew.chg hCh7 (fun e => hC6.nm.ne_at hA6 e.symm)
                have hO7 := own_keep (own_keep hO6 (Ext.refl wc).drew (fun _ _ hh => hh)) hCh7 (fun k hk e => own_map hO6 hC6.nm k hk e)
                have X7 : Ext w w7 := Chg.mono (Chg.trans (Ext.chg (S := (· = mn)) X6.drew) hCh7 (fun _ _ e => e)) (fun k hk e => by have e' : k = mn := e; omega)
                have HALL := Lib.hid (And.intro hD7 (And.intro hA7 (And.intro hO7 (And.intro hC7 X7))))
                clear hD6 hA6 hO6 hC6 X6 hD7 hA7 hO7 hC7 X7 hCh7
                go_upto_region 14 with fail
                go_region
                go_wp2_with fail
                go_meet
                case rel =>
                  obtain ⟨h1, h2, h3, h4, h5⟩ := HALL.out
                  exact ⟨h1, h2, h3, by rw [HD.out]; exact h4, h5⟩
        case rest =>
          clear hD5 hA5 hO5 hC5 X5 c12 HFL
          obtain ⟨hD7, hA7, hO7, hC7, X7⟩ := hcut
          rw [← HCK.out] at hD7
          clear HCK
          generalize hd3 : ckB L b d1 = d3 at hD7
          have HD3 := Lib.hid hd3
          clear hd3
          have hB2 := HB1.out
          rw [HD3.out] at hB2
          go_wp2_with fail
          refine (derr_any _ dB s _ hD7).mono ?_
          rintro e w8 ⟨rfl, hw8⟩
          subst hw8
          by_cases he : d3.err = 0
          · rw [if_pos he] at hB2
            have hck := ck_step (L := L) (b := b) (d := d1) (by rw [HD3.out]; exact he)
            have hL2 := hL.snoc (HLW.out hck.1) hck.2.2.1 hck.2.2.2
            obtain ⟨w9, hup, hC9, hCh9⟩ := (hC7.ext ((Ext.refl w8).drew)).addRow (b := b) (g := g) (dv := dv) hA7.drew (own_keep hO7 (Ext.refl w8).drew (fun _ _ hh => hh)) hgr hgB
            obtain ⟨c0, c1⟩ := hC7.c0
            have a0 := hA7.cell 0
            simp at a0
            have hmbB : B ≤ mb := hC7.lo.2.1
            have hD9 : DecAt w9 dB s d3 := DecAt.chg hD7.drew hCh9 (fun e => by have e' : dB = mb := e; omega)
            have X9 : Ext w w9 := Chg.mono (Chg.trans (Ext.chg (S := (· = mb)) X7.drew) hCh9 (fun _ _ e => e)) (fun k hk e => by have e' : k = mb := e; omega)
            have hR9 := Rep.more (g := g) (dv := dv) hR hL hck.2.2.1 hck.2.2.2
            have hlast : lastId (L ++ [b]) = b.id := by
              unfold lastId
              rw [List.getLast?_append]
              simp only [List.getLast?_singleton, Option.some_or]
            have HALL := Lib.hid (And.intro hD9 (And.intro hC9 (And.intro hR9 (And.intro hL2 (And.intro hB2 (And.intro X9 hlast))))))
            clear hD7 hA7 hO7 hC7 X7 hD9 hC9 hR9 hL2 hB2 X9 hlast hCh9 hck hR hL
            go_upto_region 19 with fail
            go_region
            go_wp2_with fail
            go_roundw
            case rel =>
              obtain ⟨h1, h2, h3, h4, h5, h6, h7⟩ := HALL.out
              exact ⟨k + 1, L ++ [b], d3, _, by go_num, by rw [h7], by omega, by simp [hLl], Lib.hid (by rw [show N - (k + 1) = m by have := HM.out; omega]; exact h5), h4, h1, h2, h3, h6⟩
            case measure => simp [intOf]; omega
          · rw [if_neg he] at hB2
            have hbad := rdCat_bad (L := L) (d := d3) (by rw [HRE.out]; exact hB2.symm) he
            have hF : RdCatOut w s (.returned (.tuple #[.pointer none, .int .i64 d3.err])) w8 := by
              unfold RdCatOut
              rw [hbad]
              exact ⟨fun e => absurd e he, fun _ => rfl, X7⟩
            have HF := Lib.hid hF
            clear hbad hB2 hD7 hA7 hO7 hC7 X7 hR hL hF
            go_wp2_with fail
            refine bodyPost_ret (v := .tuple #[.pointer none, .int .i64 d3.err]) (by simp [results, Tryz.results51, go_sem]) rfl ?_
            exact HF.out
    · obtain rfl : k = N := by omega
      have hB1 := HB.out
      rw [Nat.sub_self] at hB1
      have hRE : rdEnd ⟨s.data.toList, 0⟩ = (L, d) := by rw [HRE.out]; exact hB1.symm
      have HREQ := Lib.hid hRE
      obtain ⟨VS, hVS⟩ : ∃ VS, VS = rdVls 12 d := ⟨_, rfl⟩
      have HVS := Lib.hid hVS
      have HVS2 : Hid (VS = ([] ++ (rdVls 12 d).1, (rdVls 12 d).2)) := Lib.hid (hVS.trans (pair_eta _))
      have hlenL : L.length ≤ 100000 := by omega
      clear HB hB1 hRE HRE hVS
      go_wp2_with fail
      go_loopw [91] (fun jv wr => ∃ (j n : Nat) (V : List Vl) (d' : Dc) (C : Ct), jv = .int .i64 (j : Int) ∧ n + j = 12 ∧ V.length = j ∧ Hid (VS = (V ++ (rdVls n d').1, (rdVls n d').2)) ∧ (∀ v ∈ V, 0 ≤ v.gen ∧ v.gen ≤ 1073741824) ∧ DecAt wr dB s d' ∧ CtAt wr (Hi B) c mb mn C ∧ Rep C ⟨L, V ++ zerosV n⟩ ∧ Ext w wr) (fun jv _ => 12 - (intOf jv).toNat)
      case atStart => exact ⟨0, 12, [], d, C, rfl, rfl, rfl, HVS2, fun v hv => (by cases hv), hD, hC, hR, X⟩
      case round =>
        clear hD hC hR X
        obtain ⟨j, n, V, d', C', rfl, hj, hVl, HB, hVg, hD, hC, hR, X⟩ := hrel
        by_cases hj2 : j < 12
        · have hVs : C'.vols = V ++ zerosV n := hR.vols
          have hget : C'.vols[j]? = some Vl.zero := by
            rw [hVs, List.getElem?_append_right (by omega), hVl, Nat.sub_self]
            unfold zerosV
            rw [List.getElem?_replicate, if_pos (by omega)]
          have hgetD : C'.vols.getD j Vl.zero = Vl.zero := by rw [List.getD_eq_getElem?_getD, hget]; rfl
          have hdc : dB ≠ c := fun e => by have hcB : B ≤ c := hC.lo.1; omega
          obtain ⟨m, rfl⟩ : ∃ m, n = m + 1 := ⟨n - 1, by omega⟩
          have HBV := Lib.hid HB.out
          clear HB hgetD
          have HVEQ : Hid (C'.vols = V ++ zerosV (m + 1)) := Lib.hid hVs
          clear hVs
          go_wp2_with fail
          refine (db_any _ dB s d' hD).mono ?_
          rintro e w1 ⟨rfl, hT⟩
          have hC1 := hC.dec hD hT.1
          have X1 : Ext w w1 := Chg.mono (Chg.trans (Ext.chg (S := (· = dB)) X) hT.1 (fun _ _ e => e)) (fun k hk e => by have e' : k = dB := e; omega)
          have hD1 := hT.2
          generalize ht1 : d'.b = t1 at hD1 ⊢
          have HT1 := Lib.hid ht1
          have v0 := (vol_cells hC1 j hj2).1
          have f0 := hC1.blk.frozen (2 + j * 3)
          obtain ⟨hC2, hc2⟩ := hC1.volStore (j := j) (k := 0) (x' := ⟨t1.1, false, 0⟩) (u := .bool t1.1) (by omega) hget rfl
          rw [Nat.add_zero] at hC2 hc2
          have hD2 : DecAt _ dB s t1.2 := hD1.chg hc2 (fun e => hdc e)
          have X2 : Ext w _ := Chg.mono (Chg.trans (Ext.chg (S := (· = c)) X1) hc2 (fun _ _ e => e)) (fun k hk e => by have e' : k = c := e; have hcB : B ≤ c := hC.lo.1; omega)
          have hg2 : (C'.setVols (C'.vols.set j ⟨t1.1, false, 0⟩)).vols[j]? = some ⟨t1.1, false, 0⟩ := set_get hget _
          have HJ := Lib.hid (And.intro hC2 (And.intro hD2 X2))
          clear hD hT ht1 hC1 X1 hD1 hC2 hc2 hD2 X2 X
          go_wp2_with fail
          obtain ⟨hC2, hD2, X2⟩ := HJ.out
          clear HJ v0 f0
          generalize World.setCell _ _ _ = W2 at hC2 hD2 X2 ⊢
          refine (db_any _ dB s t1.2 hD2).mono ?_
          rintro e w1 ⟨rfl, hT⟩
          have hC1 := hC2.dec hD2 hT.1
          have X1 : Ext w w1 := Chg.mono (Chg.trans (Ext.chg (S := (· = dB)) X2) hT.1 (fun _ _ e => e)) (fun k hk e => by have e' : k = dB := e; omega)
          have hD1 := hT.2
          generalize ht1 : t1.2.b = t2 at hD1 ⊢
          have HTt2 := Lib.hid ht1
          have v0 := (vol_cells hC1 j hj2).2.1
          have f0 := hC1.blk.frozen (2 + j * 3 + 1)
          obtain ⟨hCn, hcn⟩ := hC1.volStore (j := j) (k := 1) (x' := ⟨t1.1, t2.1, 0⟩) (u := .bool t2.1) (by omega) hg2 rfl
          have hDn : DecAt _ dB s t2.2 := hD1.chg hcn (fun e => hdc e)
          have Xn : Ext w _ := Chg.mono (Chg.trans (Ext.chg (S := (· = c)) X1) hcn (fun _ _ e => e)) (fun k hk e => by have e' : k = c := e; have hcB : B ≤ c := hC2.lo.1; omega)
          have hgn := set_get hg2 ⟨t1.1, t2.1, 0⟩
          have HJ := Lib.hid (And.intro hCn (And.intro hDn Xn))
          clear hC2 hD2 X2 hT ht1 hC1 X1 hD1 hCn hcn hDn Xn hg2
          have hg2 := hgn
          clear hgn
          go_wp2_with fail
          obtain ⟨hC3, hD3, X3⟩ := HJ.out
          clear HJ v0 f0
          generalize World.setCell _ _ _ = W3 at hC3 hD3 X3 ⊢
          refine (di_any _ dB s t2.2 hD3 1073741824 (by decide) (by decide)).mono ?_
          rintro e w1 ⟨rfl, hT⟩
          have hC1 := hC3.dec hD3 hT.1
          have X1 : Ext w w1 := Chg.mono (Chg.trans (Ext.chg (S := (· = dB)) X3) hT.1 (fun _ _ e => e)) (fun k hk e => by have e' : k = dB := e; omega)
          have hD1 := hT.2
          generalize ht1 : t2.2.i 1073741824 = t3 at hD1 ⊢
          have ht3l := di_le t2.2 1073741824 (by decide)
          rw [ht1] at ht3l
          have HTt3 := Lib.hid ht1
          have v0 := (vol_cells hC1 j hj2).2.2
          have f0 := hC1.blk.frozen (2 + j * 3 + 2)
          obtain ⟨hCn, hcn⟩ := hC1.volStore (j := j) (k := 2) (x' := ⟨t1.1, t2.1, t3.1⟩) (u := .int .i64 (t3.1 : Int)) (by omega) hg2 rfl
          have hDn : DecAt _ dB s t3.2 := hD1.chg hcn (fun e => hdc e)
          have Xn : Ext w _ := Chg.mono (Chg.trans (Ext.chg (S := (· = c)) X1) hcn (fun _ _ e => e)) (fun k hk e => by have e' : k = c := e; have hcB : B ≤ c := hC3.lo.1; omega)
          have hgn := set_get hg2 ⟨t1.1, t2.1, t3.1⟩
          have HJ := Lib.hid (And.intro hCn (And.intro hDn Xn))
          clear hC3 hD3 X3 hT ht1 hC1 X1 hD1 hCn hcn hDn Xn hg2
          have hg2 := hgn
          clear hgn
          obtain ⟨hC4, hD4, X4⟩ := HJ.out
          clear HJ
          have hvl : rdVl d' = (⟨t1.1, t2.1, t3.1⟩, t3.2) := rdVl_all HT1.out HTt2.out HTt3.out
          have hR4 := (((hR.vset (C'.vols.set j ⟨t1.1, false, 0⟩)).vset ((C'.vols.set j ⟨t1.1, false, 0⟩).set j ⟨t1.1, t2.1, 0⟩)).vset (((C'.vols.set j ⟨t1.1, false, 0⟩).set j ⟨t1.1, t2.1, 0⟩).set j ⟨t1.1, t2.1, t3.1⟩))
          have hvs : ((C'.vols.set j ⟨t1.1, false, 0⟩).set j ⟨t1.1, t2.1, 0⟩).set j ⟨t1.1, t2.1, t3.1⟩ = (V ++ [⟨t1.1, t2.1, t3.1⟩]) ++ zerosV m := by
            rw [List.set_set, List.set_set, HVEQ.out, ← hVl, zeros_set]
          have hB4 : VS = ((V ++ [⟨t1.1, t2.1, t3.1⟩]) ++ (rdVls m t3.2).1, (rdVls m t3.2).2) := by
            have := HBV.out
            rw [rdVls_succ, hvl] at this
            rw [this]
            simp only [List.append_assoc, List.singleton_append]
          have hg4 : ∀ v ∈ V ++ [⟨t1.1, t2.1, (t3.1 : Int)⟩], 0 ≤ v.gen ∧ v.gen ≤ 1073741824 := fun v hv => by
            rcases List.mem_append.1 hv with hv | hv
            · exact hVg v hv
            · rw [List.mem_singleton] at hv; subst hv; exact ⟨Int.natCast_nonneg _, ht3l⟩
          have HALL := Lib.hid (And.intro hC4 (And.intro hD4 (And.intro X4 (And.intro hR4 (And.intro hvs (And.intro hB4 hg4))))))
          clear hC4 hD4 X4 hR4 hvs hB4 hg4 hvl hg2 hget hR hVg ht3l
          go_wp2_with fail
          go_roundw
          case rel =>
            obtain ⟨h1, h2, h3, h4, h5, h6, h7⟩ := HALL.out
            refine ⟨j + 1, m, V ++ [⟨t1.1, t2.1, t3.1⟩], t3.2, _, by go_num, by omega, by simp [hVl], Lib.hid h6, h7, h2, h1, ?_, h3⟩
            rw [← h5]
            exact h4
          case measure => simp [intOf]; omega
        · obtain ⟨rfl, hj12⟩ : n = 0 ∧ j = 12 := by omega
          subst hj12
          have hB2 := HB.out
          rw [rdVls_zero, List.append_nil] at hB2
          have hcat := rdCat_end HREQ.out (HVS.out.symm.trans hB2)
          have hR2 : Rep C' ⟨L, V⟩ := by
            have : V ++ zerosV 0 = V := List.append_nil V
            rw [this] at hR
            exact hR
          have HCAT := Lib.hid hcat
          clear HB hB2 hcat hR HREQ HVS HVS2
          go_wp2_with fail
          refine (ddone_any _ dB s d' hD).mono ?_
          rintro e w1 ⟨rfl, hT⟩
          have hC1 := hC.dec hD hT.1
          have X1 : Ext w w1 := Chg.mono (Chg.trans (Ext.chg (S := (· = dB)) X) hT.1 (fun _ _ e => e)) (fun k hk e => by have e' : k = dB := e; omega)
          clear hC X hD hT
          by_cases he : d'.done.err = 0
          · have hF : RdCatOut w s (.returned (.tuple #[.pointer (some ⟨c, 0, none⟩), .int .i64 0])) w1 := by
              unfold RdCatOut
              rw [HCAT.out, if_pos he]
              exact ⟨fun _ => ⟨B, c, mb, mn, hwB, rfl, C', hC1, hR2⟩, fun e => absurd rfl e, X1⟩
            have HF := Lib.hid hF
            clear hF hC1 X1 hR2 HCAT
            go_wp2_with fail
            refine bodyPost_ret (v := .tuple #[.pointer (some ⟨c, 0, none⟩), .int .i64 0]) (by simp [results, Tryz.results51, go_sem]) rfl ?_
            exact HF.out
          · have hF : RdCatOut w s (.returned (.tuple #[.pointer none, .int .i64 d'.done.err])) w1 := by
              unfold RdCatOut
              rw [HCAT.out, if_neg he]
              exact ⟨fun e => absurd e he, fun _ => rfl, X1⟩
            have HF := Lib.hid hF
            clear hF hC1 X1 hR2 HCAT
            go_wp2_with fail
            refine bodyPost_ret (v := .tuple #[.pointer none, .int .i64 d'.done.err]) (by simp [results, Tryz.results51, go_sem]) rfl ?_
            exact HF.out
end Go.Proofs.YtimjipcplmnpbaaGreat
