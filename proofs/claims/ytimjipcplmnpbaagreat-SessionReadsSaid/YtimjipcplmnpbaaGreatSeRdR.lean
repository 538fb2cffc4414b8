/-
  Layer 14: walk of readResult.
-/
import Derived.Test.YtimjipcplmnpbaaGreatSeRd
import Derived.Test.YtimjipcplmnpbaaGreatRdCat
import Derived.Test.YtimjipcplmnpbaaGreatSe2
namespace Go.Proofs.YtimjipcplmnpbaaGreat
open Go.RowKit Go.Sort

theorem strR_info : (Tryz.prog.info? 9).map (fun i => (i.zero, i.size, i.bytes)) = some (some (.string ByteArray.empty), 1, 16) := by kernel_rfl
def resA (r : Rs) (nv : Value) : Array Value := #[.int .i64 r.err, .int .u64 (r.blob : Int), .int .i64 r.size, .int .u32 (r.sum : Int), nv]
/-- readResult, under way -/
structure Sst (w0 w : World) (dB : Nat) (s : ByteArray) (d : Dc) (q rb : Nat) (r : Rs) (nv : Value) : Prop where
  chg : Chg (· = dB) w0 w
  dec : DecAt w dB s d
  box : At w q 36 (resA (Rs.er 0) (.slice none 0 0))
  at_ : At w rb 36 (resA r nv)
  own : w.ownsRow w0.heap.size 9 1 nv r.names.length (r.names.map Value.string)
  new : w0.heap.size ≤ q ∧ w0.heap.size ≤ rb ∧ q ≠ rb
  old : dB < w0.heap.size
section
variable {w0 w w' : World} {dB q rb : Nat} {s : ByteArray} {d d' : Dc} {r r' : Rs} {nv nv' : Value}
theorem Sst.call (h : Sst w0 w dB s d q rb r nv) (hT : DecTo w w' dB s d') : Sst w0 w' dB s d' q rb r nv :=
  ⟨h.chg.trans hT.1 (fun _ _ e => e), hT.2, h.box.chg hT.1 (fun e => h.dec.apart h.box (by decide) e.symm), h.at_.chg hT.1 (fun e => h.dec.apart h.at_ (by decide) e.symm), own_keep h.own hT.1 (h.dec.ownApart h.own (by decide)), h.new, h.old⟩
theorem Sst.set (h : Sst w0 w dB s d q rb r nv) (k : Nat) (v : Value) (he : (resA r nv).setIfInBounds k v = resA r' nv') (hO : w.ownsRow w0.heap.size 9 1 nv' r'.names.length (r'.names.map Value.string)) :
    Sst w0 (w.setCell ⟨rb, k, none⟩ v) dB s d q rb r' nv' := by
  have hA := h.at_.set k v
  rw [he] at hA
  have hc : Chg (· = rb) w (w.setCell ⟨rb, k, none⟩ v) := Chg.setCell (p := ⟨rb, k, none⟩) (Chg.refl (· = rb) w) (.inl rfl) v
  exact ⟨Chg.setCell h.chg (.inr h.new.2.1) v, h.dec.chg hc (fun e => h.dec.apart h.at_ (by decide) e), h.box.chg hc h.new.2.2, hA, own_keep hO hc (own_apart' hO h.at_ (by decide)), h.new, h.old⟩
end
theorem rdR_all {d : Dc} {er bl sz su n : Nat × Dc} {nm : List ByteArray × Dc} (h1 : d.i 17 = er) (h2 : er.2.u = bl) (h3 : bl.2.i 4000 = sz) (h4 : sz.2.u = su) (h5 : (sumF su).i 100000 = n) (h6 : rdNms n.1 [] n.2 = nm) : rdR d = ⟨er, bl, sz, su, n, nm⟩ := by
  subst h1 h2 h3 h4 h5 h6; rfl
/-- what readResult leaves -/
def RrOut (w : World) (dB : Nat) (s : ByteArray) (d : Dc) (e : Ending) (w' : World) : Prop :=
  ∃ A c, e = .returned (.agg (resA (rdR d).r (.slice A (rdR d).r.names.length c))) ∧ w'.ownsRow w.heap.size 9 1 (.slice A (rdR d).r.names.length c) (rdR d).r.names.length ((rdR d).r.names.map Value.string) ∧ DecTo w w' dB s (rdR d).nm.2
theorem Sst.out {w0 w : World} {dB q rb : Nat} {s : ByteArray} {d0 d : Dc} {r : Rs} {A : Option Addr} {n c : Nat} (h : Sst w0 w dB s d q rb r (.slice A n c)) (hn : n = r.names.length) (hr : (rdR d0).r = r) (hd : (rdR d0).nm.2 = d) :
    RrOut w0 dB s d0 (.returned (.agg (resA r (.slice A n c)))) (w.setCells q 0 (resA r (.slice A n c)).toList) ∧ (loadVar 36 ⟨q, 0, none⟩).run Tryz.prog (w.setCells q 0 (resA r (.slice A n c)).toList) = .ok (.agg (resA r (.slice A n c))) (w.setCells q 0 (resA r (.slice A n c)).toList) := by
  have hch : Chg (· = q) w (w.setCells q 0 (resA r (.slice A n c)).toList) := chg_setCells _ _
  have hQ : At (w.setCells q 0 (resA r (.slice A n c)).toList) q 36 (resA r (.slice A n c)) := At.cells_all h.box rfl
  refine ⟨⟨A, c, ?_, ?_, ?_, ?_⟩, ?_⟩
  · rw [hr, ← hn]
  · rw [hr, ← hn]
    have := own_keep h.own hch (own_apart' h.own h.box (by decide))
    rwa [← hn] at this
  · exact h.chg.trans hch (fun k hk e => by have := h.new.1; have e' : k = q := e; omega)
  · rw [hd]; exact h.dec.chg hch (fun e => h.dec.apart h.box (by decide) e)
  · have := run_loadVar_mid (P := Tryz.prog) _ q 0 36 (resA r (.slice A n c)).toList _ hQ.range Tryz.underlying36 rfl cres_info
    simpa using this
set_option maxRecDepth 100000 in
set_option maxHeartbeats 8000000 in
theorem readRes_any (w : World) (dB : Nat) (s : ByteArray) (d : Dc) (h : DecAt w dB s d) :
    Calls Tryz.prog 52 #[.pointer (some ⟨dB, 0, none⟩)] w (RrOut w dB s d) := by
  go_enter Tryz.func52, Tryz.ntmps52
  have hQ := (At.new w 36 (resA (Rs.er 0) (.slice none 0 0))).alloc (.cells (resA (Rs.er 0) (.slice none 0 0)) 36)
  have hP := At.new (w.alloc (.cells (resA (Rs.er 0) (.slice none 0 0)) 36)) 36 (resA (Rs.er 0) (.slice none 0 0))
  have hE := ((Ext.refl w).alloc (.cells (resA (Rs.er 0) (.slice none 0 0)) 36)).alloc (.cells (resA (Rs.er 0) (.slice none 0 0)) 36)
  rw [show (w.alloc (.cells (resA (Rs.er 0) (.slice none 0 0)) 36)).heap.size = w.heap.size + 1 by simp] at hP
  go_upto_region 2 with fail
  obtain ⟨q, hq⟩ : ∃ q, w.heap.size = q := ⟨_, rfl⟩
  have h0 : Sst w ((w.alloc (.cells (resA (Rs.er 0) (.slice none 0 0)) 36)).alloc (.cells (resA (Rs.er 0) (.slice none 0 0)) 36)) dB s d q (q + 1) (Rs.er 0) (.slice none 0 0) := ⟨hE.chg, h.chg hE (fun e => e), by rw [← hq]; exact hQ, by rw [← hq]; exact hP, own_nil _ _ _, ⟨by omega, by omega, by omega⟩, h.lt⟩
  rw [hq]
  clear hQ hP hE h hq
  unfold resA Rs.er at h0
  generalize (w.alloc _).alloc _ = W at h0 ⊢
  obtain ⟨rb, hrb⟩ : ∃ rb, q + 1 = rb := ⟨_, rfl⟩
  rw [hrb] at h0 ⊢
  clear hrb
  go_wp2_with fail
  refine (di_any _ dB s _ h0.dec 17 (by decide) (by decide)).mono ?_
  rintro e w1 ⟨rfl, hT⟩
  have h1 := h0.call hT
  generalize hv : d.i 17 = er at h1 ⊢
  have Her := Lib.hid hv
  clear h0 hT hv
  have c0 := h1.at_.cell 0
  have f0 := h1.at_.frozen 0
  simp [resA] at c0
  go_wp2_with fail
  have h0 := h1.set (r' := ⟨er.1, 0, 0, 0, []⟩) (nv' := .slice none 0 0) 0 (.int .i64 (er.1 : Int)) rfl h1.own
  generalize World.setCell _ _ _ = W at h0 ⊢
  clear h1 c0 f0
  refine (du_any _ dB s _ h0.dec).mono ?_
  rintro e w1 ⟨rfl, hT⟩
  have h1 := h0.call hT
  generalize hv : er.2.u = bl at h1 ⊢
  have Hbl := Lib.hid hv
  clear h0 hT hv
  have c0 := h1.at_.cell 1
  have f0 := h1.at_.frozen 1
  simp [resA] at c0
  go_wp2_with fail
  have h0 := h1.set (r' := ⟨er.1, bl.1, 0, 0, []⟩) (nv' := .slice none 0 0) 1 (.int .u64 (bl.1 : Int)) rfl h1.own
  generalize World.setCell _ _ _ = W at h0 ⊢
  clear h1 c0 f0
  refine (di_any _ dB s _ h0.dec 4000 (by decide) (by decide)).mono ?_
  rintro e w1 ⟨rfl, hT⟩
  have h1 := h0.call hT
  generalize hv : bl.2.i 4000 = sz at h1 ⊢
  have Hsz := Lib.hid hv
  clear h0 hT hv
  have c0 := h1.at_.cell 2
  have f0 := h1.at_.frozen 2
  simp [resA] at c0
  go_wp2_with fail
  have h0 := h1.set (r' := ⟨er.1, bl.1, sz.1, 0, []⟩) (nv' := .slice none 0 0) 2 (.int .i64 (sz.1 : Int)) rfl h1.own
  generalize World.setCell _ _ _ = W at h0 ⊢
  clear h1 c0 f0
  refine (du_any _ dB s _ h0.dec).mono ?_
  rintro e w1 ⟨rfl, hT⟩
  have h1 := h0.call hT
  generalize hv : sz.2.u = su at h1 ⊢
  have Hsu := Lib.hid hv
  clear h0 hT hv
  go_upto_if 19 with fail
  go_cut [] from 18 to 21 (fun wx => Sst w wx dB s (sumF su) q rb ⟨er.1, bl.1, sz.1, 0, []⟩ (.slice none 0 0))
  case first =>
    by_cases hbig : 4294967295 < su.1
    · have e1 : sumF su = su.2.fail 3 := by unfold sumF; rw [if_pos (by simpa using hbig)]
      go_wp2_with fail
      refine (dfail_any _ dB s _ h1.dec 3 (by decide)).mono ?_
      rintro e w2 ⟨rfl, hT⟩
      have h2 := h1.call hT
      go_wp2_with fail
      go_meet
      case rel => rw [e1]; exact h2
    · have e1 : sumF su = su.2 := by unfold sumF; rw [if_neg (by simpa using hbig)]
      go_wp2_with fail
      go_meet
      case rel => rw [e1]; exact h1
  case rest =>
  clear h1
  have h1 := hcut
  clear hcut
  have hw : IntKind.u32.wrap (su.1 : Int) = ((su.1 % 4294967296 : Nat) : Int) := by simp [IntKind.wrap, IntKind.bits, IntKind.signed]
  have c0 := h1.at_.cell 3
  have f0 := h1.at_.frozen 3
  simp [resA] at c0
  go_wp2_with fail
  have h0 := h1.set (r' := ⟨er.1, bl.1, sz.1, su.1 % 4294967296, []⟩) (nv' := .slice none 0 0) 3 (.int .u32 ((su.1 : Int) % 4294967296)) rfl h1.own
  generalize World.setCell _ _ _ = W at h0 ⊢
  clear h1 c0 f0
  clear hw
  obtain ⟨sm, hsm⟩ : ∃ sm, su.1 % 4294967296 = sm := ⟨_, rfl⟩
  rw [hsm] at h0
  have HSM := Lib.hid hsm
  clear hsm
  refine (di_any _ dB s _ h0.dec 100000 (by decide) (by decide)).mono ?_
  rintro e w1 ⟨rfl, hT⟩
  have h1 := h0.call hT
  generalize hv : (sumF su).i 100000 = nn at h1 ⊢
  have Hnn := Lib.hid hv
  clear h0 hT hv
  have hNl : (nn.1 : Int) ≤ 100000 := by have := di_le (sumF su) 100000 (by decide); rw [Hnn.out] at this; exact this
  obtain ⟨N, d0⟩ := nn
  simp only at hNl h1
  obtain ⟨NM, hNM⟩ : ∃ NM, rdNms N [] d0 = NM := ⟨_, rfl⟩
  have HNM := Lib.hid hNM
  have HALL : Hid (rdR d = ⟨er, bl, sz, su, (N, d0), NM⟩) := Lib.hid (rdR_all Her.out Hbl.out Hsz.out Hsu.out Hnn.out hNM)
  clear hNM
  go_wp2_with fail
  go_loopw [28] (fun kv wr => ∃ (k : Nat) (L : List ByteArray) (d' : Dc) (A : Option Addr) (c : Nat), kv = .int .i64 (k : Int) ∧ k ≤ N ∧ L.length = k ∧ Hid (rdNms (N - k) L d' = NM) ∧ Sst w wr dB s d' q rb ⟨er.1, bl.1, sz.1, sm, L⟩ (.slice A k c)) (fun kv _ => N - (intOf kv).toNat)
  case atStart => exact ⟨0, [], d0, none, 0, rfl, Nat.zero_le _, rfl, HNM, h1⟩
  case round =>
    clear h1
    obtain ⟨k, L, d', A, c, rfl, hk, hLk, HB, h0⟩ := hrel
    by_cases hlt : k < N
    · obtain ⟨mm, hm⟩ : ∃ m, N - k = m + 1 := ⟨N - k - 1, by omega⟩
      have hB1 := HB.out
      have HM := Lib.hid hm
      rw [hm] at hB1
      unfold rdNms at hB1
      have HB1 := Lib.hid hB1
      clear hB1 hm
      go_wp2_with fail
      refine (ds_any _ dB s _ h0.dec 32 (by decide) (by decide)).mono ?_
      rintro e w1 ⟨rfl, hT⟩
      have h1 := h0.call hT
      clear h0 hT
      generalize d'.s 32 = t at h1 HB1 ⊢
      go_wp2_with fail
      refine (derr_any _ dB s _ h1.dec).mono ?_
      rintro e w2 ⟨rfl, hw2⟩
      subst hw2
      by_cases he : t.2.err = 0
      · have hB2 := HB1.out
        rw [if_pos he] at hB2
        have HB2 := Lib.hid hB2
        clear hB2
        have c4 := h1.at_.cell 4
        have f4 := h1.at_.frozen 4
        simp [resA] at c4
        have hsz : w.heap.size ≤ w2.heap.size := h1.chg.size
        have hOk := h1.own
        rw [show (⟨er.1, bl.1, sz.1, sm, L⟩ : Rs).names = L from rfl, hLk] at hOk
        go_wp2_with (at_builtin; refine wpList_append_row2 _ hOk 34 Tryz.underlying34 strR_info rfl rfl (by decide) (by decide) rfl (by omega) hsz rfl _ _ rfl rfl rfl ?_)
        intro v9 w9 hO9 hC9 _
        obtain ⟨A9, c9, rfl⟩ := own_slc hO9
        have hdo := h1.dec.ownApart hOk (by decide)
        have hD9 : DecAt w9 dB s t.2 := h1.dec.chg hC9 (fun e => hdo dB e rfl)
        have hQ9 := h1.box.chg hC9 (fun e => own_apart' hOk h1.box (by decide) q e rfl)
        have hP9 := h1.at_.chg hC9 (fun e => own_apart' hOk h1.at_ (by decide) rb e rfl)
        have hX9 : Chg (· = dB) w w9 := h1.chg.trans hC9 (fun b hb e => by have := (hOk.lt b e.symm).1; omega)
        have hcS : Chg (· = rb) w9 (w9.setCell ⟨rb, 4, none⟩ (.slice A9 (k + 1) c9)) := Chg.setCell (p := ⟨rb, 4, none⟩) (Chg.refl (· = rb) w9) (.inl rfl) _
        have hO9' : w9.ownsRow w.heap.size 9 1 (.slice A9 (k + 1) c9) (L ++ [(⟨t.1.toArray⟩ : ByteArray)]).length ((L ++ [(⟨t.1.toArray⟩ : ByteArray)]).map Value.string) := by
          have := hO9
          rw [List.length_append, hLk, List.map_append]
          exact this
        have h9 : Sst w (w9.setCell ⟨rb, 4, none⟩ (.slice A9 (k + 1) c9)) dB s t.2 q rb ⟨er.1, bl.1, sz.1, sm, L ++ [⟨t.1.toArray⟩]⟩ (.slice A9 (k + 1) c9) := ⟨Chg.setCell hX9 (.inr h1.new.2.1) _, hD9.chg hcS (fun e => h1.dec.apart h1.at_ (by decide) e), hQ9.chg hcS h1.new.2.2, hP9.set 4 _, own_keep hO9' hcS (own_apart' hO9' hP9 (by decide)), h1.new, h1.old⟩
        have f9 := hP9.frozen 4
        have c9' := hP9.cell 4
        simp [resA] at c9'
        have H9 := Lib.hid h9
        clear h9 hO9 hO9' hX9 hcS hD9 hQ9 hP9 hC9 hdo hOk h1 c4 f4 hsz
        go_wp2_with fail
        go_roundw
        case rel => exact ⟨k + 1, L ++ [⟨t.1.toArray⟩], t.2, A9, c9, by go_num, by omega, by simp [hLk], Lib.hid (by rw [show N - (k + 1) = mm by have := HM.out; omega]; exact HB2.out), H9.out⟩
        case measure => simp [intOf]; omega
      · have hB2 := HB1.out
        rw [if_neg he] at hB2
        have HN : k = L.length := hLk.symm
        have HR : (⟨er, bl, sz, su, (N, d0), NM⟩ : Rr).r = ⟨er.1, bl.1, sz.1, sm, L⟩ := by rw [← hB2, ← HSM.out]; rfl
        have HD : (⟨er, bl, sz, su, (N, d0), NM⟩ : Rr).nm.2 = t.2 := by rw [← hB2]
        clear hB2
        have HOUT := h1.out (r := ⟨er.1, bl.1, sz.1, sm, L⟩) (d0 := d) HN (by rw [HALL.out]; exact HR) (by rw [HALL.out]; exact HD)
        have HRB := Lib.hid h1.at_.range
        have HTQ : Hid (w2.there q 0 5) := Lib.hid h1.box.there
        have HF := Lib.hid HOUT.1
        have HL := Lib.hid HOUT.2
        clear HOUT HN HR HD h1
        unfold resA at HRB HTQ HF HL
        simp only at HRB HTQ HF HL
        have heb : (t.2.err != 0) = true := by simp [he]
        go_upto_region 14 with fail
        go_wp2_with (first | (refine wpList_load_mid rfl 36 _ rfl rb 0 rfl _ _ HRB.out Tryz.underlying36 rfl cres_info ?_) | (refine wpList_store_mid rfl 36 _ _ rfl q 0 #[.int .i64 (er.1 : Int), .int .u64 (bl.1 : Int), .int .i64 (sz.1 : Int), .int .u32 (sm : Int), .slice A k c] rfl rfl HTQ.out cres_info (by simp [Value.oneCell']) ?_))
        refine bodyPost_ret (v := .agg #[.int .i64 (er.1 : Int), .int .u64 (bl.1 : Int), .int .i64 (sz.1 : Int), .int .u32 (sm : Int), .slice A k c]) (results_one Tryz.results52 _ rfl HL.out) rfl ?_
        exact HF.out
    · obtain rfl : k = N := by omega
      have hB2 := HB.out
      rw [Nat.sub_self] at hB2
      have HN : k = L.length := hLk.symm
      have HR : (⟨er, bl, sz, su, (k, d0), NM⟩ : Rr).r = ⟨er.1, bl.1, sz.1, sm, L⟩ := by rw [← hB2, ← HSM.out]; rfl
      have HD : (⟨er, bl, sz, su, (k, d0), NM⟩ : Rr).nm.2 = d' := by rw [← hB2]; rfl
      clear hB2
      have HOUT := h0.out (r := ⟨er.1, bl.1, sz.1, sm, L⟩) (d0 := d) HN (by rw [HALL.out]; exact HR) (by rw [HALL.out]; exact HD)
      have HRB := Lib.hid h0.at_.range
      have HTQ : Hid (wr.there q 0 5) := Lib.hid h0.box.there
      have HF := Lib.hid HOUT.1
      have HL := Lib.hid HOUT.2
      clear HOUT HN HR HD h0
      unfold resA at HRB HTQ HF HL
      simp only at HRB HTQ HF HL
      go_upto_region 17 with fail
      go_wp2_with (first | (refine wpList_load_mid rfl 36 _ rfl rb 0 rfl _ _ HRB.out Tryz.underlying36 rfl cres_info ?_) | (refine wpList_store_mid rfl 36 _ _ rfl q 0 #[.int .i64 (er.1 : Int), .int .u64 (bl.1 : Int), .int .i64 (sz.1 : Int), .int .u32 (sm : Int), .slice A k c] rfl rfl HTQ.out cres_info (by simp [Value.oneCell']) ?_))
      refine bodyPost_ret (v := .agg #[.int .i64 (er.1 : Int), .int .u64 (bl.1 : Int), .int .i64 (sz.1 : Int), .int .u32 (sm : Int), .slice A k c]) (results_one Tryz.results52 _ rfl HL.out) rfl ?_
      exact HF.out
end Go.Proofs.YtimjipcplmnpbaaGreat
