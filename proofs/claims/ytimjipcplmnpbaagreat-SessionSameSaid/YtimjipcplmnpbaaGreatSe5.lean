/-
  Layer 14: Told; the laws' Bytes and put.
-/
import Derived.Test.YtimjipcplmnpbaaGreatSe4
import Derived.Test.YtimjipcplmnpbaaGreatSeB
import Derived.Test.YtimjipcplmnpbaaGreatCmdWrite
namespace Go.Proofs.YtimjipcplmnpbaaGreat
open Go.RowKit Go.Sort

set_option maxRecDepth 100000 in
set_option maxHeartbeats 2000000 in
theorem stold_any {w : World} {B : Nat → Prop} {m : Nat} {M : Mach} {n : Nat} (h : MachIn w B m M) (hi : MInv n M) (hn : n ≤ 1000) (k s : Int) :
    Calls Tryz.prog 18 #[.pointer (some ⟨m, 0, none⟩), .int .i64 k, .int .i64 s] w fun e w' => ∃ r A c, e = .returned (.tuple #[resV r.err r.blob r.size r.sum (.slice A r.names.length c), .bool (M.told k s).isSome]) ∧ r = (M.told k s).getD (Rs.er 0) ∧ w'.ownsRow 0 9 1 (.slice A r.names.length c) r.names.length (r.names.map Value.string) ∧ Ext w w' := by
  obtain ⟨c, mb, mn, mc, rows, hM⟩ := h
  obtain ⟨ok, sq, r, lA, lcp, hok, hlv, hsq, htold, hnl, hnlen⟩ := last_form hM (fun p hp => Nat.le_trans (hi.cl p hp).2.2.len hn) k
  have HTO := Lib.hid (htold s)
  have HNL := Lib.hid hnlen
  have HNO := Lib.hid hnl
  clear htold hsq hnlen hi hn hnl
  go_enter Tryz.func18, Tryz.ntmps18
  have hR := At.new w 36 #[.int .i64 0, .int .u64 0, .int .i64 0, .int .u32 0, .slice none 0 0]
  have hE := (Ext.refl w).alloc (.cells #[.int .i64 0, .int .u64 0, .int .i64 0, .int .u32 0, .slice none 0 0] 36)
  go_upto_region 1 with fail
  obtain ⟨rb, hrb⟩ : ∃ rb, w.heap.size = rb := ⟨_, rfl⟩
  rw [hrb] at hR ⊢
  have HRB := Lib.hid (show w.heap.size ≤ rb by omega)
  generalize w.alloc _ = W at hR hE ⊢
  clear hrb
  have hM := hM.ext hE
  obtain ⟨c0, c1, c2, _⟩ := hM.cells
  have hlk := hM.look k
  rw [hok, hlv] at hlk
  have hL := At.new W 76 #[.int .i64 sq, .int .i64 r.err, .int .u64 (r.blob : Int), .int .i64 r.size, .int .u32 (r.sum : Int), .slice lA r.names.length lcp]
  have hEl := (Ext.refl W).alloc (.cells #[.int .i64 sq, .int .i64 r.err, .int .u64 (r.blob : Int), .int .i64 r.size, .int .u32 (r.sum : Int), .slice lA r.names.length lcp] 76)
  clear hok hlv
  go_upto_region 2 with fail
  clear hlk c0 c1 c2
  obtain ⟨lb, hlb⟩ : ∃ lb, W.heap.size = lb := ⟨_, rfl⟩
  rw [hlb] at hL ⊢
  clear hlb
  generalize W.alloc _ = W2 at hL hEl ⊢
  have hR := hR.ext hEl
  have hE := hE.trans hEl
  have l0 := hL.cell 0
  simp at l0
  by_cases htl : ok = true ∧ sq = s
  · obtain ⟨rfl, rfl⟩ := htl
    have HT2 : Hid (M.told k sq = some r) := Lib.hid (by rw [HTO.out, if_pos ⟨rfl, rfl⟩])
    have hlr : W2.rangeAt lb 1 (#[.int .i64 r.err, .int .u64 (r.blob : Int), .int .i64 r.size, .int .u32 (r.sum : Int), .slice lA r.names.length lcp] : Array Value).toList := fun j u hu => by
      have hj := (List.getElem?_eq_some_iff.1 hu).1
      have := hL.cell (1 + j)
      rw [this]
      rw [← hu]
      match j, hj with
      | 0, _ => rfl
      | 1, _ => rfl
      | 2, _ => rfl
      | 3, _ => rfl
      | 4, _ => rfl
    have HLR := Lib.hid hlr
    have HOW := Lib.hid (sown_any W2 r.err r.blob r.size r.sum (.slice lA r.names.length lcp) r.names (own_keep HNO.out hE (fun _ _ hh => hh)) (by have := HNL.out; omega))
    clear hlr hL hM hEl HTO
    go_wp2_with (refine wpList_load_mid rfl 36 _ rfl lb 1 rfl _ _ HLR.out Tryz.underlying36 rfl cres_info ?_)
    refine HOW.out.mono ?_
    rintro e w6 ⟨A, cp, rfl, hno, hE6⟩
    replace hno := own_base0 hno
    have hR := hR.ext hE6
    have hE := hE.trans hE6
    clear HOW HLR hE6 l0
    unfold resV
    have HT := Lib.hid hR.there
    have hst : At (w6.setCells rb 0 (#[.int .i64 r.err, .int .u64 (r.blob : Int), .int .i64 r.size, .int .u32 (r.sum : Int), .slice A r.names.length cp] : Array Value).toList) rb 36 #[.int .i64 r.err, .int .u64 (r.blob : Int), .int .i64 r.size, .int .u32 (r.sum : Int), .slice A r.names.length cp] := At.cells_all hR rfl
    have hch : Chg (· = rb) w6 (w6.setCells rb 0 (#[.int .i64 r.err, .int .u64 (r.blob : Int), .int .i64 r.size, .int .u32 (r.sum : Int), .slice A r.names.length cp] : Array Value).toList) := chg_setCells _ _
    have HL := Lib.hid (run_loadVar_mid (P := Tryz.prog) _ rb 0 36 (#[.int .i64 r.err, .int .u64 (r.blob : Int), .int .i64 r.size, .int .u32 (r.sum : Int), .slice A r.names.length cp] : Array Value).toList _ hst.range Tryz.underlying36 rfl cres_info)
    have HNF := Lib.hid (own_keep hno hch fun k hk e => own_apart' hno hR (by decide) k hk e)
    have HEF := Lib.hid (hE.setCells HRB.out (#[.int .i64 r.err, .int .u64 (r.blob : Int), .int .i64 r.size, .int .u32 (r.sum : Int), .slice A r.names.length cp] : Array Value).toList 0)
    clear hst hch hR hE hno
    go_wp2_with (refine wpList_store_mid rfl 36 _ _ rfl rb 0 #[.int .i64 r.err, .int .u64 (r.blob : Int), .int .i64 r.size, .int .u32 (r.sum : Int), .slice A r.names.length cp] rfl rfl HT.out cres_info (by simp [Value.oneCell']) ?_)
    refine bodyPost_ret (v := .tuple #[.agg #[.int .i64 r.err, .int .u64 (r.blob : Int), .int .i64 r.size, .int .u32 (r.sum : Int), .slice A r.names.length cp], .bool true]) (results_ct Tryz.results18 _ rfl HL.out) rfl ?_
    exact ⟨r, A, cp, by rw [HT2.out]; rfl, by rw [HT2.out]; rfl, HNF.out, HEF.out⟩
  · have HT2 : Hid (M.told k s = none) := Lib.hid (by rw [HTO.out, if_neg htl])
    have hokc : ok = false ∨ ok = true ∧ (sq != s) = true := by
      cases ok
      · exact .inl rfl
      · exact .inr ⟨rfl, by rw [bne_iff_ne]; exact fun e => htl ⟨rfl, e⟩⟩
    have HT := Lib.hid hR.there
    have hst : At (W2.setCells rb 0 (#[.int .i64 0, .int .u64 0, .int .i64 0, .int .u32 0, .slice none 0 0] : Array Value).toList) rb 36 #[.int .i64 0, .int .u64 0, .int .i64 0, .int .u32 0, .slice none 0 0] := At.cells_all hR rfl
    have HL := Lib.hid (run_loadVar_mid (P := Tryz.prog) _ rb 0 36 (#[.int .i64 0, .int .u64 0, .int .i64 0, .int .u32 0, .slice none 0 0] : Array Value).toList _ hst.range Tryz.underlying36 rfl cres_info)
    have HEF := Lib.hid (hE.setCells HRB.out (#[.int .i64 0, .int .u64 0, .int .i64 0, .int .u32 0, .slice none 0 0] : Array Value).toList 0)
    clear hst hR hE hL hM hEl HTO htl
    rcases hokc with rfl | ⟨rfl, hne⟩
    all_goals
      go_wp2_with (refine wpList_store_mid rfl 36 _ _ rfl rb 0 #[.int .i64 0, .int .u64 0, .int .i64 0, .int .u32 0, .slice none 0 0] rfl rfl HT.out cres_info (by simp [Value.oneCell']) ?_)
      refine bodyPost_ret (v := .tuple #[.agg #[.int .i64 0, .int .u64 0, .int .i64 0, .int .u32 0, .slice none 0 0], .bool false]) (results_ct Tryz.results18 _ rfl HL.out) rfl ?_
      exact ⟨Rs.er 0, none, 0, by rw [HT2.out]; rfl, by rw [HT2.out]; rfl, own_nil _ _ _, HEF.out⟩
set_option maxRecDepth 100000 in
set_option maxHeartbeats 2000000 in
theorem sbytes_any (w : World) (x : Cmd) (dv : Value) (o : ByteArray) (hx : x.In dv w) (hd : x.disks.length ≤ 17592186043904) (ho : o.size ≤ maxLen) :
    Calls Tryz.prog 12 #[cmdVal x dv, .string o] w fun e w' => e = .returned (.string ⟨(seBytes x o).toArray⟩) ∧ Ext w w' := by
  have HX := Lib.hid hx
  obtain ⟨hsl, hcap⟩ := hx.sl
  have HSL := Lib.hid hsl
  clear hsl hx
  unfold cmdVal
  go_enter Tryz.func12, Tryz.ntmps12
  have hB := At.new w 32 (cmdCells x dv)
  have hE := (Ext.refl w).alloc (.cells (cmdCells x dv) 32)
  go_upto_region 1 with fail
  obtain ⟨xb, hxb⟩ : ∃ xb, w.heap.size = xb := ⟨_, rfl⟩
  rw [hxb] at hB ⊢
  have HXB := Lib.hid (show w.heap.size ≤ xb by omega)
  generalize w.alloc _ = W at hB hE ⊢
  clear hxb hcap
  have b3 := hB.cell 3
  have f3 := hB.frozen 3
  simp [cmdCells] at b3
  have HC := Lib.hid (fun W => cut_any x.name 32 W HX.out.nm (by omega))
  go_wp2_with fail
  refine (HC.out _).mono ?_
  rintro e w1 ⟨rfl, rfl⟩
  go_upto_region 2 with fail
  clear b3 f3 HC
  have hch : Chg (· = xb) w1 (w1.setCell ⟨xb, 3, none⟩ (.string (cut x.name 32))) := Chg.setCell (S := (· = xb)) (p := ⟨xb, 3, none⟩) (Ext.refl w1).chg (.inl rfl) _
  have hB2 : At (w1.setCell ⟨xb, 3, none⟩ (.string (cut x.name 32))) xb 32 (cmdCells { x with name := cut x.name 32 } dv) := hB.set 3 _
  have hE2 : Ext w (w1.setCell ⟨xb, 3, none⟩ (.string (cut x.name 32))) := hE.chg_trans hch |>.mono (fun k hk e => by have := HXB.out; have e' : k = xb := e; omega)
  clear hB hE hch
  generalize w1.setCell ⟨xb, 3, none⟩ (.string (cut x.name 32)) = W2 at hB2 hE2 ⊢
  have b7 := hB2.cell 7
  simp [cmdCells] at b7
  have HD := Lib.hid (disk_any W2 dv x.disks (HSL.out.ext hE2) hd)
  go_wp2_with fail
  refine HD.out.mono ?_
  rintro e w3 ⟨v, rfl, hO, hE3⟩
  obtain ⟨dA, dc, rfl⟩ := own_slc hO
  have hB3 := hB2.ext hE3
  have hE3 := hE2.trans hE3
  clear b7 HD hB2 hE2
  have b7 := hB3.cell 7
  have f7 := hB3.frozen 7
  simp [cmdCells] at b7
  go_upto_region 3 with fail
  clear b7 f7
  have hch : Chg (· = xb) w3 (w3.setCell ⟨xb, 7, none⟩ (.slice dA (diskOf x.disks).length dc)) := Chg.setCell (S := (· = xb)) (p := ⟨xb, 7, none⟩) (Ext.refl w3).chg (.inl rfl) _
  have hB4 : At (w3.setCell ⟨xb, 7, none⟩ (.slice dA (diskOf x.disks).length dc)) xb 32 (cmdCells (seCmd x) (.slice dA (diskOf x.disks).length dc)) := hB3.set 7 _
  have hO4 := own_keep (own_base0 hO) hch fun k hk e => own_apart' (own_base0 hO) hB3 (by decide) k hk e
  have hE4 : Ext w (w3.setCell ⟨xb, 7, none⟩ (.slice dA (diskOf x.disks).length dc)) := hE3.chg_trans hch |>.mono (fun k hk e => by have := HXB.out; have e' : k = xb := e; omega)
  clear hB3 hO hE3 hch
  generalize w3.setCell ⟨xb, 7, none⟩ (.slice dA (diskOf x.disks).length dc) = W4 at hB4 hO4 hE4 ⊢
  have hsl4 : Sl W4 (.slice dA (diskOf x.disks).length dc) ((seCmd x).disks.map (Value.int .i64)) := Sl.of_own hO4
  have hdl : (seCmd x).disks.length ≤ 6 := rises_len (diskOf_risesB x.disks)
  have hnl : (seCmd x).name.size ≤ 32 := cut_size x.name 32
  have HG := Lib.hid (good_any W4 (seCmd x) (.slice dA (diskOf x.disks).length dc) hsl4 (by omega) (by omega))
  have HRB := Lib.hid hB4.range
  have HS4 := Lib.hid hsl4
  have HDL := Lib.hid (And.intro hdl hnl)
  clear hsl4 hO4 hdl hnl
  go_wp2_with (refine wpList_load_mid rfl 32 _ rfl xb 0 rfl _ _ HRB.out Tryz.underlying32 rfl ccmd_info ?_)
  refine HG.out.mono ?_
  rintro e w5 ⟨rfl, hE5⟩
  have hB5 := hB4.ext hE5
  have hE6 := hE4.trans hE5
  rcases Bool.eq_false_or_eq_true (seCmd x).good with hg | hg
  · have HS : Hid (seBytes x o = (seCmd x).enc) := Lib.hid (by unfold seBytes; rw [if_pos hg])
    rw [hg]
    have HW := Lib.hid (write_any w5 (seCmd x) (.slice dA (diskOf x.disks).length dc) (seCmd_wf HX.out.wf) (HS4.out.ext hE5) (by have := HDL.out.1; omega) (by have := HDL.out.2; omega))
    have HRB5 := Lib.hid hB5.range
    clear hg hB4 hB5 HG HRB hE4 hE5
    go_wp2_with (refine wpList_load_mid rfl 32 _ rfl xb 0 rfl _ _ HRB5.out Tryz.underlying32 rfl ccmd_info ?_)
    refine HW.out.mono ?_
    rintro e w6 ⟨rfl, hE7⟩
    go_wp2_with fail
    go_ret
    exact ⟨by rw [HS.out]; rfl, hE6.trans hE7⟩
  · have HS : Hid (seBytes x o = (cut o 60).data.toList) := Lib.hid (by unfold seBytes; rw [if_neg (by rw [hg]; decide)])
    rw [hg]
    have HC := Lib.hid (fun W => cut_any o 60 W ho (by omega))
    clear hg hB4 hB5 HG HRB hE4 hE5
    go_wp2_with fail
    refine (HC.out _).mono ?_
    rintro e w6 ⟨rfl, rfl⟩
    go_wp2_with fail
    go_ret
    exact ⟨by rw [HS.out]; rfl, hE6⟩
end Go.Proofs.YtimjipcplmnpbaaGreat
