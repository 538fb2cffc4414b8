/-
  Part 19 of what the law leans on.
-/
import Derived.Test.YtapodcmjggmgmaaGreatDoorST16
import Derived.Test.YtapodcmjggmgmaaGreatDoorST18
set_option linter.unusedVariables false
set_option linter.unusedSimpArgs false
set_option linter.unusedSectionVars false
namespace Go.Proofs.YtapodcmjggmgmaaGreatDoor
open Go.RowKit Go.Sort
def cont (x : Rec) : ByteArray := ⟨(recL 1 x.1 x.2).toArray⟩
theorem rbs_list (x : Rec) : (rbs x).data.toList = frameL (cont x).data.toList := rfl
theorem rbs_cont (x : Rec) : (rbs x).size = 8 + (cont x).size := by
  show (frameL (cont x).data.toList).toArray.size = _
  rw [List.size_toArray, frameL_length]; rfl
theorem gB_frs (g : List Rec) : (gB g).data.toList = frs (g.map cont) := by
  have h : ∀ (g : List Rec) (b : ByteArray), (g.foldl (fun b x => b ++ rbs x) b).data.toList = b.data.toList ++ frs (g.map cont) := by
    intro g
    induction g with
    | nil => intro b; simp [frs]
    | cons x g ih =>
      intro b
      rw [List.foldl_cons, ih, List.map_cons, frs_cons, ← rbs_list]
      simp
  unfold gB
  rw [h]
  simp
theorem frs_size : ∀ g : List Rec, (frs (g.map cont)).length = sizeG g
  | [] => rfl
  | x :: g => by
    rw [List.map_cons, frs_cons, List.length_append, frs_size g, ← rbs_list]
    rfl
theorem headV_app {l r : List UInt8} (h : 8 ≤ l.length) : headV (l ++ r) = headV l := by
  rw [← headV_getD_take (l ++ r), List.take_append_of_le_length h, headV_getD_take]
theorem applyG_take (k : Nat) {g : List Rec} {j : Nat} {x : Rec} (h : g[j]? = some x) (C : List (Int × Plc)) : applyG k 0 (g.take (j + 1)) C = ((x.1 : Int), ⟨(k : Int), ((sizeG (g.take j) : Nat) : Int), ((rbs x).size : Int), (rbs x).data.toList⟩) :: ldel (x.1 : Int) (applyG k 0 (g.take j) C) := by
  rw [List.take_add_one, h]
  show applyG k 0 (g.take j ++ [x]) C = _
  rw [applyG_snoc, Nat.zero_add]
theorem sizeG_take {g : List Rec} {j : Nat} {x : Rec} (h : g[j]? = some x) : sizeG (g.take (j + 1)) = sizeG (g.take j) + (rbs x).size := by
  rw [List.take_add_one, h]
  have : ∀ (a : List Rec), sizeG (a ++ [x]) = sizeG a + (rbs x).size := fun a => by
    rw [← gB_size, ← gB_size, gB_snoc, ByteArray.size_append]
  exact this _
theorem rec_zinfo : (Tryz.prog.info? 139).map (·.size) = some 3 := by kernel_rfl
set_option maxRecDepth 100000 in
set_option maxHeartbeats 4000000 in
theorem applyT_any (w : World) (s d m c : Nat) (S : St) (h : StAt w s d m c S) (k : Nat) (g : List Rec) (hg : ∀ x ∈ g, x.2.size ≤ 500 ∧ x.1 < 18446744073709551616) (hl : g.length ≤ 100000) (hsz : (gB g).size ≤ 1000000) (hT : Tab w) (hgc : ¬ 0 = c) :
    Calls Tryz.prog 70 #[.pointer (some ⟨s, 0, none⟩), .int .i64 (k : Int), .string (gB g)] w fun e w' => e = .returned (.tuple #[]) ∧ Chg (fun k => k = c) w w' ∧ StAt w' s d m c { S with C := applyG k 0 g S.C } := by
  have hcs : ∀ x ∈ g.map cont, x.size ≤ 1048576 := fun y hy => by
    obtain ⟨x, hx, rfl⟩ := List.mem_map.1 hy
    have h1 := frec_size 1 x.1 x.2
    have h2 := rbs_cont x
    have h3 := (hg x hx).1
    have h4 : (rbs x).size = (frec 1 x.1 x.2).size := rfl
    omega
  have csc := scan_any w (gB g) (g.map cont) (gB_frs g) hcs (by rw [List.length_map]; exact hl) hsz hT
  rw [List.length_map] at csc
  obtain ⟨tx, htx⟩ : ∃ tx, gB g = tx := ⟨_, rfl⟩
  have htl : tx.data.toList = frs (g.map cont) := by rw [← htx]; exact gB_frs g
  rw [htx] at csc hsz ⊢
  have hts : tx.size = sizeG g := by rw [← htx]; exact gB_size g
  have HTX := Lib.hid (And.intro htl hts)
  clear htx htl hts
  go_enter Tryz.func70, Tryz.ntmps70
  go_wp2_with fail
  refine csc.mono ?_
  rintro e w1 ⟨v, rfl, hv, hE1⟩
  clear csc hcs
  have hS1 := h.ext hE1
  have hT1 := hT.ext hE1
  have hvc : ∀ j, some j = v.ownBlock → j ≠ c := fun j hj e => by have := own_ge hv j hj; have := h.ch.lt; omega
  have HV := Lib.hid hvc
  have hcl := Lib.hid h.ch.lt
  clear hvc h hT
  obtain ⟨vA, vc, rfl⟩ := own_slc hv
  go_wp2_with fail
  go_loopw [8, 21] (fun av iv wr => ∃ j : Nat, j ≤ g.length ∧ iv = .int .i64 (j : Int) ∧ av = .int .i64 ((sizeG (g.take j) : Nat) : Int) ∧ StAt wr s d m c { S with C := applyG k 0 (g.take j) S.C } ∧ wr.ownsRow w.heap.size 9 1 (.slice vA g.length vc) g.length ((g.map cont).map Value.string) ∧ Chg (fun b => b = c) w wr) (fun _ iv _ => g.length - (intOf iv).toNat)
  case atStart => exact ⟨0, Nat.zero_le _, rfl, rfl, hS1, hv, hE1.chg⟩
  case round =>
    clear hS1 hv hE1
    obtain ⟨j, hj, rfl, rfl, hS, hv, hC⟩ := hrel
    rename World => wr
    by_cases hlt : j < g.length
    · obtain ⟨x, hx⟩ : ∃ x, g[j]? = some x := ⟨_, List.getElem?_eq_getElem hlt⟩
      obtain ⟨b', o', rfl, hcell⟩ := (Sl.of_own hv).pick (k := j) (x := .string (cont x)) (by simp [hx])
      obtain ⟨hx1, hx2⟩ := hg x (List.mem_of_getElem? hx)
      have cp := fun w => parse_any w 1 x.1 x.2 (by decide) hx2 (by omega)
      have hrs := rbs_cont x
      have hfz : (rbs x).size = (frec 1 x.1 x.2).size := rfl
      have hfs := frec_size 1 x.1 x.2
      have hst := sizeG_take hx
      have hap := applyG_take k hx S.C
      obtain ⟨ao, ha⟩ : ∃ ao, sizeG (g.take j) = ao := ⟨_, rfl⟩
      obtain ⟨C0, hC0⟩ : ∃ C0, applyG k 0 (g.take j) S.C = C0 := ⟨_, rfl⟩
      rw [ha] at hst hap ⊢
      rw [hC0] at hap hS
      have hle : ao + (rbs x).size ≤ tx.size := by
        rw [← hst, HTX.out.2]
        have e : sizeG g = sizeG (g.take (j + 1)) + sizeG (g.drop (j + 1)) := by
          have : ∀ ao b : List Rec, sizeG (ao ++ b) = sizeG ao + sizeG b := fun ao b => by
            induction ao with
            | nil => simp [sizeG]
            | cons x ao ih => simp only [List.cons_append, sizeG, ih]; omega
          rw [← this, List.take_append_drop]
        omega
      have hhd : headV (tx.extract ao tx.size).data.toList = headV (rbs x).data.toList := by
        rw [extract_list, HTX.out.1]
        have e : (frs (g.map cont)).drop ao = (rbs x).data.toList ++ frs ((g.drop (j + 1)).map cont) := by
          rw [← ha, ← frs_size, List.map_take, frs_drop, ← List.map_drop, List.drop_eq_getElem_cons hlt]
          rw [List.getElem?_eq_getElem hlt] at hx
          rw [Option.some.inj hx, List.map_cons, frs_cons, ← rbs_list]
        rw [e, List.take_of_length_le (by
          rw [← e, List.length_drop, frs_size, ← HTX.out.2]; omega)]
        exact headV_app (by show 8 ≤ (rbs x).size; omega)
      rw [show (⟨(recL 1 x.1 x.2).toArray⟩ : ByteArray) = cont x from rfl] at cp
      have HX := Lib.hid (And.intro hx (And.intro ha (And.intro hC0 (And.intro hst (And.intro hap (And.intro hrs (And.intro hfs hfz)))))))
      have hcz : (cont x).size ≤ 1000 := by omega
      have hfe : ((rbs x).size : Int) = 8 + ((cont x).size : Int) := by rw [hrs]; simp
      have HLE := Lib.hid hle
      clear hle hrs hst hap hfz hfs hx ha hC0 hx1
      go_wp2_with fail
      refine (cp _).mono ?_
      rintro e w5 ⟨rfl, hE5⟩
      clear cp hcell
      have hZ := At.new w5 139 #[.int .u64 0, .int .u64 0, .string ⟨#[]⟩]
      have hZT := Lib.hid hZ.there
      have hA6 := hZ.cells_all (cs := #[.int .u64 1, .int .u64 (x.1 : Int), .string x.2]) rfl
      have hE6 := Ext.setCells (b := w5.heap.size) ((Ext.refl w5).alloc (.cells #[.int .u64 0, .int .u64 0, .string ⟨#[]⟩] 139)) (Nat.le_refl _) [.int .u64 1, .int .u64 (x.1 : Int), .string x.2] 0
      clear hZ
      go_upto_region 6 with (refine wpList_store_mid rfl 139 _ _ rfl w5.heap.size 0 #[.int .u64 1, .int .u64 (x.1 : Int), .string x.2] rfl rfl hZT.out rec_zinfo (by simp [Value.oneCell']) ?_)
      generalize hW6 : (w5.alloc (.cells #[.int .u64 0, .int .u64 0, .string ⟨#[]⟩] 139)).setCells w5.heap.size 0 [.int .u64 1, .int .u64 (x.1 : Int), .string x.2] = W6 at hA6 hE6 ⊢
      clear hW6 hZT
      obtain ⟨rb, hrb⟩ : ∃ rb, w5.heap.size = rb := ⟨_, rfl⟩
      have hbr : wr.heap.size ≤ rb := by have := hE5.size; omega
      rw [hrb] at hA6 ⊢
      clear hrb
      have hE56 := hE5.trans hE6
      have hS6 := hS.ext hE56
      have hv6 := own_chg hv hE56 (fun _ h => h.elim)
      have hC6 := hC.ext_trans hE56
      have hrc : ¬ rb = c := fun e => by have := hS.ch.lt; omega
      have hrv : ¬ s = c := hS.sc
      clear hS hv hC hE5 hE6 hE56
      have k0 := hA6.cell 0
      have k1 := hA6.cell 1
      simp at k0 k1
      go_wp2_with fail
      clear k0 k1
      rename World => W10
      have hS10 := hS6
      have hA10 := hA6
      have hM10 : MapAt u64Way Plc.val W10 c C0 := hS6.ch
      obtain ⟨PL, hPL⟩ : ∃ PL : Plc, PL = ⟨(k : Int), (ao : Int), 8 + ((cont x).size : Int), (rbs x).data.toList⟩ := ⟨_, rfl⟩
      obtain ⟨PC, hPC⟩ : ∃ PC : Array Value, PL.cells = PC := ⟨_, rfl⟩
      have HPL := Lib.hid hPC
      have HPC := Lib.hid (show PC = Plc.cells ⟨(k : Int), (ao : Int), 8 + ((cont x).size : Int), (rbs x).data.toList⟩ by rw [← hPC, hPL])
      have HPD := Lib.hid hPL
      clear hPC hPL
      have hsc := hrv
      have hho : ∀ w, Calls Tryz.prog 72 #[.string (tx.extract ao tx.size)] w fun e w' => e = .returned (.agg (headV (rbs x).data.toList)) ∧ Ext w w' := fun w => by
        have h8 : 8 ≤ (tx.extract ao tx.size).size := by rw [ByteArray.size_extract]; have := HLE.out; have := HX.out.2.2.2.2.2.1; omega
        have := headof_any w (tx.extract ao tx.size) h8
        rw [hhd] at this
        exact this
      have hle := HLE.out
      have hST : GQ.St (fun b => b = c) (fun b w => MapAt u64Way Plc.val w c (if b = true then ((x.1 : Int), PL) :: ldel (x.1 : Int) C0 else C0)) [] := ⟨fun _ _ _ h hE => h.ext hE, by
        intro gx hx
        cases hx⟩
      refine wp_region_phi (Γ := Nat → Value) (sgφ [.val (.pointer (some ⟨s, 0, none⟩)), .val (.pointer (some ⟨s, 0, none⟩)), .val (.pointer (some ⟨s, 2, none⟩)), .val (.map (some c)), .val (.pointer (some ⟨rb, 1, none⟩)), .val (.int .u64 (x.1 : Int)), .val (.int .i64 (k : Int)), .val (.int .i64 (ao : Int)), .val (.int .i64 (8 + ((cont x).size : Int))), .val (.string tx), .val (.int .i64 (ao : Int)), .val (.string (tx.extract ao tx.size)), .val (.agg (headV (rbs x).data.toList)), .val (.agg PC), .any])
        (GQ W10 (fun b => b = c) 14 (fun b w => MapAt u64Way Plc.val w c (if b = true then ((x.1 : Int), PL) :: ldel (x.1 : Int) C0 else C0)) [])
        (by kernel_rfl) (by kernel_rfl) (by kernel_rfl) (fun _ => undef) (GQ.start _ _ _ _ _ _ (by simp only [Bool.false_eq_true, if_false]; exact hM10.ext ((Ext.refl W10).drew))) ?steps ?fin
      case steps =>
        show StepsTo _ _ _ _ _ _ 15
        refine ⟨⟨⟨⟨⟨⟨⟨⟨⟨⟨⟨⟨⟨⟨⟨trivial, ?s0⟩, ?s1⟩, ?s2⟩, ?s3⟩, ?s4⟩, ?s5⟩, ?s6⟩, ?s7⟩, ?s8⟩, ?s9⟩, ?s10⟩, ?s11⟩, ?s12⟩, ?s13⟩, ?s14⟩
        case s0 =>
          refine sg_val (x := .pointer (some ⟨s, 0, none⟩)) rfl rfl rfl (GQ.keep (j := 0) (by decide) rfl) fun γ L v a w st => ?_
          have f0 := st.far 0 (by kernel_rfl)
          simp at f0
          go_simp
        case s1 =>
          refine sg_val (x := .pointer (some ⟨s, 0, none⟩)) rfl rfl rfl (GQ.keep (j := 1) (by decide) rfl) fun γ L v a w st => ?_
          have e0 := st.val 0 56 rfl (by kernel_rfl)
          rw [show v 0 = _ from st.φ 0 (by kernel_rfl)] at e0
          simp at e0
          go_simp
        case s2 =>
          refine sg_val (x := .pointer (some ⟨s, 2, none⟩)) rfl rfl rfl (GQ.keep (j := 2) (by decide) rfl) fun γ L v a w st => ?_
          have e1 := st.val 1 57 rfl (by kernel_rfl)
          rw [show v 1 = _ from st.φ 1 (by kernel_rfl)] at e1
          simp at e1
          go_simp
        case s3 =>
          refine sg_val (x := .map (some c)) rfl rfl rfl (GQ.keep (j := 3) (by decide) rfl) fun γ L v a w st => ?_
          have e2 := st.val 2 58 rfl (by kernel_rfl)
          rw [show v 2 = _ from st.φ 2 (by kernel_rfl)] at e2
          simp at e2
          have hcl := (hS10.st.chg st.inv.chg hsc).cell 2
          simp [St.cells] at hcl
          go_simp
        case s4 =>
          refine sg_val (x := .pointer (some ⟨rb, 1, none⟩)) rfl rfl rfl (GQ.keep (j := 4) (by decide) rfl) fun γ L v a w st => ?_
          have f11 := st.far 11 (by kernel_rfl)
          simp at f11
          go_simp
        case s5 =>
          refine sg_val (x := .int .u64 (x.1 : Int)) rfl rfl rfl (GQ.keep (j := 5) (by decide) rfl) fun γ L v a w st => ?_
          have e4 := st.val 4 60 rfl (by kernel_rfl)
          rw [show v 4 = _ from st.φ 4 (by kernel_rfl)] at e4
          simp at e4
          have hcl := (hA10.chg st.inv.chg hrc).cell 1
          simp at hcl
          go_simp
        case s6 =>
          refine sg_val (x := .int .i64 (k : Int)) rfl rfl rfl (GQ.keep (j := 6) (by decide) rfl) fun γ L v a w st => ?_
          have f1 := st.far 1 (by kernel_rfl)
          simp at f1
          go_simp
        case s7 =>
          refine sg_val (x := .int .i64 (ao : Int)) rfl rfl rfl (GQ.keep (j := 7) (by decide) rfl) fun γ L v a w st => ?_
          have f8 := st.far 8 (by kernel_rfl)
          simp at f8
          go_simp
        case s8 =>
          refine sg_val (x := .int .i64 (8 + ((cont x).size : Int))) rfl rfl rfl (GQ.keep (j := 8) (by decide) rfl) fun γ L v a w st => ?_
          have f13 := st.far 13 (by kernel_rfl)
          simp at f13
          go_simp
        case s9 =>
          refine sg_val (x := .string tx) rfl rfl rfl (GQ.keep (j := 9) (by decide) rfl) fun γ L v a w st => ?_
          have f2 := st.far 2 (by kernel_rfl)
          simp at f2
          go_simp
        case s10 =>
          refine sg_val (x := .int .i64 (ao : Int)) rfl rfl rfl (GQ.keep (j := 10) (by decide) rfl) fun γ L v a w st => ?_
          have f8 := st.far 8 (by kernel_rfl)
          simp at f8
          go_simp
        case s11 =>
          refine sg_val (x := .string (tx.extract ao tx.size)) rfl rfl rfl (GQ.keep (j := 11) (by decide) rfl) fun γ L v a w st => ?_
          have e9 := st.val 9 65 rfl (by kernel_rfl)
          rw [show v 9 = _ from st.φ 9 (by kernel_rfl)] at e9
          simp at e9
          have e10 := st.val 10 66 rfl (by kernel_rfl)
          rw [show v 10 = _ from st.φ 10 (by kernel_rfl)] at e10
          simp at e10
          have hle2 : ao ≤ tx.size := by omega
          go_simp
        case s12 =>
          refine sg_callv' (x := .agg (headV (rbs x).data.toList)) (f := 72) rfl rfl rfl fun γ L v a w st => ?_
          have e11 := st.val 11 67 rfl (by kernel_rfl)
          rw [show v 11 = _ from st.φ 11 (by kernel_rfl)] at e11
          simp at e11
          refine ⟨#[.string (tx.extract ao tx.size)], by go_simp, ?_⟩
          refine Calls.mono (hho w) ?_
          rintro e w' ⟨rfl, hE⟩
          exact ⟨rfl, st.inv.call hST hE (by decide) rfl st.off⟩
        case s13 =>
          refine sg_val (x := .agg PC) rfl rfl rfl (GQ.keep (j := 13) (by decide) rfl) fun γ L v a w st => ?_
          have e6 := st.val 6 62 rfl (by kernel_rfl)
          rw [show v 6 = _ from st.φ 6 (by kernel_rfl)] at e6
          simp at e6
          have e7 := st.val 7 63 rfl (by kernel_rfl)
          rw [show v 7 = _ from st.φ 7 (by kernel_rfl)] at e7
          simp at e7
          have e8 := st.val 8 64 rfl (by kernel_rfl)
          rw [show v 8 = _ from st.φ 8 (by kernel_rfl)] at e8
          simp at e8
          have e12 := st.val 12 68 rfl (by kernel_rfl)
          rw [show v 12 = _ from st.φ 12 (by kernel_rfl)] at e12
          simp at e12
          rw [HPC.out]
          simp only [headV] at e12
          go_simp
          simp [Plc.cells]
        case s14 =>
          refine sg_skip rfl rfl rfl fun γ L v a w st => ?_
          have e3 := st.val 3 59 rfl (by kernel_rfl)
          rw [show v 3 = _ from st.φ 3 (by kernel_rfl)] at e3
          simp at e3
          have e5 := st.val 5 61 rfl (by kernel_rfl)
          rw [show v 5 = _ from st.φ 5 (by kernel_rfl)] at e5
          simp at e5
          have e13 := st.val 13 69 rfl (by kernel_rfl)
          rw [show v 13 = _ from st.φ 13 (by kernel_rfl)] at e13
          simp at e13
          have hpw := st.inv.pw
          rw [st.off] at hpw
          simp only [Bool.false_eq_true, if_false] at hpw
          obtain ⟨w8, hupd, hM8, hC8⟩ := chunks_upd hpw (x.1 : Int) PL
          rw [HPL.out] at hupd
          refine ⟨w8, by go_simp, st.inv.write hC8 (by simp only [if_true]; exact hM8) (by intro x hx; cases hx) rfl⟩
      case fin =>
        intro γ L v wr hall hG hφ
        have hM11 := hG.pw
        rw [hall 14 (by decide)] at hM11
        simp only [if_true] at hM11
        have hC11 := hG.chg
        clear hall hφ hG
        change Exit.inBlock _ (Exit.then _ _) _ (putAll _ v _ 15) wr
        simp only [putAll, dstOf, Act.put]
        simp only [List.getElem?_toArray, List.getElem?_cons_zero, List.getElem?_cons_succ, Option.bind_some, List.setIfInBounds_toArray, List.set_cons_zero, List.set_cons_succ]
        simp only [Exit.inBlock]
        go_wp2_with fail
        go_roundw
        case rel =>
          obtain ⟨hx, ha, hC0, hst, hap, hrs, _⟩ := HX.out
          have hPLe : PL = ⟨(k : Int), (ao : Int), ((rbs x).size : Int), (rbs x).data.toList⟩ := by rw [HPD.out, hfe]
          refine ⟨j + 1, by omega, by go_num, ?_, ?_, own_off hv6 hC11 (fun b hb e => HV.out b hb e), hC6.trans hC11 (fun _ _ e => e)⟩
          · rw [hst]; congr 1; omega
          · rw [hap, ← hPLe]
            exact hS6.setC hC11 hM11
        case measure => simp [intOf]; omega
    · obtain rfl : j = g.length := by omega
      go_wp2_with fail
      go_end0
      rw [List.take_length] at hS
      exact ⟨rfl, hC, hS⟩
end Go.Proofs.YtapodcmjggmgmaaGreatDoor
