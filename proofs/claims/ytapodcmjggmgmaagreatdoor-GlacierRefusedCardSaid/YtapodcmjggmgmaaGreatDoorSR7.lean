/-
  Part 7 of what the law leans on.
-/
import Derived.Test.YtapodcmjggmgmaaGreatDoorSR1
import Derived.Test.YtapodcmjggmgmaaGreatDoorSR2
import Derived.Test.YtapodcmjggmgmaaGreatDoorSR6
import Derived.Shelf.SlIter.Nil
import Derived.Shelf.SortM.Plain
import Derived.Shelf.SortM.SortNone
set_option linter.unusedVariables false
set_option linter.unusedSimpArgs false
set_option linter.unusedSectionVars false
namespace Go.Proofs.YtapodcmjggmgmaaGreatDoor
open Go.RowKit Go.MapKept Go.Sort
section
variable {P : Program} {k : TypeId} {ν : Type} {vv : ν → Value} {w : World} {b : Nat} {L : List (ByteArray × ν)}
theorem own_of_map (h : MapAt strWay vv w b L) (hk : P.underlying k = some .string) (hsz : L.length ≤ maxLen) (hkeys : ∀ p ∈ L, p.1.size ≤ maxLen) :
    ∃ D : DataW Unit, w.ownsMap P k (fun _ => some (.nil, [])) b L.length D ∧ (strKeys D).Perm (L.map (·.1.data.toList)) ∧ Maps.size D = L.length := by
  obtain ⟨es, clk, hb, hs, hp⟩ := h
  have hl : es.size = L.length := by have := hp.length_eq; simpa using this
  have hkey : ∀ x ∈ es.toList, ∃ s : ByteArray, x.key = .string s ∧ s.size ≤ maxLen := by
    intro x hx
    have := hp.mem_iff.1 (List.mem_map.2 ⟨x, hx, rfl⟩)
    obtain ⟨p, hpm, e⟩ := List.mem_map.1 this
    exact ⟨p.1, (congrArg Prod.fst e).symm, hkeys p hpm⟩
  have hrd : ∀ x ∈ es.toList, ∃ s : ByteArray, x.key = .string s ∧ WideElems.rd (H := Unit) P k (fun _ => some (.nil, [])) x = some (.string s.data.toList, .nil) := by
    intro x hx
    obtain ⟨s, e, hsz⟩ := hkey x hx
    refine ⟨s, e, ?_⟩
    unfold WideElems.rd
    rw [e, WideMaps.keyOf_string_mk hk hsz]
    rfl
  refine ⟨_, ⟨es, clk, hb, ⟨by omega, hs, fun x hx => ?_⟩, by omega, rfl⟩, ?_, ?_⟩
  · obtain ⟨s, _, hr⟩ := hrd x hx
    exact ⟨_, hr⟩
  · unfold strKeys
    refine ((WideShapes.sorted_perm _).map _).trans ?_
    rw [List.map_map]
    have e1 : es.toList.map ((fun p => strOf p.1) ∘ WideElems.rg (H := Unit) P k fun _ => some (.nil, [])) = (es.toList.map fun e => (e.key, e.val)).map fun q => (match q.1 with | .string s => s.data.toList | _ => []) := by
      rw [List.map_map]
      refine List.map_congr_left fun x hx => ?_
      obtain ⟨s, e, hr⟩ := hrd x hx
      simp only [Function.comp, WideElems.rg, hr, Option.getD_some, strOf, e]
    rw [e1]
    refine (hp.map _).trans ?_
    rw [List.map_map]
    exact List.Perm.of_eq (List.map_congr_left fun p _ => rfl)
  · rw [Maps.size_eq, (WideShapes.sorted_perm _).length_eq]; simpa using hl
end
theorem mergeSort_rises {ν : Type} {L : List (ByteArray × ν)} (hr : Rises blt L) {ss : List (List UInt8)} (hp : ss.Perm (L.map (·.1.data.toList))) :
    (ss.mergeSort fun x y => decide (x ≤ y)).map encStr = L.map fun p => Value.string p.1 := by
  have hs : (ss.mergeSort fun x y => decide (x ≤ y)) = L.map (·.1.data.toList) := by
    have h1 : (ss.mergeSort fun x y => decide (x ≤ y)).Pairwise (fun x y => x ≤ y) := by
      have := List.pairwise_mergeSort (le := fun (x y : List UInt8) => decide (x ≤ y)) (fun a b c h h' => by
        simp only [decide_eq_true_eq] at *; exact List.le_trans h h') (fun a b => by
        simp only [Bool.or_eq_true, decide_eq_true_eq]; exact List.le_total a b) ss
      exact this.imp fun h => by simpa using h
    have h2 : (L.map (·.1.data.toList)).Pairwise (fun (x y : List UInt8) => x ≤ y) := by
      refine List.pairwise_map.2 (hr.imp fun {a b} h => ?_)
      simp only [blt, decide_eq_true_eq] at h
      exact List.le_of_lt h
    exact List.Perm.eq_of_pairwise (le := fun (x y : List UInt8) => x ≤ y) (fun a b _ _ h h' => List.le_antisymm h h') h1 h2 ((List.mergeSort_perm _ _).trans hp)
  rw [hs, List.map_map]
  refine List.map_congr_left fun p _ => ?_
  simp [encStr]
end Go.Proofs.YtapodcmjggmgmaaGreatDoor
namespace Go.Proofs.YtapodcmjggmgmaaGreatDoor
open Go.RowKit Go.Sort Go.Shelf
theorem keys_sorts (m : Nat) : AnyZ.SortsIn Tryz.prog Tryz.sorted_ren Fence.wide m :=
  ⟨fun blk off cap ss W hH hblk hsz => callsIn_wide.2 (AnyM.slices_Sort_string Tryz.sort blk off cap ss W hH hblk hsz),
   fun p cap W => callsIn_wide.2 (AnyM.slices_Sort_string_none Tryz.sort p cap W)⟩
theorem keys_any (mb : Option Nat) (W : World) : Calls Tryz.prog 115 #[.map mb] W fun e w' =>
    e = .returned (.func (.func 157) #[] #[.pointer (some ⟨W.heap.size, 0, none⟩)]) ∧ w' = W.alloc (.cells #[.map mb] 46) :=
  (callsIn_wide (n := 5)).1 (AnyZ.keys_in Tryz.keys Fence.wide 5 trivial rfl mb W)
set_option maxHeartbeats 1000000 in
theorem sortedOwn_any {H : Type} (b nn : Nat) (D0 : DataW H) (R : Value → Option (DataW H × List MemPlace)) (w : World) (hown : w.ownsMap Tryz.prog 9 R b nn D0) (hmax : Maps.size D0 ≤ maxLen) (hbytes : Maps.size D0 * 16 ≤ 140737488355328) :
    Calls Tryz.prog 114 #[.func (.func 157) #[] #[.pointer (some ⟨w.heap.size, 0, none⟩)]] (w.alloc (.cells #[.map (some b)] 46)) fun e w' => ∃ (v : Value) (ss : List (List UInt8)), e = .returned v ∧ ss.Perm (strKeys D0) ∧
      w'.ownsRow (w.alloc (.cells #[.map (some b)] 46)).heap.size 9 1 v ss.length ((ss.mergeSort (fun x y => decide (x ≤ y))).map encStr) ∧ (v = .slice none 0 0 ↔ ss = []) ∧ Below (w.alloc (.cells #[.map (some b)] 46)).heap.size (w.alloc (.cells #[.map (some b)] 46)) w' := by
  have hbl := hown.lt
  have hseq : SeqGives Fence.wide 2 Tryz.prog 157 #[.pointer (some ⟨w.heap.size, 0, none⟩)] encStr (fun ss => ss.Perm (strKeys D0)) (Maps.size D0) (w.alloc (.cells #[.map (some b)] 46)) :=
    AnyZ.keys_gives (ρ := Tryz.keys_ren) { Tryz.keys with } Fence.wide _ trivial rfl (by omega) w.heap.size b nn D0 _ (by simp) (by simp) (by
      obtain ⟨es, clock, hb, Ft, hs, hD⟩ := hown
      exact ⟨es, clock, (Below.heap_alloc _ _ b hbl).trans hb, Ft, hs, hD⟩)
  exact (callsIn_wide (n := 5)).1 (AnyZ.sorted_in Tryz.sorted Fence.wide 5 trivial trivial trivial trivial rfl (by omega) (keys_sorts _) (enters_of Tryz.func156 (by kernel_rfl) rfl) 157 #[.pointer (some ⟨w.heap.size, 0, none⟩)] trivial (enters_of Tryz.func157 (by kernel_rfl) rfl) _ _ hmax hbytes _ hseq)
theorem sorted_any {L : List (ByteArray × Fl)} (w : World) (m : Nat) (h : MapAt strWay Fl.val w m L) (hr : Rises blt L) (hk : ∀ p ∈ L, p.1.size ≤ maxLen) (hl : L.length ≤ 1048576) :
    Calls Tryz.prog 114 #[.func (.func 157) #[] #[.pointer (some ⟨w.heap.size, 0, none⟩)]] (w.alloc (.cells #[.map (some m)] 46)) fun e w' =>
      ∃ v, e = .returned v ∧ Sl w' v (L.map fun p => .string p.1) ∧ Ext w w' := by
  obtain ⟨D, hown, hD, hsz⟩ := own_of_map h key_files (by unfold maxLen; omega) hk
  refine (sortedOwn_any m _ D _ w hown (by unfold maxLen; omega) (by omega)).mono ?_
  rintro e w' ⟨v, ss, rfl, hss, hrow, _, hb⟩
  have hp := hss.trans hD
  rw [mergeSort_rises hr hp] at hrow
  exact ⟨v, rfl, Sl.of_own hrow, ((Ext.refl w).alloc _).trans (Ext.of_below hb)⟩
theorem all_any (w : World) (d m : Nat) (D : Dk) (hD : DkAt w d m D) (hr : Rises blt D.files) (hk : ∀ p ∈ D.files, p.1.size ≤ maxLen) (hl : D.files.length ≤ 1048576) :
    Calls Tryz.prog 74 #[.pointer (some ⟨d, 0, none⟩)] w fun e w' => ∃ v, e = .returned v ∧ Sl w' v (D.files.map fun p => .string p.1) ∧ Ext w w' := by
  have c4 : w.cell? ⟨d, 4, none⟩ = some (.map (some m)) := hD.1.cell 4
  have hM := hD.2
  go_enter Tryz.func74, Tryz.ntmps74
  go_wp2_with fail
  refine (keys_any _ _).mono ?_
  rintro e w' ⟨rfl, rfl⟩
  go_wp2_with fail
  refine (sorted_any w m hM hr hk hl).mono ?_
  rintro e w' ⟨v, rfl, hS, hE⟩
  go_wp2_with fail
  go_ret
  exact ⟨v, rfl, hS, hE⟩
end Go.Proofs.YtapodcmjggmgmaaGreatDoor
namespace Go.Proofs.YtapodcmjggmgmaaGreatDoor
open Go.RowKit Go.Sort
end Go.Proofs.YtapodcmjggmgmaaGreatDoor
namespace Go.Proofs.YtapodcmjggmgmaaGreatDoor
open Go.RowKit Go.Sort
theorem DkAt.apart {w : World} {d m : Nat} {D : Dk} (hD : DkAt w d m D) {ns : List ByteArray} {v : Value} (hS : Sl w v (ns.map Value.string)) :
    ∀ b o n c, v = .slice (some ⟨b, o, none⟩) n c → ns.map Value.string ≠ [] → ¬ (b = d ∨ b = m) := by
  rintro b o n c rfl hne
  obtain ⟨A, c', hv, hx⟩ := hS
  obtain ⟨b', o', rfl, hc⟩ := hx hne
  injection hv with hv1
  injection hv1 with hv1
  injection hv1 with hb ho
  subst hb ho
  cases ns with
  | nil => exact absurd rfl hne
  | cons s r =>
    have h0 := hc 0 (.string s) rfl
    rw [Nat.add_zero] at h0
    rintro (rfl | rfl)
    · have := hD.1.cell o
      rw [h0] at this
      match o, this with
      | 0, h => simp at h
      | 1, h => simp at h
      | 2, h => simp at h
      | 3, h => simp at h
      | 4, h => simp at h
      | k + 5, h => simp at h
    · obtain ⟨es, clk, hb, _⟩ := hD.2
      simp [World.cell?, hb] at h0
def Dk.sync1 (D : Dk) (n : ByteArray) : Dk := (D.put n ⟨(D.get n).nt, (D.get n).nx, (D.get n).nt, (D.get n).nx⟩).2
def Dk.syncL (D : Dk) (ns : List ByteArray) : Dk := ns.foldl Dk.sync1 D
theorem Dk.Ok.sync1 {D : Dk} (h : D.Ok) {n : ByteArray} (hn : n.size ≤ maxLen) : (D.sync1 n).Ok := h.put hn (h.t n).1 (h.t n).1
theorem Dk.Ok.syncL {D : Dk} (h : D.Ok) {ns : List ByteArray} (hn : ∀ n ∈ ns, n.size ≤ maxLen) : (D.syncL ns).Ok := by
  unfold Dk.syncL
  induction ns generalizing D with
  | nil => exact h
  | cons n r ih => exact ih (h.sync1 (hn n (List.mem_cons_self ..))) (fun n' h' => hn n' (List.mem_cons_of_mem _ h'))
theorem syncL_take {D : Dk} {ns : List ByteArray} {k : Nat} {n : ByteArray} (h : ns[k]? = some n) : D.syncL (ns.take (k + 1)) = (D.syncL (ns.take k)).sync1 n := by
  unfold Dk.syncL
  rw [List.take_add_one, h]
  simp
def Dk.sync (D : Dk) (ns : List ByteArray) : Int × Dk :=
  if D.e ≠ 0 then (D.e, D.tick) else (0, D.tick.syncL (if ns = [] then D.files.map (·.1) else ns))
section sync
variable (w : World) (d m : Nat) (D : Dk) (hD : DkAt w d m D) (hO : D.Ok)
include hD hO
set_option maxRecDepth 100000 in
set_option maxHeartbeats 1000000 in
theorem sync_some (v : Value) (ns : List ByteArray) (hS : Sl w v (ns.map Value.string)) (hn : ∀ n ∈ ns, n.size ≤ maxLen) (hl : ns.length ≤ 1048576) (he : D.e = 0) (hne : ns ≠ []) :
    Calls Tryz.prog 100 #[.pointer (some ⟨d, 0, none⟩), v] w fun e w' =>
      e = .returned (.int .i64 0) ∧ Chg (fun k => k = d ∨ k = m) w w' ∧ DkAt w' d m (D.tick.syncL ns) := by
  have ct := try_any w d m D hD hO.a0 hO.a1
  have he1 : (D.e == 0) = true := by simpa using he
  have he2 : (D.e != 0) = false := by simpa using he
  have hap := hD.apart hS
  go_enter Tryz.func100, Tryz.ntmps100
  go_wp2_with fail
  refine ct.mono ?_
  rintro e w1 ⟨rfl, hC1, hD1⟩
  clear ct
  have hS1 := hS.chg hC1 (fun b o n c hv h hb => hap b o n c hv h (.inl hb))
  clear hS
  obtain ⟨A, c, rfl, hx⟩ := hS1
  rw [List.length_map]
  have hlen0 : (ns.length : Int) ≤ 1048576 := by omega
  have hlen : ((ns.length : Int) == 0) = false := by
    have : ns.length ≠ 0 := fun h => hne (List.eq_nil_of_length_eq_zero h)
    simp; omega
  have hlen2 : (ns.length == 0) = false := by
    have : ns.length ≠ 0 := fun h => hne (List.eq_nil_of_length_eq_zero h)
    simp; omega
  go_wp2_with fail
  go_loopw [23] (fun i wr => ∃ k : Nat, k ≤ ns.length ∧ i = .int .i64 k ∧ DkAt wr d m (D.tick.syncL (ns.take k)) ∧ Chg (fun k => k = d ∨ k = m) w1 wr) (fun i _ => ns.length - (intOf i).toNat)
  case atStart => exact ⟨0, Nat.zero_le _, rfl, by simpa [Dk.syncL] using hD1, Chg.refl _ _⟩
  case round =>
    obtain ⟨k, hk, rfl, hDk, hCk⟩ := hrel
    by_cases hlt : k < ns.length
    · have hne' : ns.map Value.string ≠ [] := by intro e; rw [List.map_eq_nil_iff] at e; subst e; simp at hlt
      obtain ⟨b, o, rfl, hc⟩ := hx hne'
      replace hap := hap b o _ _ (by rw [List.length_map]) hne'
      have hs : ns[k]? = some ns[k] := List.getElem?_eq_getElem hlt
      have hcw := hc k (.string ns[k]) (by rw [List.getElem?_map, hs]; rfl)
      have hcell : wr.cell? ⟨b, o + k, none⟩ = some (.string ns[k]) := (hCk.cell (cell_lt hcw) hap).trans hcw
      have hOk : (D.tick.syncL (ns.take k)).Ok := hO.tick.syncL fun n h => hn n (List.mem_of_mem_take h)
      have hstep := syncL_take (D := D.tick) hs
      have hsz : ns[k].size ≤ maxLen := hn _ (List.getElem_mem hlt)
      have HS := Lib.hid hstep
      clear hstep hcw
      generalize ns[k] = s at hs hcell HS hsz
      generalize D.tick.syncL (ns.take k) = Dk at hDk hOk HS
      have e4 : wr.cell? ⟨d, 4, none⟩ = some (.map (some m)) := hDk.1.cell 4
      have cl : (Instr.lookup 46 (.map (some m)) (.string s) false).run Tryz.prog wr = .ok (.agg #[.bool (Dk.get s).nt, .string (Dk.get s).nx, .bool (Dk.get s).st, .string (Dk.get s).sx]) wr := hDk.look s
      go_wp2_with fail
      refine (put_any _ d m Dk (hDk.alloc _) hOk s _ _ _ _ (hOk.t s).1 (hOk.t s).1).mono ?_
      rintro e w2 ⟨rfl, hC2, hD2⟩
      go_wp2_with fail
      go_roundw
      case rel => exact ⟨k + 1, by omega, by go_num, by rw [HS.out]; exact hD2, (hCk.alloc _).trans hC2 (fun _ _ h => h)⟩
      case measure => simp [intOf]; omega
    · go_wp2_with fail
      go_ret
      rw [List.take_of_length_le (by omega)] at hDk
      exact ⟨rfl, (hC1.mono (fun _ _ h => .inl h)).trans hCk (fun _ _ h => h), hDk⟩
set_option maxRecDepth 100000 in
set_option maxHeartbeats 1000000 in
theorem sync_all (he : D.e = 0) (cc : Nat) (hfl : D.files.length ≤ 1048576) :
    Calls Tryz.prog 100 #[.pointer (some ⟨d, 0, none⟩), .slice none 0 cc] w fun e w' =>
      e = .returned (.int .i64 0) ∧ Chg (fun k => k = d ∨ k = m) w w' ∧ DkAt w' d m (D.tick.syncL (D.files.map (·.1))) := by
  have ct := try_any w d m D hD hO.a0 hO.a1
  have he1 : (D.e == 0) = true := by simpa using he
  have he2 : (D.e != 0) = false := by simpa using he
  go_enter Tryz.func100, Tryz.ntmps100
  go_wp2_with fail
  refine ct.mono ?_
  rintro e w1 ⟨rfl, hC1, hD1⟩
  clear ct
  go_wp2_with fail
  refine (all_any _ d m D.tick hD1 hO.srt hO.keys hfl).mono ?_
  rintro e w2 ⟨v, rfl, hS1, hE⟩
  replace hD1 := hD1.ext hE
  have hn : ∀ n ∈ D.files.map (·.1), n.size ≤ maxLen := fun n h => by
    obtain ⟨p, hp, rfl⟩ := List.mem_map.1 h
    exact hO.keys p hp
  have hl : (D.files.map (·.1)).length ≤ 1048576 := by simpa using hfl
  replace hS1 : Sl w2 v ((D.files.map (·.1)).map Value.string) := by rw [List.map_map]; exact hS1
  obtain ⟨ns, hns⟩ : ∃ ns, ns = D.files.map (·.1) := ⟨_, rfl⟩
  rw [← hns] at hS1 hn hl
  have HN := Lib.hid hns
  clear hns
  have hap := hD1.apart hS1
  obtain ⟨A, c, rfl, hx⟩ := hS1
  rw [List.length_map]
  have hlen0 : (ns.length : Int) ≤ 1048576 := by omega
  go_wp2_with fail
  go_loopw [23] (fun i wr => ∃ k : Nat, k ≤ ns.length ∧ i = .int .i64 k ∧ DkAt wr d m (D.tick.syncL (ns.take k)) ∧ Chg (fun k => k = d ∨ k = m) w2 wr) (fun i _ => ns.length - (intOf i).toNat)
  case atStart => exact ⟨0, Nat.zero_le _, rfl, by simpa [Dk.syncL] using hD1, Chg.refl _ _⟩
  case round =>
    obtain ⟨k, hk, rfl, hDk, hCk⟩ := hrel
    by_cases hlt : k < ns.length
    · have hne' : ns.map Value.string ≠ [] := by intro e; rw [List.map_eq_nil_iff] at e; subst e; simp at hlt
      obtain ⟨b, o, rfl, hc⟩ := hx hne'
      replace hap := hap b o _ _ (by rw [List.length_map]) hne'
      have hs : ns[k]? = some ns[k] := List.getElem?_eq_getElem hlt
      have hcw := hc k (.string ns[k]) (by rw [List.getElem?_map, hs]; rfl)
      have hcell : wr.cell? ⟨b, o + k, none⟩ = some (.string ns[k]) := (hCk.cell (cell_lt hcw) hap).trans hcw
      have hOk : (D.tick.syncL (ns.take k)).Ok := hO.tick.syncL fun n h => hn n (List.mem_of_mem_take h)
      have hstep := syncL_take (D := D.tick) hs
      have hsz : ns[k].size ≤ maxLen := hn _ (List.getElem_mem hlt)
      have HS := Lib.hid hstep
      clear hstep hcw
      generalize ns[k] = s at hs hcell HS hsz
      generalize D.tick.syncL (ns.take k) = Dk at hDk hOk HS
      have e4 : wr.cell? ⟨d, 4, none⟩ = some (.map (some m)) := hDk.1.cell 4
      have cl : (Instr.lookup 46 (.map (some m)) (.string s) false).run Tryz.prog wr = .ok (.agg #[.bool (Dk.get s).nt, .string (Dk.get s).nx, .bool (Dk.get s).st, .string (Dk.get s).sx]) wr := hDk.look s
      go_wp2_with fail
      refine (put_any _ d m Dk (hDk.alloc _) hOk s _ _ _ _ (hOk.t s).1 (hOk.t s).1).mono ?_
      rintro e w2 ⟨rfl, hC2, hD2⟩
      go_wp2_with fail
      go_roundw
      case rel => exact ⟨k + 1, by omega, by go_num, by rw [HS.out]; exact hD2, (hCk.alloc _).trans hC2 (fun _ _ h => h)⟩
      case measure => simp [intOf]; omega
    · go_wp2_with fail
      go_ret
      rw [List.take_of_length_le (by omega), HN.out] at hDk
      exact ⟨rfl, ((hC1.mono (fun _ _ h => .inl h)).ext_trans hE).trans hCk (fun _ _ h => h), hDk⟩
theorem sync_err (v : Value) (he : D.e ≠ 0) :
    Calls Tryz.prog 100 #[.pointer (some ⟨d, 0, none⟩), v] w fun e w' =>
      e = .returned (.int .i64 D.e) ∧ Chg (fun k => k = d) w w' ∧ DkAt w' d m D.tick := by
  have ct := try_any w d m D hD hO.a0 hO.a1
  have he1 : (D.e == 0) = false := by simpa using he
  have he2 : (D.e != 0) = true := by simpa using he
  go_enter Tryz.func100, Tryz.ntmps100
  go_wp2_with fail
  refine ct.mono ?_
  rintro e w1 ⟨rfl, hC1, hD1⟩
  go_wp2_with fail
  go_ret
  exact ⟨rfl, hC1, hD1⟩
theorem sync_any (v : Value) (ns : List ByteArray) (hS : Sl w v (ns.map Value.string)) (hn : ∀ n ∈ ns, n.size ≤ maxLen) (hl : ns.length ≤ 1048576) (hfl : D.files.length ≤ 1048576) (hv : ns = [] → ∃ c, v = .slice none 0 c) :
    Calls Tryz.prog 100 #[.pointer (some ⟨d, 0, none⟩), v] w fun e w' =>
      e = .returned (.int .i64 (D.sync ns).1) ∧ Chg (fun k => k = d ∨ k = m) w w' ∧ DkAt w' d m (D.sync ns).2 := by
  unfold Dk.sync
  by_cases he : D.e = 0
  · rw [if_neg (by simpa using he)]
    by_cases hne : ns = []
    · obtain ⟨c, rfl⟩ := hv hne
      rw [if_pos hne]
      exact sync_all w d m D hD hO he c hfl
    · rw [if_neg hne]
      exact sync_some w d m D hD hO v ns hS hn hl he hne
  · rw [if_pos he]
    refine (sync_err w d m D hD hO v he).mono ?_
    rintro e w' ⟨h1, h2, h3⟩
    exact ⟨h1, h2.mono (fun _ _ h => .inl h), h3⟩
end sync
end Go.Proofs.YtapodcmjggmgmaaGreatDoor
namespace Go.Proofs.YtapodcmjggmgmaaGreatDoor
open Go.RowKit Go.Sort
end Go.Proofs.YtapodcmjggmgmaaGreatDoor
namespace Go.Proofs.YtapodcmjggmgmaaGreatDoor
open Go.RowKit Go.Sort
def Dk.remove1 (D : Dk) (n : ByteArray) : Dk := (D.put n ⟨false, ByteArray.empty, (D.get n).st, (D.get n).sx⟩).2
def Dk.removeL (D : Dk) (ns : List ByteArray) : Dk := ns.foldl Dk.remove1 D
def Dk.rmOk (D : Dk) (ns : List ByteArray) : Bool := ns.all fun n => (D.get n).nt
theorem field_now (a b : Bool) (x y : ByteArray) (w : World) : (Instr.field 146 (.agg #[.bool a, .string x, .bool b, .string y]) 0).run Tryz.prog w = .ok (.agg #[.bool a, .string x]) w := by kernel_rfl
theorem field_there (a : Bool) (x : ByteArray) (w : World) : (Instr.field 144 (.agg #[.bool a, .string x]) 0).run Tryz.prog w = .ok (.bool a) w := by kernel_rfl
def Dk.remove (D : Dk) (ns : List ByteArray) : Int × Dk :=
  if D.e ≠ 0 then (D.e, D.tick) else if D.rmOk ns then (0, D.tick.removeL ns) else (5, D.tick)
theorem Dk.Ok.remove1 {D : Dk} (h : D.Ok) {n : ByteArray} (hn : n.size ≤ maxLen) : (D.remove1 n).Ok := h.put hn (Nat.zero_le _) (h.t n).2
theorem Dk.Ok.removeL {D : Dk} (h : D.Ok) {ns : List ByteArray} (hn : ∀ n ∈ ns, n.size ≤ maxLen) : (D.removeL ns).Ok := by
  unfold Dk.removeL
  induction ns generalizing D with
  | nil => exact h
  | cons n r ih => exact ih (h.remove1 (hn n (List.mem_cons_self ..))) (fun n' h' => hn n' (List.mem_cons_of_mem _ h'))
theorem removeL_take {D : Dk} {ns : List ByteArray} {k : Nat} {n : ByteArray} (h : ns[k]? = some n) : D.removeL (ns.take (k + 1)) = (D.removeL (ns.take k)).remove1 n := by
  unfold Dk.removeL
  rw [List.take_add_one, h]
  simp
theorem all_take {ns : List ByteArray} {p : ByteArray → Bool} {k : Nat} {n : ByteArray} (h : ns[k]? = some n) : (ns.take (k + 1)).all p = ((ns.take k).all p && p n) := by
  rw [List.take_add_one, h]
  simp
section remove
variable (w : World) (d m : Nat) (D : Dk) (hD : DkAt w d m D) (hO : D.Ok)
include hD hO
set_option maxRecDepth 100000 in
set_option maxHeartbeats 2000000 in
theorem remove_go (v : Value) (ns : List ByteArray) (hS : Sl w v (ns.map Value.string)) (hn : ∀ n ∈ ns, n.size ≤ maxLen) (hl : ns.length ≤ 1048576) (he : D.e = 0) :
    Calls Tryz.prog 106 #[.pointer (some ⟨d, 0, none⟩), v] w fun e w' =>
      e = .returned (.int .i64 (D.remove ns).1) ∧ Chg (fun k => k = d ∨ k = m) w w' ∧ DkAt w' d m (D.remove ns).2 := by
  have ct := try_any w d m D hD hO.a0 hO.a1
  have he1 : (D.e == 0) = true := by simpa using he
  have he2 : (D.e != 0) = false := by simpa using he
  have hap := hD.apart hS
  go_enter Tryz.func106, Tryz.ntmps106
  go_wp2_with fail
  refine ct.mono ?_
  rintro e w1 ⟨rfl, hC1, hD1⟩
  clear ct
  have hS1 := hS.chg hC1 (fun b o n c hv h hb => hap b o n c hv h (.inl hb))
  clear hS
  obtain ⟨A, c, rfl, hx⟩ := hS1
  rw [List.length_map]
  have hlen0 : (ns.length : Int) ≤ 1048576 := by omega
  have e4 : w1.cell? ⟨d, 4, none⟩ = some (.map (some m)) := hD1.1.cell 4
  have cl := fun n => hD1.look n
  go_wp2_with fail
  go_loop [20] (fun i => ∃ k : Nat, k ≤ ns.length ∧ i = .int .i64 k ∧ (ns.take k).all (fun n => (D.get n).nt) = true) (fun i => ns.length - (intOf i).toNat)
  case atStart => exact ⟨0, Nat.zero_le _, rfl, by simp⟩
  case round =>
    obtain ⟨k, hk, rfl, hall⟩ := hrel
    by_cases hlt : k < ns.length
    · have hne' : ns.map Value.string ≠ [] := by intro e; rw [List.map_eq_nil_iff] at e; subst e; simp at hlt
      obtain ⟨b, o, rfl, hc⟩ := hx hne'
      have hs : ns[k]? = some ns[k] := List.getElem?_eq_getElem hlt
      have hcell := hc k (.string ns[k]) (by rw [List.getElem?_map, hs]; rfl)
      have hcopy := Lib.hid hc
      clear hc
      have hstep := all_take (p := fun n => (D.get n).nt) hs
      rw [hall] at hstep
      have hmem : ns[k] ∈ ns := List.getElem_mem hlt
      have HS := Lib.hid hstep
      have HALL := Lib.hid hall
      clear hstep hall
      generalize ns[k] = s at hs hcell HS hmem
      cases ht : (D.get s).nt
      · have hno : D.rmOk ns = false := by
          unfold Dk.rmOk; rw [List.all_eq_false]; exact ⟨s, hmem, by simp [ht]⟩
        have hfin : D.remove ns = (5, D.tick) := by unfold Dk.remove; rw [if_neg (by simpa using he), if_neg (by rw [hno]; exact Bool.false_ne_true)]
        have HNO := Lib.hid hfin
        clear hno hfin
        have cls : (Instr.lookup 46 (.map (some m)) (.string s) false).run Tryz.prog w1 = .ok (.agg #[.bool false, .string (D.get s).nx, .bool (D.get s).st, .string (D.get s).sx]) w1 := by
          rw [cl s, ← ht]; rfl
        clear cl
        have fn := field_now
        have ft := field_there
        go_wp2_with fail
        go_ret
        rw [HNO.out]
        exact ⟨rfl, hC1.mono (fun _ _ h => .inl h), hD1⟩
      · have cls : (Instr.lookup 46 (.map (some m)) (.string s) false).run Tryz.prog w1 = .ok (.agg #[.bool true, .string (D.get s).nx, .bool (D.get s).st, .string (D.get s).sx]) w1 := by
          rw [cl s, ← ht]; rfl
        clear cl
        have HT := Lib.hid ht
        clear ht
        have fn := field_now
        have ft := field_there
        go_wp2_with fail
        go_round
        case rel => exact ⟨k + 1, by omega, by go_num, by rw [HS.out]; simp [HT.out]⟩
        case measure => simp [intOf]; omega
    · rw [List.take_of_length_le (by omega)] at hall
      have HALL := Lib.hid hall
      clear hall cl e4
      go_wp2_with fail
      go_loopw [36] (fun i wr => ∃ k : Nat, k ≤ ns.length ∧ i = .int .i64 k ∧ DkAt wr d m (D.tick.removeL (ns.take k)) ∧ Chg (fun k => k = d ∨ k = m) w1 wr) (fun i _ => ns.length - (intOf i).toNat)
      case atStart => exact ⟨0, Nat.zero_le _, rfl, by simpa [Dk.removeL] using hD1, Chg.refl _ _⟩
      case round =>
        obtain ⟨j, hj, rfl, hDk, hCk⟩ := hrel
        by_cases hlt2 : j < ns.length
        · have hne' : ns.map Value.string ≠ [] := by intro e; rw [List.map_eq_nil_iff] at e; subst e; simp at hlt2
          obtain ⟨b, o, rfl, hc⟩ := hx hne'
          replace hap := hap b o _ _ (by rw [List.length_map]) hne'
          have hs : ns[j]? = some ns[j] := List.getElem?_eq_getElem hlt2
          have hcw := hc j (.string ns[j]) (by rw [List.getElem?_map, hs]; rfl)
          have hcell : wr.cell? ⟨b, o + j, none⟩ = some (.string ns[j]) := (hCk.cell (cell_lt hcw) hap).trans hcw
          have hOk : (D.tick.removeL (ns.take j)).Ok := hO.tick.removeL fun n h => hn n (List.mem_of_mem_take h)
          have hstep := removeL_take (D := D.tick) hs
          have hsz : ns[j].size ≤ maxLen := hn _ (List.getElem_mem hlt2)
          have HS := Lib.hid hstep
          clear hstep hcw hc
          generalize ns[j] = s at hs hcell HS hsz
          generalize D.tick.removeL (ns.take j) = Dk at hDk hOk HS
          have e4 : wr.cell? ⟨d, 4, none⟩ = some (.map (some m)) := hDk.1.cell 4
          have cl : (Instr.lookup 46 (.map (some m)) (.string s) false).run Tryz.prog wr = .ok (.agg #[.bool (Dk.get s).nt, .string (Dk.get s).nx, .bool (Dk.get s).st, .string (Dk.get s).sx]) wr := hDk.look s
          go_wp2_with fail
          refine (put_any _ d m Dk (hDk.alloc _) hOk s _ _ _ _ (Nat.zero_le _) (hOk.t s).2).mono ?_
          rintro e w2 ⟨rfl, hC2, hD2⟩
          go_wp2_with fail
          go_roundw
          case rel => exact ⟨j + 1, by omega, by go_num, by rw [HS.out]; exact hD2, (hCk.alloc _).trans hC2 (fun _ _ h => h)⟩
          case measure => simp [intOf]; omega
        · go_wp2_with fail
          go_ret
          rw [List.take_of_length_le (by omega)] at hDk
          have hfin : D.remove ns = (0, D.tick.removeL ns) := by unfold Dk.remove; rw [if_neg (by simpa using he), if_pos (show D.rmOk ns = true from HALL.out)]
          rw [hfin]
          exact ⟨rfl, (hC1.mono (fun _ _ h => .inl h)).trans hCk (fun _ _ h => h), hDk⟩
theorem remove_err (v : Value) (he : D.e ≠ 0) :
    Calls Tryz.prog 106 #[.pointer (some ⟨d, 0, none⟩), v] w fun e w' =>
      e = .returned (.int .i64 D.e) ∧ Chg (fun k => k = d) w w' ∧ DkAt w' d m D.tick := by
  have ct := try_any w d m D hD hO.a0 hO.a1
  have he1 : (D.e == 0) = false := by simpa using he
  have he2 : (D.e != 0) = true := by simpa using he
  go_enter Tryz.func106, Tryz.ntmps106
  go_wp2_with fail
  refine ct.mono ?_
  rintro e w1 ⟨rfl, hC1, hD1⟩
  go_wp2_with fail
  go_ret
  exact ⟨rfl, hC1, hD1⟩
theorem remove_any (v : Value) (ns : List ByteArray) (hS : Sl w v (ns.map Value.string)) (hn : ∀ n ∈ ns, n.size ≤ maxLen) (hl : ns.length ≤ 1048576) :
    Calls Tryz.prog 106 #[.pointer (some ⟨d, 0, none⟩), v] w fun e w' =>
      e = .returned (.int .i64 (D.remove ns).1) ∧ Chg (fun k => k = d ∨ k = m) w w' ∧ DkAt w' d m (D.remove ns).2 := by
  by_cases he : D.e = 0
  · exact remove_go w d m D hD hO v ns hS hn hl he
  · unfold Dk.remove
    rw [if_pos he]
    refine (remove_err w d m D hD hO v he).mono ?_
    rintro e w' ⟨h1, h2, h3⟩
    exact ⟨h1, h2.mono (fun _ _ h => .inl h), h3⟩
end remove
end Go.Proofs.YtapodcmjggmgmaaGreatDoor
namespace Go.Proofs.YtapodcmjggmgmaaGreatDoor
open Go.RowKit Go.Sort
def Dk.new (room : Int) : Dk := ⟨max room 0, 0, false, 0, []⟩
theorem Dk.new_ok (room : Int) (h : room ≤ 9223372036854775807) : (Dk.new room).Ok :=
  ⟨Int.le_refl _, by simp only [Dk.new]; omega, by simp only [Dk.new]; omega, Int.le_refl _, by simp [Dk.new], by simp [Dk.new, Rises], by simp [Dk.new], fun n => by
    have e : (Dk.new room).get n = Fl.zero := rfl
    rw [e]; exact ⟨Nat.zero_le _, Nat.zero_le _⟩⟩
theorem new_any (room : Int) (w : World) : Calls Tryz.prog 48 #[.int .i64 room] w fun e w' =>
    ∃ d m, e = .returned (.pointer (some ⟨d, 0, none⟩)) ∧ DkAt w' d m (Dk.new room) ∧ Ext w w' ∧ w.heap.size ≤ d ∧ w.heap.size ≤ m := by
  have hmm := @run_makeMap Tryz.prog
  go_enter Tryz.func48, Tryz.ntmps48
  go_wp2_with fail
  refine (made_any _ _).mono ?_
  rintro e w1 ⟨rfl, hE⟩
  go_wp2_with fail
  go_ret
  refine ⟨_, _, rfl, ⟨At.new_eq (by simp) _ _, (MapAt.new strWay Fl.val w1).alloc _⟩, (hE.alloc _).alloc _, ?_, hE.size⟩
  have := hE.size
  omega
theorem sl_one (w : World) (t : TypeId) (x : Value) (c : Nat) : Sl (w.alloc (.cells #[x] t)) (.slice (some ⟨w.heap.size, 0, none⟩) 1 c) [x] :=
  ⟨_, c, rfl, fun _ => ⟨_, _, rfl, fun i y hi => by
    have e : i = 0 := by have := (List.getElem?_eq_some_iff.1 hi).1; simp at this; omega
    subst e
    have h := (At.new w t #[x]).cell 0
    rw [Nat.add_zero, h]; exact hi⟩⟩
end Go.Proofs.YtapodcmjggmgmaaGreatDoor
