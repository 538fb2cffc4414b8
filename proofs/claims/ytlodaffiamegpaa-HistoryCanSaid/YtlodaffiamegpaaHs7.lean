/-
  Layer 18: the walk of a search: what comes at once.
-/
import Derived.Test.YtlodaffiamegpaaHistDo
namespace Go.Proofs.Ytlodaffiamegpaa
open Go.RowKit Go.Sort

def opsOf (l : List HRow) : List HOp := l.map (·.1)
theorem opsOf_len (l : List HRow) : (opsOf l).length = l.length := by unfold opsOf; simp
theorem rowAt_op {l : List HRow} {i : Nat} (hi : i < l.length) : (rowAt l i).1 = opAt (opsOf l) i := by
  refine (opAt_of ?_).symm
  unfold opsOf
  rw [List.getElem?_map, rowAt_get hi]; rfl
def unitV : Unit → Value := fun _ => .agg #[]
def Bad (ops : List HOp) (T : HTab) (K : List Int) : Prop := ∀ key ∈ K, ∀ d st, StOk T st → d < 1048576 → key = (keyV T st d : Nat) → ¬ CanN ops T d st
def SX (X : HLoc) : Nat → Prop := fun k => k = X.st ∨ k = X.sn

section
variable {l : List HRow} {T : HTab} {X : HLoc} {S : Nat → Prop}
theorem pow20 {n : Nat} (h : n ≤ 20) : 2 ^ n ≤ 1048576 := by
  have := Nat.pow_le_pow_right (n := 2) (by omega) h
  rwa [show (2 : Nat) ^ 20 = 1048576 from rfl] at this
theorem ready_c (P : Prob (opsOf l) T) (w : World) (g : Nat) (hT : TabAt S w g l T X) (i d : Nat) (hi : i < l.length) (hd : d < 1048576) :
    Calls Try.prog 31 #[.pointer (some ⟨g, 0, none⟩), .int .i64 (i : Int), .int .u32 (d : Int)] w fun e w' => e = .returned (.bool (readyB T d i)) ∧ w' = w := by
  have hl := opsOf_len l
  have h20 := P.n20
  have hbl := P.blen
  have hg : T.before[i]? = some (T.before.getD i 0) := by rw [List.getD_eq_getElem?_getD, List.getElem?_eq_getElem (by omega)]; rfl
  have hb := (P.before i (by omega)).1
  exact ready_any w g l T X hT i d _ hg (by omega) (by omega) hd (Nat.lt_of_lt_of_le hb (pow20 h20))
theorem quiet_c (P : Prob (opsOf l) T) (w : World) (g : Nat) (hT : TabAt S w g l T X) (st : List Nat) (hs : StOk T st) (hst : At w X.st 3 (stCells st)) (i : Nat) (hi : i < l.length) (hxn : (rowAt l i).1.names.length ≤ 9223372036854775807) :
    Calls Try.prog 32 #[.pointer (some ⟨g, 0, none⟩), .int .i64 (i : Int)] w fun e w' => e = .returned (.bool (quietB T st i (opAt (opsOf l) i))) ∧ Ext w w' := by
  have hl := opsOf_len l
  have h20 := P.n20
  rw [← rowAt_op hi]
  by_cases h1 : (rowAt l i).1.ans = false ∨ (rowAt l i).1.kind = 1
  · have hq : quietB T st i (rowAt l i).1 = false := by unfold quietB; rw [if_pos h1]
    rw [hq]
    refine quiet_no w g l T X hT i hi (by omega) ?_
    rcases h1 with h | h
    · exact .inl h
    · cases ha : (rowAt l i).1.ans
      · exact .inl rfl
      · exact .inr ⟨rfl, h⟩
  · have ha : (rowAt l i).1.ans = true := by
      cases ha : (rowAt l i).1.ans
      · exact absurd (.inl ha) h1
      · rfl
    have hk1 : (rowAt l i).1.kind ≠ 1 := fun h => h1 (.inr h)
    by_cases h4 : (rowAt l i).1.kind = 4
    · have hq : quietB T st i (rowAt l i).1 = decide (liveN T.names st T.names.length = (rowAt l i).1.names) := by unfold quietB; rw [if_neg h1, if_pos h4]
      rw [hq]
      exact quiet_list w g l T X st hT hst hs.len i hi (by omega) P.nlen hxn h4 ha
    · refine quiet_one w g l T X st hT hst hs.len i hi (by omega) (by rw [P.namelen, hl]) P.nlen (fun n hn => ?_) P.vlen (fun n _ => ⟨P.v20 n, hs.le n⟩) ha hk1 h4
      rw [P.name_at (by omega), idxV_eq] at hn
      split at hn
      · rename_i hm
        have := ixOf_lt hm
        simp at hn; omega
      · simp at hn
end

theorem now_c {l : List HRow} {T : HTab} {X : HLoc} {S : Nat → Prop} (P : Prob (opsOf l) T) (w : World) (g : Nat) (hT : TabAt S w g l T X) (st : List Nat) (hs : StOk T st) (hst : At w X.st 3 (stCells st)) (i : Nat) (hi : i < l.length) :
    Calls Try.prog 34 #[.pointer (some ⟨g, 0, none⟩), .int .i64 (i : Int)] w fun e w' => e = .returned (.int .i64 (nowV T st i : Nat)) ∧ Ext w w' := by
  have hl := opsOf_len l
  have h20 := P.n20
  refine now_any w g l T X st hT hst hs.len i (by rw [P.namelen]; omega) (by rw [P.namelen]; omega) P.nlen (fun n hn => ?_)
  rw [P.name_at (by omega), idxV_eq] at hn
  split at hn
  · rename_i hm
    have := ixOf_lt hm
    simp at hn; omega
  · simp at hn
def boolOf : Value → Nat
  | .bool true => 1
  | _ => 0
def Fix (l : List HRow) (T : HTab) (st : List Nat) (d : Nat) : Prop := ∀ i, i < l.length → ¬ (readyB T d i = true ∧ quietB T st i (opAt (opsOf l) i) = true)
structure WalkIn (l : List HRow) (T : HTab) (X : HLoc) (g : Nat) (st : List Nat) (K : List Int) (w : World) : Prop where
  tab : TabAt (SX X) w g l T X
  sta : At w X.st 3 (stCells st)
  ok : StOk T st
  map : MapAt u64Way unitV w X.sn (K.map fun k => (k, ()))
  bad : Bad (opsOf l) T K
theorem WalkIn.ext {l : List HRow} {T : HTab} {X : HLoc} {g : Nat} {st : List Nat} {K : List Int} {w w' : World} (h : WalkIn l T X g st K w) (he : Ext w w') : WalkIn l T X g st K w' :=
  ⟨h.tab.ext he, h.sta.ext he, h.ok, h.map.ext he, h.bad⟩
structure WalkOut (l : List HRow) (T : HTab) (X : HLoc) (g : Nat) (st : List Nat) (d : Nat) (w : World) (e : Ending) (w' : World) : Prop where
  out : ∃ (b : Bool) (K' : List Int), e = .returned (.bool b) ∧ (b = true ↔ CanN (opsOf l) T d st) ∧ WalkIn l T X g st K' w'
  chg : Chg (SX X) w w'

theorem WalkIn.put {l : List HRow} {T : HTab} {X : HLoc} {g : Nat} {st : List Nat} {K : List Int} {w : World} (h : WalkIn l T X g st K w) {n v : Nat} (hn : n < st.length) (hv : v ≤ (T.vals.getD n []).length) :
    WalkIn l T X g (st.set n v) K (w.setCell ⟨X.st, n, none⟩ (.int .i64 (v : Int))) := by
  refine ⟨h.tab.chg ((Chg.refl (SX X) w).setCell (.inl (.inl rfl)) _), ?_, h.ok.set hn hv, h.map.setCell _ _, h.bad⟩
  have := h.sta.set n (.int .i64 (v : Int))
  have e : (stCells st).setIfInBounds n (.int .i64 (v : Int)) = stCells (st.set n v) := by
    unfold stCells nat64s
    apply Array.ext'
    simp [List.map_set]
  rw [e] at this
  exact this
theorem key_map : Try.prog.underlying 51 = some (.map 34 73) := Try.underlying51
theorem zero_unit (w : World) : (zeroValue 73).run Try.prog w = .ok (.agg #[]) w := by kernel_rfl
theorem WalkIn.look {l : List HRow} {T : HTab} {X : HLoc} {g : Nat} {st : List Nat} {K : List Int} {w : World} (h : WalkIn l T X g st K w) (k : Int) :
    (Instr.lookup 51 (.map (some X.sn)) (.int .u64 k) true).run Try.prog w = .ok (.tuple #[.agg #[], .bool (decide (k ∈ K))]) w := by
  have := h.map.lookup_ok (K := u64Way) key_map Try.underlying34 zero_unit k
  have e : (lget k (K.map fun k => (k, ()))).isSome = decide (k ∈ K) := by
    rw [Bool.eq_iff_iff, decide_eq_true_eq]
    constructor
    · intro hs
      refine Classical.byContradiction fun hn => ?_
      have : lget k (K.map fun k => (k, ())) = none := lget_none.2 fun p hp e => by
        obtain ⟨q, hq, rfl⟩ := List.mem_map.1 hp
        exact hn (e ▸ hq)
      rw [this] at hs; cases hs
    · intro hm
      cases hg : lget k (K.map fun k => (k, ())) with
      | some _ => rfl
      | none => exact absurd rfl (lget_none.1 hg _ (List.mem_map.2 ⟨k, hm, rfl⟩))
  rw [e] at this
  have e2 : ((lget k (K.map fun k => (k, ()))).elim (.agg #[]) unitV) = .agg #[] := by
    cases lget k (K.map fun k => (k, ())) <;> rfl
  rw [e2] at this
  exact this
theorem WalkIn.more {l : List HRow} {T : HTab} {X : HLoc} {g : Nat} {st : List Nat} {K : List Int} {w : World} (h : WalkIn l T X g st K w) (k : Int) (hb : ∀ d st, StOk T st → d < 1048576 → k = (keyV T st d : Nat) → ¬ CanN (opsOf l) T d st) :
    ∃ (w' : World) (K' : List Int), (Instr.mapUpdate 51 (.map (some X.sn)) (.int .u64 k) (.agg #[])).run Try.prog w = .ok () w' ∧ WalkIn l T X g st K' w' ∧ Chg (SX X) w w' := by
  obtain ⟨w', h1, h2, h3⟩ := h.map.update (K := u64Way) key_map Try.underlying34 k ()
  have hne : X.st ≠ X.sn := fun e => h.map.ne_at h.sta e.symm
  refine ⟨w', k :: K.filter (fun q => decide (q ≠ k)), h1, ⟨h.tab.chg (h3.mono fun _ _ hk => .inr hk), h.sta.chg h3 hne, h.ok, ?_, ?_⟩, h3.mono fun _ _ hk => .inr hk⟩
  · have e : (k, ()) :: ldel k (K.map fun k => (k, ())) = (k :: K.filter (fun q => decide (q ≠ k))).map fun k => (k, ()) := by
      unfold ldel
      rw [List.filter_map, List.map_cons]
      rfl
    rw [e] at h2
    exact h2
  · intro key hk
    rcases List.mem_cons.1 hk with rfl | hk
    · exact hb
    · exact h.bad key (List.mem_filter.1 hk).1

set_option maxRecDepth 100000 in
set_option maxHeartbeats 2000000 in
theorem walk_any (l : List HRow) (T : HTab) (X : HLoc) (g : Nat) (P : Prob (opsOf l) T) (hxn : ∀ x ∈ l, x.1.names.length ≤ 9223372036854775807) : ∀ (m : Nat) (w : World) (st : List Nat) (K : List Int) (d : Nat), leftN l.length d ≤ m → WalkIn l T X g st K w → d < 2 ^ l.length →
    Calls Try.prog 20 #[.pointer (some ⟨g, 0, none⟩), .int .u32 (d : Int)] w fun e w' => WalkOut l T X g st d w e w' := by
  have hl := opsOf_len l
  have h20 := P.n20
  have hp20 : 2 ^ l.length ≤ 1048576 := pow20 (by omega)
  intro m
  induction m using Nat.strongRecOn with
  | ind m ih =>
  intro w st K d hm hI hd
  obtain ⟨LA, lc, hov⟩ := sln_slice hI.tab.ops
  rw [List.length_map] at hov
  have c0 := hI.tab.blk.cell 0
  simp at c0
  rw [hov] at c0
  have IH := Lib.hid ih
  clear ih
  have HX := Lib.hid hxn
  clear hxn
  have HP := Lib.hid hp20
  have hll : l.length ≤ 20 := by omega
  clear hp20 hl
  have HOV := Lib.hid hov
  clear hov
  go_enter Try.func20, Try.ntmps20
  go_wp2_with fail
  go_loopw [1, 5] (fun dv av wx => ∃ (d' : Nat) (ag : Bool), dv = .int .u32 (d' : Int) ∧ av = .bool ag ∧ d' < 2 ^ l.length ∧ leftN l.length d' ≤ m ∧ Hid (CanN (opsOf l) T d st ↔ CanN (opsOf l) T d' st) ∧ Hid (ag = false → Fix l T st d') ∧ Ext w wx) (fun dv av _ => 2 * leftN l.length (intOf dv).toNat + boolOf av)
  case atStart => exact ⟨d, true, rfl, rfl, hd, hm, Lib.hid Iff.rfl, Lib.hid (fun h => by cases h), Ext.refl _⟩
  case round =>
    obtain ⟨d1, ag, rfl, rfl, hd1, hm1, HC, HF, hE⟩ := hrel
    obtain ⟨wo, hwo⟩ : ∃ wo : World, wo = wr := ⟨_, rfl⟩
    subst hwo
    cases ag with
    | true =>
      have g0 := (Ext.cell (p := ⟨g, 0, none⟩) hE (cell_lt c0)).trans c0
      go_wp2_with fail
      go_loopw [1, 5, 21] (fun dv av iv wx => ∃ (j d' : Nat) (ag : Bool), j ≤ l.length ∧ iv = .int .i64 (j : Int) ∧ dv = .int .u32 (d' : Int) ∧ av = .bool ag ∧ d' < 2 ^ l.length ∧ leftN l.length d' ≤ m ∧ Hid (CanN (opsOf l) T d st ↔ CanN (opsOf l) T d' st) ∧ Hid (ag = false → d' = d1 ∧ ∀ i, i < j → ¬ (readyB T d1 i = true ∧ quietB T st i (opAt (opsOf l) i) = true)) ∧ Hid (ag = true → leftN l.length d' < leftN l.length d1) ∧ Ext w wx) (fun _ _ iv _ => l.length - (intOf iv).toNat)
      case atStart => exact ⟨0, d1, false, Nat.zero_le _, rfl, rfl, rfl, hd1, hm1, HC, Lib.hid (fun _ => ⟨rfl, fun i hi => absurd hi (by omega)⟩), Lib.hid (fun h => by cases h), hE⟩
      case round =>
        obtain ⟨j, d2, ag, hj, rfl, rfl, rfl, hd2, hm2, HC2, HF2, HG2, hE2⟩ := hrel
        by_cases hlt : j < l.length
        · have hjl : j < 20 := by have := P.n20; rw [opsOf_len] at this; omega
          go_wp2_with fail
          refine (ready_c P _ g (hI.tab.ext hE2) j d2 hlt (by have := HP.out; omega)).mono ?_
          rintro e w2 ⟨rfl, rfl⟩
          cases hr : readyB T d2 j
          · go_wp2_with fail
            refine ⟨⟨j + 1, d2, ag, by omega, by go_num, rfl, rfl, hd2, hm2, HC2, Lib.hid fun hag => ?_, HG2, hE2⟩, by simp [intOf]; omega⟩
            obtain ⟨e1, h1⟩ := HF2.out hag
            refine ⟨e1, fun i hi => ?_⟩
            by_cases hij : i = j
            · subst hij; rw [← e1, hr]; simp
            · exact h1 i (by omega)
          · go_wp2_with fail
            refine (quiet_c P _ g (hI.tab.ext hE2) st hI.ok (hI.sta.ext hE2) j hlt (HX.out _ (List.mem_of_getElem? (rowAt_get hlt)))).mono ?_
            rintro e w3 ⟨rfl, hE3⟩
            cases hq : quietB T st j (opAt (opsOf l) j)
            · go_wp2_with fail
              refine ⟨⟨j + 1, d2, ag, by omega, by go_num, rfl, rfl, hd2, hm2, HC2, Lib.hid fun hag => ?_, HG2, hE2.trans hE3⟩, by simp [intOf]; omega⟩
              obtain ⟨e1, h1⟩ := HF2.out hag
              refine ⟨e1, fun i hi => ?_⟩
              by_cases hij : i = j
              · subst hij; rw [hq]; simp
              · exact h1 i (by omega)
            · have hor : bits .or .u32 (d2 : Int) ((2 : Int) ^ j % 4294967296) = ((d2 ||| 2 ^ j : Nat) : Int) := by
                have h2 : 2 ^ j < 2 ^ 20 := Nat.pow_lt_pow_right (by omega) hjl
                rw [shl_u32 hjl, bits_or_u32 (by have := HP.out; omega) (by omega)]
              have hstep := step_quiet (d := d2) P hI.ok (by rw [opsOf_len]; exact hlt) hr hq
              have hd3 := or_lt hd2 hlt
              have hlo : leftN l.length (d2 ||| 2 ^ j) < leftN l.length d2 := leftN_or hlt (by
                unfold readyB at hr
                simp only [Bool.and_eq_true, Bool.not_eq_true'] at hr
                exact hr.1)
              generalize d2 ||| 2 ^ j = d3 at *
              have HS := Lib.hid hstep
              clear hstep
              go_wp2_with fail
              refine ⟨⟨j + 1, d3, true, by omega, by go_num, rfl, rfl, hd3, by omega, Lib.hid (HC2.out.trans HS.out), Lib.hid (fun h => by cases h), Lib.hid (fun _ => ?_), hE2.trans hE3⟩, by simp [intOf]; omega⟩
              cases ag with
              | true => have := HG2.out rfl; omega
              | false => have := (HF2.out rfl).1; subst this; exact hlo
        · obtain rfl : j = l.length := by omega
          go_wp2_with fail
          refine ⟨⟨d2, ag, rfl, rfl, hd2, hm2, HC2, Lib.hid fun hag => ?_, hE2⟩, ?_⟩
          · obtain ⟨e1, h1⟩ := HF2.out hag
            subst e1
            exact h1
          · cases ag with
            | true => have := HG2.out rfl; simp [intOf, boolOf]; omega
            | false => have := (HF2.out rfl).1; subst this; simp [intOf, boolOf]
    | false =>
      have hI1 := hI.ext hE
      have hE1 := hE
      have c6 := hI1.tab.blk.cell 6
      have c8 := hI1.tab.blk.cell 8
      simp at c6 c8
      have hnd := P.need.1
      have hbn : bits .and .u32 (d1 : Int) (T.need : Int) = ((d1 &&& T.need : Nat) : Int) := bits_and_u32 (by have := HP.out; omega) (by have := HP.out; rw [opsOf_len] at hnd; omega)
      have hov : (((d1 &&& T.need : Nat) : Int) == (T.need : Int)) = (d1 &&& T.need == T.need) := by rw [Bool.eq_iff_iff]; simp; omega
      have rg : ∀ {p : Addr} {u : Value}, wo.cell? p = some u → ∀ d os, (grow (redrawn wo d) os).cell? p = some u := fun h d os => (Ext.cell (ext_regrown wo d os) (cell_lt h)).trans h
      have r6 := rg c6
      clear rg c6 hI hE c0 hnd
      generalize hdn : d1 &&& T.need = dn at hbn hov
      have HD := Lib.hid hdn
      have HOV2 := Lib.hid hov
      clear hov hdn
      go_wp2_with fail
      refine wp_region_quiet_ext (by kernel_rfl) (by kernel_rfl) ?_
      repeat (go_big_quiet_step (fail))
      refine wpQuiet_nil ?_
      intro W8 hE8
      have hI2 := hI1.ext hE8
      have hE2 := hE1.trans hE8
      clear hE1 hE8 hI1 r6 hbn
      cases ho : (dn == T.need)
      case true =>
        have t1 : ((dn : Int) == (T.need : Int)) = true := by rw [HOV2.out]; exact ho
        have HO := Lib.hid ho
        clear ho
        go_wp2_with fail
        go_ret
        exact ⟨⟨true, K, rfl, ⟨fun _ => HC.out.2 (step_over P (by rw [HD.out]; exact HO.out)), fun _ => rfl⟩, hI2⟩, hE2.chg⟩
      case false =>
      have t1 : ((dn : Int) == (T.need : Int)) = false := by rw [HOV2.out]; exact ho
      have HO := Lib.hid ho
      clear ho
      have hd20 : d1 < 1048576 := by have := HP.out; omega
      go_wp2_with fail
      refine (key_any W8 g l T X st hI2.tab hI2.sta hI2.ok.len P.nlen P.vlen (fun n _ => ⟨P.v20 n, hI2.ok.le n⟩) (P.prod st hI2.ok.le) d1 hd20).mono ?_
      rintro e w3 ⟨rfl, rfl⟩
      clear t1 HOV2
      have c8 := hI2.tab.blk.cell 8
      simp at c8
      have hlk := hI2.look (keyV T st d1 : Nat)
      generalize hkv : keyV T st d1 = kv at hlk
      have HKV := Lib.hid hkv
      clear hkv
      by_cases hin : ((kv : Nat) : Int) ∈ K
      · have hbad := hI2.bad _ hin d1 st hI2.ok hd20 (by rw [HKV.out])
        have HB := Lib.hid hbad
        clear hbad
        rw [decide_eq_true hin] at hlk
        go_wp2_with fail
        go_ret
        exact ⟨⟨false, K, rfl, ⟨fun h => (by cases h), fun h => absurd (HC.out.1 h) HB.out⟩, hI2.ext ((Ext.refl _).alloc _)⟩, (hE2.alloc _).chg⟩
      · rw [decide_eq_false hin] at hlk
        have hI3 := hI2.ext ((Ext.refl w3).alloc (.cells #[] 73))
        have hE3 := hE2.alloc (.cells #[] 73)
        have c0 := hI3.tab.blk.cell 0
        have c8' := hI3.tab.blk.cell 8
        simp at c0 c8'
        rw [HOV.out] at c0
        clear hI2 hE2 hin
        go_wp2_with fail
        clear hlk c8
        generalize w3.alloc (.cells #[] 73) = W at hI3 hE3 c0 c8' ⊢
        go_loopw [67] (fun iv wx => ∃ (j : Nat) (K' : List Int), j ≤ l.length ∧ iv = .int .i64 (j : Int) ∧ WalkIn l T X g st K' wx ∧ Chg (SX X) w wx ∧ Hid (∀ i, i < j → readyB T d1 i = true → actsB T st i (opAt (opsOf l) i) = true → ¬ CanN (opsOf l) T (d1 ||| 2 ^ i) (st.set (ixOf T.names (opAt (opsOf l) i).name) (T.put.getD i 0)))) (fun iv _ => l.length - (intOf iv).toNat)
        case atStart => exact ⟨0, K, Nat.zero_le _, rfl, hI3, hE3.chg, Lib.hid fun i hi => absurd hi (by omega)⟩
        case round =>
          clear hI3 hE3 c0 c8'
          obtain ⟨j, K', hj, rfl, hJ, hC, HB⟩ := hrel
          by_cases hlt : j < l.length
          · have hO := hJ.tab.ops
            rw [HOV.out] at hO
            obtain ⟨b, o, rfl⟩ := sln_some (n := l.length) hO (fun e => by have := List.map_eq_nil_iff.1 e; subst this; simp at hlt)
            obtain ⟨r0, r1, r2, r3, r4, r5, r6, r7⟩ := row_cells (n := l.length) hO hlt
            have hop := rowAt_op hlt
            have hns := HX.out _ (List.mem_of_getElem? (rowAt_get hlt))
            generalize rowAt l j = x at *
            have hob := (rfl : opAt (opsOf l) j = opAt (opsOf l) j)
            have HOP := Lib.hid hop
            clear hop hO hob
            have hXb := At.new wr 37 #[.int .i64 x.1.kind, .string x.1.name, .int .u64 x.1.value, .int .i64 x.1.start, .int .i64 x.1.fin, .int .i64 x.1.err, .int .u64 x.1.got, .slice x.2.1 x.1.names.length x.2.2]
            have hXe := (Ext.refl wr).alloc (.cells #[.int .i64 x.1.kind, .string x.1.name, .int .u64 x.1.value, .int .i64 x.1.start, .int .i64 x.1.fin, .int .i64 x.1.err, .int .u64 x.1.got, .slice x.2.1 x.1.names.length x.2.2] 37)
            have hJ2 := hJ.ext hXe
            have hC2 := hC.ext_trans hXe
            clear hJ hC hXe
            go_wp2_with fail
            refine (ready_c P _ g hJ2.tab j d1 hlt hd20).mono ?_
            rintro e w4 ⟨rfl, rfl⟩
            clear r0 r1 r2 r3 r4 r5 r6 r7
            cases hr : readyB T d1 j
            · have HR := Lib.hid hr
              go_wp2_with fail
              refine ⟨⟨j + 1, K', by omega, by go_num, hJ2, hC2, Lib.hid fun i hi hri => ?_⟩, by simp [intOf]; omega⟩
              by_cases hij : i = j
              · subst hij; rw [HR.out] at hri; cases hri
              · exact HB.out i (by omega) hri
            · have hact : actsB T st j (opAt (opsOf l) j) = (!x.1.readsB && !(x.1.kind == 3 && (nowV T st j == 0 || (x.1.err != 0 && x.1.ans)))) := by rw [← HOP.out]; rfl
              have HA := Lib.hid hact
              have HR := Lib.hid hr
              clear hact hr
              go_wp2_with fail
              refine (reads_any _ x).mono ?_
              rintro e w5 ⟨rfl, hE5⟩
              have hX5 := hXb.ext hE5
              have hJ5 := hJ2.ext hE5
              have hC5 := hC2.ext_trans hE5
              clear hXb hJ2 hC2 hE5
              cases hrb : x.1.readsB
              case true =>
                have HRB := Lib.hid hrb
                go_wp2_with fail
                refine ⟨⟨j + 1, K', by omega, by go_num, hJ5, hC5, Lib.hid fun i hi hri hai => ?_⟩, by simp [intOf]; omega⟩
                by_cases hij : i = j
                · subst hij; rw [HA.out, HRB.out] at hai; cases hai
                · exact HB.out i (by omega) hri hai
              case false =>
              rw [hrb] at HA
              clear hrb
              go_wp2_with fail
              obtain ⟨pb, po, pc, hpv, hp0⟩ := sl_elem hJ5.tab.put (nat64s_at (n := T.put.getD j 0) (i := j) (by rw [List.getD_eq_getElem?_getD, List.getElem?_eq_getElem (by rw [P.plen, opsOf_len]; exact hlt)]; rfl))
              generalize htp : T.put.getD j 0 = tp at hp0
              have HTP := Lib.hid htp
              clear htp
              have hpl : (nat64s T.put).length = l.length := by unfold nat64s; rw [List.length_map, P.plen, opsOf_len]
              rw [hpl] at hpv
              have c4 := hJ5.tab.blk.cell 4
              simp at c4
              rw [hpv] at c4
              have rg : ∀ {p : Addr} {u : Value}, w5.cell? p = some u → ∀ d os, (grow (redrawn w5 d) os).cell? p = some u := fun h d os => (Ext.cell (ext_regrown w5 d os) (cell_lt h)).trans h
              have y4 := rg c4
              have y5 := rg hp0
              have cw : ∀ d os, Calls Try.prog 34 #[.pointer (some ⟨g, 0, none⟩), .int .i64 (j : Int)] (grow (redrawn w5 d) os) fun e w'' => e = .returned (.int .i64 (nowV T st j : Nat)) ∧ ∃ p : Regrown, w'' = grow (redrawn w5 p.d) p.os := fun d os => by
                have hJg := hJ5.ext (ext_regrown w5 d os)
                exact Calls.ext_of (now_c P _ g hJg.tab st hJg.ok hJg.sta j hlt)
              clear hpl hpv c4 hp0 rg
              refine wp_region_quiet_ext (by kernel_rfl) (by kernel_rfl) ?_
              repeat (go_big_quiet_step (first | with_reducible exact cw _ _))
              refine wpQuiet_nil ?_
              intro W9 hE9
              have hX9 := hX5.ext hE9
              have hJ9 := hJ5.ext hE9
              have hC9 := hC5.ext_trans hE9
              clear hX5 hJ5 hC5 hE9 y4 y5 cw
              have d0 := hX9.cell 0
              have d1' := hX9.cell 1
              have d2 := hX9.cell 2
              have d3 := hX9.cell 3
              have d4 := hX9.cell 4
              have d5 := hX9.cell 5
              have d6 := hX9.cell 6
              have d7 := hX9.cell 7
              simp at d0 d1' d2 d3 d4 d5 d6 d7
              -- what holds a Delete up
              have hns : nowV T st j = nowV T st j := rfl
              generalize hnow : nowV T st j = nw at HA ⊢
              clear hns
              have HN := Lib.hid hnow
              clear hnow
              have hways : ((x.1.kind == 3) = true ∧ (nw == 0) = true) ∨ ((x.1.kind == 3) = true ∧ (nw == 0) = false ∧ (x.1.err == 0) = false ∧ x.1.ans = true) ∨
                  (x.1.kind == 3) = false ∨ ((x.1.kind == 3) = true ∧ (nw == 0) = false ∧ (x.1.err == 0) = true) ∨ ((x.1.kind == 3) = true ∧ (nw == 0) = false ∧ (x.1.err == 0) = false ∧ x.1.ans = false) := by
                cases x.1.kind == 3 <;> cases nw == 0 <;> cases x.1.err == 0 <;> cases x.1.ans <;> simp
              have hn0 : ((nw : Int) == 0) = (nw == 0) := by rw [Bool.eq_iff_iff]; simp
              rcases hways with ⟨w1, w2⟩ | ⟨w1, w2, w3, w4⟩ | w1 | ⟨w1, w2, w3⟩ | ⟨w1, w2, w3, w4⟩
              · have hact : actsB T st j (opAt (opsOf l) j) = false := by rw [HA.out, w1, w2]; rfl
                have HACT := Lib.hid hact
                rw [w2] at hn0
                clear w2 hact
                go_wp2_with fail
                refine ⟨⟨j + 1, K', by omega, by go_num, hJ9, hC9, Lib.hid fun i hi hri hai => ?_⟩, by simp [intOf]; omega⟩
                by_cases hij : i = j
                · subst hij; rw [HACT.out] at hai; cases hai
                · exact HB.out i (by omega) hri hai
              · have hact : actsB T st j (opAt (opsOf l) j) = false := by rw [HA.out, w1, w2, w4]; unfold bne; rw [w3]; rfl
                have HACT := Lib.hid hact
                rw [w2] at hn0
                have w3' : (x.1.err != 0) = true := by unfold bne; rw [w3]; rfl
                clear w2 hact
                go_wp2_with fail
                refine (answered_any _ x).mono ?_
                rintro e wA ⟨rfl, hEA⟩
                rw [w4]
                go_wp2_with fail
                refine ⟨⟨j + 1, K', by omega, by go_num, hJ9.ext hEA, hC9.ext_trans hEA, Lib.hid fun i hi hri hai => ?_⟩, by simp [intOf]; omega⟩
                by_cases hij : i = j
                · subst hij; rw [HACT.out] at hai; cases hai
                · exact HB.out i (by omega) hri hai
              case' inr.inr.inl =>
                have hact : actsB T st j (opAt (opsOf l) j) = true := by rw [HA.out, w1]; rfl
                have HACT := Lib.hid hact
                clear hact hn0
                go_wp2_with fail
              case' inr.inr.inr.inl =>
                have hact : actsB T st j (opAt (opsOf l) j) = true := by rw [HA.out, w1, w2]; unfold bne; rw [w3]; rfl
                have HACT := Lib.hid hact
                rw [w2] at hn0
                have w3' : (x.1.err != 0) = false := by unfold bne; rw [w3]; rfl
                clear w2 hact
                go_wp2_with fail
              case' inr.inr.inr.inr =>
                have hact : actsB T st j (opAt (opsOf l) j) = true := by rw [HA.out, w1, w2, w4]; unfold bne; rw [w3]; rfl
                have HACT := Lib.hid hact
                rw [w2] at hn0
                have w3' : (x.1.err != 0) = true := by unfold bne; rw [w3]; rfl
                clear w2 hact
                go_wp2_with fail
                refine (answered_any _ x).mono ?_
                rintro e wA ⟨rfl, hEA⟩
                rw [w4]
                replace hJ9 := hJ9.ext hEA
                replace hC9 := hC9.ext_trans hEA
                clear hX9 d0 d1' d2 d3 d4 d5 d6 d7
                go_wp2_with fail
              all_goals
                have hjo : j < (opsOf l).length := by rw [opsOf_len]; exact hlt
                obtain ⟨e1, e2, e3⟩ := acts_eff P hJ9.ok hjo ((acts_iff P hjo).1 HACT.out)
                have e4 := nowV_at (st := st) P hjo
                rw [if_pos e1, HN.out] at e4
                have e5 := ixOf_lt e1
                have e6 := P.name_at hjo
                rw [idxV_eq, if_pos e1] at e6
                rw [HTP.out] at e2 e3
                have HE3 := Lib.hid e3
                have HE1 := Lib.hid e1
                clear e3
                obtain ⟨mb, mo, mc, hmv, hm0⟩ := sl_elem hJ9.tab.name (i64s_at e6)
                have hml : (i64s T.name).length = l.length := by unfold i64s; rw [List.length_map, P.namelen, opsOf_len]
                rw [hml] at hmv
                have c3 := hJ9.tab.blk.cell 3
                have c7 := hJ9.tab.blk.cell 7
                simp at c3 c7
                rw [hmv] at c3
                have hstl := hJ9.ok.len
                have s0 := (hJ9.sta.cell (ixOf T.names (opAt (opsOf l) j).name)).trans (stCells_at (n := nw) (by rw [e4, List.getD_eq_getElem?_getD, List.getElem?_eq_getElem (by omega)]; rfl))
                have f0 := hJ9.sta.frozen (ixOf T.names (opAt (opsOf l) j).name)
                have hnle := P.nlen
                have hput := hJ9.put (n := ixOf T.names (opAt (opsOf l) j).name) (v := tp) (by omega) e2
                have HPUT := Lib.hid hput
                have HNW := Lib.hid e4
                have HNM := Lib.hid e6
                have HML := Lib.hid hml
                clear hml hmv e6 e2 e1 e4 hput hstl
                generalize hix : ixOf T.names (opAt (opsOf l) j).name = ix at *
                have HIX := Lib.hid hix
                clear hix
                go_region
                have hso := hJ9.ok
                have hJA := HPUT.out.ext ((Ext.refl _).drew)
                have hCA : Chg (SX X) w _ := (hC9.setCell (p := ⟨X.st, ix, none⟩) (.inl (.inl rfl)) (.int .i64 (tp : Int))).drew
                clear HPUT hJ9 hC9 s0 f0 c3 c7 hm0
                generalize World.drew _ = WA at hJA hCA ⊢
                have hor : bits .or .u32 (d1 : Int) ((2 : Int) ^ j % 4294967296) = ((d1 ||| 2 ^ j : Nat) : Int) := by
                  have h2 : 2 ^ j < 2 ^ 20 := Nat.pow_lt_pow_right (by omega) (by omega)
                  rw [shl_u32 (by omega), bits_or_u32 (by omega) (by omega)]
                have hd3 := or_lt hd1 hlt
                have hlo : leftN l.length (d1 ||| 2 ^ j) < leftN l.length d1 := leftN_or hlt (by
                  have hr := HR.out
                  unfold readyB at hr
                  simp only [Bool.and_eq_true, Bool.not_eq_true'] at hr
                  exact hr.1)
                have hnext := step_next (d := d1) P hso hjo HR.out HACT.out
                rw [HTP.out, HIX.out] at hnext
                have HNX := Lib.hid hnext
                have hnx2 : (d1 ||| 2 ^ j) = d1 ||| 2 ^ j := rfl
                generalize hd3e : d1 ||| 2 ^ j = d3 at hor hd3 hlo HNX
                have HD3 := Lib.hid hd3e
                clear hnext hnx2 hd3e
                go_wp2_with fail
                refine (IH.out (leftN l.length d3) (by omega) _ (st.set ix tp) K' d3 (Nat.le_refl _) hJA hd3).mono ?_
                rintro e wB ⟨⟨bb, K2, rfl, hbb, hJB⟩, hCB⟩
                have hCB2 := hCA.trans hCB (fun _ _ h => h)
                have HBB := Lib.hid hbb
                clear hbb hor hJA hCA hCB
                obtain ⟨mb2, mo2, mc2, hmv2, hm2⟩ := sl_elem hJB.tab.name (i64s_at HNM.out)
                rw [HML.out] at hmv2
                have c3 := hJB.tab.blk.cell 3
                have c7 := hJB.tab.blk.cell 7
                simp at c3 c7
                rw [hmv2] at c3
                have hixl : ix < T.names.length := e5
                have hstl : st.length = T.names.length := hso.len
                have s0 := (hJB.sta.cell ix).trans (stCells_at (n := tp) (by rw [List.getElem?_set, if_pos rfl, if_pos (by omega)]))
                have f0 := hJB.sta.frozen ix
                have hback := hJB.put (n := ix) (v := nw) (by rw [List.length_set]; omega) (by rw [HNW.out]; exact hso.le ix)
                rw [List.set_set, show st.set ix nw = st from by
                  rw [HNW.out, List.getD_eq_getElem?_getD, List.getElem?_eq_getElem (by omega)]
                  exact List.set_getElem_self _] at hback
                have HBK := Lib.hid hback
                clear hback hmv2 hstl
                go_wp2_with fail
                go_region
                have hJC := HBK.out.ext ((Ext.refl _).drew)
                have hCC : Chg (SX X) w _ := (hCB2.setCell (p := ⟨X.st, ix, none⟩) (.inl (.inl rfl)) (.int .i64 (nw : Int))).drew
                clear HBK hJB s0 f0 c3 c7 hm2 hCB2
                generalize World.drew _ = WC at hJC hCC ⊢
                cases bb with
                | true =>
                  go_wp2_with fail
                  go_ret
                  exact ⟨⟨true, K2, rfl, ⟨fun _ => HC.out.2 (HNX.out (HBB.out.1 (by simp))), fun _ => rfl⟩, hJC⟩, hCC⟩
                | false =>
                  go_wp2_with fail
                  refine ⟨⟨j + 1, K2, by omega, by go_num, hJC, hCC, Lib.hid fun i hi hri hai => ?_⟩, by simp [intOf]; omega⟩
                  by_cases hij : i = j
                  · subst hij
                    rw [HTP.out, HIX.out, HD3.out]
                    intro hc
                    have := HBB.out.2 hc
                    cases this
                  · exact HB.out i (by omega) hri hai
          · obtain rfl : j = l.length := by omega
            have c8 := hJ.tab.blk.cell 8
            simp at c8
            have hcan : ¬ CanN (opsOf l) T d1 st := step_none P hJ.ok (fun i hi => HF.out (by simp) i (by rw [opsOf_len] at hi; exact hi)) (by rw [HD.out]; exact HO.out) (fun i hi => HB.out i (by rw [opsOf_len] at hi; exact hi))
            obtain ⟨wz, K2, hmu, hJ3, hC3⟩ := hJ.more (kv : Nat) (fun d' st' hs' hd' hk => by
              rw [← HKV.out] at hk
              obtain ⟨rfl, rfl⟩ := keyV_inj hJ.ok hs' hd20 hd' (Int.ofNat.inj hk)
              exact hcan)
            have HCN := Lib.hid hcan
            have hC4 := hC.trans hC3 (fun _ _ h => h)
            clear hJ hC hC3 hcan
            go_wp2_with fail
            go_ret
            exact ⟨⟨false, K2, rfl, ⟨fun h => (by cases h), fun h => absurd (HC.out.1 h) HCN.out⟩, hJ3⟩, hC4⟩
end Go.Proofs.Ytlodaffiamegpaa
