/-
  Layer 18: may a call be answered so at all?
-/
import Derived.Test.YtlodaffiamegpaaHs7
import Derived.WalkLawsBesides
namespace Go.Proofs.Ytlodaffiamegpaa
open Go.RowKit Go.Sort

theorem rise_next {ns : List ByteArray} {k : Nat} (hk : k < ns.length) (hp : (ns.take k).Pairwise (fun a b => blt a b = true)) (h : 0 < k → blt (ns.getD (k - 1) ByteArray.empty) ns[k] = true) : (ns.take (k + 1)).Pairwise (fun a b => blt a b = true) := by
  rw [List.take_succ_eq_append_getElem hk, List.pairwise_append]
  refine ⟨hp, List.pairwise_singleton _ _, fun a ha b hb => ?_⟩
  rw [List.mem_singleton] at hb
  subst hb
  obtain ⟨i, hi, rfl⟩ := List.mem_iff_getElem.1 ha
  have hik : i < k := by rw [List.length_take] at hi; omega
  have h0 := h (by omega)
  rw [List.getElem_take]
  have hg : ns.getD (k - 1) ByteArray.empty = ns[k - 1] := by rw [List.getD_eq_getElem?_getD, List.getElem?_eq_getElem (by omega)]; rfl
  rw [hg] at h0
  by_cases e : i = k - 1
  · subst e; exact h0
  · have := List.pairwise_iff_getElem.1 hp i (k - 1) hi (by rw [List.length_take]; omega) (by omega)
    rw [List.getElem_take, List.getElem_take] at this
    exact blt_ordd.tr this h0
theorem rise_down {ns : List ByteArray} {k : Nat} (hk : k < ns.length) (hk0 : 0 < k) (hp : ns.Pairwise (fun a b => blt a b = true)) : blt (ns.getD (k - 1) ByteArray.empty) ns[k] = true := by
  have := List.pairwise_iff_getElem.1 hp (k - 1) k (by omega) hk (by omega)
  rw [List.getD_eq_getElem?_getD, List.getElem?_eq_getElem (by omega)]
  exact this

theorem less_eq (a b : ByteArray) : Op.bytesLess a.toList b.toList = blt a b := by
  have key : ∀ (x y : List UInt8), Op.bytesLess x y = decide (x < y) := by
    intro x
    induction x with
    | nil => intro y; cases y <;> simp [Op.bytesLess]
    | cons a x ih =>
      intro y
      cases y with
      | nil => simp [Op.bytesLess]
      | cons b y =>
        rw [Bool.eq_iff_iff]
        have := ih y
        simp [Op.bytesLess, List.cons_lt_cons_iff, this]
  rw [key, ByteArray.toList_eq, ByteArray.toList_eq]; rfl
structure PossOut (T : HTab) (x : HOp) (w : World) (e : Ending) (w' : World) : Prop where
  out : ∃ b : Bool, e = .returned (.bool b) ∧ (b = true ↔ Poss T x)
  ext : Ext w w'

set_option maxHeartbeats 1000000 in
theorem possible_list {S : Nat → Prop} (w : World) (g : Nat) (l : List HRow) (T : HTab) (X : HLoc) (hT : TabAt S w g l T X) (i : Nat) (hil : i < T.name.length) (_hi20 : T.name.length ≤ 20) (hnn : T.names.length ≤ 20) (x : HRow)
    (hx : Sl w (.slice x.2.1 x.1.names.length x.2.2) (x.1.names.map Value.string)) (hxn : x.1.names.length ≤ 9223372036854775807) (hk : x.1.kind = 4) :
    Calls Try.prog 30 #[.pointer (some ⟨g, 0, none⟩), .int .i64 (i : Int), hagg x] w fun e w' => PossOut T x.1 w e w' := by
  obtain ⟨xo, xA, xc⟩ := x
  simp only [] at hx hxn hk
  obtain ⟨mb, mo, mc, hmv, hm0⟩ := sl_elem hT.name (i64s_at (List.getElem?_eq_getElem hil))
  have hml : (i64s T.name).length = T.name.length := by simp [i64s]
  rw [hml] at hmv
  obtain ⟨NA, nc, hnv⟩ := (show ∃ A c, X.nv = .slice A T.names.length c from by obtain ⟨A, c, h, _⟩ := hT.names; exact ⟨A, c, by rw [h, List.length_map]⟩)
  have hN := hT.names
  have hE0 := (Ext.refl w).alloc (.cells #[.int .i64 xo.kind, .string xo.name, .int .u64 xo.value, .int .i64 xo.start, .int .i64 xo.fin, .int .i64 xo.err, .int .u64 xo.got, .slice xA xo.names.length xc] 37)
  have hX := At.new w 37 #[.int .i64 xo.kind, .string xo.name, .int .u64 xo.value, .int .i64 xo.start, .int .i64 xo.fin, .int .i64 xo.err, .int .u64 xo.got, .slice xA xo.names.length xc]
  have hT1 := hT.ext hE0
  have hx1 := hx.ext hE0
  have hN1 := hN.ext hE0
  have c1 := hT1.blk.cell 1
  have c3 := hT1.blk.cell 3
  simp at c1 c3
  rw [hmv] at c3
  rw [hnv] at c1
  have k3 := (Ext.cell (p := ⟨mb, mo + i, none⟩) hE0 (cell_lt hm0)).trans hm0
  have hb1 : (xo.kind == 1) = false := by simp [hk]
  have hb3 : (xo.kind == 3) = false := by simp [hk]
  have hb4 : (xo.kind == 4) = true := by simp [hk]
  have hps : Poss T xo ↔ xo.err = 0 ∧ xo.names.Pairwise (fun a b => blt a b = true) ∧ ∀ n ∈ xo.names, hasL T.names n = true := by
    unfold Poss
    constructor
    · rintro (h | h | h | h)
      · omega
      · omega
      · exact h.2
      · omega
    · intro h; exact .inr (.inr (.inl ⟨hk, h⟩))
  have HPS := Lib.hid hps
  generalize T.name[i] = nmi at k3
  clear hk hT hmv hml hm0 hN hx hps
  rw [hnv] at hN1
  go_enter Try.func30, Try.ntmps30
  go_wp2_with fail
  clear c3 k3
  generalize w.alloc (.cells #[.int .i64 xo.kind, .string xo.name, .int .u64 xo.value, .int .i64 xo.start, .int .i64 xo.fin, .int .i64 xo.err, .int .u64 xo.got, .slice xA xo.names.length xc] 37) = W at *
  have d5 := hX.cell 5
  have d7 := hX.cell 7
  simp at d5 d7
  go_loopw [43] (fun iv wx => ∃ k : Nat, k ≤ xo.names.length ∧ iv = .int .i64 (k : Int) ∧ Hid ((xo.names.take k).Pairwise (fun a b => blt a b = true) ∧ ∀ n ∈ xo.names.take k, hasL T.names n = true) ∧ wx = W) (fun iv _ => xo.names.length - (intOf iv).toNat)
  case atStart => exact ⟨0, Nat.zero_le _, rfl, Lib.hid ⟨by simp, by simp⟩, rfl⟩
  case round =>
    obtain ⟨k, hk, rfl, HK, rfl⟩ := hrel
    by_cases hlt : k < xo.names.length
    · obtain ⟨yb, yo, yc, hyv, hy0⟩ := sl_elem hx1 (x := .string xo.names[k]) (i := k) (by rw [List.getElem?_map, List.getElem?_eq_getElem hlt]; rfl)
      simp only [Value.slice.injEq] at hyv
      obtain ⟨rfl, -, rfl⟩ := hyv
      have HNX := Lib.hid (rise_next hlt HK.out.1)
      have HDN := Lib.hid (fun h0 : 0 < k => rise_down hlt h0)
      have HTK := Lib.hid (List.take_succ_eq_append_getElem hlt)
      have HMEM := Lib.hid (List.getElem_mem hlt)
      have hprev : 0 < k → wr.cell? ⟨yb, yo + (k - 1), none⟩ = some (.string (xo.names.getD (k - 1) ByteArray.empty)) := fun h0 => by
        obtain ⟨yb2, yo2, yc2, hyv2, hy02⟩ := sl_elem hx1 (x := .string (xo.names.getD (k - 1) ByteArray.empty)) (i := k - 1) (by rw [List.getElem?_map, List.getElem?_eq_getElem (by omega), List.getD_eq_getElem?_getD, List.getElem?_eq_getElem (by omega)]; rfl)
        simp only [Value.slice.injEq] at hyv2
        simp only [Option.some.injEq, Addr.mk.injEq, and_true] at hyv2
        obtain ⟨⟨rfl, rfl⟩, -, -⟩ := hyv2
        exact hy02
      generalize xo.names[k] = y at *
      have HPV := Lib.hid hprev
      clear hprev
      have hfin : ∀ b : Bool, b = hasL T.names y → (b = false → ¬ Poss T xo) := fun b hb hbf hp => by
        have := ((HPS.out.1 hp).2.2) y HMEM.out
        rw [hb, this] at hbf; cases hbf
      have HFN := Lib.hid hfin
      clear hfin
      by_cases hk0 : 0 < k
      · have hp1 := HPV.out hk0
        have HLT := Lib.hid (less_eq (xo.names.getD (k - 1) ByteArray.empty) y)
        generalize xo.names.getD (k - 1) ByteArray.empty = pr at *
        have t0 : decide (0 < k) = true := by simpa using hk0
        by_cases hlt2 : Op.bytesLess pr.toList y.toList = true
        · have HL2 := Lib.hid hlt2
          go_wp2_with fail
          refine (has_str wr _ T.names y hN1 (by omega)).mono ?_
          rintro e w2 ⟨rfl, rfl⟩
          generalize hhy : hasL T.names y = hy at HFN
          have HHY := Lib.hid hhy
          clear hhy
          cases hy
          · go_wp2_with fail
            go_ret
            exact ⟨⟨false, rfl, ⟨fun h => (by cases h), fun h => absurd h (HFN.out false rfl rfl)⟩⟩, hE0⟩
          · go_wp2_with fail
            refine ⟨⟨k + 1, by omega, by go_num, Lib.hid ⟨HNX.out (fun _ => by rw [← HLT.out]; exact HL2.out), fun n hn => ?_⟩, trivial⟩, by simp [intOf]; omega⟩
            rw [HTK.out, List.mem_append, List.mem_singleton] at hn
            rcases hn with hn | rfl
            · exact HK.out.2 n hn
            · exact HHY.out
        · have HL2 := Lib.hid hlt2
          have hl3 : Op.bytesLess pr.toList y.toList = false := by simpa using hlt2
          clear hlt2
          go_wp2_with fail
          go_ret
          refine ⟨⟨false, rfl, ⟨fun h => (by cases h), fun h => absurd ?_ HL2.out⟩⟩, hE0⟩
          rw [HLT.out]
          exact HDN.out hk0 ((HPS.out.1 h).2.1)
      · have t0 : decide (0 < k) = false := by simpa using hk0
        go_wp2_with fail
        refine (has_str wr _ T.names y hN1 (by omega)).mono ?_
        rintro e w2 ⟨rfl, rfl⟩
        generalize hhy : hasL T.names y = hy at HFN
        have HHY := Lib.hid hhy
        clear hhy
        cases hy
        · go_wp2_with fail
          go_ret
          exact ⟨⟨false, rfl, ⟨fun h => (by cases h), fun h => absurd h (HFN.out false rfl rfl)⟩⟩, hE0⟩
        · go_wp2_with fail
          refine ⟨⟨k + 1, by omega, by go_num, Lib.hid ⟨HNX.out (fun h => absurd h hk0), fun n hn => ?_⟩, trivial⟩, by simp [intOf]; omega⟩
          rw [HTK.out, List.mem_append, List.mem_singleton] at hn
          rcases hn with hn | rfl
          · exact HK.out.2 n hn
          · exact HHY.out
    · obtain rfl : k = xo.names.length := by omega
      have hkk := HK.out
      rw [List.take_length] at hkk
      have HKK := Lib.hid hkk
      clear hkk
      go_wp2_with fail
      go_ret
      refine ⟨⟨xo.err == 0, rfl, ?_⟩, hE0⟩
      rw [HPS.out, beq_iff_eq]
      exact ⟨fun h => ⟨h, HKK.out⟩, fun h => h.1⟩
end Go.Proofs.Ytlodaffiamegpaa
