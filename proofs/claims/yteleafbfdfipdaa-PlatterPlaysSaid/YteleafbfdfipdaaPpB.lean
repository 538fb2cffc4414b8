/-
  The disk: Names, Lose, Lost, Room; two lists of texts compared; the names of a call.
-/
import Derived.Test.YteleafbfdfipdaaPp7
import Derived.Test.YteleafbfdfipdaaAwake
namespace Go.Proofs.Yteleafbfdfipdaa
open Go.RowKit Go.Sort

def Dk.nameL (D : Dk) (ks : List ByteArray) : List ByteArray := ks.filter fun n => (D.get n).nt
def Dk.names (D : Dk) : List ByteArray := if D.e ≠ 0 then [] else D.nameL (D.files.map (·.1))
theorem nameL_take {D : Dk} {ks : List ByteArray} {k : Nat} {n : ByteArray} (h : ks[k]? = some n) : D.nameL (ks.take (k + 1)) = D.nameL (ks.take k) ++ (if (D.get n).nt then [n] else []) := by
  unfold Dk.nameL
  rw [List.take_add_one, h, List.filter_append]
  cases h : (D.get n).nt <;> simp [h]
theorem lose_any (w : World) (d m : Nat) (D : Dk) (hD : DkAt w d m D) : Calls Try.prog 33 #[.pointer (some ⟨d, 2, none⟩)] w fun e w' => e = .returned (.tuple #[]) ∧ Chg (fun k => k = d) w w' ∧ DkAt w' d m { D with lost := true } := by
  have c2 : w.cell? ⟨d, 2, none⟩ = some (.bool D.lost) := hD.1.cell 2
  have f2 : w.frozen? ⟨d, 2, none⟩ = false := hD.1.frozen 2
  go_enter Try.func33, Try.ntmps33
  go_wp2_with fail
  go_end0
  exact ⟨rfl, (Chg.refl (fun k => k = d) _).setCell (.inl rfl) _, hD.1.set 2 _, hD.2.setCell _ _⟩
theorem lost_any (w : World) (d m : Nat) (D : Dk) (hD : DkAt w d m D) : Calls Try.prog 13 #[.pointer (some ⟨d, 2, none⟩)] w fun e w' => e = .returned (.bool D.lost) ∧ w' = w := by
  have c2 : w.cell? ⟨d, 2, none⟩ = some (.bool D.lost) := hD.1.cell 2
  go_enter Try.func13, Try.ntmps13
  go_wp2_with fail
  go_ret
  exact ⟨rfl, rfl⟩
theorem room_any (w : World) (d m : Nat) (D : Dk) (hD : DkAt w d m D) : Calls Try.prog 12 #[.pointer (some ⟨d, 0, none⟩)] w fun e w' => e = .returned (.int .i64 D.room) ∧ w' = w := by
  have c2 : w.cell? ⟨d, 0, none⟩ = some (.int .i64 D.room) := hD.1.cell 0
  go_enter Try.func12, Try.ntmps12
  go_wp2_with fail
  go_ret
  exact ⟨rfl, rfl⟩

def sameB (a b : List ByteArray) : Int := if a = b then 0 else -1
set_option maxRecDepth 100000 in
set_option maxHeartbeats 1000000 in
theorem same_any (w : World) (av bv : Value) (a b : List ByteArray) (ha : Sl w av (a.map Value.string)) (hb : Sl w bv (b.map Value.string)) (hla : a.length ≤ 1000000) (hlb : b.length ≤ 1000000) :
    Calls Try.prog 17 #[av, bv] w fun e w' => e = .returned (.int .i64 (sameB a b)) ∧ Ext w w' := by
  obtain ⟨A, ac, rfl, hax⟩ := ha
  obtain ⟨B, bc, rfl, hbx⟩ := hb
  rw [List.length_map, List.length_map]
  by_cases hl : a.length = b.length
  · have HS : Hid (sameB a b = sameB a b) := Lib.hid rfl
    have hinv : ∀ j, a.take j = b.take j → j ≤ a.length → j < a.length → (a[j]? = b[j]? ↔ a.take (j + 1) = b.take (j + 1)) := by
      intro j h1 h2 h3
      constructor
      · intro h4
        rw [List.take_add_one, List.take_add_one, h1, h4]
      · intro h4
        have := congrArg (fun l : List ByteArray => l[j]?) h4
        simpa [List.getElem?_take] using this
    have HI := Lib.hid hinv
    have HL := Lib.hid hl
    have hl2 : ¬ (a.length : Int) ≠ (b.length : Int) := by omega
    rw [hl]
    clear hinv hl hl2 hla
    go_enter Try.func17, Try.ntmps17
    go_wp2_with fail
    go_loopw [13] (fun kv wr => ∃ k : Nat, kv = .int .i64 (k : Int) ∧ k ≤ b.length ∧ Hid (a.take k = b.take k) ∧ Ext w wr) (fun kv _ => b.length - (intOf kv).toNat)
    case atStart => exact ⟨0, rfl, Nat.zero_le _, Lib.hid rfl, Ext.refl _⟩
    case round =>
      obtain ⟨k, rfl, hk, HT, hE⟩ := hrel
      by_cases hlt : k < b.length
      · obtain ⟨y, hy⟩ : ∃ q, b[k]? = some q := ⟨_, List.getElem?_eq_getElem hlt⟩
        obtain ⟨x, hx⟩ : ∃ q, a[k]? = some q := ⟨_, List.getElem?_eq_getElem (by rw [HL.out]; exact hlt)⟩
        obtain ⟨ra, oa, rfl, hca⟩ := hax (fun e => by rw [List.map_eq_nil_iff] at e; rw [e] at hx; simp at hx)
        obtain ⟨rb, ob, rfl, hcb⟩ := hbx (fun e => by rw [List.map_eq_nil_iff] at e; rw [e] at hy; simp at hy)
        have ca0 := hca k (.string x) (by rw [List.getElem?_map, hx]; rfl)
        have cb0 := hcb k (.string y) (by rw [List.getElem?_map, hy]; rfl)
        have ca : wr.cell? ⟨ra, oa + k, none⟩ = some (.string x) := (Ext.cell (p := ⟨ra, oa + k, none⟩) hE (cell_lt ca0)).trans ca0
        have cb : wr.cell? ⟨rb, ob + k, none⟩ = some (.string y) := (Ext.cell (p := ⟨rb, ob + k, none⟩) hE (cell_lt cb0)).trans cb0
        have HK : Hid (x = y ↔ a.take (k + 1) = b.take (k + 1)) := Lib.hid (by
          rw [← HI.out k HT.out (by rw [HL.out]; omega) (by rw [HL.out]; omega), hx, hy]; simp)
        clear hx hy ca0 cb0 hca hcb hax hbx
        by_cases hxy : x = y
        · subst hxy
          have ht := HK.out.1 rfl
          have HT2 := Lib.hid ht
          clear ht
          go_upto_region 6 with fail
          go_region
          all_goals
            go_wp2_with fail
            go_roundw
            case rel => exact ⟨k + 1, by go_num, by omega, HT2, hE.drew⟩
            case measure => simp [intOf]; omega
        · have hne : (x.toList == y.toList) = false := by
            rw [beq_eq_false_iff_ne]
            exact fun e => hxy (toList_inj.1 e)
          have hfin : sameB a b = -1 := by
            unfold sameB
            rw [if_neg]
            intro e
            subst e
            exact hxy (HK.out.2 rfl)
          have HF := Lib.hid hfin
          clear hfin hxy
          go_upto_region 6 with fail
          go_region
          all_goals
            go_wp2_with fail
            go_ret
            exact ⟨by rw [HF.out]; rfl, hE.drew⟩
      · obtain rfl : k = b.length := by omega
        have hfin : sameB a b = 0 := by
          have := HT.out
          rw [List.take_length, ← HL.out, List.take_length] at this
          unfold sameB; rw [if_pos this]
        have HF := Lib.hid hfin
        clear hfin
        go_wp2_with fail
        go_ret
        exact ⟨by rw [HF.out]; rfl, hE⟩
  · have hfin : sameB a b = -1 := by unfold sameB; rw [if_neg (fun e => hl (by rw [e]))]
    have HF := Lib.hid hfin
    clear hfin
    have hl2 : ¬ (a.length : Int) = (b.length : Int) := by omega
    go_enter Try.func17, Try.ntmps17
    go_wp2_with fail
    go_ret
    exact ⟨by rw [HF.out]; rfl, Ext.refl _⟩
set_option maxRecDepth 100000 in
set_option maxHeartbeats 1000000 in
theorem pnames_any (w : World) (d m : Nat) (D : Dk) (hD : DkAt w d m D) (hO : D.Ok) (hfl : D.files.length ≤ 1048576) :
    Calls Try.prog 15 #[.pointer (some ⟨d, 0, none⟩)] w fun e w' =>
      ∃ v, e = .returned (.tuple #[v, .int .i64 D.e]) ∧ Sl w' v (D.names.map Value.string) ∧ Chg (fun k => k = d) w w' ∧ DkAt w' d m D.tick := by
  have ct := try_any w d m D hD hO.a0 hO.a1
  by_cases he : D.e = 0
  · have he1 : (D.e == 0) = true := by simpa using he
    have he2 : (D.e != 0) = false := by simpa using he
    have HFN : Hid (D.names = D.tick.nameL (D.files.map (·.1))) := Lib.hid (by unfold Dk.names; rw [if_neg (by simpa using he)]; rfl)
    have HE := Lib.hid he
    clear he
    go_enter Try.func15, Try.ntmps15
    go_wp2_with fail
    refine ct.mono ?_
    rintro e w1 ⟨rfl, hC1, hD1⟩
    clear ct
    go_wp2_with fail
    refine (all_any _ d m D.tick hD1 hO.srt hO.keys hfl).mono ?_
    rintro e w2 ⟨v, rfl, hS1, hE⟩
    replace hD1 := hD1.ext hE
    have hC2 := hC1.ext_trans hE
    have hl : (D.files.map (·.1)).length ≤ 1048576 := by simpa using hfl
    replace hS1 : Sl w2 v ((D.files.map (·.1)).map Value.string) := by rw [List.map_map]; exact hS1
    obtain ⟨ns, hns⟩ : ∃ ns, ns = D.files.map (·.1) := ⟨_, rfl⟩
    rw [← hns] at hS1 hl HFN
    clear hns
    obtain ⟨A, c, rfl, hx⟩ := hS1
    rw [List.length_map]
    have hb2 := hC2.size
    clear hC1 hE
    go_wp2_with fail
    go_loopw [5, 18] (fun ov kv wr => ∃ (k : Nat) (o : List ByteArray), kv = .int .i64 (k : Int) ∧ k ≤ ns.length ∧ o.length ≤ k ∧ Hid (D.tick.nameL (ns.take k) = o) ∧ wr.ownsRow w2.heap.size 9 1 ov o.length (o.map Value.string) ∧ Ext w2 wr) (fun _ kv _ => ns.length - (intOf kv).toNat)
    case atStart => exact ⟨0, [], rfl, Nat.zero_le _, by simp, Lib.hid rfl, World.ownsRow_nil _ _ _ _, Ext.refl _⟩
    case round =>
      obtain ⟨k, o, rfl, hk, hol, HPL, hO1, hE⟩ := hrel
      have hDr := hD1.ext hE
      have hbase := hE.size
      by_cases hlt : k < ns.length
      · obtain ⟨n, hb⟩ : ∃ q, ns[k]? = some q := ⟨_, List.getElem?_eq_getElem hlt⟩
        have HNT := Lib.hid (nameL_take (D := D.tick) hb)
        obtain ⟨b, o', rfl, hc⟩ := hx (by intro e; rw [List.map_eq_nil_iff] at e; subst e; simp at hlt)
        have hcw := hc k (.string n) (by rw [List.getElem?_map, hb]; rfl)
        have hcell : wr.cell? ⟨b, o' + k, none⟩ = some (.string n) := (Ext.cell (p := ⟨b, o' + k, none⟩) hE (cell_lt hcw)).trans hcw
        clear hb hcw
        have e4 : wr.cell? ⟨d, 4, none⟩ = some (.map (some m)) := hDr.1.cell 4
        have cl : (Instr.lookup 43 (.map (some m)) (.string n) false).run Try.prog wr = .ok (.agg #[.bool (D.tick.get n).nt, .string (D.tick.get n).nx, .bool (D.tick.get n).st, .string (D.tick.get n).sx]) wr := hDr.look n
        generalize D.tick.get n = f at cl HNT
        obtain ⟨n1, s1, n2, s2⟩ := f
        simp only at cl HNT
        have hc0 := fun wx => field_now n1 n2 s1 s2 wx
        have hc1 := fun wx => field_there n1 s1 wx
        cases n1
        · go_wp2_with fail
          go_roundw
          case rel => exact ⟨k + 1, o, by go_num, by omega, by omega, Lib.hid (by rw [HNT.out, HPL.out]; simp), hO1, hE⟩
          case measure => simp [intOf]; omega
        · go_wp2_with (at_builtin; refine wpList_append_row _ hO1 34 Try.underlying34 str_info rfl rfl (by decide) (by decide) rfl (by omega) (by omega) rfl _ _ rfl rfl rfl ?_)
          intro v3 w3 hO3 hCb
          replace hO3 := strs_snoc hO3
          have hE3 := Chg.own_ext hE hCb hO1 (Nat.le_refl _)
          clear hO1 hCb cl e4 hcell
          go_wp2_with fail
          go_roundw
          case rel => exact ⟨k + 1, o ++ [n], by go_num, by omega, by simp only [List.length_append, List.length_singleton]; omega, Lib.hid (by rw [HNT.out, HPL.out]; simp), hO3, hE3⟩
          case measure => simp [intOf]; omega
      · obtain rfl : k = ns.length := by omega
        rw [List.take_length] at HPL
        obtain ⟨oA, oc, rfl⟩ := own_slc hO1
        go_wp2_with fail
        go_ret2
        exact ⟨.slice oA o.length oc, by rw [HE.out]; rfl, by rw [HFN.out, HPL.out]; exact Sl.of_own hO1, hC2.ext_trans hE, hDr⟩
  · have he1 : (D.e == 0) = false := by simpa using he
    have he2 : (D.e != 0) = true := by simpa using he
    have HFN : Hid (D.names = []) := Lib.hid (by unfold Dk.names; rw [if_pos he])
    go_enter Try.func15, Try.ntmps15
    go_wp2_with fail
    refine ct.mono ?_
    rintro e w1 ⟨rfl, hC1, hD1⟩
    clear ct
    go_wp2_with fail
    go_ret2
    exact ⟨_, rfl, by rw [HFN.out]; exact Sl.nil _ _, hC1, hD1⟩

def namesOf (a : ByteArray) (more : List ByteArray) : List ByteArray := cut a 6 :: (more.take 2).map fun n => cut n 6
set_option maxRecDepth 100000 in
set_option maxHeartbeats 1000000 in
theorem anames_any (w : World) (a : ByteArray) (ha : a.size ≤ maxLen) (v : Value) (ns : List ByteArray) (hS : Sl w v (ns.map Value.string)) (hsz : ∀ n ∈ ns, n.size ≤ maxLen) (hl : ns.length ≤ 9223372036854775807) :
    Calls Try.prog 28 #[.string a, v] w fun e w' => ∃ v', e = .returned v' ∧ Sl w' v' ((namesOf a ns).map Value.string) ∧ Ext w w' := by
  obtain ⟨NA, nc, rfl, hx⟩ := hS
  rw [List.length_map]
  go_enter Try.func28, Try.ntmps28
  go_wp2_with fail
  refine (cut_any a 6 w ha (by omega)).mono ?_
  rintro e w1 ⟨rfl, hw1⟩
  subst hw1
  go_wp2_with fail
  have hO : World.ownsRow (w1.alloc (.cells #[.string (cut a 6)] 9)) w1.heap.size 9 1 (.slice (some ⟨w1.heap.size, 0, none⟩) 1 1) [cut a 6].length ([cut a 6].map Value.string) :=
    ⟨rfl, .inr ⟨w1.heap.size, 1, #[.string (cut a 6)], rfl, Nat.le_refl _, At.new w1 _ _, Nat.le_refl _, by unfold maxLen; omega, rfl, rfl⟩⟩
  have hE0 := (Ext.refl w1).alloc (.cells #[.string (cut a 6)] 9)
  go_loopw [5, 6] (fun ov kv wr => ∃ (k : Nat), kv = .int .i64 (k : Int) ∧ k ≤ 2 ∧ k ≤ ns.length ∧ wr.ownsRow w1.heap.size 9 1 ov (namesOf a (ns.take k)).length ((namesOf a (ns.take k)).map Value.string) ∧ Ext w1 wr) (fun _ kv _ => 2 - (intOf kv).toNat)
  case atStart => exact ⟨0, rfl, by omega, Nat.zero_le _, hO, hE0⟩
  case round =>
    clear hO hE0
    obtain ⟨k, rfl, hk2, hk, hO, hE⟩ := hrel
    have hbase := hE.size
    have hnl : (namesOf a (ns.take k)).length ≤ 3 := by unfold namesOf; simp; omega
    by_cases hlt : k < ns.length
    · by_cases hlt2 : k < 2
      · obtain ⟨n, hb⟩ : ∃ q, ns[k]? = some q := ⟨_, List.getElem?_eq_getElem hlt⟩
        have hnz := hsz n (List.mem_of_getElem? hb)
        obtain ⟨b, o', rfl, hc⟩ := hx (by intro e; rw [List.map_eq_nil_iff] at e; subst e; simp at hlt)
        have hcw := hc k (.string n) (by rw [List.getElem?_map, hb]; rfl)
        have hcell : wr.cell? ⟨b, o' + k, none⟩ = some (.string n) := (Ext.cell (p := ⟨b, o' + k, none⟩) hE (cell_lt hcw)).trans hcw
        have hsn : namesOf a (ns.take (k + 1)) = namesOf a (ns.take k) ++ [cut n 6] := by
          unfold namesOf
          rw [List.take_take, List.take_take, show min 2 (k + 1) = k + 1 by omega, show min 2 k = k by omega, List.take_add_one, hb]
          simp
        have HSN := Lib.hid hsn
        clear hb hcw hsn
        generalize namesOf a (ns.take k) = o at *
        go_wp2_with fail
        refine (cut_any n 6 wr hnz (by omega)).mono ?_
        rintro e w3 ⟨rfl, hw3⟩
        subst hw3
        go_wp2_with (at_builtin; refine wpList_append_row _ hO 34 Try.underlying34 str_info rfl rfl (by decide) (by decide) rfl (by omega) (by omega) rfl _ _ rfl rfl rfl ?_)
        intro v3 w4 hO3 hCb
        replace hO3 := strs_snoc hO3
        have hE3 := Chg.own_ext hE hCb hO (Nat.le_refl _)
        clear hO hCb hcell
        go_wp2_with fail
        go_roundw
        case rel => exact ⟨k + 1, by go_num, by omega, by omega, by rw [HSN.out]; exact hO3, hE3⟩
        case measure => simp [intOf]; omega
      · obtain rfl : k = 2 := by omega
        have HF : Hid (namesOf a ns = namesOf a (ns.take 2)) := Lib.hid (by unfold namesOf; rw [List.take_take]; rfl)
        clear hnl
        generalize namesOf a (ns.take 2) = o at *
        obtain ⟨oA, oc, rfl⟩ := own_slc hO
        go_wp2_with fail
        go_ret
        exact ⟨_, rfl, by rw [HF.out]; exact Sl.of_own hO, hE⟩
    · obtain rfl : k = ns.length := by omega
      have HF : Hid (namesOf a ns = namesOf a (ns.take ns.length)) := Lib.hid (by rw [List.take_length])
      clear hnl
      generalize namesOf a (ns.take ns.length) = o at *
      obtain ⟨oA, oc, rfl⟩ := own_slc hO
      go_wp2_with fail
      go_ret
      exact ⟨_, rfl, by rw [HF.out]; exact Sl.of_own hO, hE⟩
end Go.Proofs.Yteleafbfdfipdaa
