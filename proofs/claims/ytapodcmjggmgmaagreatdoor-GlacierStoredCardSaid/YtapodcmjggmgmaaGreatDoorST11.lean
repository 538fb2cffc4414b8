/-
  Part 11 of what the law leans on.
-/
import Derived.Test.YtapodcmjggmgmaaGreatDoorST7
import Derived.Test.YtapodcmjggmgmaaGreatDoorST8
import Derived.Test.YtapodcmjggmgmaaGreatDoorST10
import Derived.Maps.AppendAt
import Derived.Laws.AppendOwn
set_option linter.unusedVariables false
set_option linter.unusedSimpArgs false
set_option linter.unusedSectionVars false
namespace Go.Proofs.YtapodcmjggmgmaaGreatDoor
open Go.RowKit Go.Sort
end Go.Proofs.YtapodcmjggmgmaaGreatDoor
namespace Go.Proofs.YtapodcmjggmgmaaGreatDoor
open Go.RowKit Go.Sort
theorem own_slc {w : World} {base : Nat} {e : TypeId} {size : Nat} {v : Value} {n : Nat} {xs : List Value} (h : w.ownsRow base e size v n xs) : ∃ A c, v = .slice A n c := by
  rcases h.2 with ⟨rfl, rfl⟩ | ⟨g, cap, cur, rfl, _⟩
  · exact ⟨none, 0, rfl⟩
  · exact ⟨_, _, rfl⟩
theorem str_info : (Tryz.prog.info? 9).map (fun i => (i.zero, i.size, i.bytes)) = some (some (.string ByteArray.empty), 1, 16) := by kernel_rfl
theorem strs_snoc {w : World} {base : Nat} {v : Value} {o : List ByteArray} {n : ByteArray} (h : w.ownsRow base 9 1 v (o.length + 1) (o.map Value.string ++ [.string n])) : w.ownsRow base 9 1 v (o ++ [n]).length ((o ++ [n]).map Value.string) := by
  rw [List.length_append, List.map_append]
  exact h
def Dk.nameL (D : Dk) (ks : List ByteArray) : List ByteArray := ks.filter fun n => (D.get n).nt
def Dk.names (D : Dk) : List ByteArray := if D.e ≠ 0 then [] else D.nameL (D.files.map (·.1))
theorem nameL_take {D : Dk} {ks : List ByteArray} {k : Nat} {n : ByteArray} (h : ks[k]? = some n) : D.nameL (ks.take (k + 1)) = D.nameL (ks.take k) ++ (if (D.get n).nt then [n] else []) := by
  unfold Dk.nameL
  rw [List.take_add_one, h, List.filter_append]
  cases h : (D.get n).nt <;> simp [h]
theorem lost_any (w : World) (d m : Nat) (D : Dk) (hD : DkAt w d m D) : Calls Tryz.prog 36 #[.pointer (some ⟨d, 2, none⟩)] w fun e w' => e = .returned (.bool D.lost) ∧ w' = w := by
  have c2 : w.cell? ⟨d, 2, none⟩ = some (.bool D.lost) := hD.1.cell 2
  go_enter Tryz.func36, Tryz.ntmps36
  go_wp2_with fail
  go_ret
  exact ⟨rfl, rfl⟩
set_option maxRecDepth 100000 in
set_option maxHeartbeats 1000000 in
theorem pnames_any (w : World) (d m : Nat) (D : Dk) (hD : DkAt w d m D) (hO : D.Ok) (hfl : D.files.length ≤ 1048576) :
    Calls Tryz.prog 67 #[.pointer (some ⟨d, 0, none⟩)] w fun e w' =>
      ∃ v, e = .returned (.tuple #[v, .int .i64 D.e]) ∧ Sl w' v (D.names.map Value.string) ∧ Chg (fun k => k = d) w w' ∧ DkAt w' d m D.tick := by
  have ct := try_any w d m D hD hO.a0 hO.a1
  by_cases he : D.e = 0
  · have he1 : (D.e == 0) = true := by simpa using he
    have he2 : (D.e != 0) = false := by simpa using he
    have HFN : Hid (D.names = D.tick.nameL (D.files.map (·.1))) := Lib.hid (by unfold Dk.names; rw [if_neg (by simpa using he)]; rfl)
    have HE := Lib.hid he
    clear he
    go_enter Tryz.func67, Tryz.ntmps67
    go_wp2_with fail
    refine ct.mono ?_
    rintro e w1 ⟨rfl, hC1, hD1⟩
    clear ct
    go_wp2_with fail
    refine (all_any _ d m D.tick hD1 hO.srt hO.keys hfl).mono ?_
    rintro e w2 ⟨v, rfl, hS1, hE⟩
    replace hD1 := hD1.ext hE
    have hC2 := hC1.ext_trans hE
    have hl : (D.files.map (·.1)).length ≤ 1048576 := by simpa using hfl
    replace hS1 : Sl w2 v ((D.files.map (·.1)).map Value.string) := by rw [List.map_map]; exact hS1
    obtain ⟨ns, hns⟩ : ∃ ns, ns = D.files.map (·.1) := ⟨_, rfl⟩
    rw [← hns] at hS1 hl HFN
    clear hns
    obtain ⟨A, c, rfl, hx⟩ := hS1
    rw [List.length_map]
    have hb2 := hC2.size
    clear hC1 hE
    go_wp2_with fail
    go_loopw [5, 18] (fun ov kv wr => ∃ (k : Nat) (o : List ByteArray), kv = .int .i64 (k : Int) ∧ k ≤ ns.length ∧ o.length ≤ k ∧ Hid (D.tick.nameL (ns.take k) = o) ∧ wr.ownsRow w2.heap.size 9 1 ov o.length (o.map Value.string) ∧ Ext w2 wr) (fun _ kv _ => ns.length - (intOf kv).toNat)
    case atStart => exact ⟨0, [], rfl, Nat.zero_le _, by simp, Lib.hid rfl, World.ownsRow_nil _ _ _ _, Ext.refl _⟩
    case round =>
      obtain ⟨k, o, rfl, hk, hol, HPL, hO1, hE⟩ := hrel
      have hDr := hD1.ext hE
      have hbase := hE.size
      by_cases hlt : k < ns.length
      · obtain ⟨n, hb⟩ : ∃ q, ns[k]? = some q := ⟨_, List.getElem?_eq_getElem hlt⟩
        have HNT := Lib.hid (nameL_take (D := D.tick) hb)
        obtain ⟨b, o', rfl, hc⟩ := hx (by intro e; rw [List.map_eq_nil_iff] at e; subst e; simp at hlt)
        have hcw := hc k (.string n) (by rw [List.getElem?_map, hb]; rfl)
        have hcell : wr.cell? ⟨b, o' + k, none⟩ = some (.string n) := (Ext.cell (p := ⟨b, o' + k, none⟩) hE (cell_lt hcw)).trans hcw
        clear hb hcw
        have e4 : wr.cell? ⟨d, 4, none⟩ = some (.map (some m)) := hDr.1.cell 4
        have cl : (Instr.lookup 46 (.map (some m)) (.string n) false).run Tryz.prog wr = .ok (.agg #[.bool (D.tick.get n).nt, .string (D.tick.get n).nx, .bool (D.tick.get n).st, .string (D.tick.get n).sx]) wr := hDr.look n
        generalize D.tick.get n = f at cl HNT
        obtain ⟨n1, s1, n2, s2⟩ := f
        simp only at cl HNT
        have hc0 := fun wx => field_now n1 n2 s1 s2 wx
        have hc1 := fun wx => field_there n1 s1 wx
        cases n1
        · go_wp2_with fail
          go_roundw
          case rel => exact ⟨k + 1, o, by go_num, by omega, by omega, Lib.hid (by rw [HNT.out, HPL.out]; simp), hO1, hE⟩
          case measure => simp [intOf]; omega
        · go_wp2_with (at_builtin; refine wpList_append_row _ hO1 22 Tryz.underlying22 str_info rfl rfl (by decide) (by decide) rfl (by omega) (by omega) rfl _ _ rfl rfl rfl ?_)
          intro v3 w3 hO3 hCb
          replace hO3 := strs_snoc hO3
          have hE3 := Chg.own_ext hE hCb hO1 (Nat.le_refl _)
          clear hO1 hCb cl e4 hcell
          go_wp2_with fail
          go_roundw
          case rel => exact ⟨k + 1, o ++ [n], by go_num, by omega, by simp only [List.length_append, List.length_singleton]; omega, Lib.hid (by rw [HNT.out, HPL.out]; simp), hO3, hE3⟩
          case measure => simp [intOf]; omega
      · obtain rfl : k = ns.length := by omega
        rw [List.take_length] at HPL
        obtain ⟨oA, oc, rfl⟩ := own_slc hO1
        go_wp2_with fail
        go_ret2
        exact ⟨.slice oA o.length oc, by rw [HE.out]; rfl, by rw [HFN.out, HPL.out]; exact Sl.of_own hO1, hC2.ext_trans hE, hDr⟩
  · have he1 : (D.e == 0) = false := by simpa using he
    have he2 : (D.e != 0) = true := by simpa using he
    have HFN : Hid (D.names = []) := Lib.hid (by unfold Dk.names; rw [if_pos he])
    go_enter Tryz.func67, Tryz.ntmps67
    go_wp2_with fail
    refine ct.mono ?_
    rintro e w1 ⟨rfl, hC1, hD1⟩
    clear ct
    go_wp2_with fail
    go_ret2
    exact ⟨_, rfl, by rw [HFN.out]; exact Sl.nil _ _, hC1, hD1⟩
end Go.Proofs.YtapodcmjggmgmaaGreatDoor
namespace Go.Proofs.YtapodcmjggmgmaaGreatDoor
open Go.RowKit Go.Sort
end Go.Proofs.YtapodcmjggmgmaaGreatDoor
namespace Go.Proofs.YtapodcmjggmgmaaGreatDoor
open Go.RowKit Go.Sort
set_option maxRecDepth 100000 in
set_option maxHeartbeats 1000000 in
theorem copen_any (w : World) (d m : Nat) (D : Dk) (hdk : DkAt w d m D) (hD : D.Calm) (hf : D.files = []) (lim : Nat) (hlim : 1 ≤ lim) :
    Calls Tryz.prog 37 #[.pointer (some ⟨d, 0, none⟩), .int .i64 (lim : Int)] w fun e w' =>
      ∃ s c, e = .returned (.tuple #[.pointer (some ⟨s, 0, none⟩), .int .i64 0]) ∧ w.heap.size ≤ s ∧ w.heap.size ≤ c ∧ Chg (fun k => k = d) w w' ∧ StAt w' s d m c ⟨lim, D, [], 1, 0, false⟩ := by
  have cn := pnames_any w d m D hdk hD.ok (by rw [hf]; simp)
  have hns : D.names = [] := by unfold Dk.names; rw [if_neg (by simp [hD.e]), hf]; rfl
  rw [hD.e, hD.tick, hns] at cn
  have hmm := @run_makeMap Tryz.prog
  have hmx : max (lim : Int) 1 = (lim : Int) := by omega
  go_enter Tryz.func37, Tryz.ntmps37
  go_wp2_with fail
  refine cn.mono ?_
  rintro e w1 ⟨v, rfl, hSl, hC1, hdk1⟩
  clear cn
  obtain ⟨A, c0, rfl, _⟩ := hSl
  simp only [List.map_nil, List.length_nil]
  have hs1 := hC1.size
  go_wp2_with fail
  have hM := (MapAt.new u64Way Plc.val w1).alloc (.cells #[.pointer (some ⟨d, 0, none⟩), .int .i64 (lim : Int), .map (some w1.heap.size), .int .i64 1, .int .i64 0, .bool false] 130)
  have hsz : (w1.alloc (.map #[] 0)).heap.size = w1.heap.size + 1 := by simp
  have hA := At.new (w1.alloc (.map #[] 0)) 130 #[.pointer (some ⟨d, 0, none⟩), .int .i64 (lim : Int), .map (some w1.heap.size), .int .i64 1, .int .i64 0, .bool false]
  rw [hsz] at hA
  have hE := ((Ext.refl w1).alloc (.map #[] 0)).alloc (.cells #[.pointer (some ⟨d, 0, none⟩), .int .i64 (lim : Int), .map (some w1.heap.size), .int .i64 1, .int .i64 0, .bool false] 130)
  generalize (w1.alloc (.map #[] 0)).alloc (.cells #[.pointer (some ⟨d, 0, none⟩), .int .i64 (lim : Int), .map (some w1.heap.size), .int .i64 1, .int .i64 0, .bool false] 130) = W at hM hA hE ⊢
  go_loopw [31] (fun iv wr => iv = .int .i64 0 ∧ wr = W) (fun _ _ => 0)
  case atStart => exact ⟨rfl, rfl⟩
  case round =>
    obtain ⟨rfl, rfl⟩ := hrel
    go_wp2_with fail
    go_ret2
    exact ⟨_, _, rfl, by omega, hs1, hC1.ext_trans hE, ⟨hA, hdk1.ext hE, hM, by have := hdk1.2.lt; omega⟩⟩
set_option maxRecDepth 100000 in
theorem after_any (w : World) (n : Nat) (e : Int) (he : e ≠ 8 ∧ e ≠ 14) :
    Calls Tryz.prog 62 #[.pointer (some ⟨n, 0, none⟩), .int .i64 e] w fun r w' => r = .returned (.int .i64 e) ∧ w' = w := by
  have h1 : (e == 8) = false := by simpa using he.1
  have h2 : (e == 14) = false := by simpa using he.2
  go_enter Tryz.func62, Tryz.ntmps62
  go_wp2_with fail
  go_ret
  exact ⟨rfl, rfl⟩
structure NdAt (w : World) (n s d m c : Nat) (S : St) (dr : Nat) : Prop where
  nd : At w n 41 #[.pointer (some ⟨d, 0, none⟩), .pointer (some ⟨s, 0, none⟩), .int .i64 (dr : Int)]
  st : StAt w s d m c S
theorem NdAt.ns {w : World} {n s d m c : Nat} {S : St} {dr : Nat} (h : NdAt w n s d m c S dr) : n ≠ s := h.nd.ne h.st.st (by decide)
theorem NdAt.nd' {w : World} {n s d m c : Nat} {S : St} {dr : Nat} (h : NdAt w n s d m c S dr) : n ≠ d := h.nd.ne h.st.dk.1 (by decide)
theorem NdAt.nm {w : World} {n s d m c : Nat} {S : St} {dr : Nat} (h : NdAt w n s d m c S dr) : n ≠ m := fun e => h.st.dk.2.ne_at h.nd e.symm
theorem NdAt.nc {w : World} {n s d m c : Nat} {S : St} {dr : Nat} (h : NdAt w n s d m c S dr) : n ≠ c := fun e => h.st.ch.ne_at h.nd e.symm
set_option maxRecDepth 100000 in
set_option maxHeartbeats 1000000 in
theorem up_any (w : World) (n s d m c : Nat) (S : St) (dr : Nat) (h : NdAt w n s d m c S dr) (hl : S.D.lost = false) :
    Calls Tryz.prog 34 #[.pointer (some ⟨n, 0, none⟩)] w fun r w' => r = .returned (.bool true) ∧ w' = w := by
  have c0 : w.cell? ⟨n, 0, none⟩ = some (.pointer (some ⟨d, 0, none⟩)) := h.nd.cell 0
  have c1 : w.cell? ⟨n, 1, none⟩ = some (.pointer (some ⟨s, 0, none⟩)) := h.nd.cell 1
  have cl := lost_any w d m S.D h.st.dk
  rw [hl] at cl
  go_enter Tryz.func34, Tryz.ntmps34
  go_wp2_with fail
  refine cl.mono ?_
  rintro e w1 ⟨rfl, rfl⟩
  go_wp2_with fail
  go_ret
  exact ⟨rfl, rfl⟩
end Go.Proofs.YtapodcmjggmgmaaGreatDoor
namespace Go.Proofs.YtapodcmjggmgmaaGreatDoor
open Go.RowKit Go.Sort
theorem segN_ne (n : Nat) (h : n < 100) : (segN n).data.toList.isEmpty = false := by
  have := segL_len n h
  cases hl : segL n with
  | nil => rw [hl] at this; simp at this
  | cons a r => simp [segN, hl]
theorem extract_left {x f : ByteArray} {a b : Nat} (h : b ≤ x.size) : (x ++ f).extract a b = x.extract a b := by
  refine bytes_ext ?_
  rw [extract_list, extract_list]
  have hl : x.data.toList.length = x.size := rfl
  have e : (x ++ f).data.toList = x.data.toList ++ f.data.toList := by simp
  rw [e]
  by_cases hab : a ≤ x.size
  · rw [List.drop_append_of_le_length (by omega), List.take_append_of_le_length (by rw [List.length_drop]; omega)]
  · have : b - a = 0 := by omega
    rw [this]; simp
theorem extract_right {x f : ByteArray} : (x ++ f).extract x.size (x.size + f.size) = f := by
  refine bytes_ext ?_
  rw [extract_list]
  have hl : x.data.toList.length = x.size := rfl
  have hl2 : f.data.toList.length = f.size := rfl
  have e : (x ++ f).data.toList = x.data.toList ++ f.data.toList := by simp
  rw [e, List.drop_append_of_le_length (by omega), List.drop_eq_nil_of_le (by omega), List.nil_append, List.take_of_length_le (by omega)]
theorem put_spec {D : Dk} (h : D.Calm) {n : ByteArray} (hn : n.size ≤ maxLen) {f : Fl} (h1 : f.nx.size ≤ maxLen) (h2 : f.sx.size ≤ maxLen) (hf : (f.nt || f.st) = true) :
    (D.put n f = (7, D)) ∨ ((D.put n f).1 = 0 ∧ (D.put n f).2.Calm ∧ (D.put n f).2.room = D.room ∧ (D.put n f).2.used = nuse D.used (D.grow n f) ∧ (∀ n', (D.put n f).2.get n' = if n' = n then f else D.get n') ∧
      (∀ p ∈ (D.put n f).2.files, p = (n, f) ∨ p ∈ D.files) ∧ (D.put n f).2.files.length ≤ D.files.length + 1) := by
  have hok := h.ok.put hn h1 h2 (f := f)
  unfold Dk.put at hok ⊢
  split
  · exact .inl rfl
  · rename_i hg
    rw [if_neg hg] at hok
    refine .inr ⟨rfl, ⟨hok, h.lost, h.armed⟩, rfl, rfl, fun n' => ?_, fun p hp => ?_, ?_⟩
    · rw [get_lputf]
      rw [if_pos hf]
    · simp only [lputf, hf, if_true] at hp
      exact mem_lput hp
    · simp only [lputf, hf, if_true]
      have h3 := (lput_perm blt_ordd (k := n) (v := f) h.ok.srt).length_eq
      rw [h3]
      have h4 := List.length_filter_le (fun p : ByteArray × Fl => decide (p.1 ≠ n)) D.files
      simp only [List.length_cons, ldel]
      omega
theorem change_spec {D : Dk} (h : D.Calm) {n : ByteArray} (hn : n.data.toList.isEmpty = false) (g : ByteArray → ByteArray) : D.change n g = D.put n { D.get n with nt := true, nx := g (D.get n).nx } := by
  unfold Dk.change
  rw [if_neg (by simp [h.e]), if_neg (by simp [hn]), h.tick]
end Go.Proofs.YtapodcmjggmgmaaGreatDoor
namespace Go.Proofs.YtapodcmjggmgmaaGreatDoor
open Go.RowKit Go.Sort
end Go.Proofs.YtapodcmjggmgmaaGreatDoor
namespace Go.Proofs.YtapodcmjggmgmaaGreatDoor
open Go.RowKit Go.Sort
end Go.Proofs.YtapodcmjggmgmaaGreatDoor
