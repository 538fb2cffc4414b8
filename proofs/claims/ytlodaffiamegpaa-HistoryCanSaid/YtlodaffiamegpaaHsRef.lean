/-
  Layer 18: the document's functions: Find, Put, Without.
-/
import Derived.Test.YtlodaffiamegpaaHsCheck
import Derived.Test.YtlodaffiamegpaaHistRef
import Derived.Test.YtlodaffiamegpaaAppRow
namespace Go.Proofs.Ytlodaffiamegpaa
open Go.RowKit Go.Sort

abbrev erow (p : ByteArray × Nat) : List Value := [.string p.1, .int .u64 (p.2 : Int)]
abbrev ecells (p : ByteArray × Nat) : Array Value := #[.string p.1, .int .u64 (p.2 : Int)]
theorem ent_info : (Try.prog.info? 63).map (fun i => (i.zero, i.size, i.bytes)) = some (some (.agg #[.string ByteArray.empty, .int .u64 0]), 2, 24) := by kernel_rfl
theorem rop_info : (Try.prog.info? 56).map (fun i => (i.zero, i.size, i.bytes)) = some (some (.agg #[.int .i64 0, .string ByteArray.empty, .int .u64 0, .int .i64 0, .int .i64 0, .int .i64 0, .int .u64 0, .slice none 0 0]), 8, 88) := by kernel_rfl
def entAt (E : HEnts) (i : Nat) : ByteArray × Nat := E.getD i (ByteArray.empty, 0)
theorem entAt_get {E : HEnts} {i : Nat} (h : i < E.length) : E[i]? = some (entAt E i) := by
  unfold entAt; rw [List.getD_eq_getElem?_getD, List.getElem?_eq_getElem h]; rfl
theorem sln_some' {w : World} {v : Value} {k : Nat} {l : List (List Value)} (h : Sln w v k l) (hl : l ≠ []) : ∃ b o c, v = .slice (some ⟨b, o, none⟩) l.length c := by
  obtain ⟨A, c, hv, hx⟩ := h
  obtain ⟨b, o, rfl, _⟩ := hx hl
  exact ⟨b, o, c, hv⟩
theorem sln_cell {w : World} {b o n c k : Nat} {l : List (List Value)} (h : Sln w (.slice (some ⟨b, o, none⟩) n c) k l) {i : Nat} {r : List Value} (hr : l[i]? = some r) {j : Nat} {u : Value} (hu : r[j]? = some u) : w.cell? ⟨b, o + i * k + j, none⟩ = some u := by
  obtain ⟨A, c', hv, hx⟩ := h
  obtain ⟨b', o', rfl, hc⟩ := hx (fun e => by subst e; cases hr)
  simp only [Value.slice.injEq, Option.some.injEq, Addr.mk.injEq, and_true] at hv
  obtain ⟨⟨rfl, rfl⟩, _, _⟩ := hv
  exact hc i r hr j u hu
theorem ent_cells {w : World} {b o n c : Nat} {E : HEnts} (h : Sln w (.slice (some ⟨b, o, none⟩) n c) 2 (E.map erow)) {i : Nat} (hi : i < E.length) :
    w.cell? ⟨b, o + i * 2, none⟩ = some (.string (entAt E i).1) ∧ w.cell? ⟨b, o + i * 2 + 1, none⟩ = some (.int .u64 ((entAt E i).2 : Int)) := by
  have hg : (E.map erow)[i]? = some (erow (entAt E i)) := by rw [List.getElem?_map, entAt_get hi]; rfl
  exact ⟨sln_cell h hg (j := 0) rfl, sln_cell h hg (j := 1) rfl⟩

theorem lget_take {E : HEnts} {n : ByteArray} {k : Nat} (h : k < E.length) (h0 : ∀ p ∈ E.take k, p.1 ≠ n) (h1 : (entAt E k).1 = n) : lget n E = some (entAt E k).2 := by
  have e : E = E.take k ++ entAt E k :: E.drop (k + 1) := by
    have := entAt_get h
    rw [List.getElem?_eq_getElem h] at this
    rw [← Option.some.inj this, List.getElem_cons_drop, List.take_append_drop]
  unfold lget
  generalize entAt E k = p at *
  rw [e, List.find?_append]
  have h3 : (E.take k).find? (fun p => decide (p.1 = n)) = none := by
    rw [List.find?_eq_none]; intro p hp; simpa using h0 p hp
  rw [h3]
  simp [h1]
theorem notin_next {E : HEnts} {n : ByteArray} {k : Nat} (h : k < E.length) (h0 : ∀ p ∈ E.take k, p.1 ≠ n) (h1 : (entAt E k).1 ≠ n) : ∀ p ∈ E.take (k + 1), p.1 ≠ n := by
  rw [List.take_add_one, entAt_get h]
  intro p hp
  rcases List.mem_append.1 hp with hp | hp
  · exact h0 p hp
  · simp at hp; rw [hp]; exact h1

set_option maxRecDepth 100000 in
theorem find_any (w : World) (E : HEnts) (ev : Value) (n : ByteArray) (hS : Sln w ev 2 (E.map erow)) (hl : E.length ≤ 1000) :
    Calls Try.prog 23 #[ev, .string n] w fun e w' => e = .returned (.tuple #[.int .u64 (((lget n E).getD 0 : Nat) : Int), .bool (lget n E).isSome]) ∧ Ext w w' := by
  obtain ⟨LA, lc, hov⟩ := sln_slice hS
  rw [List.length_map] at hov
  subst hov
  go_enter Try.func23, Try.ntmps23
  go_wp2_with fail
  go_loopw [10] (fun iv wx => ∃ k : Nat, k ≤ E.length ∧ iv = .int .i64 (k : Int) ∧ Hid (∀ p ∈ E.take k, p.1 ≠ n) ∧ Ext w wx) (fun iv _ => E.length - (intOf iv).toNat)
  case atStart => exact ⟨0, Nat.zero_le _, rfl, Lib.hid (fun x hx => by cases hx), Ext.refl _⟩
  case round =>
    obtain ⟨k, hk, rfl, HF, hE⟩ := hrel
    by_cases hlt : k < E.length
    · have hS2 := hS.ext hE
      obtain ⟨b, o, rfl⟩ := sln_some hS2 (fun e => by have := List.map_eq_nil_iff.1 e; subst this; simp at hlt)
      obtain ⟨r0, r1⟩ := ent_cells hS2 hlt
      have HG := Lib.hid (fun h1 => lget_take hlt HF.out h1)
      have HN := Lib.hid (fun h1 => notin_next hlt HF.out h1)
      generalize entAt E k = p at *
      clear hS2
      cases hnm : (p.1.toList == n.toList)
      · have hne : ¬ p.1 = n := fun e => by rw [e] at hnm; simp at hnm
        have HNE := Lib.hid hne
        clear hne
        go_wp2_with fail
        exact ⟨⟨k + 1, by omega, by go_num, Lib.hid (HN.out HNE.out), hE.alloc _⟩, by simp [intOf]; omega⟩
      · have hne : p.1 = n := toList_inj.1 (eq_of_beq hnm)
        have HNE := Lib.hid hne
        clear hne
        go_wp2_with fail
        refine bodyPost_ret (v := .tuple #[.int .u64 (p.2 : Int), .bool true]) (by simp [results, Try.results23, go_sem]) rfl ⟨?_, hE.alloc _⟩
        rw [HG.out HNE.out]; rfl
    · obtain rfl : k = E.length := by omega
      have hf := HF.out
      rw [List.take_length] at hf
      have HF' := Lib.hid hf
      clear HF hf
      go_wp2_with fail
      refine bodyPost_ret (v := .tuple #[.int .u64 0, .bool false]) (by simp [results, Try.results23, go_sem]) rfl ⟨?_, hE⟩
      rw [show lget n E = none from lget_none.2 HF'.out]; rfl

/-- one step of Put: the list so far, and is the new one in it? -/
def rputStep (n : ByteArray) (v : Nat) (s : HEnts × Bool) (p : ByteArray × Nat) : HEnts × Bool :=
  (s.1 ++ (if !s.2 && !blt p.1 n then [(n, v)] else []) ++ (if p.1 = n then [] else [p]), s.2 || !blt p.1 n)
def rputN (n : ByteArray) (v : Nat) (d : Bool) (E : HEnts) (k : Nat) : HEnts × Bool := (E.take k).foldl (rputStep n v) ([], d)
theorem rputN_next {n : ByteArray} {v : Nat} {d : Bool} {E : HEnts} {k : Nat} (h : k < E.length) : rputN n v d E (k + 1) = rputStep n v (rputN n v d E k) (entAt E k) := by
  unfold rputN
  rw [List.take_add_one, entAt_get h, List.foldl_append]; rfl
theorem rputN_len (n : ByteArray) (v : Nat) (d : Bool) (E : HEnts) (k : Nat) : (rputN n v d E k).1.length ≤ 2 * k := by
  have : ∀ (l : HEnts) (s : HEnts × Bool), ((l.foldl (rputStep n v) s).1).length ≤ s.1.length + 2 * l.length := by
    intro l
    induction l with
    | nil => intro s; simp
    | cons p l ih =>
      intro s
      rw [List.foldl_cons]
      refine Nat.le_trans (ih _) ?_
      have : (rputStep n v s p).1.length ≤ s.1.length + 2 := by
        unfold rputStep
        simp only [List.length_append]
        split <;> split <;> simp <;> omega
      simp only [List.length_cons]; omega
  have h := this (E.take k) ([], d)
  have h2 : (E.take k).length ≤ k := List.length_take_le _ _
  unfold rputN
  simp at h ⊢
  omega
/-- what Put answers -/
def rput (E : HEnts) (n : ByteArray) (v : Nat) (there : Bool) : HEnts :=
  (rputN n v (!there) E E.length).1 ++ (if (rputN n v (!there) E E.length).2 then [] else [(n, v)])
theorem rput_del (E : HEnts) (n : ByteArray) (v : Nat) : rput E n v false = ldel n E := by
  have key : ∀ (l s : HEnts), l.foldl (rputStep n v) (s, true) = (s ++ ldel n l, true) := by
    intro l
    induction l with
    | nil => intro s; simp [ldel]
    | cons p l ih =>
      intro s
      rw [List.foldl_cons]
      have : rputStep n v (s, true) p = (s ++ (if p.1 = n then [] else [p]), true) := by unfold rputStep; simp
      rw [this, ih]
      unfold ldel
      rw [List.filter_cons]
      by_cases h : p.1 = n <;> simp [h]
  unfold rput rputN
  rw [List.take_length]
  simp only [Bool.not_false]
  rw [key]
  simp
theorem rput_put {E : HEnts} (h : Rises blt E) (n : ByteArray) (v : Nat) : rput E n v true = lput blt n v E := by
  have done : ∀ (l s : HEnts), (∀ p ∈ l, blt n p.1 = true) → l.foldl (rputStep n v) (s, true) = (s ++ l, true) := by
    intro l
    induction l with
    | nil => intro s _; simp
    | cons p l ih =>
      intro s hl
      rw [List.foldl_cons]
      have hp := hl p (List.mem_cons_self ..)
      have hne : ¬ p.1 = n := fun e => by rw [e, blt_ordd.irr] at hp; cases hp
      have : rputStep n v (s, true) p = (s ++ [p], true) := by unfold rputStep; simp [hne]
      rw [this, ih _ (fun q hq => hl q (List.mem_cons_of_mem _ hq))]
      simp
  have key : ∀ (l s : HEnts), Rises blt l → (let r := l.foldl (rputStep n v) (s, false); r.1 ++ (if r.2 then [] else [(n, v)])) = s ++ lput blt n v l := by
    intro l
    induction l with
    | nil => intro s _; simp [lput]
    | cons p l ih =>
      intro s hr
      obtain ⟨h1, h2⟩ := List.pairwise_cons.1 hr
      rw [List.foldl_cons]
      unfold lput
      by_cases ha : blt n p.1 = true
      · have hb : blt p.1 n = false := by
          cases hb : blt p.1 n
          · rfl
          · have := blt_ordd.tr ha hb; rw [blt_ordd.irr] at this; cases this
        have hne : ¬ p.1 = n := fun e => by rw [e, blt_ordd.irr] at ha; cases ha
        have e : rputStep n v (s, false) p = (s ++ [(n, v)] ++ [p], true) := by unfold rputStep; simp [hb, hne]
        rw [if_pos ha, e, done _ _ (fun q hq => blt_ordd.tr ha (h1 q hq))]
        simp
      · rw [if_neg ha]
        have ha' : blt n p.1 = false := by simpa using ha
        by_cases hb : blt p.1 n = true
        · have hne : ¬ p.1 = n := fun e => by rw [e, blt_ordd.irr] at hb; cases hb
          have e : rputStep n v (s, false) p = (s ++ [p], false) := by unfold rputStep; simp [hb, hne]
          rw [if_pos hb, e]
          have := ih (s ++ [p]) h2
          simp only at this
          rw [this]; simp
        · have hb' : blt p.1 n = false := by simpa using hb
          have he : p.1 = n := blt_ordd.tot hb' ha'
          have e : rputStep n v (s, false) p = (s ++ [(n, v)], true) := by unfold rputStep; simp [he, blt_ordd.irr]
          rw [if_neg hb, e, done _ _ (fun q hq => by rw [← he]; exact h1 q hq)]
          simp
  have := key E [] h
  unfold rput rputN
  rw [List.take_length]
  simpa using this
end Go.Proofs.Ytlodaffiamegpaa
