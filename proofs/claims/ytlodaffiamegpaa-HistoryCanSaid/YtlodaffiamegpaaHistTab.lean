/-
  Layer 18, plain: what the tables of a search hold.
-/
import Derived.Test.YtlodaffiamegpaaHs10
namespace Go.Proofs.Ytlodaffiamegpaa

/-! ### bits -/
def bitsB (p : Nat → Bool) : Nat → Nat
  | 0 => 0
  | n + 1 => if p n then bitsB p n ||| 2 ^ n else bitsB p n
theorem bitsB_lt (p : Nat → Bool) : ∀ n, bitsB p n < 2 ^ n
  | 0 => by simp [bitsB]
  | n + 1 => by
    have ih := bitsB_lt p n
    have h2 : 2 ^ n < 2 ^ (n + 1) := Nat.pow_lt_pow_right (by omega) (by omega)
    unfold bitsB
    split
    · exact Nat.or_lt_two_pow (by omega) h2
    · omega
theorem bitsB_bit (p : Nat → Bool) : ∀ n k, (bitsB p n).testBit k = true ↔ k < n ∧ p k = true
  | 0, k => by simp [bitsB]
  | n + 1, k => by
    have ih := bitsB_bit p n k
    unfold bitsB
    split
    · rename_i h
      rw [bit_or, Bool.or_eq_true, decide_eq_true_eq, ih]
      constructor
      · rintro (rfl | ⟨h1, h2⟩)
        · exact ⟨by omega, h⟩
        · exact ⟨by omega, h2⟩
      · rintro ⟨h1, h2⟩
        by_cases e : k = n
        · exact .inl e
        · exact .inr ⟨by omega, h2⟩
    · rename_i h
      rw [ih]
      constructor
      · rintro ⟨h1, h2⟩; exact ⟨by omega, h2⟩
      · rintro ⟨h1, h2⟩
        by_cases e : k = n
        · subst e; exact absurd h2 h
        · exact ⟨by omega, h2⟩
def preB (ops : List HOp) (x : HOp) (k : Nat) : Bool := (opAt ops k).ans && decide ((opAt ops k).fin < x.start)
theorem preB_iff {ops : List HOp} {x : HOp} {k : Nat} : preB ops x k = true ↔ Pre (opAt ops k) x := by
  unfold preB Pre; rw [Bool.and_eq_true, decide_eq_true_eq]
def befB (ops : List HOp) (x : HOp) (n : Nat) : Nat := bitsB (preB ops x) n
def needB (ops : List HOp) (n : Nat) : Nat := bitsB (fun k => (opAt ops k).ans) n

/-! ### the tables so far -/
structure ValsOk (ops : List HOp) (ns : List ByteArray) (k : Nat) (vals : List (List Nat)) (put : List Nat) : Prop where
  vlen : vals.length = ns.length
  vnd : ∀ n, (vals.getD n []).Nodup
  sum : (vals.map List.length).sum ≤ k
  plen : put.length = k
  puts : ∀ i, i < k → (opAt ops i).kind = 1 → hasL ns (opAt ops i).name = true ∧ 0 < put.getD i 0 ∧ put.getD i 0 ≤ (vals.getD (ixOf ns (opAt ops i).name) []).length ∧ (vals.getD (ixOf ns (opAt ops i).name) []).getD (put.getD i 0 - 1) 0 = alikeV ops (opAt ops i)
  put0 : ∀ i, i < k → (opAt ops i).kind ≠ 1 → put.getD i 0 = 0
section
variable {ops : List HOp} {ns : List ByteArray} {k : Nat} {vals : List (List Nat)} {put : List Nat}
theorem ValsOk.zero (ops : List HOp) (ns : List ByteArray) : ValsOk ops ns 0 (List.replicate ns.length []) [] where
  vlen := by simp
  vnd := fun n => by
    rw [List.getD_eq_getElem?_getD, List.getElem?_replicate]
    split <;> exact List.nodup_nil
  sum := by simp
  plen := rfl
  puts := fun i hi => by omega
  put0 := fun i hi => by omega
theorem getD_push {put : List Nat} {i v : Nat} : (put ++ [v]).getD i 0 = if i < put.length then put.getD i 0 else if i = put.length then v else 0 := by
  rw [List.getD_eq_getElem?_getD, List.getD_eq_getElem?_getD, List.getElem?_append]
  split
  · rfl
  · rename_i h
    by_cases e : i = put.length
    · subst e; simp
    · rw [if_neg e, List.getElem?_eq_none (by simp; omega)]; rfl
theorem ValsOk.none (h : ValsOk ops ns k vals put) (hk : (opAt ops k).kind ≠ 1) : ValsOk ops ns (k + 1) vals (put ++ [0]) where
  vlen := h.vlen
  vnd := h.vnd
  sum := by have := h.sum; omega
  plen := by rw [List.length_append, h.plen]; rfl
  puts := fun i hi h1 => by
    have hne : i ≠ k := fun e => hk (e ▸ h1)
    rw [getD_push, if_pos (by rw [h.plen]; omega)]
    exact h.puts i (by omega) h1
  put0 := fun i hi h1 => by
    rw [getD_push]
    split
    · rename_i hl; rw [h.plen] at hl; exact h.put0 i hl h1
    · split <;> rfl
theorem sum_set {l : List (List Nat)} {n : Nat} {v : Nat} (hn : n < l.length) : ((l.set n (l.getD n [] ++ [v])).map List.length).sum = (l.map List.length).sum + 1 := by
  induction l generalizing n with
  | nil => simp at hn
  | cons a l ih =>
    cases n with
    | zero => simp; omega
    | succ n =>
      have := ih (n := n) (by simpa using hn)
      simp only [List.set_cons_succ, List.map_cons, List.sum_cons, List.getD_cons_succ]
      omega
theorem set_getL {l : List (List Nat)} {k n : Nat} {v : List Nat} (hk : k < l.length) : (l.set k v).getD n [] = if n = k then v else l.getD n [] := by
  rw [List.getD_eq_getElem?_getD, List.getElem?_set]
  by_cases h : n = k
  · subst h; simp [hk]
  · rw [if_neg (Ne.symm h), if_neg h, ← List.getD_eq_getElem?_getD]
/-- a Put: its value is there, or comes behind the others -/
theorem ValsOk.put_ (h : ValsOk ops ns k vals put) (hk : (opAt ops k).kind = 1) (hm : hasL ns (opAt ops k).name = true) {idx : Nat} {vs' : List Nat}
    (hvs : vs' = if hasL (vals.getD (ixOf ns (opAt ops k).name) []) (alikeV ops (opAt ops k)) then vals.getD (ixOf ns (opAt ops k).name) [] else vals.getD (ixOf ns (opAt ops k).name) [] ++ [alikeV ops (opAt ops k)])
    (hidx : vs'[idx]? = some (alikeV ops (opAt ops k))) : ValsOk ops ns (k + 1) (vals.set (ixOf ns (opAt ops k).name) vs') (put ++ [1 + idx]) := by
  have hn : ixOf ns (opAt ops k).name < vals.length := by rw [h.vlen]; exact ixOf_lt hm
  generalize hne : ixOf ns (opAt ops k).name = n at *
  generalize hv : alikeV ops (opAt ops k) = v at *
  have hpre : ∃ t, vs' = vals.getD n [] ++ t := by
    rw [hvs]; split
    · exact ⟨[], by simp⟩
    · exact ⟨_, rfl⟩
  obtain ⟨t, ht⟩ := hpre
  have hil : idx < vs'.length := (List.getElem?_eq_some_iff.1 hidx).1
  refine ⟨by rw [List.length_set]; exact h.vlen, fun m => ?_, ?_, by rw [List.length_append, h.plen]; rfl, fun i hi h1 => ?_, fun i hi h1 => ?_⟩
  · rw [set_getL hn]
    split
    · rw [hvs]
      split
      · exact h.vnd n
      · rename_i hh
        rw [List.nodup_append]
        refine ⟨h.vnd n, by simp, fun a ha b hb e => ?_⟩
        rw [List.mem_singleton] at hb
        subst hb; subst e
        exact hh (hasL_iff.2 ha)
    · exact h.vnd m
  · have hs := h.sum
    rw [hvs]
    split
    · have : vals.set n (vals.getD n []) = vals := by
        rw [List.getD_eq_getElem?_getD, List.getElem?_eq_getElem hn]
        exact List.set_getElem_self hn
      rw [this]; omega
    · rw [sum_set hn]; omega
  · by_cases e : i = k
    · subst e
      rw [getD_push, if_neg (by rw [h.plen]; omega), if_pos h.plen.symm, hne, set_getL hn, if_pos rfl]
      refine ⟨hm, by omega, by omega, ?_⟩
      rw [hv, show 1 + idx - 1 = idx by omega, List.getD_eq_getElem?_getD, hidx]; rfl
    · have hp := h.puts i (by omega) h1
      rw [getD_push, if_pos (by rw [h.plen]; omega), set_getL hn]
      split
      · rename_i e2
        rw [e2] at hp
        refine ⟨hp.1, hp.2.1, ?_, ?_⟩
        · rw [ht, List.length_append]; have := hp.2.2.1; omega
        · rw [ht, List.getD_eq_getElem?_getD, List.getElem?_append_left (by have := hp.2.1; have := hp.2.2.1; omega), ← List.getD_eq_getElem?_getD]
          exact hp.2.2.2
      · exact hp
  · have hne2 : i ≠ k := fun e => h1 (e ▸ hk)
    rw [getD_push, if_pos (by rw [h.plen]; omega)]
    exact h.put0 i (by omega) h1
end

/-! ### no more states than sets of calls -/
theorem keyK_le (T : HTab) (st : List Nat) (h : ∀ n, st.getD n 0 ≤ (T.vals.getD n []).length) : ∀ n, n ≤ T.vals.length → keyK T st n + 1 ≤ 2 ^ ((T.vals.take n).map List.length).sum
  | 0, _ => by simp [keyK]
  | n + 1, hn => by
    have ih := keyK_le T st h n (by omega)
    have hg : T.vals.getD n [] = T.vals[n] := by rw [List.getD_eq_getElem?_getD, List.getElem?_eq_getElem (by omega)]; rfl
    have hh := h n
    rw [List.take_succ_eq_append_getElem (by omega), List.map_append, List.sum_append, Nat.pow_add]
    unfold keyK
    rw [hg] at hh ⊢
    simp only [List.map_cons, List.map_nil, List.sum_cons, List.sum_nil, Nat.add_zero]
    have h2 : T.vals[n].length + 1 ≤ 2 ^ T.vals[n].length := Nat.lt_two_pow_self
    have h3 : (keyK T st n + 1) * (T.vals[n].length + 1) ≤ 2 ^ ((T.vals.take n).map List.length).sum * 2 ^ T.vals[n].length := Nat.mul_le_mul ih h2
    have h4 : (keyK T st n + 1) * (T.vals[n].length + 1) = keyK T st n * (T.vals[n].length + 1) + (T.vals[n].length + 1) := by rw [Nat.add_mul, Nat.one_mul]
    omega
theorem sum_take_le (l : List (List Nat)) (n : Nat) : ((l.take n).map List.length).sum ≤ (l.map List.length).sum := by
  have : l = l.take n ++ l.drop n := (List.take_append_drop n l).symm
  have h2 : (l.map List.length).sum = ((l.take n).map List.length).sum + ((l.drop n).map List.length).sum := by
    conv => lhs; rw [this]
    rw [List.map_append, List.sum_append]
  omega
theorem len_le_sum (l : List (List Nat)) (n : Nat) : (l.getD n []).length ≤ (l.map List.length).sum := by
  induction l generalizing n with
  | nil => simp
  | cons a l ih =>
    cases n with
    | zero => simp
    | succ n =>
      have := ih n
      simp only [List.getD_cons_succ, List.map_cons, List.sum_cons]
      omega

/-- the tables as a whole -/
def tabOf (ops : List HOp) (ns : List ByteArray) (vals : List (List Nat)) (put : List Nat) : HTab :=
  ⟨ns, vals, ops.map fun x => idxV ns x.name, put, ops.map fun x => befB ops x ops.length, needB ops ops.length⟩
theorem tab_prob {ops : List HOp} {ns : List ByteArray} {vals : List (List Nat)} {put : List Nat} (h : ValsOk ops ns ops.length vals put) (h20 : ops.length ≤ 20) (hw : ∀ x ∈ ops, Wide x)
    (hk : ∀ i, i < ops.length → (opAt ops i).kind = 1 ∨ (opAt ops i).kind = 3 ∨ (((opAt ops i).kind = 2 ∨ (opAt ops i).kind = 4 ∨ (opAt ops i).kind = 5) ∧ (opAt ops i).ans = true))
    (hr : ns.Pairwise (fun a b => blt a b = true)) (hn : ns.length ≤ 20) (hp : ∀ i, i < ops.length → (opAt ops i).ans = true → Poss (tabOf ops ns vals put) (opAt ops i)) : Prob ops (tabOf ops ns vals put) where
  n20 := h20
  wide := hw
  kinds := hk
  rise := hr
  nlen := hn
  vlen := h.vlen
  vnd := h.vnd
  v20 := fun n => by have := len_le_sum vals n; have := h.sum; show (vals.getD n []).length ≤ 20; omega
  prod := fun st hs n hn' => by
    have h1 := keyK_le (tabOf ops ns vals put) st hs n (by show n ≤ vals.length; rw [h.vlen]; exact hn')
    have h2 : ((vals.take n).map List.length).sum ≤ 20 := by have := sum_take_le vals n; have := h.sum; omega
    have h3 := pow20 h2
    have h4 : keyK (tabOf ops ns vals put) st n + 1 ≤ 2 ^ ((vals.take n).map List.length).sum := h1
    omega
  name := rfl
  plen := h.plen
  put := h.puts
  put0 := h.put0
  blen := by unfold tabOf; simp
  before := fun i hi => by
    have e : (tabOf ops ns vals put).before.getD i 0 = befB ops (opAt ops i) ops.length := by
      unfold tabOf
      rw [List.getD_eq_getElem?_getD, List.getElem?_map, opAt_get hi]; rfl
    rw [e]
    refine ⟨bitsB_lt _ _, fun k hk' => ?_⟩
    unfold befB
    rw [bitsB_bit, preB_iff]
    exact ⟨fun h => h.2, fun h => ⟨hk', h⟩⟩
  need := by
    refine ⟨bitsB_lt _ _, fun k hk' => ?_⟩
    show (bitsB _ _).testBit k = true ↔ _
    rw [bitsB_bit]
    exact ⟨fun h => h.2, fun h => ⟨hk', h⟩⟩
  poss := hp
end Go.Proofs.Ytlodaffiamegpaa
