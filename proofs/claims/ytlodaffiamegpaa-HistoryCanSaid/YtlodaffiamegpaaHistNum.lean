/-
  Layer 18, plain: a search's sets as bits, states as numbers.
-/
import Derived.Test.YtlodaffiamegpaaHs6
namespace Go.Proofs.Ytlodaffiamegpaa

/-! ### the place of an element -/
section
variable {α : Type} [DecidableEq α] {l : List α} {x y : α}
def ixOf (l : List α) (x : α) : Nat := l.idxOf x
theorem ixOf_lt (h : hasL l x = true) : ixOf l x < l.length := List.idxOf_lt_length_of_mem (hasL_iff.1 h)
theorem ixOf_get (h : hasL l x = true) : l[ixOf l x]? = some x := by
  rw [List.getElem?_eq_getElem (ixOf_lt h)]
  exact congrArg some (List.getElem_idxOf _)
theorem ixOf_inj (h : hasL l x = true) (h' : hasL l y = true) (e : ixOf l x = ixOf l y) : x = y := by
  have h1 := ixOf_get h
  have h2 := ixOf_get h'
  rw [e, h2] at h1
  exact (Option.some.inj h1).symm
theorem idxV_eq (l : List α) (x : α) : idxV l x = if hasL l x then ((ixOf l x : Nat) : Int) else -1 := by
  unfold idxV ixOf hasL
  by_cases h : x ∈ l <;> simp [h]
theorem ixOf_at (hn : l.Nodup) {k : Nat} (h : l[k]? = some x) : hasL l x = true ∧ ixOf l x = k := by
  have hm : hasL l x = true := hasL_iff.2 (List.mem_of_getElem? h)
  refine ⟨hm, ?_⟩
  have h1 := ixOf_get hm
  exact (List.getElem?_inj (ixOf_lt hm) hn).1 (h1.trans h.symm)
end
/-! ### sets of calls -/
def bitD (d : Nat) : Nat → Bool := fun k => d.testBit k
def leftN (n d : Nat) : Nat := ((List.range n).filter fun i => !d.testBit i).length
theorem bit_or (d i k : Nat) : (d ||| 2 ^ i).testBit k = (decide (k = i) || d.testBit k) := by
  rw [Nat.testBit_or, Nat.testBit_two_pow, Bool.or_comm]
  congr 1
  exact decide_eq_decide.2 eq_comm
theorem bitD_or (d i : Nat) : bitD (d ||| 2 ^ i) = dput (bitD d) i := by
  funext k; unfold bitD dput; exact bit_or d i k
theorem leftN_or {n d i : Nat} (hi : i < n) (hd : d.testBit i = false) : leftN n (d ||| 2 ^ i) < leftN n d := by
  unfold leftN
  rw [← List.countP_eq_length_filter, ← List.countP_eq_length_filter]
  have key : ∀ l : List Nat, l.Nodup → i ∈ l → l.countP (fun k => !(d ||| 2 ^ i).testBit k) + 1 = l.countP (fun k => !d.testBit k) := by
    intro l
    induction l with
    | nil => intro _ h; cases h
    | cons a l ih =>
      intro hn hm
      obtain ⟨h1, h2⟩ := List.nodup_cons.1 hn
      rw [List.countP_cons, List.countP_cons, bit_or]
      by_cases e : a = i
      · subst e
        have h3 : l.countP (fun k => !(d ||| 2 ^ a).testBit k) = l.countP (fun k => !d.testBit k) := by
          refine List.countP_congr fun x hx => ?_
          have : x ≠ a := fun e => h1 (e ▸ hx)
          rw [bit_or]; simp [this]
        rw [h3]; simp [hd]
      · have hm' : i ∈ l := (List.mem_cons.1 hm).resolve_left (fun h => e h.symm)
        have := ih h2 hm'
        simp only [e, decide_false, Bool.false_or]
        omega
  have := key (List.range n) List.nodup_range (List.mem_range.2 hi)
  omega
theorem or_lt {d i n : Nat} (hd : d < 2 ^ n) (hi : i < n) : d ||| 2 ^ i < 2 ^ n := Nat.or_lt_two_pow hd (Nat.pow_lt_pow_right (by omega) hi)
theorem sub_bits {a d : Nat} : a &&& d = a ↔ ∀ k, a.testBit k = true → d.testBit k = true := by
  constructor
  · intro h k hk
    have := congrArg (fun z => z.testBit k) h
    simp [Nat.testBit_and, hk] at this
    exact this
  · intro h
    apply Nat.eq_of_testBit_eq
    intro k
    rw [Nat.testBit_and]
    cases hk : a.testBit k
    · simp
    · simp [h k hk]
theorem bit_lt {d n k : Nat} (hd : d < 2 ^ n) (hk : d.testBit k = true) : k < n := by
  refine Classical.byContradiction fun h => ?_
  have := Nat.testBit_lt_two_pow (x := d) (i := k) (Nat.lt_of_lt_of_le hd (Nat.pow_le_pow_right (by omega) (by omega)))
  rw [this] at hk; cases hk

/-! ### the values that puts are counted by -/
def alOp (ops : List HOp) (x : HOp) : HOp := if x.kind = 1 then { x with value := alikeV ops x } else x
def al (ops : List HOp) : List HOp := ops.map (alOp ops)
section
variable (ops : List HOp) (x : HOp)
theorem alOp_kind : (alOp ops x).kind = x.kind := by unfold alOp; split <;> rfl
theorem alOp_name : (alOp ops x).name = x.name := by unfold alOp; split <;> rfl
theorem alOp_start : (alOp ops x).start = x.start := by unfold alOp; split <;> rfl
theorem alOp_fin : (alOp ops x).fin = x.fin := by unfold alOp; split <;> rfl
theorem alOp_err : (alOp ops x).err = x.err := by unfold alOp; split <;> rfl
theorem alOp_got : (alOp ops x).got = x.got := by unfold alOp; split <;> rfl
theorem alOp_names : (alOp ops x).names = x.names := by unfold alOp; split <;> rfl
theorem alOp_ans : (alOp ops x).ans = x.ans := by unfold HOp.ans; rw [alOp_fin]
end
theorem al_at {ops : List HOp} {i : Nat} (hi : i < ops.length) : opAt (al ops) i = alOp ops (opAt ops i) := by
  refine opAt_of ?_
  unfold al
  rw [List.getElem?_map, opAt_get hi]; rfl
theorem al_len (ops : List HOp) : (al ops).length = ops.length := by unfold al; simp

/-! ### the tables -/
/-- may a call that was answered be told so at all? -/
def Poss (T : HTab) (x : HOp) : Prop :=
  (x.kind = 1 ∧ x.err = 0) ∨ (x.kind = 3 ∧ (x.err = 5 ∨ x.err = 0 ∧ hasL T.names x.name = true)) ∨
  (x.kind = 4 ∧ x.err = 0 ∧ x.names.Pairwise (fun a b => blt a b = true) ∧ ∀ n ∈ x.names, hasL T.names n = true) ∨
  ((x.kind = 2 ∨ x.kind = 5) ∧ (x.err = 5 ∨ x.err = 0 ∧ hasL T.names x.name = true ∧ x.got ∈ T.vals.getD (ixOf T.names x.name) []))
structure Prob (ops : List HOp) (T : HTab) : Prop where
  n20 : ops.length ≤ 20
  wide : ∀ x ∈ ops, Wide x
  kinds : ∀ i, i < ops.length → (opAt ops i).kind = 1 ∨ (opAt ops i).kind = 3 ∨ (((opAt ops i).kind = 2 ∨ (opAt ops i).kind = 4 ∨ (opAt ops i).kind = 5) ∧ (opAt ops i).ans = true)
  rise : T.names.Pairwise (fun a b => blt a b = true)
  nlen : T.names.length ≤ 20
  vlen : T.vals.length = T.names.length
  vnd : ∀ n, (T.vals.getD n []).Nodup
  v20 : ∀ n, (T.vals.getD n []).length ≤ 20
  prod : ∀ st : List Nat, (∀ n, st.getD n 0 ≤ (T.vals.getD n []).length) → ∀ n, n ≤ T.names.length → keyK T st n < 1048576
  name : T.name = ops.map fun x => idxV T.names x.name
  plen : T.put.length = ops.length
  put : ∀ i, i < ops.length → (opAt ops i).kind = 1 → hasL T.names (opAt ops i).name = true ∧ 0 < T.put.getD i 0 ∧ T.put.getD i 0 ≤ (T.vals.getD (ixOf T.names (opAt ops i).name) []).length ∧ (T.vals.getD (ixOf T.names (opAt ops i).name) []).getD (T.put.getD i 0 - 1) 0 = alikeV ops (opAt ops i)
  put0 : ∀ i, i < ops.length → (opAt ops i).kind ≠ 1 → T.put.getD i 0 = 0
  blen : T.before.length = ops.length
  before : ∀ i, i < ops.length → T.before.getD i 0 < 2 ^ ops.length ∧ ∀ k, k < ops.length → ((T.before.getD i 0).testBit k = true ↔ Pre (opAt ops k) (opAt ops i))
  need : T.need < 2 ^ ops.length ∧ ∀ k, k < ops.length → (T.need.testBit k = true ↔ (opAt ops k).ans = true)
  poss : ∀ i, i < ops.length → (opAt ops i).ans = true → Poss T (opAt ops i)

/-- the state that numbers mean -/
def stσ (T : HTab) (st : List Nat) : HSt := fun n => if hasL T.names n then (if st.getD (ixOf T.names n) 0 = 0 then none else some ((T.vals.getD (ixOf T.names n) []).getD (st.getD (ixOf T.names n) 0 - 1) 0)) else none
structure StOk (T : HTab) (st : List Nat) : Prop where
  len : st.length = T.names.length
  le : ∀ n, st.getD n 0 ≤ (T.vals.getD n []).length

section
variable {ops : List HOp} {T : HTab} {st : List Nat}
theorem Prob.nd (P : Prob ops T) : T.names.Nodup := P.rise.imp fun {a b} h e => by
  rw [e, blt_ordd.irr] at h; cases h
theorem Prob.name_at (P : Prob ops T) {i : Nat} (hi : i < ops.length) : T.name[i]? = some (idxV T.names (opAt ops i).name) := by
  rw [P.name, List.getElem?_map, opAt_get hi]; rfl
theorem Prob.namelen (P : Prob ops T) : T.name.length = ops.length := by rw [P.name]; simp
theorem nowV_at (P : Prob ops T) {i : Nat} (hi : i < ops.length) : nowV T st i = if hasL T.names (opAt ops i).name then st.getD (ixOf T.names (opAt ops i).name) 0 else 0 := by
  unfold nowV
  rw [P.name_at hi, idxV_eq]
  split <;> rfl
theorem now_none (P : Prob ops T) {i : Nat} (hi : i < ops.length) : nowV T st i = 0 ↔ stσ T st (opAt ops i).name = none := by
  rw [nowV_at P hi]
  unfold stσ
  split
  · split
    · rename_i h; exact ⟨fun _ => rfl, fun _ => h⟩
    · rename_i h; exact ⟨fun e => absurd e h, fun e => by cases e⟩
  · exact ⟨fun _ => rfl, fun _ => rfl⟩
theorem set_get {l : List Nat} {k n v : Nat} (hk : k < l.length) : (l.set k v).getD n 0 = if n = k then v else l.getD n 0 := by
  rw [List.getD_eq_getElem?_getD, List.getElem?_set]
  by_cases h : n = k
  · subst h; simp [hk]
  · rw [if_neg (Ne.symm h), if_neg h, ← List.getD_eq_getElem?_getD]
theorem stσ_set (hl : st.length = T.names.length) {m : ByteArray} (hm : hasL T.names m = true) {v : Nat} :
    stσ T (st.set (ixOf T.names m) v) = hset (stσ T st) m (if v = 0 then none else some ((T.vals.getD (ixOf T.names m) []).getD (v - 1) 0)) := by
  have hlt : ixOf T.names m < st.length := by rw [hl]; exact ixOf_lt hm
  funext n
  unfold stσ hset
  by_cases hn : hasL T.names n = true
  · rw [if_pos hn]
    by_cases e : n = m
    · subst e
      rw [if_pos rfl, set_get hlt, if_pos rfl]
    · have hne : ixOf T.names n ≠ ixOf T.names m := fun h => e (ixOf_inj hn hm h)
      rw [if_neg e, set_get hlt, if_neg hne]
      simp only [hn, if_true]
  · have e : n ≠ m := fun h => hn (h ▸ hm)
    rw [if_neg hn, if_neg e]
    simp [hn]
theorem StOk.set (h : StOk T st) {k v : Nat} (hk : k < st.length) (hv : v ≤ (T.vals.getD k []).length) : StOk T (st.set k v) where
  len := by rw [List.length_set]; exact h.len
  le := fun n => by
    rw [set_get hk]
    split
    · rename_i e; rw [e]; exact hv
    · exact h.le n

/-- the key tells all -/
theorem keyK_inj : ∀ (n : Nat) {st st' : List Nat}, (∀ k, st.getD k 0 ≤ (T.vals.getD k []).length) → (∀ k, st'.getD k 0 ≤ (T.vals.getD k []).length) → keyK T st n = keyK T st' n → ∀ k, k < n → st.getD k 0 = st'.getD k 0
  | 0, _, _, _, _, _, _, h => by omega
  | n + 1, st, st', h1, h2, he, k, hk => by
    unfold keyK at he
    have a1 := h1 n
    have a2 := h2 n
    generalize hc : (T.vals.getD n []).length = c at he a1 a2
    have key : ∀ p q a b : Nat, a ≤ c → b ≤ c → p * (c + 1) + a = q * (c + 1) + b → p = q ∧ a = b := by
      intro p q a b ha hb h
      have e1 : (p * (c + 1) + a) / (c + 1) = p := by
        rw [Nat.mul_comm, Nat.mul_add_div (by omega), Nat.div_eq_of_lt (by omega), Nat.add_zero]
      have e2 : (q * (c + 1) + b) / (c + 1) = q := by
        rw [Nat.mul_comm, Nat.mul_add_div (by omega), Nat.div_eq_of_lt (by omega), Nat.add_zero]
      have : p = q := by rw [← e1, ← e2, h]
      subst this
      exact ⟨rfl, by omega⟩
    obtain ⟨k1, k2⟩ := key _ _ _ _ a1 a2 he
    by_cases e : k = n
    · subst e; exact k2
    · exact keyK_inj n h1 h2 k1 k (by omega)
theorem keyV_inj {st st' : List Nat} {d d' : Nat} (h : StOk T st) (h' : StOk T st') (hd : d < 1048576) (hd' : d' < 1048576) (he : keyV T st d = keyV T st' d') : st = st' ∧ d = d' := by
  unfold keyV at he
  have h1 : keyK T st T.names.length = keyK T st' T.names.length ∧ d = d' := by omega
  refine ⟨?_, h1.2⟩
  have h2 := keyK_inj T.names.length h.le h'.le h1.1
  apply List.ext_getElem?
  intro k
  by_cases hk : k < T.names.length
  · have := h2 k hk
    rw [List.getD_eq_getElem?_getD, List.getD_eq_getElem?_getD, List.getElem?_eq_getElem (by rw [h.len]; exact hk), List.getElem?_eq_getElem (by rw [h'.len]; exact hk)] at this
    rw [List.getElem?_eq_getElem (by rw [h.len]; exact hk), List.getElem?_eq_getElem (by rw [h'.len]; exact hk)]
    exact congrArg some this
  · rw [List.getElem?_eq_none (by rw [h.len]; omega), List.getElem?_eq_none (by rw [h'.len]; omega)]
end
end Go.Proofs.Ytlodaffiamegpaa
