/-
  Layer 18, plain: what a search asks of a call, and what it means.
-/
import Derived.Test.YtlodaffiamegpaaHistNum
namespace Go.Proofs.Ytlodaffiamegpaa

section
variable {ops : List HOp} {T : HTab} {st : List Nat} {d i : Nat}

theorem liveN_mem (P : Prob ops T) (_hs : StOk T st) {n : ByteArray} : n ∈ liveN T.names st T.names.length ↔ stσ T st n ≠ none := by
  unfold liveN stσ
  rw [List.mem_map]
  constructor
  · rintro ⟨k, hk, rfl⟩
    rw [List.mem_filter, List.mem_range] at hk
    obtain ⟨h1, h2⟩ := hk
    have hg : T.names[k]? = some (T.names.getD k ByteArray.empty) := by rw [List.getD_eq_getElem?_getD, List.getElem?_eq_getElem h1]; rfl
    obtain ⟨h3, h4⟩ := ixOf_at P.nd hg
    rw [if_pos h3, h4, if_neg (by simpa using h2)]
    simp
  · intro h
    by_cases hn : hasL T.names n = true
    · rw [if_pos hn] at h
      refine ⟨ixOf T.names n, List.mem_filter.2 ⟨List.mem_range.2 (ixOf_lt hn), ?_⟩, ?_⟩
      · by_cases h0 : st.getD (ixOf T.names n) 0 = 0
        · rw [if_pos h0] at h; exact absurd rfl h
        · simpa using h0
      · rw [List.getD_eq_getElem?_getD, ixOf_get hn]; rfl
    · rw [if_neg hn] at h; exact absurd rfl h
theorem liveN_rise (P : Prob ops T) : (liveN T.names st T.names.length).Pairwise (fun a b => blt a b = true) := by
  unfold liveN
  rw [List.pairwise_map]
  refine List.Pairwise.imp_of_mem (R := fun a b => a < b) (fun {a b} ha hb h => ?_) (List.Pairwise.filter _ List.pairwise_lt_range)
  have h1 := List.mem_range.1 (List.mem_filter.1 ha).1
  have h2 := List.mem_range.1 (List.mem_filter.1 hb).1
  have := List.pairwise_iff_getElem.1 P.rise a b h1 h2 h
  rw [List.getD_eq_getElem?_getD, List.getD_eq_getElem?_getD, List.getElem?_eq_getElem h1, List.getElem?_eq_getElem h2]
  exact this
theorem rise_eq {a b : List ByteArray} (ha : a.Pairwise (fun a b => blt a b = true)) (hb : b.Pairwise (fun a b => blt a b = true)) (h : ∀ n, n ∈ a ↔ n ∈ b) : a = b := by
  have irr : ∀ {l : List ByteArray}, l.Pairwise (fun a b => blt a b = true) → l.Nodup := fun hl => hl.imp fun {a b} hab e => by
    rw [e, blt_ordd.irr] at hab; cases hab
  refine List.Perm.eq_of_pairwise (le := fun a b => blt a b = true) (fun a b _ _ h1 h2 => ?_) ha hb ((List.perm_ext_iff_of_nodup (irr ha) (irr hb)).2 h)
  have := blt_ordd.tr h1 h2
  rw [blt_ordd.irr] at this; cases this
theorem now_some (P : Prob ops T) (hi : i < ops.length) (h0 : 0 < nowV T st i) : hasL T.names (opAt ops i).name = true ∧ nowV T st i = st.getD (ixOf T.names (opAt ops i).name) 0 ∧
    stσ T st (opAt ops i).name = some ((T.vals.getD (ixOf T.names (opAt ops i).name) []).getD (nowV T st i - 1) 0) := by
  have hn := nowV_at (st := st) P hi
  by_cases hm : hasL T.names (opAt ops i).name = true
  · rw [if_pos hm] at hn
    refine ⟨hm, hn, ?_⟩
    unfold stσ
    rw [if_pos hm, if_neg (by omega), ← hn]
  · rw [if_neg hm] at hn; omega
theorem last_at (P : Prob ops T) (hi : i < ops.length) (hm : hasL T.names (opAt ops i).name = true) (nw got : Nat) : lastB T nw got T.name[i]? = ((T.vals.getD (ixOf T.names (opAt ops i).name) []).getD (nw - 1) 0 == got) := by
  rw [P.name_at hi, idxV_eq, if_pos hm]; rfl

/-- what is quiet is so, and changes nothing -/
theorem quiet_ok (P : Prob ops T) (hs : StOk T st) (hi : i < ops.length) (hq : quietB T st i (opAt ops i) = true) : (opAt ops i).ans = true ∧ (alOp ops (opAt ops i)).ok (stσ T st) ∧ Still (alOp ops (opAt ops i)) := by
  unfold quietB at hq
  generalize hx : opAt ops i = x at hq
  have hnn := now_none (st := st) P hi
  have hns := @now_some ops T st i P hi
  have hla := @last_at ops T i P hi
  have hps := P.poss i hi
  rw [hx] at hnn hns hla hps
  split at hq
  · cases hq
  rename_i h1
  have ha : x.ans = true := by
    cases h : x.ans
    · exact absurd (.inl h) h1
    · rfl
  have hk1 : x.kind ≠ 1 := fun h => h1 (.inr h)
  have hp := hps ha
  refine ⟨ha, ?_⟩
  have hal : alOp ops x = x := by unfold alOp; rw [if_neg hk1]
  rw [hal]
  split at hq
  · rename_i h4
    have hl : liveN T.names st T.names.length = x.names := by simpa using hq
    rcases hp with h | h | h | h
    · omega
    · omega
    · refine ⟨.inr (.inr (.inr (.inr ⟨h4, h.2.1, h.2.2.1, fun n => by rw [← hl, liveN_mem P hs]⟩))), fun τ _ => ?_⟩
      unfold HOp.eff; rw [if_neg hk1, if_neg (by omega)]
    · omega
  · rename_i h4
    split at hq
    · rename_i h5
      have h0 : nowV T st i = 0 := by simpa using hq
      have hσ := hnn.1 h0
      rcases hp with h | h | h | h
      · omega
      · refine ⟨.inr (.inr (.inr (.inl ⟨h.1, .inr ⟨hσ, h5⟩⟩))), fun τ hok => ?_⟩
        have hτ : τ x.name = none := by
          rcases hok with hh | hh
          · rw [ha] at hh; cases hh
          · rcases hh with hh | hh | hh | hh
            · omega
            · omega
            · rcases hh.2 with ⟨_, e⟩ | ⟨e, _⟩
              · omega
              · exact e
            · omega
        unfold HOp.eff hset
        rw [if_neg hk1, if_pos h.1]
        funext k
        split
        · rename_i e; rw [e]; exact hτ.symm
        · rfl
      · omega
      · refine ⟨.inr (.inr (.inl ⟨h.1, .inr ⟨hσ, h5⟩⟩)), fun τ _ => ?_⟩
        unfold HOp.eff; rw [if_neg hk1, if_neg (by omega)]
    · rename_i h5
      split at hq
      · rename_i hr
        obtain ⟨hrb, h0⟩ := hr
        obtain ⟨hm, hn1, hσ⟩ := hns h0
        rw [hla hm] at hq
        have hg : (T.vals.getD (ixOf T.names x.name) []).getD (nowV T st i - 1) 0 = x.got := by simpa using hq
        have hk : x.kind = 2 ∨ x.kind = 5 := by
          unfold HOp.readsB at hrb
          simp only [Bool.or_eq_true, beq_iff_eq] at hrb
          omega
        rcases hp with h | h | h | h
        · omega
        · omega
        · omega
        · refine ⟨.inr (.inr (.inl ⟨h.1, .inl ⟨_, hσ, ?_, hg.symm⟩⟩)), fun τ _ => ?_⟩
          · rcases h.2 with h | h
            · exact absurd h h5
            · exact h.1
          · unfold HOp.eff; rw [if_neg hk1, if_neg (by omega)]
      · cases hq
/-- and what is so, and changes nothing, is quiet -/
theorem ok_quiet (P : Prob ops T) (hs : StOk T st) (hi : i < ops.length) (ha : (opAt ops i).ans = true) (hok : (alOp ops (opAt ops i)).ok (stσ T st))
    (hk : (opAt ops i).reads ∨ (opAt ops i).kind = 3 ∧ stσ T st (opAt ops i).name = none) : quietB T st i (opAt ops i) = true := by
  unfold quietB
  generalize hx : opAt ops i = x at *
  have hnn := now_none (st := st) P hi
  have hns := @now_some ops T st i P hi
  have hla := @last_at ops T i P hi
  have hps := P.poss i hi
  have hkd := P.kinds i hi
  rw [hx] at hnn hns hla hps hkd
  have hp := hps ha
  have hk1 : x.kind ≠ 1 := by
    rcases hk with h | h
    · exact h.1
    · omega
  have hal : alOp ops x = x := by unfold alOp; rw [if_neg hk1]
  rw [hal] at hok
  rcases hok with h | hok
  · rw [ha] at h; cases h
  rw [if_neg (by rw [ha]; simp [hk1])]
  by_cases h4 : x.kind = 4
  · rw [if_pos h4]
    rcases hok with h | h | h | h
    · omega
    · omega
    · omega
    · refine decide_eq_true (rise_eq (liveN_rise P) h.2.2.1 fun n => ?_)
      rw [liveN_mem P hs, h.2.2.2]
  · rw [if_neg h4]
    by_cases h3 : x.kind = 3
    · have hσ : stσ T st x.name = none := by
        rcases hk with h | h
        · exact absurd h3 h.2
        · exact h.2
      have h5 : x.err = 5 := by
        rcases hok with h | h | h | h
        · omega
        · omega
        · rcases h.2 with ⟨e, _⟩ | ⟨_, e⟩
          · exact absurd hσ e
          · exact e
        · omega
      rw [if_pos h5]
      simpa using hnn.2 hσ
    · have h25 : x.kind = 2 ∨ x.kind = 5 := by omega
      rcases hok with h | h | h | h
      · omega
      · rcases h.2 with ⟨v, hσ, he, hg⟩ | ⟨hσ, he⟩
        · rw [if_neg (by omega)]
          have h0 : 0 < nowV T st i := by
            rcases Nat.eq_zero_or_pos (nowV T st i) with h0 | h0
            · have := hnn.1 h0; rw [this] at hσ; cases hσ
            · exact h0
          obtain ⟨hm, hn1, hσ2⟩ := hns h0
          have hrb : x.readsB = true := by unfold HOp.readsB; rcases h25 with h | h <;> simp [h]
          rw [if_pos ⟨hrb, h0⟩, hla hm]
          rw [hσ2] at hσ
          simp only [Option.some.injEq] at hσ
          rw [hσ, hg]; simp
        · rw [if_pos he]
          simpa using hnn.2 hσ
      · omega
      · omega

/-- ready, as bits -/
theorem ready_iff (P : Prob ops T) (hi : i < ops.length) : (!d.testBit i && T.before.getD i 0 &&& d == T.before.getD i 0) = true ↔ Ready (al ops) (bitD d) i := by
  have hb := P.before i hi
  rw [Bool.and_eq_true, beq_iff_eq, sub_bits, Bool.not_eq_true']
  unfold Ready bitD
  refine and_congr Iff.rfl ⟨fun h k hk hp => ?_, fun h k hk => ?_⟩
  · rw [al_len] at hk
    refine h k ((hb.2 k hk).2 ?_)
    rw [al_at hk, al_at hi] at hp
    unfold Pre at hp ⊢
    rw [alOp_ans, alOp_fin, alOp_start] at hp
    exact hp
  · have hkl := bit_lt hb.1 hk
    refine h k (by rw [al_len]; exact hkl) ?_
    rw [al_at hkl, al_at hi]
    have := (hb.2 k hkl).1 hk
    unfold Pre at this ⊢
    rw [alOp_ans, alOp_fin, alOp_start]
    exact this
/-- nothing that was answered is left -/
theorem over_iff (P : Prob ops T) : (d &&& T.need == T.need) = true ↔ ∀ k, k < (al ops).length → (opAt (al ops) k).ans = true → bitD d k = true := by
  rw [beq_iff_eq, Nat.and_comm, sub_bits]
  constructor
  · intro h k hk ha
    rw [al_len] at hk
    rw [al_at hk, alOp_ans] at ha
    exact h k ((P.need.2 k hk).2 ha)
  · intro h k hk
    have hkl := bit_lt P.need.1 hk
    exact h k (by rw [al_len]; exact hkl) (by rw [al_at hkl, alOp_ans]; exact (P.need.2 k hkl).1 hk)

/-- may a call that isn't a read come next, and does it change anything? -/
def actsB (T : HTab) (st : List Nat) (i : Nat) (x : HOp) : Bool := !x.readsB && !(x.kind == 3 && (nowV T st i == 0 || (x.err != 0 && x.ans)))
theorem acts_iff (P : Prob ops T) (hi : i < ops.length) : actsB T st i (opAt ops i) = true ↔ Acts (alOp ops (opAt ops i)) (stσ T st) := by
  unfold actsB Acts HOp.readsB
  have hnn := now_none (st := st) P hi
  have hps := P.poss i hi
  have hkd := P.kinds i hi
  have hnm : (alOp ops (opAt ops i)).name = (opAt ops i).name := alOp_name _ _
  have hkk : (alOp ops (opAt ops i)).kind = (opAt ops i).kind := alOp_kind _ _
  unfold HOp.ok HOp.tells
  rw [alOp_ans, hkk, hnm, alOp_err, alOp_got, alOp_names]
  generalize opAt ops i = x at *
  simp only [Bool.and_eq_true, Bool.not_eq_true', Bool.or_eq_false_iff, beq_eq_false_iff_ne, Bool.and_eq_false_iff, ne_eq, bne_eq_false_iff_eq]
  rcases hkd with h1 | h3 | ⟨h2, ha⟩
  · have hp : x.ans = true → x.err = 0 := fun h => by
      rcases hps h with h | h | h | h
      · exact h.2
      all_goals omega
    constructor
    · rintro -
      refine ⟨?_, .inl h1⟩
      cases ha : x.ans
      · exact .inl rfl
      · exact .inr (.inl ⟨h1, hp ha⟩)
    · rintro -
      exact ⟨⟨⟨by omega, by omega⟩, by omega⟩, .inl (by omega)⟩
  · constructor
    · rintro ⟨-, h⟩
      rcases h with h | ⟨h, h'⟩
      · exact absurd h3 h
      · have hσ : ¬ stσ T st x.name = none := fun e => h (hnn.2 e)
        refine ⟨?_, .inr ⟨h3, hσ⟩⟩
        rcases h' with h' | h'
        · exact .inr (.inr (.inr (.inl ⟨h3, .inl ⟨hσ, h'⟩⟩)))
        · exact .inl h'
    · rintro ⟨hok, hh⟩
      have hσ : ¬ stσ T st x.name = none := by
        rcases hh with hh | hh
        · omega
        · exact hh.2
      refine ⟨⟨⟨by omega, by omega⟩, by omega⟩, .inr ⟨fun e => hσ (hnn.1 e), ?_⟩⟩
      rcases hok with h | h | h | h | h
      · exact .inr h
      · omega
      · omega
      · rcases h.2 with ⟨_, e⟩ | ⟨e, _⟩
        · exact .inl e
        · exact absurd e hσ
      · omega
  · constructor
    · rintro ⟨h, -⟩; omega
    · rintro ⟨-, h⟩
      rcases h with h | h <;> omega
/-- the state behind it -/
theorem acts_eff (P : Prob ops T) (hs : StOk T st) (hi : i < ops.length) (ha : Acts (alOp ops (opAt ops i)) (stσ T st)) :
    hasL T.names (opAt ops i).name = true ∧ T.put.getD i 0 ≤ (T.vals.getD (ixOf T.names (opAt ops i).name) []).length ∧
    (alOp ops (opAt ops i)).eff (stσ T st) = stσ T (st.set (ixOf T.names (opAt ops i).name) (T.put.getD i 0)) := by
  have hnm : (alOp ops (opAt ops i)).name = (opAt ops i).name := alOp_name _ _
  have hkk : (alOp ops (opAt ops i)).kind = (opAt ops i).kind := alOp_kind _ _
  rcases ha.2 with h1 | ⟨h3, hσ⟩
  · rw [hkk] at h1
    obtain ⟨p1, p2, p3, p4⟩ := P.put i hi h1
    refine ⟨p1, p3, ?_⟩
    rw [stσ_set hs.len p1, if_neg (by omega), p4]
    unfold HOp.eff
    rw [hkk, if_pos h1, hnm]
    congr 2
    unfold alOp; rw [if_pos h1]
  · rw [hkk] at h3
    rw [hnm] at hσ
    have p1 : hasL T.names (opAt ops i).name = true := by
      refine Classical.byContradiction fun h => hσ ?_
      unfold stσ; rw [if_neg h]
    have p0 := P.put0 i hi (by omega)
    refine ⟨p1, by omega, ?_⟩
    rw [p0, stσ_set hs.len p1, if_pos rfl]
    unfold HOp.eff
    rw [hkk, if_neg (by omega), if_pos h3, hnm]
end

/-! ### the search's steps -/
section
variable {ops : List HOp} {T : HTab} {st : List Nat} {d i : Nat}
def readyB (T : HTab) (d i : Nat) : Bool := !d.testBit i && T.before.getD i 0 &&& d == T.before.getD i 0
def CanN (ops : List HOp) (T : HTab) (d : Nat) (st : List Nat) : Prop := Can (al ops) (bitD d) (stσ T st)
theorem al_wide (P : Prob ops T) : ∀ x ∈ al ops, Wide x := by
  intro x hx
  unfold al at hx
  obtain ⟨y, hy, rfl⟩ := List.mem_map.1 hx
  have := P.wide y hy
  unfold Wide at this ⊢
  rw [alOp_ans, alOp_start, alOp_fin]
  exact this
theorem step_quiet (P : Prob ops T) (hs : StOk T st) (hi : i < ops.length) (hr : readyB T d i = true) (hq : quietB T st i (opAt ops i) = true) : CanN ops T d st ↔ CanN ops T (d ||| 2 ^ i) st := by
  obtain ⟨_, h1, h2⟩ := quiet_ok P hs hi hq
  unfold CanN
  rw [bitD_or]
  exact can_quiet (by rw [al_len]; exact hi) ((ready_iff P hi).1 hr) (by rw [al_at hi]; exact h1) (by rw [al_at hi]; exact h2)
theorem step_over (P : Prob ops T) (h : (d &&& T.need == T.need) = true) : CanN ops T d st := can_over ((over_iff P).1 h)
theorem step_next (P : Prob ops T) (hs : StOk T st) (hi : i < ops.length) (hr : readyB T d i = true) (ha : actsB T st i (opAt ops i) = true) (h : CanN ops T (d ||| 2 ^ i) (st.set (ixOf T.names (opAt ops i).name) (T.put.getD i 0))) : CanN ops T d st := by
  have ha' := (acts_iff P hi).1 ha
  have he := (acts_eff P hs hi ha').2.2
  unfold CanN at h ⊢
  rw [bitD_or, ← he] at h
  exact can_next (by rw [al_len]; exact hi) ((ready_iff P hi).1 hr) (by rw [al_at hi]; exact ha'.1) (by rw [al_at hi]; exact h)
theorem step_none (P : Prob ops T) (hs : StOk T st) (hq : ∀ i, i < ops.length → ¬ (readyB T d i = true ∧ quietB T st i (opAt ops i) = true)) (ho : (d &&& T.need == T.need) = false)
    (h : ∀ i, i < ops.length → readyB T d i = true → actsB T st i (opAt ops i) = true → ¬ CanN ops T (d ||| 2 ^ i) (st.set (ixOf T.names (opAt ops i).name) (T.put.getD i 0))) : ¬ CanN ops T d st := by
  intro hc
  obtain ⟨i, hi, hr, ha, hn⟩ := can_branch (al_wide P) (fun i hi => by
      rw [al_len] at hi
      rw [al_at hi, alOp_kind, alOp_ans]
      rcases P.kinds i hi with h | h | h
      · exact .inl h
      · exact .inr (.inl h)
      · refine .inr (.inr ⟨⟨?_, ?_⟩, h.2⟩) <;> rw [alOp_kind] <;> omega)
    (fun i hi hr ha hok hk => by
      rw [al_len] at hi
      rw [al_at hi] at ha hok hk
      rw [alOp_ans] at ha
      refine hq i hi ⟨(ready_iff P hi).2 hr, ok_quiet P hs hi ha hok ?_⟩
      unfold HOp.reads at hk ⊢
      rw [alOp_kind, alOp_name] at hk
      exact hk)
    (fun hh => by rw [(over_iff P).2 hh] at ho; cases ho) hc
  rw [al_len] at hi
  rw [al_at hi] at ha hn
  refine h i hi ((ready_iff P hi).2 hr) ((acts_iff P hi).2 ha) ?_
  unfold CanN
  rw [bitD_or, ← (acts_eff P hs hi ha).2.2]
  exact hn
end
end Go.Proofs.Ytlodaffiamegpaa
