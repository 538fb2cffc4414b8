/-
  Disks with any files: what the calls keep. Plain.
-/
import Derived.Test.YteleafbfdfipdaaSafe
import Derived.Test.YteleafbfdfipdaaRemove
namespace Go.Proofs.Yteleafbfdfipdaa

theorem get_put (D : Dk) (n : ByteArray) (f : Fl) (n' : ByteArray) : (D.put n f).2.get n' = D.get n' ∨ (n' = n ∧ (D.put n f).2.get n' = if f.nt || f.st then f else Fl.zero) := by
  unfold Dk.put
  split
  · exact .inl rfl
  · rw [get_lputf]
    by_cases h : n' = n
    · rw [if_pos h]; exact .inr ⟨h, rfl⟩
    · rw [if_neg h]; exact .inl rfl
theorem get_put_ne (D : Dk) {n n' : ByteArray} (f : Fl) (h : n' ≠ n) : (D.put n f).2.get n' = D.get n' := by
  rcases get_put D n f n' with e | ⟨e, _⟩
  · exact e
  · exact absurd e h
theorem get_put_ok (D : Dk) (n : ByteArray) (f : Fl) (hg : D.grow n f ≤ 0) : (D.put n f).2.get n = if f.nt || f.st then f else Fl.zero := by
  unfold Dk.put
  rw [if_neg (by omega)]
  rw [get_lputf, if_pos rfl]
theorem lput_length {ν : Type} (L : List (ByteArray × ν)) (n : ByteArray) (v : ν) : (lput blt n v L).length ≤ L.length + 1 := by
  induction L with
  | nil => simp [lput]
  | cons p r ih =>
    unfold lput
    split
    · simp
    · split
      · simp only [List.length_cons]; omega
      · simp
theorem lput_length_in {ν : Type} (L : List (ByteArray × ν)) (n : ByteArray) (v : ν) (h : lget n L ≠ none) : Rises blt L → (lput blt n v L).length = L.length := by
  induction L with
  | nil => exact absurd rfl h
  | cons p r ih =>
    intro hr
    obtain ⟨h1, h2⟩ := List.pairwise_cons.1 hr
    obtain ⟨a, x⟩ := p
    unfold lput
    split
    · rename_i hlt
      exfalso
      apply h
      rw [lget_none]
      intro q hq e
      have hlt' : blt n a = true := hlt
      rcases List.mem_cons.1 hq with rfl | hq
      · rw [← e, blt_ordd.irr] at hlt'; cases hlt'
      · have := blt_ordd.tr hlt' (h1 q hq); rw [e, blt_ordd.irr] at this; cases this
    · split
      · rename_i hgt
        simp only [List.length_cons]
        rw [ih (fun e => h (by
          rw [lget_cons]
          have hne : ¬ a = n := fun e => by have hgt' : blt a n = true := hgt; rw [e, blt_ordd.irr] at hgt'; cases hgt'
          rw [if_neg hne, e])) h2]
      · simp
theorem put_length (D : Dk) (n : ByteArray) (f : Fl) : (D.put n f).2.files.length ≤ D.files.length + 1 := by
  unfold Dk.put
  split
  · simp
  · simp only [lputf]
    split
    · exact lput_length _ _ _
    · exact Nat.le_trans (List.length_filter_le _ _) (by omega)
theorem put_length_in (D : Dk) (h : Rises blt D.files) (n : ByteArray) (f : Fl) (hf : lget n D.files = none → (f.nt || f.st) = false) : (D.put n f).2.files.length ≤ D.files.length := by
  unfold Dk.put
  split
  · simp
  · simp only [lputf]
    split
    · rename_i hs
      rw [lput_length_in _ _ _ (fun e => by rw [hf e] at hs; cases hs) h]; exact Nat.le_refl _
    · exact List.length_filter_le _ _
theorem get_none {D : Dk} {n : ByteArray} (h : lget n D.files = none) : D.get n = Fl.zero := by unfold Dk.get; rw [h]; rfl
theorem put_same (D : Dk) (n : ByteArray) (f : Fl) : (D.put n f).2.lost = D.lost ∧ (D.put n f).2.armed = D.armed ∧ (D.put n f).2.room = D.room := by
  unfold Dk.put; split <;> exact ⟨rfl, rfl, rfl⟩

/-- A disk on which one file is, and is safe; texts of at most B bytes; at most N files. -/
structure Holds1 (nm txt : ByteArray) (B N : Nat) (D : Dk) : Prop where
  ok : D.Ok
  lost : D.lost = false
  have_ : D.get nm = ⟨true, txt, true, txt⟩
  small : ∀ n, (D.get n).nx.size ≤ B ∧ (D.get n).sx.size ≤ B
  few : D.files.length ≤ N

section
variable {nm txt : ByteArray} {B N : Nat} {D : Dk}
theorem Holds1.mono (h : Holds1 nm txt B N D) {B' N' : Nat} (hB : B ≤ B') (hN : N ≤ N') : Holds1 nm txt B' N' D :=
  ⟨h.ok, h.lost, h.have_, fun n => ⟨Nat.le_trans (h.small n).1 hB, Nat.le_trans (h.small n).2 hB⟩, Nat.le_trans h.few hN⟩
theorem Holds1.tick (h : Holds1 nm txt B N D) : Holds1 nm txt B N D.tick := ⟨h.ok.tick, h.lost, h.have_, h.small, h.few⟩
theorem Holds1.fail (h : Holds1 nm txt B N D) (n : Int) : Holds1 nm txt B N (D.fail n) := by
  refine ⟨⟨h.ok.u0, h.ok.u1, h.ok.r1, ?_, ?_, h.ok.srt, h.ok.keys, h.ok.t⟩, h.lost, h.have_, h.small, h.few⟩
  · unfold Dk.fail; simp only; split <;> omega
  · unfold Dk.fail; simp only; split <;> omega
theorem Holds1.put (h : Holds1 nm txt B N D) {n : ByteArray} (hn : n.size ≤ maxLen) (hne : nm ≠ n) {f : Fl} {B' : Nat} (hB : B ≤ B') (hm : B' ≤ maxLen) (h1 : f.nx.size ≤ B') (h2 : f.sx.size ≤ B') : Holds1 nm txt B' (N + 1) (D.put n f).2 :=
  ⟨h.ok.put hn (Nat.le_trans h1 hm) (Nat.le_trans h2 hm), by rw [(put_same D n f).1]; exact h.lost, by rw [get_put_ne D f hne]; exact h.have_,
   get_put_le (fun n => ⟨Nat.le_trans (h.small n).1 hB, Nat.le_trans (h.small n).2 hB⟩) n f ⟨h1, h2⟩, Nat.le_trans (put_length D n f) (by have := h.few; omega)⟩
theorem Holds1.put_in (h : Holds1 nm txt B N D) {n : ByteArray} (hn : n.size ≤ maxLen) (hne : nm ≠ n) {f : Fl} (hm : B ≤ maxLen) (h1 : f.nx.size ≤ B) (h2 : f.sx.size ≤ B) (hf : lget n D.files = none → (f.nt || f.st) = false) : Holds1 nm txt B N (D.put n f).2 :=
  ⟨h.ok.put hn (Nat.le_trans h1 hm) (Nat.le_trans h2 hm), by rw [(put_same D n f).1]; exact h.lost, by rw [get_put_ne D f hne]; exact h.have_,
   get_put_le h.small n f ⟨h1, h2⟩, Nat.le_trans (put_length_in D h.ok.srt n f hf) h.few⟩
theorem Holds1.change (h : Holds1 nm txt B N D) {n : ByteArray} (hn : n.size ≤ maxLen) (hne : nm ≠ n) {g : ByteArray → ByteArray} {B' : Nat} (hB : B ≤ B') (hm : B' ≤ maxLen) (hg : (g (D.get n).nx).size ≤ B') : Holds1 nm txt B' (N + 1) (D.change n g).2 := by
  unfold Dk.change
  split
  · exact h.tick.mono hB (by omega)
  · split
    · exact h.tick.mono hB (by omega)
    · exact h.tick.put hn hne hB hm hg (Nat.le_trans (h.small n).2 hB)
theorem Holds1.remove (h : Holds1 nm txt B N D) {n : ByteArray} (hn : n.size ≤ maxLen) (hne : nm ≠ n) (hm : B ≤ maxLen) : Holds1 nm txt B (N + 1) (D.remove [n]).2 := by
  unfold Dk.remove
  split
  · exact h.tick.mono (Nat.le_refl _) (by omega)
  · split
    · exact h.tick.put hn hne (Nat.le_refl _) hm (Nat.zero_le _) (h.small n).2
    · exact h.tick.mono (Nat.le_refl _) (by omega)
/-- a file that is safe is as it was behind its sync -/
theorem sync1_safe {D : Dk} {n : ByteArray} {txt : ByteArray} (h : D.get n = ⟨true, txt, true, txt⟩) : (D.sync1 n).get n = ⟨true, txt, true, txt⟩ := by
  unfold Dk.sync1
  rw [get_put_ok _ _ _ (by unfold Dk.grow; rw [h]; simp only; omega), h]
  rfl
theorem Holds1.sync1 (h : Holds1 nm txt B N D) {n : ByteArray} (hn : n.size ≤ maxLen) (hm : B ≤ maxLen) : Holds1 nm txt B N (D.sync1 n) := by
  by_cases e : nm = n
  · subst e
    refine ⟨h.ok.sync1 hn, by unfold Dk.sync1; rw [(put_same _ _ _).1]; exact h.lost, sync1_safe h.have_, ?_, ?_⟩
    · unfold Dk.sync1
      exact get_put_le h.small _ _ ⟨(h.small _).1, (h.small _).1⟩
    · unfold Dk.sync1
      refine Nat.le_trans (put_length_in D h.ok.srt _ _ (fun e => ?_)) h.few
      have := get_none e
      rw [h.have_] at this; cases this
  · exact h.put_in hn e hm (h.small n).1 (h.small n).1 (fun e => by rw [get_none e]; rfl)
theorem Holds1.syncL (h : Holds1 nm txt B N D) {ns : List ByteArray} (hn : ∀ n ∈ ns, n.size ≤ maxLen) (hm : B ≤ maxLen) : Holds1 nm txt B N (D.syncL ns) := by
  unfold Dk.syncL
  induction ns generalizing D with
  | nil => exact h
  | cons n r ih => exact ih (h.sync1 (hn n (List.mem_cons_self ..)) hm) (fun n' h' => hn n' (List.mem_cons_of_mem _ h'))
theorem Holds1.sync (h : Holds1 nm txt B N D) {ns : List ByteArray} (hn : ∀ n ∈ ns, n.size ≤ maxLen) (hm : B ≤ maxLen) : Holds1 nm txt B N (D.sync ns).2 := by
  unfold Dk.sync
  split
  · exact h.tick
  · refine h.tick.syncL (fun n h' => ?_) hm
    split at h'
    · obtain ⟨p, hp, rfl⟩ := List.mem_map.1 h'
      exact h.ok.keys p hp
    · exact hn n h'
end

/-! ### behind a crash all is safe -/
theorem left_grow (D : Dk) (n : ByteArray) (ch : List Int) (k : Nat) : D.grow n ⟨((D.get n).left ch k).1, ((D.get n).left ch k).2, ((D.get n).left ch k).1, ((D.get n).left ch k).2⟩ ≤ 0 := by
  have := left_size (D.get n) ch k (max (D.get n).nx.size (D.get n).sx.size) (Nat.le_max_left _ _) (Nat.le_max_right _ _)
  unfold Dk.grow wt
  simp only
  omega
theorem crash1_safe (ch : List Int) (s : Dk × Nat) (n : ByteArray) : ((Dk.crash1 ch s n).1.get n).safe = true := by
  unfold Dk.crash1
  split
  · assumption
  · rw [get_put_ok _ _ _ (left_grow _ _ _ _)]
    split <;> simp [Fl.safe, Fl.zero]
theorem crash1_keeps (ch : List Int) (s : Dk × Nat) (n n' : ByteArray) (h : (s.1.get n').safe = true) : (Dk.crash1 ch s n).1.get n' = s.1.get n' := by
  unfold Dk.crash1
  split
  · rfl
  · rename_i hs
    by_cases e : n' = n
    · subst e; exact absurd h hs
    · exact get_put_ne _ _ e
theorem crashL_keeps (ch : List Int) (ns : List ByteArray) : ∀ (s : Dk × Nat) (n' : ByteArray), (s.1.get n').safe = true → (ns.foldl (Dk.crash1 ch) s).1.get n' = s.1.get n' := by
  induction ns with
  | nil => exact fun _ _ _ => rfl
  | cons n r ih =>
    intro s n' h
    have h1 := crash1_keeps ch s n n' h
    show (r.foldl (Dk.crash1 ch) (Dk.crash1 ch s n)).1.get n' = _
    rw [ih _ n' (by rw [h1]; exact h), h1]
theorem crashL_safe (ch : List Int) (ns : List ByteArray) : ∀ (s : Dk × Nat) (n' : ByteArray), n' ∈ ns → ((ns.foldl (Dk.crash1 ch) s).1.get n').safe = true := by
  induction ns with
  | nil => exact fun _ _ h => by cases h
  | cons n r ih =>
    intro s n' h
    show ((r.foldl (Dk.crash1 ch) (Dk.crash1 ch s n)).1.get n').safe = true
    rcases List.mem_cons.1 h with rfl | h
    · have h1 := crash1_safe ch s n'
      rw [crashL_keeps ch r _ n' h1]; exact h1
    · exact ih _ n' h
theorem crash_get (D : Dk) (ch : List Int) (n : ByteArray) (h : (D.get n).safe = true) : (D.crash ch).get n = D.get n := crashL_keeps ch _ (D, 0) n h
theorem crash_safe (D : Dk) (ch : List Int) (n : ByteArray) : ((D.crash ch).get n).safe = true := by
  by_cases h : n ∈ D.files.map (·.1)
  · exact crashL_safe ch _ (D, 0) n h
  · have hz : D.get n = Fl.zero := get_none (lget_none.2 fun p hp e => h (List.mem_map.2 ⟨p, hp, e⟩))
    have hs : (D.get n).safe = true := by rw [hz]; rfl
    rw [crash_get D ch n hs]; exact hs
theorem allSafe_of {D : Dk} (hr : Rises blt D.files) (h : ∀ n, (D.get n).safe = true) : D.allSafe = true := by
  unfold Dk.allSafe
  rw [List.all_eq_true]
  intro p hp
  have := h p.1
  unfold Dk.get at this
  rw [(lget_some (v := p.2) (Rises.nodup blt_ordd hr)).2 hp] at this
  exact this
theorem Dk.Ok.crash {D : Dk} (h : D.Ok) (ch : List Int) : (D.crash ch).Ok := h.crashL ch (fun n hn => by obtain ⟨p, hp, rfl⟩ := List.mem_map.1 hn; exact h.keys p hp)
theorem crash1_same (ch : List Int) (s : Dk × Nat) (n : ByteArray) : (Dk.crash1 ch s n).1.lost = s.1.lost := by
  unfold Dk.crash1; split
  · rfl
  · exact (put_same _ _ _).1
theorem crash_lost (D : Dk) (ch : List Int) : (D.crash ch).lost = D.lost := by
  unfold Dk.crash Dk.crashL
  generalize D.files.map (·.1) = ns
  suffices H : ∀ s : Dk × Nat, (ns.foldl (Dk.crash1 ch) s).1.lost = s.1.lost from H (D, 0)
  induction ns with
  | nil => exact fun _ => rfl
  | cons n r ih => exact fun s => (ih _).trans (crash1_same ch s n)
end Go.Proofs.Yteleafbfdfipdaa
