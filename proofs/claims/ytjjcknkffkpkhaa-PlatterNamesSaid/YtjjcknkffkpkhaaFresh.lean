/-
  Disks that nothing was synced on: appends, a sync by names and a sync of all (plain).
-/
import Derived.Test.YtjjcknkffkpkhaaActs
namespace Go.Proofs.Ytjjcknkffkpkhaa
open Go.RowKit Go.Sort

theorem grow_same (D : Dk) (n : ByteArray) (f : Fl) (h : wt f.nx f.sx = wt (D.get n).nx (D.get n).sx) (hu : 0 ≤ D.used) : (D.put n f).2.used = D.used := by
  unfold Dk.put
  have hg : D.grow n f = 0 := by unfold Dk.grow; omega
  rw [if_neg (by omega)]
  simp only [hg, nuse]
  rw [if_neg (by omega)]; omega

/-- A disk of files none of which is synced; k appends of at most B bytes. -/
structure Fresh (B k : Nat) (D : Dk) : Prop where
  ok : D.Ok
  lost : D.lost = false
  arm : D.armed = 0
  room : D.room = 100000
  used : D.used ≤ B * k
  half : ∀ n, (D.get n).st = false ∧ (D.get n).sx = ByteArray.empty ∧ ((D.get n).nt = false → (D.get n).nx = ByteArray.empty)
  small : ∀ n, (D.get n).nx.size ≤ B * k
  few : D.files.length ≤ k

theorem Fresh.new (B : Nat) : Fresh B 0 (Dk.new 100000) := by
  refine ⟨Dk.new_ok 100000 (by decide), rfl, rfl, rfl, Int.le_of_eq rfl, fun n => ?_, fun n => ?_, Nat.le_refl _⟩
  · rw [new_get]; exact ⟨rfl, rfl, fun _ => rfl⟩
  · rw [new_get]; exact Nat.zero_le _
theorem Fresh.e {B k : Nat} {D : Dk} (h : Fresh B k D) : D.e = 0 := by unfold Dk.e tryE; rw [h.lost, h.arm]; rfl
theorem Fresh.tick {B k : Nat} {D : Dk} (h : Fresh B k D) : D.tick = D := by
  have h1 := h.lost
  have h2 := h.arm
  obtain ⟨a, b, c, d, e⟩ := D
  simp only at h1 h2
  subst h1 h2
  rfl

theorem wt_empty (s : ByteArray) : wt s ByteArray.empty = s.size := by unfold wt; simp only [ByteArray.size_empty]; omega
theorem wt_self (s : ByteArray) : wt s s = s.size := by unfold wt; omega

theorem Fresh.append {B k : Nat} {D : Dk} (h : Fresh B k D) (hB : B * (k + 1) ≤ 100000) {n t : ByteArray} (hn : n.size ≤ maxLen) (hne : n.data.toList.isEmpty = false) (ht : t.size ≤ B) :
    (D.change n fun x => x ++ t).1 = 0 ∧ Fresh B (k + 1) (D.change n fun x => x ++ t).2 ∧ ((D.change n fun x => x ++ t).2.get n).nt = true ∧ (∀ n', (D.get n').nt = true → ((D.change n fun x => x ++ t).2.get n').nt = true) ∧ (∀ n', n' ≠ n → (D.change n fun x => x ++ t).2.get n' = D.get n') := by
  have hBk : B * (k + 1) = B * k + B := Nat.mul_succ B k
  obtain ⟨hst, hsx, _⟩ := h.half n
  unfold Dk.change
  rw [if_neg (by rw [h.e]; simp), if_neg (by rw [hne]; simp), h.tick]
  have hg : D.grow n { D.get n with nt := true, nx := (D.get n).nx ++ t } = t.size := by
    unfold Dk.grow
    simp only [hsx, wt_empty, ByteArray.size_append]
    omega
  have hu := h.used
  have hu0 := h.ok.u0
  have hs := h.small n
  have hfl := h.few
  have hput : D.put n { D.get n with nt := true, nx := (D.get n).nx ++ t } = (0, { D with used := nuse D.used (t.size : Int), files := lputf D.files n { D.get n with nt := true, nx := (D.get n).nx ++ t } }) := by
    unfold Dk.put
    rw [hg, if_neg (by rw [h.room]; omega)]
  have hok := h.ok.put hn (f := { D.get n with nt := true, nx := (D.get n).nx ++ t }) (by simp only [ByteArray.size_append]; unfold maxLen; omega) (by simp only [hsx]; exact Nat.zero_le _)
  have hlen := put_length D n { D.get n with nt := true, nx := (D.get n).nx ++ t }
  rw [hput] at hok hlen ⊢
  refine ⟨rfl, ⟨hok, h.lost, h.arm, h.room, ?_, fun n' => ?_, fun n' => ?_, ?_⟩, ?_, fun n' hn' => ?_, fun n' hn' => ?_⟩
  · simp only [nuse]; split <;> omega
  · rw [get_lputf]
    split
    · simp only [Bool.true_or, if_true]; exact ⟨hst, hsx, fun h => by cases h⟩
    · exact h.half n'
  · rw [get_lputf]
    split
    · simp only [Bool.true_or, if_true, ByteArray.size_append]; omega
    · have := h.small n'; omega
  · simp only at hlen ⊢; omega
  · rw [get_lputf]; simp
  · rw [get_lputf]
    split
    · simp
    · exact hn'
  · rw [get_lputf, if_neg hn']

def Fl.syn (f : Fl) : Fl := ⟨f.nt, f.nx, f.nt, f.nx⟩
theorem syn_safe (f : Fl) : f.syn.safe = true := by simp [Fl.syn, Fl.safe]

/-- What a sync of the names ns leaves. -/
structure Synd (D : Dk) (ns : List ByteArray) (D' : Dk) : Prop where
  ok : D'.Ok
  used : D'.used = D.used
  lost : D'.lost = false
  arm : D'.armed = 0
  get_ : ∀ n, (n ∈ ns → D'.get n = (D.get n).syn) ∧ (n ∉ ns → D'.get n = D.get n)
  few : D'.files.length ≤ D.files.length
theorem Synd.step {B k : Nat} {D D' : Dk} {ns : List ByteArray} (h : Fresh B k D) (s : Synd D ns D') {n : ByteArray} (hn : n.size ≤ maxLen) : Synd D (ns ++ [n]) (D'.sync1 n) := by
  obtain ⟨hst, hsx, hz⟩ := h.half n
  have hgn := s.get_ n
  have he : wt (D'.get n).nx (D'.get n).nx = wt (D'.get n).nx (D'.get n).sx := by
    by_cases hm : n ∈ ns
    · rw [hgn.1 hm]; rfl
    · rw [hgn.2 hm, hsx, wt_empty, wt_self]
  have hgr : D'.grow n ⟨(D'.get n).nt, (D'.get n).nx, (D'.get n).nt, (D'.get n).nx⟩ ≤ 0 := by unfold Dk.grow; simp only; omega
  have hsame := put_same D' n ⟨(D'.get n).nt, (D'.get n).nx, (D'.get n).nt, (D'.get n).nx⟩
  have hsyn : (⟨(D'.get n).nt, (D'.get n).nx, (D'.get n).nt, (D'.get n).nx⟩ : Fl) = (D.get n).syn := by
    by_cases hm : n ∈ ns
    · rw [hgn.1 hm]; rfl
    · rw [hgn.2 hm]; rfl
  refine ⟨s.ok.sync1 hn, ?_, ?_, ?_, fun n' => ?_, ?_⟩
  · unfold Dk.sync1; rw [grow_same _ _ _ he s.ok.u0]; exact s.used
  · unfold Dk.sync1; rw [hsame.1]; exact s.lost
  · unfold Dk.sync1; rw [hsame.2.1]; exact s.arm
  · unfold Dk.sync1
    by_cases e : n' = n
    · subst e
      refine ⟨fun _ => ?_, fun h => absurd (by simp) h⟩
      rw [get_put_ok _ _ _ hgr, hsyn]
      split
      · rfl
      · rename_i hf
        have hf' : (D.get n').nt = false := by simpa [Fl.syn] using hf
        unfold Fl.syn Fl.zero
        rw [hf', hz hf']
    · rw [get_put_ne _ _ e]
      have : (n' ∈ ns ++ [n]) ↔ n' ∈ ns := by simp [e]
      rw [this]
      exact s.get_ n'
  · unfold Dk.sync1
    refine Nat.le_trans (put_length_in D' s.ok.srt _ _ (fun e => ?_)) s.few
    rw [get_none e]; rfl
theorem Synd.all {B k : Nat} {D : Dk} (h : Fresh B k D) : ∀ (ns : List ByteArray) (_ : ∀ n ∈ ns, n.size ≤ maxLen) (D' : Dk) (ms : List ByteArray), Synd D ms D' → Synd D (ms ++ ns) (D'.syncL ns)
  | [], _, D', ms, s => by simpa [Dk.syncL] using s
  | n :: r, hn, D', ms, s => by
    have := Synd.all h r (fun x hx => hn x (List.mem_cons_of_mem _ hx)) _ _ (s.step h (hn n (List.mem_cons_self ..)))
    rw [List.append_assoc] at this
    exact this
theorem Fresh.synd {B k : Nat} {D : Dk} (h : Fresh B k D) (ns : List ByteArray) (hn : ∀ n ∈ ns, n.size ≤ maxLen) : (D.sync ns).1 = 0 ∧ Synd D (if ns = [] then D.files.map (·.1) else ns) (D.sync ns).2 := by
  unfold Dk.sync
  rw [if_neg (by rw [h.e]; simp), h.tick]
  refine ⟨rfl, ?_⟩
  have s0 : Synd D [] D := ⟨h.ok, rfl, h.lost, h.arm, fun n => ⟨fun h => absurd h (by simp), fun _ => rfl⟩, Nat.le_refl _⟩
  have := Synd.all h (if ns = [] then D.files.map (·.1) else ns) (fun n h' => by
    split at h'
    · obtain ⟨p, hp, rfl⟩ := List.mem_map.1 h'
      exact h.ok.keys p hp
    · exact hn n h') D [] s0
  simpa using this

/-- All that is there is among ns: then all is safe. -/
theorem Synd.safe {B k : Nat} {D D' : Dk} {ns : List ByteArray} (h : Fresh B k D) (s : Synd D ns D') (hall : ∀ n, (D.get n).nt = true → n ∈ ns) (n : ByteArray) : D'.get n = (D.get n).syn := by
  by_cases hni : n ∈ ns
  · exact (s.get_ n).1 hni
  · rw [(s.get_ n).2 hni]
    obtain ⟨hst, hsx, hz⟩ := h.half n
    have hf : (D.get n).nt = false := by
      cases hb : (D.get n).nt
      · rfl
      · exact absurd (hall n hb) hni
    have hx := hz hf
    generalize D.get n = f at hst hsx hf hx
    obtain ⟨a, b, c, d⟩ := f
    simp only at hst hsx hf hx
    subst hst hsx hf hx
    rfl
theorem files_in {D : Dk} {n : ByteArray} (h : (D.get n).nt = true) : n ∈ D.files.map (·.1) := by
  refine Classical.byContradiction fun hn => ?_
  have e : lget n D.files = none := lget_none.2 fun p hp e => hn (List.mem_map.2 ⟨p, hp, e⟩)
  rw [get_none e] at h
  cases h
/-- A crash on a disk where all is safe changes nothing. -/
theorem crash_id {D : Dk} (h : ∀ n, (D.get n).safe = true) (ch : List Int) : D.crash ch = D := by
  have key : ∀ (ns : List ByteArray) (at_ : Nat), ns.foldl (Dk.crash1 ch) (D, at_) = (D, at_) := by
    intro ns
    induction ns with
    | nil => intro at_; rfl
    | cons n r ih => intro at_; rw [List.foldl_cons, crash1_yes rfl (h n)]; exact ih at_
  unfold Dk.crash Dk.crashL
  rw [key]

/-- A disk on which all is synced. -/
structure Done (D D' : Dk) : Prop where
  ok : D'.Ok
  used : D'.used = D.used
  lost : D'.lost = false
  arm : D'.armed = 0
  get_ : ∀ n, D'.get n = (D.get n).syn
  few : D'.files.length ≤ D.files.length
theorem Synd.done {B k : Nat} {D D' : Dk} {ns : List ByteArray} (h : Fresh B k D) (s : Synd D ns D') (hall : ∀ n, (D.get n).nt = true → n ∈ ns) : Done D D' :=
  ⟨s.ok, s.used, s.lost, s.arm, fun n => s.safe h hall n, s.few⟩
theorem Fresh.done {B k : Nat} {D : Dk} (h : Fresh B k D) (hall : ∀ n, (D.get n).nt = false) : Done D D :=
  Synd.done (ns := []) h ⟨h.ok, rfl, h.lost, h.arm, fun n => ⟨fun h => absurd h (by simp), fun _ => rfl⟩, Nat.le_refl _⟩ (fun n hn => by rw [hall n] at hn; cases hn)
section
variable {D D' : Dk} (h : Done D D')
include h
theorem Done.isSafe (n : ByteArray) : (D'.get n).safe = true := by rw [h.get_]; exact syn_safe _
theorem Done.crash (ch : List Int) : D'.crash ch = D' := crash_id h.isSafe ch
theorem Done.tick : D'.tick = D' := by
  have h1 := h.lost
  have h2 := h.arm
  clear h
  obtain ⟨a, b, c, d, e⟩ := D'
  simp only at h1 h2
  subst h1 h2
  rfl
theorem Done.read {n : ByteArray} (hn : (D.get n).nt = true) : D'.read n = ((D.get n).nx, 0) := by
  have he : D'.e = 0 := by unfold Dk.e tryE; rw [h.lost, h.arm]; rfl
  unfold Dk.read
  rw [if_neg (by rw [he]; simp), h.get_ n, if_pos (by exact hn)]
  rfl
theorem Done.allSafe : D'.allSafe = true := allSafe_of h.ok.srt h.isSafe
theorem Done.small {B k : Nat} (f : Fresh B k D) (hB : B * k ≤ 1000000) (n : ByteArray) : (D'.get n).nx.size ≤ 1000000 ∧ (D'.get n).sx.size ≤ 1000000 := by
  rw [h.get_ n]
  have := f.small n
  exact ⟨by show (D.get n).nx.size ≤ _; omega, by show (D.get n).nx.size ≤ _; omega⟩
end
end Go.Proofs.Ytjjcknkffkpkhaa
