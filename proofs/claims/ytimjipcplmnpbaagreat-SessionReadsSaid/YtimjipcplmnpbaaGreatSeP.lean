/-
  Layer 14: a machine, plain: what comes of a command's bytes; what a client is told.
-/
import Derived.Test.YtimjipcplmnpbaaGreatCatM
namespace Go.Proofs.YtimjipcplmnpbaaGreat
open Go.RowKit

/-- a client's last command: its number, what came of it -/
structure Last where
  seq : Int
  r : Rs
structure Mach where
  P : Pm
  cl : List (Int × Last)
  n : Int
def Mach.empty : Mach := ⟨Pm.empty, [], 0⟩
def Mach.seq (M : Mach) (k : Int) : Int := ((lget k M.cl).map Last.seq).getD 0
def Mach.told (M : Mach) (k s : Int) : Option Rs := match lget k M.cl with
  | some l => if l.seq = s then some l.r else none
  | none => none
def Mach.inc (M : Mach) : Mach := { M with n := M.n + 1 }
def Cmd.isCl (c : Cmd) : Bool := decide (1 ≤ c.kind) && decide (c.kind ≤ 5)
def Mach.cmd (M : Mach) (x : Cmd) : Mach × Rs :=
  if x.isCl = false then ({ M with P := (M.P.app x).1 }, (M.P.app x).2)
  else if x.client = 0 ∨ x.seq = 0 ∨ x.seq < M.seq x.client then (M, Rs.er 16)
  else match M.told x.client x.seq with
    | some r => (M, r)
    | none => ({ M with P := (M.P.app x).1, cl := (x.client, ⟨x.seq, (M.P.app x).2⟩) :: ldel x.client M.cl }, (M.P.app x).2)
def Mach.app (M : Mach) (s : List UInt8) : Mach × Rs :=
  if s = [] then (M.inc, Rs.er 0)
  else if (cread s).2 = 0 then ((M.cmd (cread s).1).1.inc, (M.cmd (cread s).1).2)
  else (M.inc, Rs.er (cread s).2)

/-- what a result is like behind n commands -/
structure RsOk (n : Nat) (r : Rs) : Prop where
  err : 0 ≤ r.err ∧ r.err ≤ 17
  blob : r.blob < 18446744073709551616
  size : 0 ≤ r.size ∧ r.size ≤ 4000
  sum : r.sum < 4294967296
  len : r.names.length ≤ n
  nm : ∀ m ∈ r.names, m.size ≤ 32
theorem RsOk.er {n : Nat} (e : Int) (h : 0 ≤ e ∧ e ≤ 17) : RsOk n (Rs.er e) := ⟨h, by show 0 < _; omega, by show (0 : Int) ≤ 0 ∧ (0 : Int) ≤ 4000; omega, by show 0 < _; omega, Nat.zero_le _, fun m hm => by cases hm⟩
theorem RsOk.le {n m : Nat} {r : Rs} (h : RsOk n r) (hm : n ≤ m) : RsOk m r := ⟨h.err, h.blob, h.size, h.sum, Nat.le_trans h.len hm, h.nm⟩
theorem lit17 (e : Int) (h : 0 ≤ e := by decide) (h2 : e ≤ 17 := by decide) : 0 ≤ e ∧ e ≤ 17 := ⟨h, h2⟩
theorem put_errR {P : Pm} {x : Cmd} : 0 ≤ (P.put x).2 ∧ (P.put x).2 ≤ 17 := by
  unfold Pm.put
  split
  · first | exact lit17 0 | exact lit17 1 | exact lit17 5 | exact lit17 6 | exact lit17 10 | exact lit17 16
  · split
    · first | exact lit17 0 | exact lit17 1 | exact lit17 5 | exact lit17 6 | exact lit17 10 | exact lit17 16
    · first | exact lit17 0 | exact lit17 1 | exact lit17 5 | exact lit17 6 | exact lit17 10 | exact lit17 16
theorem volume_errR {P : Pm} {x : Cmd} : 0 ≤ (P.volume x).2 ∧ (P.volume x).2 ≤ 17 := by
  unfold Pm.volume
  split
  · first | exact lit17 0 | exact lit17 1 | exact lit17 5 | exact lit17 6 | exact lit17 10 | exact lit17 16
  · split
    · split
      · first | exact lit17 0 | exact lit17 1 | exact lit17 5 | exact lit17 6 | exact lit17 10 | exact lit17 16
      · first | exact lit17 0 | exact lit17 1 | exact lit17 5 | exact lit17 6 | exact lit17 10 | exact lit17 16
    · split
      · first | exact lit17 0 | exact lit17 1 | exact lit17 5 | exact lit17 6 | exact lit17 10 | exact lit17 16
      · first | exact lit17 0 | exact lit17 1 | exact lit17 5 | exact lit17 6 | exact lit17 10 | exact lit17 16
theorem chgB_err {c : Bool} {b : Bl} {x : Cmd} : 0 ≤ (chgB c b x).2 ∧ (chgB c b x).2 ≤ 17 := by
  unfold chgB
  repeat' split
  all_goals first | exact lit17 0 | exact lit17 1 | exact lit17 5 | exact lit17 6 | exact lit17 10 | exact lit17 16
theorem byBlob_errR {P : Pm} {x : Cmd} : 0 ≤ (P.byBlob x).2 ∧ (P.byBlob x).2 ≤ 17 := by
  unfold Pm.byBlob
  split
  · first | exact lit17 0 | exact lit17 1 | exact lit17 5 | exact lit17 6 | exact lit17 10 | exact lit17 16
  · split
    · split
      · first | exact lit17 0 | exact lit17 1 | exact lit17 5 | exact lit17 6 | exact lit17 10 | exact lit17 16
      · first | exact lit17 0 | exact lit17 1 | exact lit17 5 | exact lit17 6 | exact lit17 10 | exact lit17 16
    · split
      · first | exact lit17 0 | exact lit17 1 | exact lit17 5 | exact lit17 6 | exact lit17 10 | exact lit17 16
      · exact chgB_err
theorem app_ok {n : Nat} {P : Pm} (h : PInv n P) (x : Cmd) : RsOk n (P.app x).2 := by
  unfold Pm.app
  split
  · exact RsOk.er 3 ⟨by decide, by decide⟩
  · split
    · exact RsOk.er _ put_errR
    · split
      · refine ⟨lit17 0, by show 0 < _; omega, ⟨Int.le_refl 0, by show (0 : Int) ≤ 4000; decide⟩, by show 0 < _; omega, ?_, fun m hm => ?_⟩
        · show (namesL P.L).length ≤ n
          unfold namesL
          rw [List.length_mergeSort, List.length_map]
          exact Nat.le_trans (List.length_filter_le _ _) h.len
        · have hm2 : m ∈ namesL P.L := hm
          unfold namesL at hm2
          rw [List.mem_mergeSort] at hm2
          obtain ⟨b, hb, rfl⟩ := List.mem_map.1 hm2
          exact (h.bl b (List.mem_filter.1 hb).1).name.2
      · split
        · unfold Pm.byName
          cases hq : P.named x.name with
          | none => exact RsOk.er 5 ⟨by decide, by decide⟩
          | some b =>
            have hb := h.bl b ((pnamed_some h).1 hq).1
            exact ⟨⟨Int.le_refl 0, by show (0 : Int) ≤ 17; decide⟩, hb.id.2, hb.size, hb.sum, Nat.zero_le _, fun m hm => by cases hm⟩
        · split
          · exact RsOk.er _ volume_errR
          · exact RsOk.er _ byBlob_errR

/-- what a machine is like behind n commands -/
structure MInv (n : Nat) (M : Mach) : Prop where
  cat : PInv n M.P
  num : M.n = (n : Int)
  cl : ∀ p ∈ M.cl, (1 ≤ p.1 ∧ p.1 ≤ 1073741824) ∧ (1 ≤ p.2.seq ∧ p.2.seq ≤ 1073741824) ∧ RsOk n p.2.r
  len : M.cl.length ≤ n
  nd : (M.cl.map (·.1)).Nodup
theorem MInv.empty : MInv 0 Mach.empty := ⟨PInv.empty 0, rfl, (fun p hp => by cases hp), Nat.le_refl _, List.nodup_nil⟩
theorem lget_mem {κ ν : Type} [DecidableEq κ] {k : κ} {L : List (κ × ν)} {v : ν} (h : lget k L = some v) : (k, v) ∈ L := by
  unfold lget at h
  rw [Option.map_eq_some_iff] at h
  obtain ⟨p, hp, rfl⟩ := h
  have h1 := List.find?_some hp
  have h2 := List.mem_of_find?_eq_some hp
  have h3 : p.1 = k := by simpa using h1
  subst h3; exact h2
theorem lget_put {κ ν : Type} [DecidableEq κ] (k j : κ) (v : ν) (L : List (κ × ν)) : lget j ((k, v) :: ldel k L) = if k = j then some v else lget j L := by
  unfold lget ldel
  rw [List.find?_cons]
  by_cases h : k = j
  · simp [h]
  · have h1 : decide (k = j) = false := by simp [h]
    simp only [h1]
    rw [if_neg h]
    congr 1
    rw [List.find?_filter]
    congr 1
    funext p
    by_cases hp : p.1 = j
    · have : ¬ p.1 = k := fun e => h (e.symm.trans hp)
      simp [hp]
      exact fun e => h e.symm
    · simp [hp]
theorem Mach.told_seq {M : Mach} {k s : Int} {r : Rs} (h : M.told k s = some r) : M.seq k = s := by
  unfold Mach.told at h
  unfold Mach.seq
  cases hl : lget k M.cl with
  | none => rw [hl] at h; cases h
  | some l =>
    rw [hl] at h
    simp only at h
    split at h
    · rename_i e; simpa using e
    · cases h
theorem Mach.told_none {M : Mach} {k s : Int} (h : M.told k s = none) (hs : s ≠ 0) : M.seq k ≠ s := by
  unfold Mach.told at h
  unfold Mach.seq
  cases hl : lget k M.cl with
  | none => simpa using Ne.symm hs
  | some l =>
    rw [hl] at h
    simp only at h
    split at h
    · cases h
    · rename_i e; simpa using e
theorem MInv.seq_nn {n : Nat} {M : Mach} (h : MInv n M) (k : Int) : 0 ≤ M.seq k ∧ (k ≤ 0 → M.seq k = 0) := by
  unfold Mach.seq
  cases hl : lget k M.cl with
  | none => exact ⟨Int.le_refl _, fun _ => rfl⟩
  | some l =>
    have := h.cl _ (lget_mem hl)
    simp only at this
    refine ⟨by simp; omega, fun hk => by omega⟩
theorem cread_nil : (cread []).2 ≠ 0 := by decide
/-- a good command's bounds -/
theorem cread_good {s : List UInt8} (h : (cread s).2 = 0) : (cread s).1.good = true ∧ (0 ≤ (cread s).1.client ∧ (cread s).1.client ≤ 1073741824) ∧ (0 ≤ (cread s).1.seq ∧ (cread s).1.seq ≤ 1073741824) := by
  have hi := cread_inv (s := s) (c := (cread s).1) (by rw [← h])
  obtain ⟨_, _, _, h4, h5, _⟩ := Cmd.good_iff.1 hi.1
  exact ⟨hi.1, h4, h5⟩
theorem Mach.cmd_seq {M : Mach} {n : Nat} (h : MInv n M) {x : Cmd} (hc : 0 ≤ x.client) (hs : 0 ≤ x.seq) (k : Int) :
    (M.cmd x).1.seq k = if x.isCl = true ∧ x.client = k ∧ 0 < k ∧ M.seq k < x.seq then x.seq else M.seq k := by
  have hk := h.seq_nn k
  unfold Mach.cmd
  by_cases h1 : x.isCl = false
  · rw [if_pos h1, if_neg (by rw [h1]; simp)]; rfl
  rw [if_neg h1]
  by_cases h2 : x.client = 0 ∨ x.seq = 0 ∨ x.seq < M.seq x.client
  · rw [if_pos h2, if_neg (by rintro ⟨_, rfl, h3, h4⟩; omega)]
  rw [if_neg h2]
  cases ht : M.told x.client x.seq with
  | some r =>
    have := Mach.told_seq ht
    rw [if_neg (by rintro ⟨_, rfl, h3, h4⟩; omega)]
  | none =>
    have hne := Mach.told_none ht (by omega)
    simp only
    unfold Mach.seq
    rw [show (lget k ((x.client, (⟨x.seq, (M.P.app x).2⟩ : Last)) :: ldel x.client M.cl)) = _ from lget_put _ _ _ _]
    by_cases hk2 : x.client = k
    · subst hk2
      have h5 : x.isCl = true := by simpa using h1
      rw [if_pos rfl, if_pos ⟨h5, rfl, by omega, by show M.seq x.client < x.seq; omega⟩]
      rfl
    · rw [if_neg hk2, if_neg (fun e => hk2 e.2.1)]
/-- a client's number rises by its own commands -/
theorem Mach.app_seq {M : Mach} {n : Nat} (h : MInv n M) (s : List UInt8) (k : Int) :
    (M.app s).1.seq k = if (cread s).2 = 0 ∧ (cread s).1.isCl = true ∧ (cread s).1.client = k ∧ 0 < k ∧ M.seq k < (cread s).1.seq then (cread s).1.seq else M.seq k := by
  unfold Mach.app
  by_cases h1 : s = []
  · subst h1
    rw [if_pos rfl, if_neg (fun e => cread_nil e.1)]; rfl
  rw [if_neg h1]
  have hg := cread_good (s := s)
  generalize cread s = q at hg ⊢
  by_cases h2 : q.2 = 0
  · rw [if_pos h2]
    obtain ⟨_, h3, h4⟩ := hg h2
    have h5 := Mach.cmd_seq h h3.1 h4.1 k
    simp only [h2, true_and]
    exact h5
  · rw [if_neg h2, if_neg (fun e => h2 e.1)]; rfl
theorem MInv.cmd {n : Nat} {M : Mach} (h : MInv n M) {x : Cmd} (hw : x.Wf) (hc : 0 ≤ x.client ∧ x.client ≤ 1073741824) (hs : 0 ≤ x.seq ∧ x.seq ≤ 1073741824) :
    PInv (n + 1) (M.cmd x).1.P ∧ (M.cmd x).1.n = M.n ∧ (∀ p ∈ (M.cmd x).1.cl, (1 ≤ p.1 ∧ p.1 ≤ 1073741824) ∧ (1 ≤ p.2.seq ∧ p.2.seq ≤ 1073741824) ∧ RsOk (n + 1) p.2.r) ∧ (M.cmd x).1.cl.length ≤ n + 1 ∧ ((M.cmd x).1.cl.map (·.1)).Nodup ∧ RsOk (n + 1) (M.cmd x).2 := by
  have h0 : PInv (n + 1) M.P := h.cat.mono (Nat.le_succ n)
  have hcl : ∀ p ∈ M.cl, (1 ≤ p.1 ∧ p.1 ≤ 1073741824) ∧ (1 ≤ p.2.seq ∧ p.2.seq ≤ 1073741824) ∧ RsOk (n + 1) p.2.r := fun p hp => ⟨(h.cl p hp).1, (h.cl p hp).2.1, (h.cl p hp).2.2.le (Nat.le_succ n)⟩
  have hlen : M.cl.length ≤ n + 1 := Nat.le_succ_of_le h.len
  have hr := (app_ok h.cat x).le (Nat.le_succ n)
  unfold Mach.cmd
  by_cases h1 : x.isCl = false
  · rw [if_pos h1]
    exact ⟨h.cat.app hw, rfl, hcl, hlen, h.nd, hr⟩
  rw [if_neg h1]
  by_cases h2 : x.client = 0 ∨ x.seq = 0 ∨ x.seq < M.seq x.client
  · rw [if_pos h2]
    exact ⟨h0, rfl, hcl, hlen, h.nd, RsOk.er 16 (lit17 16)⟩
  rw [if_neg h2]
  cases ht : M.told x.client x.seq with
  | some r =>
    refine ⟨h0, rfl, hcl, hlen, h.nd, ?_⟩
    unfold Mach.told at ht
    cases hl : lget x.client M.cl with
    | none => rw [hl] at ht; cases ht
    | some l =>
      rw [hl] at ht
      simp only at ht
      split at ht
      · injection ht with ht
        rw [← ht]
        exact (hcl _ (lget_mem hl)).2.2
      · cases ht
  | none =>
    refine ⟨h.cat.app hw, rfl, fun p hp => ?_, ?_, ?_, hr⟩
    · rcases List.mem_cons.1 hp with rfl | hp
      · exact ⟨⟨by show 1 ≤ x.client; omega, hc.2⟩, ⟨by show 1 ≤ x.seq; omega, hs.2⟩, hr⟩
      · exact hcl p (List.mem_filter.1 hp).1
    · show (ldel x.client M.cl).length + 1 ≤ n + 1
      have := List.length_filter_le (fun p : Int × Last => decide (p.1 ≠ x.client)) M.cl
      have := h.len
      unfold ldel
      omega
    · show (x.client :: (ldel x.client M.cl).map (·.1)).Nodup
      rw [List.nodup_cons]
      refine ⟨fun hm => ?_, h.nd.sublist ((List.filter_sublist).map _)⟩
      obtain ⟨p, hp, e⟩ := List.mem_map.1 hm
      have := (List.mem_filter.1 hp).2
      simp only [decide_eq_true_eq] at this
      exact this e
theorem MInv.app {n : Nat} {M : Mach} (h : MInv n M) (s : List UInt8) : MInv (n + 1) (M.app s).1 := by
  have h0 : MInv (n + 1) M.inc := ⟨h.cat.mono (Nat.le_succ n), by show M.n + 1 = _; rw [h.num]; simp, fun p hp => ⟨(h.cl p hp).1, (h.cl p hp).2.1, (h.cl p hp).2.2.le (Nat.le_succ n)⟩, Nat.le_succ_of_le h.len, h.nd⟩
  unfold Mach.app
  by_cases h1 : s = []
  · rw [if_pos h1]; exact h0
  rw [if_neg h1]
  have hg := cread_good (s := s)
  have hw := fun h => cread_wf (s := s) (c := (cread s).1) h
  generalize cread s = q at hg hw ⊢
  by_cases h2 : q.2 = 0
  · rw [if_pos h2]
    obtain ⟨_, h3, h4⟩ := hg h2
    obtain ⟨a, b, c, d, e, _⟩ := h.cmd (hw (by rw [← h2])) h3 h4
    exact ⟨a, by show (M.cmd q.1).1.n + 1 = _; rw [b, h.num]; simp, c, d, e⟩
  · rw [if_neg h2]; exact h0
/-- what a client was told stays so, until its next command -/
theorem Mach.told_stays {M : Mach} {s : List UInt8} {k : Int} (hk : (cread s).2 = 0 → (cread s).1.isCl = true → (cread s).1.client ≠ k) : lget k (M.app s).1.cl = lget k M.cl := by
  unfold Mach.app
  by_cases h1 : s = []
  · rw [if_pos h1]; rfl
  rw [if_neg h1]
  generalize cread s = q at hk ⊢
  by_cases h2 : q.2 = 0
  · rw [if_pos h2]
    have hk := hk h2
    show lget k (M.cmd q.1).1.cl = _
    unfold Mach.cmd
    by_cases h3 : q.1.isCl = false
    · rw [if_pos h3]
    rw [if_neg h3]
    by_cases h4 : q.1.client = 0 ∨ q.1.seq = 0 ∨ q.1.seq < M.seq q.1.client
    · rw [if_pos h4]
    rw [if_neg h4]
    cases M.told q.1.client q.1.seq with
    | some r => rfl
    | none =>
      show lget k ((q.1.client, (⟨q.1.seq, (M.P.app q.1).2⟩ : Last)) :: ldel q.1.client M.cl) = _
      rw [lget_put, if_neg (hk (by simpa using h3))]
  · rw [if_neg h2]; rfl
/-- a client's number doesn't fall -/
theorem Mach.seq_mono {M : Mach} {n : Nat} (h : MInv n M) (s : List UInt8) (k : Int) : M.seq k ≤ (M.app s).1.seq k := by
  rw [Mach.app_seq h]
  split
  · rename_i hh; omega
  · omega
/-- behind a client's command its number is there -/
theorem Mach.seq_there {M : Mach} {n : Nat} (h : MInv n M) {s : List UInt8} (h0 : (cread s).2 = 0) (h1 : (cread s).1.isCl = true) (h2 : (cread s).1.client ≠ 0) : (cread s).1.seq ≤ (M.app s).1.seq (cread s).1.client := by
  rw [Mach.app_seq h]
  have hg := cread_good h0
  split
  · omega
  · rename_i hh
    rcases Int.lt_or_le (M.seq (cread s).1.client) (cread s).1.seq with h3 | h3
    · exact absurd ⟨h0, h1, rfl, by omega, h3⟩ hh
    · exact h3
/-- ONCE -/
theorem Mach.once {M : Mach} {s : List UInt8} (hs : s ≠ []) (h0 : (cread s).2 = 0) (h1 : (cread s).1.isCl = true) (h2 : (cread s).1.client ≠ 0) (h3 : (cread s).1.seq ≠ 0) (h4 : (cread s).1.seq ≤ M.seq (cread s).1.client) :
    (M.app s).1.P = M.P ∧ (M.app s).2 = (M.told (cread s).1.client (cread s).1.seq).getD (Rs.er 16) := by
  unfold Mach.app
  rw [if_neg hs]
  generalize cread s = q at h0 h1 h2 h3 h4 ⊢
  rw [if_pos h0]
  show (M.cmd q.1).1.P = M.P ∧ (M.cmd q.1).2 = _
  unfold Mach.cmd
  rw [if_neg (by rw [h1]; decide)]
  by_cases h5 : q.1.client = 0 ∨ q.1.seq = 0 ∨ q.1.seq < M.seq q.1.client
  · rw [if_pos h5]
    refine ⟨rfl, ?_⟩
    cases ht : M.told q.1.client q.1.seq with
    | none => rfl
    | some r => have := Mach.told_seq ht; omega
  · rw [if_neg h5]
    cases ht : M.told q.1.client q.1.seq with
    | some r => exact ⟨rfl, rfl⟩
    | none => have := Mach.told_none ht h3; omega
end Go.Proofs.YtimjipcplmnpbaaGreat
