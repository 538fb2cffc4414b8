/-
  The disk and the document's disk answer alike. Plain.
-/
import Derived.Test.YteleafbfdfipdaaPpA
import Derived.Test.YteleafbfdfipdaaPpC
import Derived.Test.YteleafbfdfipdaaMany
namespace Go.Proofs.Yteleafbfdfipdaa

theorem setGo_true (n : ByteArray) (f : Fl) : ∀ L : List FRow, setGo n f L true = ldel n L
  | [] => rfl
  | (x, g) :: r => by
    rw [setGo_cons, setGo_true n f r]
    by_cases h : x = n
    · rw [if_pos h]; unfold ldel; simp [h]
    · rw [if_neg h, if_neg (by simp)]; unfold ldel; simp [h]
theorem ldel_above {n : ByteArray} {L : List FRow} (h : ∀ p ∈ L, blt n p.1 = true) : ldel n L = L := ldel_self blt_ordd fun p hp => .inl (h p hp)
theorem setGo_above (n : ByteArray) (f : Fl) : ∀ L : List FRow, (∀ p ∈ L, blt n p.1 = true) → setGo n f L false = (n, f) :: L
  | [], _ => rfl
  | (x, g) :: r, h => by
    have hx : blt n x = true := h _ (List.mem_cons_self ..)
    have hne : ¬ x = n := fun e => by rw [e, blt_ordd.irr] at hx; cases hx
    rw [setGo_cons, if_neg hne, if_pos (by rw [hx]; rfl), setGo_true, ldel_above fun p hp => h p (List.mem_cons_of_mem _ hp)]
theorem setGo_false (n : ByteArray) (f : Fl) : ∀ L : List FRow, Rises blt L → setGo n f L false = lput blt n f L
  | [], _ => rfl
  | (x, g) :: r, h => by
    obtain ⟨h1, h2⟩ := List.pairwise_cons.1 h
    unfold lput
    by_cases hb : blt n x = true
    · have hne : ¬ x = n := fun e => by rw [e, blt_ordd.irr] at hb; cases hb
      rw [if_pos hb, setGo_cons, if_neg hne, if_pos (by rw [hb]; rfl), setGo_true, ldel_above fun p hp => blt_ordd.tr hb (h1 p hp)]
    · rw [if_neg hb]
      by_cases hx : blt x n = true
      · have hne : ¬ x = n := fun e => by rw [e, blt_ordd.irr] at hx; cases hx
        rw [if_pos hx, setGo_cons, if_neg hne, if_neg (by simpa using hb), setGo_false n f r h2]
      · have e : x = n := blt_ordd.tot (by simpa using hx) (by simpa using hb)
        rw [if_neg hx, setGo_cons, if_pos e, setGo_above n f r fun p hp => by rw [← e]; exact h1 p hp]
theorem setL_lputf (n : ByteArray) (f : Fl) (L : List FRow) (h : Rises blt L) : setL n f L = lputf L n f := by
  unfold setL lputf
  cases hn : f.nt <;> cases hs : f.st
  · simp [setGo_true]
  · simp [setGo_false n f L h]
  · simp [setGo_false n f L h]
  · simp [setGo_false n f L h]
theorem usedL_perm {L L' : List FRow} (h : L.Perm L') : usedL L = usedL L' := by
  induction h with
  | nil => rfl
  | cons p _ ih => rw [usedL_cons, usedL_cons, ih]
  | swap p q r => rw [usedL_cons, usedL_cons, usedL_cons, usedL_cons]; omega
  | trans _ _ ih1 ih2 => exact ih1.trans ih2
theorem usedL_cons2 (x : ByteArray) (g : Fl) (r : List FRow) : usedL ((x, g) :: r) = wt g.nx g.sx + usedL r := usedL_cons _ _
theorem usedL_nonneg : ∀ L : List FRow, 0 ≤ usedL L
  | [] => Int.le_refl _
  | (x, g) :: r => by
    rw [usedL_cons2]
    have := usedL_nonneg r
    have := wt_nonneg g.nx g.sx
    omega
theorem usedL_ldel (n : ByteArray) : ∀ L : List FRow, (L.map (·.1)).Nodup → usedL (ldel n L) = usedL L - wt (getF n L).nx (getF n L).sx
  | [], _ => rfl
  | (x, g) :: r, h => by
    obtain ⟨h1, h2⟩ := List.pairwise_cons.1 h
    rw [getF_cons]
    by_cases e : x = n
    · have e2 : ldel n ((x, g) :: r) = r := by
        have : ldel n ((x, g) :: r) = ldel n r := by simp [ldel, e]
        rw [this]
        unfold ldel
        refine List.filter_eq_self.2 fun p hp => ?_
        have := h1 p.1 (List.mem_map.2 ⟨p, hp, rfl⟩)
        simp only [decide_eq_true_eq]
        exact fun e3 => this (e.trans e3.symm)
      rw [e2, if_pos e, usedL_cons2]; omega
    · have e2 : ldel n ((x, g) :: r) = (x, g) :: ldel n r := by simp [ldel, e]
      rw [e2, if_neg e, usedL_cons2, usedL_cons2, usedL_ldel n r h2]; omega
theorem usedL_lputf (n : ByteArray) (f : Fl) (L : List FRow) (h : Rises blt L) (hz : f.nt = false → f.st = false → wt f.nx f.sx = 0) : usedL (lputf L n f) = usedL L - wt (getF n L).nx (getF n L).sx + wt f.nx f.sx := by
  unfold lputf
  split
  · rw [usedL_perm (lput_perm blt_ordd h), usedL_cons2, usedL_ldel n L (h.nodup blt_ordd)]; omega
  · rename_i hn
    rw [usedL_ldel n L (h.nodup blt_ordd), hz (by cases h1 : f.nt <;> simp_all) (by cases h1 : f.st <;> simp_all)]; omega
theorem usedL_get (n : ByteArray) : ∀ L : List FRow, wt (getF n L).nx (getF n L).sx ≤ usedL L
  | [] => by rw [getF_nil, usedL_nil]; exact Int.le_refl _
  | (x, g) :: r => by
    rw [getF_cons, usedL_cons2]
    have h1 := wt_nonneg g.nx g.sx
    have h2 := usedL_nonneg r
    split
    · omega
    · have := usedL_get n r; omega

/-- a file that is not there has no text -/
def Fl.neat (f : Fl) : Prop := (f.nt = false → f.nx.size = 0) ∧ (f.st = false → f.sx.size = 0)
theorem Fl.zero_neat : Fl.zero.neat := ⟨fun _ => rfl, fun _ => rfl⟩
theorem Fl.neat.wt {f : Fl} (h : f.neat) (h1 : f.nt = false) (h2 : f.st = false) : wt f.nx f.sx = 0 := by
  unfold Go.Proofs.Yteleafbfdfipdaa.wt; rw [h.1 h1, h.2 h2]; rfl
/-- what a disk keeps -/
structure Inv (N B : Nat) (D : Dk) : Prop where
  ok : D.Ok
  used : D.used = usedL D.files
  sm : ∀ p ∈ D.files, p.2.nx.size ≤ B ∧ p.2.sx.size ≤ B
  len : D.files.length ≤ N
  neat : ∀ p ∈ D.files, p.2.neat
  arm : D.armed ≤ 1073741825
theorem get_of {P : Fl → Prop} {D : Dk} (h : ∀ p ∈ D.files, P p.2) (hz : P Fl.zero) (n : ByteArray) : P (D.get n) := by
  rw [← getF_get]
  generalize D.files = L at h
  induction L with
  | nil => exact hz
  | cons p r ih =>
    obtain ⟨x, g⟩ := p
    rw [getF_cons]
    split
    · exact h _ (List.mem_cons_self ..)
    · exact ih fun p hp => h p (List.mem_cons_of_mem _ hp)
section
variable {N B : Nat} {D : Dk}
theorem Inv.mono (h : Inv N B D) {N' B' : Nat} (hN : N ≤ N') (hB : B ≤ B') : Inv N' B' D :=
  ⟨h.ok, h.used, fun p hp => ⟨Nat.le_trans (h.sm p hp).1 hB, Nat.le_trans (h.sm p hp).2 hB⟩, Nat.le_trans h.len hN, h.neat, h.arm⟩
theorem Inv.tick (h : Inv N B D) : Inv N B D.tick := by
  refine ⟨h.ok.tick, h.used, h.sm, h.len, h.neat, ?_⟩
  have := h.arm
  have := h.ok.a0
  unfold Dk.tick tryA; simp only; split
  · exact h.arm
  · split <;> omega
theorem Inv.getNeat (h : Inv N B D) (n : ByteArray) : (D.get n).neat := get_of h.neat Fl.zero_neat n
theorem Inv.getSm (h : Inv N B D) (n : ByteArray) : (D.get n).nx.size ≤ B ∧ (D.get n).sx.size ≤ B := get_of (P := fun f => f.nx.size ≤ B ∧ f.sx.size ≤ B) h.sm ⟨Nat.zero_le _, Nat.zero_le _⟩ n
theorem nuse_eq {used g w : Int} (h : 0 ≤ w) (hu : w ≤ used) (hg : -w ≤ g) : nuse used g = used + g := by
  unfold nuse; split <;> omega
/-- a file is put, if there is room -/
theorem Inv.put (h : Inv N B D) {n : ByteArray} (hn : n.size ≤ maxLen) {f : Fl} (hf : f.neat) (hs : f.nx.size ≤ B ∧ f.sx.size ≤ B) (hB : B ≤ maxLen) (hr : D.grow n f ≤ 0 ∨ D.grow n f ≤ D.room - D.used) :
    (D.put n f).1 = 0 ∧ (D.put n f).2.files = setL n f D.files ∧ (D.put n f).2.used = D.used + D.grow n f ∧ Inv (N + 1) B (D.put n f).2 := by
  have hok := h.ok.put hn (f := f) (Nat.le_trans hs.1 hB) (Nat.le_trans hs.2 hB)
  have hlen := put_length D n f
  have hsame := put_same D n f
  have hgr : D.grow n f = wt f.nx f.sx - wt (getF n D.files).nx (getF n D.files).sx := rfl
  have hu : (D.put n f).2.used = D.used + D.grow n f := by
    unfold Dk.put
    rw [if_neg (by omega)]
    simp only
    refine nuse_eq (wt_nonneg (getF n D.files).nx (getF n D.files).sx) (by rw [h.used]; exact usedL_get _ _) ?_
    rw [hgr]
    have := wt_nonneg f.nx f.sx
    omega
  have hfl : (D.put n f).2.files = lputf D.files n f := by unfold Dk.put; rw [if_neg (by omega)]
  have hmem : ∀ p ∈ (D.put n f).2.files, p = (n, f) ∨ p ∈ D.files := fun p hp => by
    rw [hfl] at hp
    unfold lputf at hp
    split at hp
    · exact mem_lput hp
    · exact .inr (List.mem_filter.1 hp).1
  refine ⟨by unfold Dk.put; rw [if_neg (by omega)], by rw [hfl, setL_lputf _ _ _ h.ok.srt], hu, hok, ?_, ?_, ?_, ?_, ?_⟩
  · rw [hu, hfl, usedL_lputf n f D.files h.ok.srt (fun h1 h2 => hf.wt h1 h2), hgr, h.used]; omega
  · intro p hp
    rcases hmem p hp with rfl | hp
    · exact hs
    · exact h.sm p hp
  · have := h.len; omega
  · intro p hp
    rcases hmem p hp with rfl | hp
    · exact hf
    · exact h.neat p hp
  · rw [hsame.2.1]; exact h.arm
/-- a file that was there in one of both states, or is gone behind: no further file -/
theorem Inv.put_in (h : Inv N B D) {n : ByteArray} (hn : n.size ≤ maxLen) {f : Fl} (hf : f.neat) (hs : f.nx.size ≤ B ∧ f.sx.size ≤ B) (hB : B ≤ maxLen) (hr : D.grow n f ≤ 0 ∨ D.grow n f ≤ D.room - D.used)
    (hi : lget n D.files = none → (f.nt || f.st) = false) : Inv N B (D.put n f).2 := by
  obtain ⟨_, _, _, hI⟩ := h.put hn hf hs hB hr
  have := put_length_in D h.ok.srt n f hi
  exact ⟨hI.ok, hI.used, hI.sm, Nat.le_trans this h.len, hI.neat, hI.arm⟩
/-- Write and Append, and the document's Put -/
theorem put_alike (h : Inv N B D) (n s : ByteArray) (more : Bool) (hn : n.size ≤ maxLen) (hB : B + s.size ≤ maxLen) (g : ByteArray → ByteArray) (hg : ∀ x, g x = if more then x ++ s else s) :
    putR D.room D.lost D.armed D.files n s more = ((D.change n g).1, (D.change n g).2.files) ∧ (D.change n g).2.room = D.room ∧ (D.change n g).2.lost = D.lost ∧ (D.change n g).2.armed = tryA D.lost D.armed ∧ Inv (N + 1) (B + s.size) (D.change n g).2 := by
  have hT := h.tick
  unfold putR Dk.change
  by_cases he : D.e = 0
  · rw [if_neg (show ¬ tryE D.lost D.armed ≠ 0 from fun hh => hh he), if_neg (show ¬ D.e ≠ 0 from fun hh => hh he)]
    by_cases hne : n.data.toList.isEmpty = true
    · rw [if_pos (by rw [ByteArray.toList_eq]; exact hne), if_pos hne]
      exact ⟨rfl, rfl, rfl, rfl, hT.mono (by omega) (by omega)⟩
    · rw [if_neg (by rw [ByteArray.toList_eq]; exact hne), if_neg hne]
      have hgs : g (D.get n).nx = if more then (getF n D.files).nx ++ s else s := hg _
      have hsz := hT.getSm n
      have hne2 := hT.getNeat n
      have hsz2 : (g (D.get n).nx).size ≤ B + s.size := by
        rw [hg]; split
        · rw [ByteArray.size_append]; have : (D.get n).nx.size ≤ B := hsz.1; omega
        · omega
      have hge : (⟨true, g (D.get n).nx, (D.get n).st, (D.get n).sx⟩ : Fl) = { D.get n with nt := true, nx := g (D.get n).nx } := rfl
      have hgs2 : (⟨true, if more then (getF n D.files).nx ++ s else s, (getF n D.files).st, (getF n D.files).sx⟩ : Fl) = { D.get n with nt := true, nx := g (D.get n).nx } := by rw [← hgs]; rfl
      rw [hgs2]
      generalize hf : ({ D.get n with nt := true, nx := g (D.get n).nx } : Fl) = f
      have hfn : f.neat := by rw [← hf]; exact ⟨(fun hh => by cases hh), hne2.2⟩
      have hfs : f.nx.size ≤ B + s.size ∧ f.sx.size ≤ B + s.size := by rw [← hf]; exact ⟨hsz2, Nat.le_trans hsz.2 (by omega)⟩
      have hft : f.nt = true := by rw [← hf]
      have hT2 : Inv N (B + s.size) D.tick := hT.mono (Nat.le_refl _) (by omega)
      have hul : usedL (setL n f D.files) = D.used + D.tick.grow n f := by
        rw [setL_lputf _ _ _ h.ok.srt, usedL_lputf _ _ _ h.ok.srt (fun hh => by rw [hft] at hh; cases hh), h.used]
        show _ = usedL D.files + (wt f.nx f.sx - wt (getF n D.files).nx (getF n D.files).sx)
        omega
      have hmx : max D.room (usedL D.files) = D.room := by rw [← h.used]; have := h.ok.u1; omega
      rw [hmx, hul]
      have hsame := put_same D.tick n f
      have hru : D.tick.room = D.room ∧ D.tick.used = D.used := ⟨rfl, rfl⟩
      by_cases hr : D.tick.grow n f ≤ D.room - D.used
      · obtain ⟨p1, p2, _, p4⟩ := hT2.put hn hfn hfs hB (.inr hr)
        rw [if_neg (by omega), p1, p2]
        exact ⟨rfl, hsame.2.2, hsame.1, hsame.2.1, p4⟩
      · have hu1 := h.ok.u1
        have hp : D.tick.put n f = (7, D.tick) := by
          unfold Dk.put; rw [if_pos (by rw [hru.1, hru.2]; omega)]
        rw [if_pos (by omega), hp]
        exact ⟨rfl, rfl, rfl, rfl, hT.mono (by omega) (by omega)⟩
  · rw [if_pos (show tryE D.lost D.armed ≠ 0 from he), if_pos he]
    exact ⟨rfl, rfl, rfl, rfl, hT.mono (by omega) (by omega)⟩
theorem wt_mono {a b c d : ByteArray} (h : a.size ≤ max c.size d.size) (h' : b.size ≤ max c.size d.size) : wt a b ≤ wt c d := by unfold wt; omega
/-- a file that isn't known is none -/
theorem get_unknown {n : ByteArray} (h : lget n D.files = none) : D.get n = Fl.zero := get_none h
theorem remove1_alike (h : Inv N B D) {n : ByteArray} (hn : n.size ≤ maxLen) (hB : B ≤ maxLen) : (D.remove1 n).files = rm1 D.files n ∧ (D.remove1 n).room = D.room ∧ (D.remove1 n).lost = D.lost ∧ (D.remove1 n).armed = D.armed ∧ Inv N B (D.remove1 n) := by
  unfold Dk.remove1 rm1
  have hs := h.getSm n
  have hne := h.getNeat n
  have hsame := put_same D n ⟨false, ByteArray.empty, (D.get n).st, (D.get n).sx⟩
  have hg : D.grow n ⟨false, ByteArray.empty, (D.get n).st, (D.get n).sx⟩ ≤ 0 := by
    unfold Dk.grow
    have := wt_mono (a := ByteArray.empty) (b := (D.get n).sx) (c := (D.get n).nx) (d := (D.get n).sx) (by rw [ByteArray.size_empty]; omega) (by omega)
    simp only; omega
  obtain ⟨_, p2, _, _⟩ := h.put hn (f := ⟨false, ByteArray.empty, (D.get n).st, (D.get n).sx⟩) ⟨fun _ => rfl, hne.2⟩ ⟨Nat.zero_le _, hs.2⟩ hB (.inl hg)
  exact ⟨p2, hsame.2.2, hsame.1, hsame.2.1, h.put_in hn (f := ⟨false, ByteArray.empty, (D.get n).st, (D.get n).sx⟩) ⟨fun _ => rfl, hne.2⟩ ⟨Nat.zero_le _, hs.2⟩ hB (.inl hg) (fun hh => by rw [get_unknown hh]; rfl)⟩
theorem sync1_alike (h : Inv N B D) {n : ByteArray} (hn : n.size ≤ maxLen) (hB : B ≤ maxLen) : (D.sync1 n).files = sy1 D.files n ∧ (D.sync1 n).room = D.room ∧ (D.sync1 n).lost = D.lost ∧ (D.sync1 n).armed = D.armed ∧ Inv N B (D.sync1 n) := by
  unfold Dk.sync1 sy1
  have hs := h.getSm n
  have hne := h.getNeat n
  have hsame := put_same D n ⟨(D.get n).nt, (D.get n).nx, (D.get n).nt, (D.get n).nx⟩
  have hg : D.grow n ⟨(D.get n).nt, (D.get n).nx, (D.get n).nt, (D.get n).nx⟩ ≤ 0 := by
    unfold Dk.grow
    have := wt_mono (a := (D.get n).nx) (b := (D.get n).nx) (c := (D.get n).nx) (d := (D.get n).sx) (by omega) (by omega)
    simp only; omega
  obtain ⟨_, p2, _, _⟩ := h.put hn (f := ⟨(D.get n).nt, (D.get n).nx, (D.get n).nt, (D.get n).nx⟩) ⟨hne.1, hne.1⟩ ⟨hs.1, hs.1⟩ hB (.inl hg)
  exact ⟨p2, hsame.2.2, hsame.1, hsame.2.1, h.put_in hn (f := ⟨(D.get n).nt, (D.get n).nx, (D.get n).nt, (D.get n).nx⟩) ⟨hne.1, hne.1⟩ ⟨hs.1, hs.1⟩ hB (.inl hg) (fun hh => by rw [get_unknown hh]; rfl)⟩
theorem removeL_alike (hB : B ≤ maxLen) : ∀ (ns : List ByteArray) (_ : ∀ n ∈ ns, n.size ≤ maxLen) {D : Dk} (_ : Inv N B D), (D.removeL ns).files = rmL D.files ns ∧ (D.removeL ns).room = D.room ∧ (D.removeL ns).lost = D.lost ∧ (D.removeL ns).armed = D.armed ∧ Inv N B (D.removeL ns)
  | [], _, _, h => ⟨rfl, rfl, rfl, rfl, h⟩
  | n :: r, hn, D, h => by
    obtain ⟨a1, a2, a3, a4, a5⟩ := remove1_alike h (hn n (List.mem_cons_self ..)) hB
    obtain ⟨b1, b2, b3, b4, b5⟩ := removeL_alike hB r (fun n' h' => hn n' (List.mem_cons_of_mem _ h')) a5
    have e1 : D.removeL (n :: r) = (D.remove1 n).removeL r := rfl
    have e2 : rmL D.files (n :: r) = rmL (rm1 D.files n) r := rfl
    rw [e1, e2, ← a1]
    exact ⟨b1, b2.trans a2, b3.trans a3, b4.trans a4, b5⟩
theorem syncL_alike (hB : B ≤ maxLen) : ∀ (ns : List ByteArray) (_ : ∀ n ∈ ns, n.size ≤ maxLen) {D : Dk} (_ : Inv N B D), (D.syncL ns).files = syL D.files ns ∧ (D.syncL ns).room = D.room ∧ (D.syncL ns).lost = D.lost ∧ (D.syncL ns).armed = D.armed ∧ Inv N B (D.syncL ns)
  | [], _, _, h => ⟨rfl, rfl, rfl, rfl, h⟩
  | n :: r, hn, D, h => by
    obtain ⟨a1, a2, a3, a4, a5⟩ := sync1_alike h (hn n (List.mem_cons_self ..)) hB
    obtain ⟨b1, b2, b3, b4, b5⟩ := syncL_alike hB r (fun n' h' => hn n' (List.mem_cons_of_mem _ h')) a5
    have e1 : D.syncL (n :: r) = (D.sync1 n).syncL r := rfl
    have e2 : syL D.files (n :: r) = syL (sy1 D.files n) r := rfl
    rw [e1, e2, ← a1]
    exact ⟨b1, b2.trans a2, b3.trans a3, b4.trans a4, b5⟩
theorem remove_alike (h : Inv N B D) (hB : B ≤ maxLen) (ns : List ByteArray) (hn : ∀ n ∈ ns, n.size ≤ maxLen) :
    removeR D.lost D.armed D.files ns = ((D.remove ns).1, (D.remove ns).2.files) ∧ (D.remove ns).2.room = D.room ∧ (D.remove ns).2.lost = D.lost ∧ (D.remove ns).2.armed = tryA D.lost D.armed ∧ Inv N B (D.remove ns).2 := by
  have hT := h.tick
  unfold removeR Dk.remove
  by_cases he : D.e = 0
  · rw [if_neg (show ¬ tryE D.lost D.armed ≠ 0 from fun hh => hh he), if_neg (show ¬ D.e ≠ 0 from fun hh => hh he)]
    have ha : allIn D.files ns = D.rmOk ns := rfl
    rw [ha]
    cases D.rmOk ns
    · rw [if_neg Bool.false_ne_true, if_neg Bool.false_ne_true]
      exact ⟨rfl, rfl, rfl, rfl, hT⟩
    · rw [if_pos rfl, if_pos rfl]
      obtain ⟨b1, b2, b3, b4, b5⟩ := removeL_alike hB ns hn hT
      exact ⟨by rw [b1]; rfl, b2, b3, b4, b5⟩
  · rw [if_pos (show tryE D.lost D.armed ≠ 0 from he), if_pos he]
    exact ⟨rfl, rfl, rfl, rfl, hT⟩
theorem sync_alike (h : Inv N B D) (hB : B ≤ maxLen) (ns : List ByteArray) (hn : ∀ n ∈ ns, n.size ≤ maxLen) :
    syncR D.lost D.armed D.files ns = ((D.sync ns).1, (D.sync ns).2.files) ∧ (D.sync ns).2.room = D.room ∧ (D.sync ns).2.lost = D.lost ∧ (D.sync ns).2.armed = tryA D.lost D.armed ∧ Inv N B (D.sync ns).2 := by
  have hT := h.tick
  unfold syncR Dk.sync
  by_cases he : D.e = 0
  · rw [if_neg (show ¬ tryE D.lost D.armed ≠ 0 from fun hh => hh he), if_neg (show ¬ D.e ≠ 0 from fun hh => hh he)]
    have ha : allN D.files ns = if ns = [] then D.files.map (·.1) else ns := by
      unfold allN fstL
      cases ns with
      | nil => rfl
      | cons n r => rw [if_neg (by simp), if_neg (by simp)]
    rw [ha]
    obtain ⟨b1, b2, b3, b4, b5⟩ := syncL_alike hB (if ns = [] then D.files.map (·.1) else ns) (fun n hh => by
      split at hh
      · obtain ⟨p, hp, rfl⟩ := List.mem_map.1 hh; exact h.ok.keys p hp
      · exact hn n hh) hT
    exact ⟨by rw [b1]; rfl, b2, b3, b4, b5⟩
  · rw [if_pos (show tryE D.lost D.armed ≠ 0 from he), if_pos he]
    exact ⟨rfl, rfl, rfl, rfl, hT⟩
theorem read_alike (D : Dk) (n : ByteArray) : readR D.lost D.armed D.files n = D.read n := rfl
theorem names_alike (h : Inv N B D) : namesR D.lost D.armed D.files = D.names := by
  unfold namesR Dk.names
  by_cases he : D.e = 0
  · rw [if_neg (show ¬ tryE D.lost D.armed ≠ 0 from fun hh => hh he), if_neg (show ¬ D.e ≠ 0 from fun hh => hh he)]
    unfold thereL Dk.nameL
    rw [List.filter_map]
    congr 1
    refine List.filter_congr fun p hp => ?_
    have hnd := h.ok.srt.nodup blt_ordd
    have : lget p.1 D.files = some p.2 := (lget_some hnd).2 hp
    show p.2.nt = (D.get p.1).nt
    unfold Dk.get; rw [this]; rfl
  · rw [if_pos (show tryE D.lost D.armed ≠ 0 from he), if_pos he]
theorem left_neat {f : Fl} (h : f.neat) (ch : List Int) (k : Nat) : (f.left ch k).1 = false → (f.left ch k).2.size = 0 := by
  unfold Fl.left
  split
  · rename_i h1
    split
    · exact h.2
    · intro hh; cases hh
  · split
    · exact h.2
    · exact h.1
theorem crash_alike (h : Inv N B D) (hB : B ≤ maxLen) (ch : List Int) : (crR ch D.files (D.files, 0)).1 = (D.crash ch).files ∧ (D.crash ch).room = D.room ∧ (D.crash ch).lost = D.lost ∧ (D.crash ch).armed = D.armed ∧ Inv N B (D.crash ch) := by
  have key : ∀ (L : List FRow) (s : Dk × Nat), Inv N B s.1 → s.1.room = D.room → s.1.lost = D.lost → s.1.armed = D.armed → (L.map (·.1)).Nodup → (∀ p ∈ L, s.1.get p.1 = p.2 ∧ p.1.size ≤ maxLen ∧ lget p.1 s.1.files ≠ none) →
      (crR ch L (s.1.files, s.2)).1 = ((L.map (·.1)).foldl (Dk.crash1 ch) s).1.files ∧ ((L.map (·.1)).foldl (Dk.crash1 ch) s).1.room = D.room ∧ ((L.map (·.1)).foldl (Dk.crash1 ch) s).1.lost = D.lost ∧ ((L.map (·.1)).foldl (Dk.crash1 ch) s).1.armed = D.armed ∧ Inv N B ((L.map (·.1)).foldl (Dk.crash1 ch) s).1 := by
    intro L
    induction L with
    | nil => exact fun s hs h1 h2 h3 _ _ => ⟨rfl, h1, h2, h3, hs⟩
    | cons p r ih =>
      intro s hs h1 h2 h3 hnd hget
      obtain ⟨n, f⟩ := p
      obtain ⟨d1, d2⟩ := List.pairwise_cons.1 hnd
      obtain ⟨g1, g2, g3⟩ := hget _ (List.mem_cons_self ..)
      simp only at g1 g2 g3
      have e1 : crR ch ((n, f) :: r) (s.1.files, s.2) = crR ch r (crR1 ch (s.1.files, s.2) (n, f)) := rfl
      have e2 : ((((n, f) :: r).map (·.1)).foldl (Dk.crash1 ch) s) = ((r.map (·.1)).foldl (Dk.crash1 ch) (Dk.crash1 ch s n)) := rfl
      rw [e1, e2]
      by_cases hsf : f.safe = true
      · rw [crR1_yes hsf]
        have e3 : Dk.crash1 ch s n = s := by unfold Dk.crash1; rw [g1, if_pos hsf]
        rw [e3]
        exact ih s hs h1 h2 h3 d2 fun p hp => hget p (List.mem_cons_of_mem _ hp)
      · have hsf2 : f.safe = false := by simpa using hsf
        obtain ⟨⟨lb, lt⟩, hl⟩ : ∃ q : Bool × ByteArray, f.left ch s.2 = q := ⟨_, rfl⟩
        have hfn : f.neat := by rw [← g1]; exact hs.getNeat n
        have hfs : f.nx.size ≤ B ∧ f.sx.size ≤ B := by rw [← g1]; exact hs.getSm n
        have hln := left_neat hfn ch s.2
        have hlsz := left_size f ch s.2 B hfs.1 hfs.2
        have hlm := left_size f ch s.2 (max f.nx.size f.sx.size) (by omega) (by omega)
        rw [hl] at hln hlsz hlm
        simp only at hln hlsz hlm
        rw [crR1_no (s := (s.1.files, s.2)) hsf2 hl]
        have e3 : Dk.crash1 ch s n = ((s.1.put n ⟨lb, lt, lb, lt⟩).2, s.2 + 1) := crash1_no (D := s.1) (at_ := s.2) g1 hsf2 hl
        rw [e3]
        have hgr : s.1.grow n ⟨lb, lt, lb, lt⟩ ≤ 0 := by
          unfold Dk.grow
          rw [g1]
          have := wt_mono (a := lt) (b := lt) (c := f.nx) (d := f.sx) hlm hlm
          simp only; omega
        have hsame := put_same s.1 n ⟨lb, lt, lb, lt⟩
        obtain ⟨_, p2, _, _⟩ := hs.put g2 (f := ⟨lb, lt, lb, lt⟩) ⟨hln, hln⟩ ⟨hlsz, hlsz⟩ hB (.inl hgr)
        have hI := hs.put_in g2 (f := ⟨lb, lt, lb, lt⟩) ⟨hln, hln⟩ ⟨hlsz, hlsz⟩ hB (.inl hgr) (fun hh => absurd hh g3)
        have := ih ((s.1.put n ⟨lb, lt, lb, lt⟩).2, s.2 + 1) hI (hsame.2.2.trans h1) (hsame.1.trans h2) (hsame.2.1.trans h3) d2 (fun p hp => by
          obtain ⟨q1, q2, q3⟩ := hget p (List.mem_cons_of_mem _ hp)
          have hne : p.1 ≠ n := fun e => d1 p.1 (List.mem_map.2 ⟨p, hp, rfl⟩) e.symm
          refine ⟨by rw [get_put_ne s.1 _ hne]; exact q1, q2, ?_⟩
          simp only
          rw [p2, setL_lputf _ _ _ hs.ok.srt]
          unfold lputf
          split
          · rw [lget_lput blt_ordd, if_neg hne]; exact q3
          · rw [lget_ldel, if_neg hne]; exact q3)
        rw [← p2]
        exact this
  have hnd := h.ok.srt.nodup blt_ordd
  refine key D.files (D, 0) h rfl rfl rfl hnd (fun p hp => ?_)
  have hs : lget p.1 D.files = some p.2 := (lget_some hnd).2 hp
  exact ⟨by simp only [Dk.get, hs]; rfl, h.ok.keys p hp, by rw [hs]; simp⟩
theorem xorAt_size (s : ByteArray) (i : Nat) (b : UInt8) : (xorAt s i b).size = s.size := by
  unfold xorAt; show Array.size _ = _; simp
theorem spoil_alike (h : Inv N B D) (hB : B ≤ maxLen) {n : ByteArray} (hn : n.size ≤ maxLen) (i : Int) (b : UInt8) :
    spoilR D.files n i b = ((D.spoil n i b).1, (D.spoil n i b).2.files) ∧ (D.spoil n i b).2.room = D.room ∧ (D.spoil n i b).2.lost = D.lost ∧ (D.spoil n i b).2.armed = D.armed ∧ Inv N B (D.spoil n i b).2 := by
  unfold spoilR Dk.spoil
  have hgF : getF n D.files = D.get n := rfl
  rw [hgF]
  have hne := h.getNeat n
  have hsz := h.getSm n
  by_cases hc : (D.get n).safe = true ∧ 0 ≤ i ∧ i < ((D.get n).nx.size : Int)
  · have hnt : (D.get n).nt = true := by
      cases hq : (D.get n).nt with
      | true => rfl
      | false => have := hne.1 hq; omega
    rw [if_pos ⟨hnt, hc⟩, if_pos hc, hnt]
    have hsafe : (D.get n).nt = (D.get n).st ∧ (D.get n).nx = (D.get n).sx := by simpa [Fl.safe] using hc.1
    generalize hx : xorAt (D.get n).nx i.toNat b = x
    have hxs : x.size = (D.get n).nx.size := by rw [← hx]; exact xorAt_size _ _ _
    have hgr : D.grow n ⟨true, x, true, x⟩ ≤ 0 := by
      unfold Dk.grow
      have := wt_mono (a := x) (b := x) (c := (D.get n).nx) (d := (D.get n).sx) (by omega) (by omega)
      simp only; omega
    have hfx : (⟨true, x, true, x⟩ : Fl).neat := ⟨(fun hh => by cases hh), (fun hh => by cases hh)⟩
    have hlg : lget n D.files ≠ none := fun hh => by rw [get_unknown hh] at hnt; cases hnt
    obtain ⟨_, p2, p3, _⟩ := h.put hn (f := ⟨true, x, true, x⟩) hfx ⟨by simp only; omega, by simp only; omega⟩ hB (.inl hgr)
    have hI := h.put_in hn (f := ⟨true, x, true, x⟩) hfx ⟨by simp only; omega, by simp only; omega⟩ hB (.inl hgr) (fun hh => absurd hh hlg)
    have hsame := put_same D n ⟨true, x, true, x⟩
    have hgz : D.grow n ⟨true, x, true, x⟩ = 0 := by
      unfold Dk.grow wt
      rw [← hsafe.2]
      simp only
      omega
    have e : ({ D with files := lput blt n ⟨true, x, true, x⟩ D.files } : Dk) = (D.put n ⟨true, x, true, x⟩).2 := by
      have h1 : (D.put n ⟨true, x, true, x⟩).2.used = D.used := by rw [p3, hgz]; omega
      have h2 : (D.put n ⟨true, x, true, x⟩).2.files = lput blt n ⟨true, x, true, x⟩ D.files := by rw [p2, setL_lputf _ _ _ h.ok.srt]; rfl
      obtain ⟨s1, s2, s3⟩ := hsame
      generalize (D.put n ⟨true, x, true, x⟩).2 = D' at *
      obtain ⟨a1, a2, a3, a4, a5⟩ := D'
      simp only at h1 h2 s1 s2 s3
      rw [h1, h2, s1, s2, s3]
    rw [e]
    exact ⟨by rw [p2], hsame.2.2, hsame.1, hsame.2.1, hI⟩
  · rw [if_neg hc, if_neg (fun hh => hc hh.2)]
    exact ⟨rfl, rfl, rfl, rfl, h⟩
theorem fail_alike (h : Inv N B D) (n : Int) : (D.fail n).armed - 1 = min (max n (-1)) 1073741824 ∧ Inv N B (D.fail n) := by
  unfold Dk.fail
  refine ⟨?_, ⟨h.ok.u0, h.ok.u1, h.ok.r1, ?_, ?_, h.ok.srt, h.ok.keys, h.ok.t⟩, h.used, h.sm, h.len, h.neat, ?_⟩ <;> simp only <;> split <;> omega
theorem lose_alike (h : Inv N B D) : Inv N B { D with lost := true } := ⟨⟨h.ok.u0, h.ok.u1, h.ok.r1, h.ok.a0, h.ok.a1, h.ok.srt, h.ok.keys, h.ok.t⟩, h.used, h.sm, h.len, h.neat, h.arm⟩
theorem new_alike (room : Int) (hr : room ≤ 9223372036854775807) : Inv 0 0 (Dk.new room) := by
  refine ⟨Dk.new_ok room hr, rfl, (fun p hp => by cases hp), Nat.le_refl _, (fun p hp => by cases hp), ?_⟩
  show (0 : Int) ≤ 1073741825
  decide
end
end Go.Proofs.Yteleafbfdfipdaa
