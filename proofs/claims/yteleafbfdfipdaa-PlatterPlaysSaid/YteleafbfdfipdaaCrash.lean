/-
  Walks through platter: Crash, Used, Safe.
-/
import Derived.Test.YteleafbfdfipdaaSync
namespace Go.Proofs.Yteleafbfdfipdaa
open Go.RowKit Go.Sort

def Fl.safe (f : Fl) : Bool := decide (f.nt = f.st ∧ f.nx = f.sx)
def Dk.crash1 (ch : List Int) (s : Dk × Nat) (n : ByteArray) : Dk × Nat :=
  if (s.1.get n).safe then s
  else ((s.1.put n ⟨((s.1.get n).left ch s.2).1, ((s.1.get n).left ch s.2).2, ((s.1.get n).left ch s.2).1, ((s.1.get n).left ch s.2).2⟩).2, s.2 + 1)
def Dk.crashL (D : Dk) (ch : List Int) (ns : List ByteArray) : Dk × Nat := ns.foldl (Dk.crash1 ch) (D, 0)
def Dk.crash (D : Dk) (ch : List Int) : Dk := (D.crashL ch (D.files.map (·.1))).1

theorem left_size (f : Fl) (ch : List Int) (k B : Nat) (h1 : f.nx.size ≤ B) (h2 : f.sx.size ≤ B) : (f.left ch k).2.size ≤ B := by
  unfold Fl.left
  split
  · split
    · exact h2
    · simp only [ByteArray.size_extract]; omega
  · split
    · exact h2
    · exact h1
theorem Dk.Ok.crash1 {s : Dk × Nat} (h : s.1.Ok) (ch : List Int) {n : ByteArray} (hn : n.size ≤ maxLen) : (Dk.crash1 ch s n).1.Ok := by
  unfold Dk.crash1
  split
  · exact h
  · exact h.put hn (left_size _ _ _ _ (h.t n).1 (h.t n).2) (left_size _ _ _ _ (h.t n).1 (h.t n).2)
theorem Dk.Ok.crashL {D : Dk} (h : D.Ok) (ch : List Int) {ns : List ByteArray} (hn : ∀ n ∈ ns, n.size ≤ maxLen) : (D.crashL ch ns).1.Ok := by
  unfold Dk.crashL
  suffices H : ∀ s : Dk × Nat, s.1.Ok → (ns.foldl (Dk.crash1 ch) s).1.Ok from H (D, 0) h
  induction ns with
  | nil => exact fun s hs => hs
  | cons n r ih => exact fun s hs => ih (fun n' h' => hn n' (List.mem_cons_of_mem _ h')) _ (hs.crash1 ch (hn n (List.mem_cons_self ..)))
theorem crashL_take {D : Dk} {ch : List Int} {ns : List ByteArray} {k : Nat} {n : ByteArray} (h : ns[k]? = some n) : D.crashL ch (ns.take (k + 1)) = Dk.crash1 ch (D.crashL ch (ns.take k)) n := by
  unfold Dk.crashL
  rw [List.take_add_one, h]
  simp
theorem get_put_le {D : Dk} {B : Nat} (h : ∀ n, (D.get n).nx.size ≤ B ∧ (D.get n).sx.size ≤ B) (n : ByteArray) (f : Fl) (hf : f.nx.size ≤ B ∧ f.sx.size ≤ B) (n' : ByteArray) : ((D.put n f).2.get n').nx.size ≤ B ∧ ((D.put n f).2.get n').sx.size ≤ B := by
  unfold Dk.put
  split
  · exact h n'
  · simp only
    rw [get_lputf]
    split
    · split
      · exact hf
      · exact ⟨Nat.zero_le _, Nat.zero_le _⟩
    · exact h n'
theorem crashL_small {D : Dk} {B : Nat} (h : ∀ n, (D.get n).nx.size ≤ B ∧ (D.get n).sx.size ≤ B) (ch : List Int) {ns : List ByteArray} (n' : ByteArray) : ((D.crashL ch ns).1.get n').nx.size ≤ B ∧ ((D.crashL ch ns).1.get n').sx.size ≤ B := by
  unfold Dk.crashL
  suffices H : ∀ s : Dk × Nat, (∀ n, (s.1.get n).nx.size ≤ B ∧ (s.1.get n).sx.size ≤ B) → (((ns.foldl (Dk.crash1 ch) s).1.get n').nx.size ≤ B ∧ ((ns.foldl (Dk.crash1 ch) s).1.get n').sx.size ≤ B) from H (D, 0) h
  induction ns with
  | nil => exact fun s hs => hs n'
  | cons n r ih =>
    refine fun s hs => ih _ fun n'' => ?_
    unfold Dk.crash1
    split
    · exact hs n''
    · have hl := left_size (s.1.get n) ch s.2 B (hs n).1 (hs n).2
      exact get_put_le hs n _ ⟨hl, hl⟩ n''
theorem crash1_at (ch : List Int) (s : Dk × Nat) (n : ByteArray) : (Dk.crash1 ch s n).2 ≤ s.2 + 1 := by
  unfold Dk.crash1; split <;> simp

theorem crash1_yes {D : Dk} {ch : List Int} {at_ : Nat} {n : ByteArray} {f : Fl} (hf : D.get n = f) (hs : f.safe = true) : Dk.crash1 ch (D, at_) n = (D, at_) := by
  unfold Dk.crash1; rw [if_pos (by rw [hf]; exact hs)]
theorem crash1_no {D : Dk} {ch : List Int} {at_ : Nat} {n : ByteArray} {f : Fl} {lb : Bool} {lt : ByteArray} (hf : D.get n = f) (hs : f.safe = false) (hl : f.left ch at_ = (lb, lt)) :
    Dk.crash1 ch (D, at_) n = ((D.put n ⟨lb, lt, lb, lt⟩).2, at_ + 1) := by
  unfold Dk.crash1; rw [if_neg (by rw [hf, hs]; exact Bool.false_ne_true)]; simp only [hf, hl]

set_option maxRecDepth 100000 in
set_option maxHeartbeats 2000000 in
theorem crash_any (w : World) (d m : Nat) (D : Dk) (hD : DkAt w d m D) (hO : D.Ok) (hT : ∀ n, (D.get n).nx.size ≤ 1000000 ∧ (D.get n).sx.size ≤ 1000000) (hfl : D.files.length ≤ 1048576)
    (cv : Value) (ch : List Int) (hS : Sl w cv (ch.map (Value.int .i64))) (hr : ∀ x ∈ ch, I64 x) (hcl : ch.length ≤ 9223372036854775807)
    (hap : ∀ b o n c, cv = .slice (some ⟨b, o, none⟩) n c → ch.map (Value.int .i64) ≠ [] → ¬ (b = d ∨ b = m)) :
    Calls Try.prog 23 #[.pointer (some ⟨d, 0, none⟩), cv] w fun e w' =>
      e = .returned (.tuple #[]) ∧ Chg (fun k => k = d ∨ k = m) w w' ∧ DkAt w' d m (D.crash ch) := by
  go_enter Try.func23, Try.ntmps23
  go_wp2_with fail
  refine (all_any _ d m D hD hO.srt hO.keys hfl).mono ?_
  rintro e w1 ⟨v, rfl, hS1, hE⟩
  replace hD := hD.ext hE
  have hn : ∀ n ∈ D.files.map (·.1), n.size ≤ maxLen := fun n h => by
    obtain ⟨p, hp, rfl⟩ := List.mem_map.1 h
    exact hO.keys p hp
  have hl : (D.files.map (·.1)).length ≤ 1048576 := by simpa using hfl
  replace hS1 : Sl w1 v ((D.files.map (·.1)).map Value.string) := by rw [List.map_map]; exact hS1
  obtain ⟨ns, hns⟩ : ∃ ns, ns = D.files.map (·.1) := ⟨_, rfl⟩
  rw [← hns] at hS1 hn hl
  have HN := Lib.hid hns
  clear hns
  have hap1 := hD.apart hS1
  replace hS := hS.ext hE
  obtain ⟨A, c, rfl, hx⟩ := hS1
  rw [List.length_map]
  go_wp2_with fail
  go_loopw [4, 12] (fun a i wr => ∃ k : Nat, k ≤ ns.length ∧ i = .int .i64 k ∧ a = .int .i64 (D.crashL ch (ns.take k)).2 ∧ (D.crashL ch (ns.take k)).2 ≤ k ∧ DkAt wr d m (D.crashL ch (ns.take k)).1 ∧ Chg (fun k => k = d ∨ k = m) w1 wr) (fun _ i _ => ns.length - (intOf i).toNat)
  case atStart => exact ⟨0, Nat.zero_le _, rfl, by simp [Dk.crashL], by simp [Dk.crashL], by simpa [Dk.crashL] using hD, Chg.refl _ _⟩
  case round =>
    obtain ⟨k, hk, rfl, rfl, hat, hDk, hCk⟩ := hrel
    by_cases hlt : k < ns.length
    · have hne' : ns.map Value.string ≠ [] := by intro e; rw [List.map_eq_nil_iff] at e; subst e; simp at hlt
      obtain ⟨b, o, rfl, hc⟩ := hx hne'
      replace hap1 := hap1 b o _ _ (by rw [List.length_map]) hne'
      have hs : ns[k]? = some ns[k] := List.getElem?_eq_getElem hlt
      have hcw := hc k (.string ns[k]) (by rw [List.getElem?_map, hs]; rfl)
      have hcell : wr.cell? ⟨b, o + k, none⟩ = some (.string ns[k]) := (hCk.cell (cell_lt hcw) hap1).trans hcw
      have hOk : (D.crashL ch (ns.take k)).1.Ok := hO.crashL ch fun n h => hn n (List.mem_of_mem_take h)
      have hOk1 : ∀ n, ((D.crashL ch (ns.take k)).1.get n).nx.size ≤ 1000000 ∧ ((D.crashL ch (ns.take k)).1.get n).sx.size ≤ 1000000 := crashL_small hT ch
      have hstep := crashL_take (D := D) (ch := ch) hs
      have hsz : ns[k].size ≤ maxLen := hn _ (List.getElem_mem hlt)
      have hSr := hS.chg hCk hap
      have HS := Lib.hid hstep
      clear hstep hcw
      generalize ns[k] = s at hs hcell HS hsz
      generalize D.crashL ch (ns.take k) = Dk at hDk hOk hOk1 HS hat
      obtain ⟨Dk, at_⟩ := Dk
      simp only at hDk hOk hOk1 hat ⊢
      have e4 : wr.cell? ⟨d, 4, none⟩ = some (.map (some m)) := hDk.1.cell 4
      have cl := hDk.look s
      have hz := hOk.t s
      have hz1 := hOk1 s
      generalize hf : Dk.get s = f at cl hz hz1
      obtain ⟨n1, s1, n2, s2⟩ := f
      simp only at cl hz hz1
      have HF := Lib.hid hf
      clear hf
      by_cases hnn : n1 = n2
      · subst hnn
        by_cases hxx : s1 = s2
        · subst hxx
          have hone := crash1_yes (ch := ch) (at_ := at_) HF.out (by simp [Fl.safe])
          have HONE := Lib.hid hone
          clear hone
          go_wp2_with fail
          go_roundw
          case rel =>
            refine ⟨k + 1, by omega, by go_num, ?_, ?_, ?_, hCk.alloc _⟩
            · rw [HS.out, HONE.out]
            · rw [HS.out, HONE.out]; simp only; omega
            · rw [HS.out, HONE.out]; exact hDk.alloc _
          case measure => simp [intOf]; omega
        · skip
          have hsf : Fl.safe ⟨n1, s1, n1, s2⟩ = false := by simp [Fl.safe, hxx]
          have hxl : ¬ s1.toList = s2.toList := fun h => hxx (toList_inj.1 h)
          clear hxx
          go_wp2_with fail
          have hlx := left_any (wr.alloc (.cells #[.bool n1, .string s1, .bool n1, .string s2] 81)) cv ch (hSr.ext ((Ext.refl wr).alloc _)) hr hcl at_ ⟨n1, s1, n1, s2⟩ (by simp only; omega) (by simp only; omega)
          have hlz := left_size ⟨n1, s1, n1, s2⟩ ch at_ maxLen hz.1 hz.2
          generalize hl : Fl.left ⟨n1, s1, n1, s2⟩ ch at_ = l at hlx hlz
          obtain ⟨lb, lt⟩ := l
          simp only at hlx hlz
          have hone := crash1_no (ch := ch) (at_ := at_) HF.out hsf hl
          have HONE := Lib.hid hone
          clear hone hl
          refine hlx.mono ?_
          rintro e w2 ⟨rfl, hE2⟩
          have hE3 := ((Ext.refl wr).alloc _).trans hE2
          clear hE2 hlx
          go_wp2_with fail
          refine (put_any _ d m Dk ((hDk.ext hE3).alloc _) hOk s _ _ _ _ hlz hlz).mono ?_
          rintro e w3 ⟨rfl, hC3, hD3⟩
          go_wp2_with fail
          go_roundw
          case rel =>
            refine ⟨k + 1, by omega, by go_num, ?_, ?_, ?_, (hCk.ext_trans (hE3.alloc _)).trans hC3 (fun _ _ h => h)⟩
            · rw [HS.out, HONE.out]; go_num
            · rw [HS.out, HONE.out]; simp only; omega
            · rw [HS.out, HONE.out]; exact hD3
          case measure => simp [intOf]; omega
      · cases n1 <;> cases n2
        · exact absurd rfl hnn
        · skip
          have hsf : Fl.safe ⟨false, s1, true, s2⟩ = false := by simp [Fl.safe]
          clear hnn
          go_wp2_with fail
          have hlx := left_any (wr.alloc (.cells #[.bool false, .string s1, .bool true, .string s2] 81)) cv ch (hSr.ext ((Ext.refl wr).alloc _)) hr hcl at_ ⟨false, s1, true, s2⟩ (by simp only; omega) (by simp only; omega)
          have hlz := left_size ⟨false, s1, true, s2⟩ ch at_ maxLen hz.1 hz.2
          generalize hl : Fl.left ⟨false, s1, true, s2⟩ ch at_ = l at hlx hlz
          obtain ⟨lb, lt⟩ := l
          simp only at hlx hlz
          have hone := crash1_no (ch := ch) (at_ := at_) HF.out hsf hl
          have HONE := Lib.hid hone
          clear hone hl
          refine hlx.mono ?_
          rintro e w2 ⟨rfl, hE2⟩
          have hE3 := ((Ext.refl wr).alloc _).trans hE2
          clear hE2 hlx
          go_wp2_with fail
          refine (put_any _ d m Dk ((hDk.ext hE3).alloc _) hOk s _ _ _ _ hlz hlz).mono ?_
          rintro e w3 ⟨rfl, hC3, hD3⟩
          go_wp2_with fail
          go_roundw
          case rel =>
            refine ⟨k + 1, by omega, by go_num, ?_, ?_, ?_, (hCk.ext_trans (hE3.alloc _)).trans hC3 (fun _ _ h => h)⟩
            · rw [HS.out, HONE.out]; go_num
            · rw [HS.out, HONE.out]; simp only; omega
            · rw [HS.out, HONE.out]; exact hD3
          case measure => simp [intOf]; omega
        · skip
          have hsf : Fl.safe ⟨true, s1, false, s2⟩ = false := by simp [Fl.safe]
          clear hnn
          go_wp2_with fail
          have hlx := left_any (wr.alloc (.cells #[.bool true, .string s1, .bool false, .string s2] 81)) cv ch (hSr.ext ((Ext.refl wr).alloc _)) hr hcl at_ ⟨true, s1, false, s2⟩ (by simp only; omega) (by simp only; omega)
          have hlz := left_size ⟨true, s1, false, s2⟩ ch at_ maxLen hz.1 hz.2
          generalize hl : Fl.left ⟨true, s1, false, s2⟩ ch at_ = l at hlx hlz
          obtain ⟨lb, lt⟩ := l
          simp only at hlx hlz
          have hone := crash1_no (ch := ch) (at_ := at_) HF.out hsf hl
          have HONE := Lib.hid hone
          clear hone hl
          refine hlx.mono ?_
          rintro e w2 ⟨rfl, hE2⟩
          have hE3 := ((Ext.refl wr).alloc _).trans hE2
          clear hE2 hlx
          go_wp2_with fail
          refine (put_any _ d m Dk ((hDk.ext hE3).alloc _) hOk s _ _ _ _ hlz hlz).mono ?_
          rintro e w3 ⟨rfl, hC3, hD3⟩
          go_wp2_with fail
          go_roundw
          case rel =>
            refine ⟨k + 1, by omega, by go_num, ?_, ?_, ?_, (hCk.ext_trans (hE3.alloc _)).trans hC3 (fun _ _ h => h)⟩
            · rw [HS.out, HONE.out]; go_num
            · rw [HS.out, HONE.out]; simp only; omega
            · rw [HS.out, HONE.out]; exact hD3
          case measure => simp [intOf]; omega
        · exact absurd rfl hnn
    · go_wp2_with fail
      go_end0
      rw [List.take_of_length_le (by omega), HN.out] at hDk
      exact ⟨rfl, hE.chg_trans hCk, hDk⟩
end Go.Proofs.Yteleafbfdfipdaa
