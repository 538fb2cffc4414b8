/-
  Walks through platter, on: Try on a disk, put as one contract, Write, Append, Read.
-/
import Derived.Test.YteleafbfdfipdaaPlat
import Derived.Test.YteleafbfdfipdaaBase
namespace Go.Proofs.Yteleafbfdfipdaa
open Go.RowKit Go.Sort

def tryE (lost : Bool) (armed : Int) : Int := if lost then 14 else if armed = 1 then 8 else 0
def tryA (lost : Bool) (armed : Int) : Int := if lost then armed else if 0 < armed then armed - 1 else armed
def Dk.tick (D : Dk) : Dk := { D with armed := tryA D.lost D.armed }
def Dk.e (D : Dk) : Int := tryE D.lost D.armed
def Dk.grow (D : Dk) (n : ByteArray) (f : Fl) : Int := wt f.nx f.sx - wt (D.get n).nx (D.get n).sx
def lputf (L : List (ByteArray × Fl)) (n : ByteArray) (f : Fl) : List (ByteArray × Fl) := if f.nt || f.st then lput blt n f L else ldel n L
theorem lputf_perm {L : List (ByteArray × Fl)} (h : Rises blt L) (n : ByteArray) (f : Fl) : (putf L n f).Perm (lputf L n f) := by
  unfold putf lputf
  split
  · exact (lput_perm blt_ordd h).symm
  · exact List.Perm.refl _
def Dk.put (D : Dk) (n : ByteArray) (f : Fl) : Int × Dk :=
  if 0 < D.grow n f ∧ D.room - D.used < D.grow n f then (7, D)
  else (0, { D with used := nuse D.used (D.grow n f), files := lputf D.files n f })
/-- What every disk is: the sums in bounds, the texts no longer than can be. -/
structure Dk.Ok (D : Dk) : Prop where
  u0 : 0 ≤ D.used
  u1 : D.used ≤ D.room
  r1 : D.room ≤ 9223372036854775807
  a0 : 0 ≤ D.armed
  a1 : D.armed ≤ 9223372036854775807
  srt : Rises blt D.files
  keys : ∀ p ∈ D.files, p.1.size ≤ maxLen
  t : ∀ n, (D.get n).nx.size ≤ maxLen ∧ (D.get n).sx.size ≤ maxLen

theorem DkAt.chg_armed {w : World} {d m : Nat} {D : Dk} (h : DkAt w d m D) (a : Int) :
    DkAt (w.setCell ⟨d, 2 + 1, none⟩ (.int .i64 a)) d m { D with armed := a } := ⟨h.1.set 3 _, h.2.setCell _ _⟩

theorem try_any (w : World) (d m : Nat) (D : Dk) (hD : DkAt w d m D) (ha : 0 ≤ D.armed) (ha1 : D.armed ≤ 9223372036854775807) :
    Calls Try.prog 36 #[.pointer (some ⟨d, 2, none⟩)] w fun e w' => e = .returned (.int .i64 D.e) ∧ Chg (fun k => k = d) w w' ∧ DkAt w' d m D.tick := by
  obtain ⟨room, used, lost, armed, files⟩ := D
  simp only at ha ha1
  have c2 : w.cell? ⟨d, 2, none⟩ = some (.bool lost) := hD.1.cell 2
  have c3 : w.cell? ⟨d, 2 + 1, none⟩ = some (.int .i64 armed) := hD.1.cell 3
  have f3 : w.frozen? ⟨d, 2 + 1, none⟩ = false := hD.1.frozen 3
  unfold Dk.e Dk.tick tryE tryA
  cases lost
  · rcases (show armed = 0 ∨ armed = 1 ∨ 2 ≤ armed by omega) with rfl | rfl | h
    · refine (try_calm d 2 w c2 c3).mono ?_
      rintro e w' ⟨rfl, rfl⟩
      exact ⟨rfl, Chg.refl _ _, hD⟩
    · refine (try_last d 2 w c2 c3 f3).mono ?_
      rintro e w' ⟨rfl, rfl⟩
      exact ⟨rfl, (Chg.refl (fun k => k = d) _).setCell (.inl rfl) _, hD.chg_armed 0⟩
    · refine (try_more d 2 w armed h ha1 c2 c3 f3).mono ?_
      rintro e w' ⟨rfl, rfl⟩
      refine ⟨by rw [if_neg (by simp), if_neg (by simp only; omega)], (Chg.refl (fun k => k = d) _).setCell (.inl rfl) _, ?_⟩
      rw [if_neg (by simp), if_pos (by simp only; omega)]
      exact hD.chg_armed _
  · refine (try_lost d 2 w c2).mono ?_
    rintro e w' ⟨rfl, rfl⟩
    exact ⟨rfl, Chg.refl _ _, hD⟩

theorem put_any (w : World) (d m : Nat) (D : Dk) (hD : DkAt w d m D) (hO : D.Ok) (n : ByteArray) (n1 n2 : Bool) (s1 s2 : ByteArray) (h1 : s1.size ≤ maxLen) (h2 : s2.size ≤ maxLen) :
    Calls Try.prog 41 #[.pointer (some ⟨d, 0, none⟩), .string n, .agg #[.bool n1, .string s1, .bool n2, .string s2]] w fun e w' =>
      e = .returned (.int .i64 (D.put n ⟨n1, s1, n2, s2⟩).1) ∧ Chg (fun k => k = d ∨ k = m) w w' ∧ DkAt w' d m (D.put n ⟨n1, s1, n2, s2⟩).2 := by
  unfold Dk.put Dk.grow
  simp only
  split
  · rename_i h
    refine (put_full w d m D hD n n1 n2 s1 s2 h1 h2 (hO.t n).1 (hO.t n).2 hO.u0 hO.u1 hO.r1 h.2 h.1).mono ?_
    rintro e w' ⟨rfl, he⟩
    exact ⟨rfl, he.chg, hD.ext he⟩
  · rename_i h
    refine (put_ok w d m D hD n n1 n2 s1 s2 h1 h2 (hO.t n).1 (hO.t n).2 hO.u0 hO.u1 hO.r1 (by omega)).mono ?_
    rintro e w' ⟨rfl, hc, hd⟩
    exact ⟨rfl, hc, hd.1, hd.2.perm (lputf_perm hO.srt _ _)⟩

theorem Dk.Ok.tick {D : Dk} (h : D.Ok) : D.tick.Ok := by
  refine ⟨h.u0, h.u1, h.r1, ?_, ?_, h.srt, h.keys, h.t⟩
  · have := h.a0
    unfold Dk.tick tryA; simp only; split
    · exact h.a0
    · split <;> omega
  · have := h.a1
    unfold Dk.tick tryA; simp only; split
    · exact h.a1
    · split <;> omega

theorem get_lputf {D : Dk} (n n' : ByteArray) (f : Fl) (u : Int) : Dk.get { D with used := u, files := lputf D.files n f } n' = if n' = n then (if f.nt || f.st then f else Fl.zero) else D.get n' := by
  unfold Dk.get lputf
  simp only
  split
  · rw [lget_lput blt_ordd]; split <;> rfl
  · rw [lget_ldel]; split <;> rfl
theorem Dk.Ok.put {D : Dk} (h : D.Ok) {n : ByteArray} (hn : n.size ≤ maxLen) {f : Fl} (h1 : f.nx.size ≤ maxLen) (h2 : f.sx.size ≤ maxLen) : (D.put n f).2.Ok := by
  unfold Dk.put
  split
  · exact h
  · rename_i hg
    have a := h.u0; have b := h.u1; have c := h.r1
    refine ⟨?_, ?_, h.r1, h.a0, h.a1, ?_, ?_, fun n' => ?_⟩
    · simp only [nuse]; split <;> omega
    · simp only [nuse]; split <;> omega
    · simp only [lputf]; split
      · exact Rises.put blt_ordd h.srt
      · exact h.srt.del _
    · simp only [lputf]
      intro p hp
      split at hp
      · rcases mem_lput hp with rfl | hp
        · exact hn
        · exact h.keys p hp
      · exact h.keys p (List.mem_filter.1 hp).1
    · simp only
      rw [get_lputf]
      split
      · split
        · exact ⟨h1, h2⟩
        · exact ⟨Nat.zero_le _, Nat.zero_le _⟩
      · exact h.t n'

def Dk.change (D : Dk) (n : ByteArray) (g : ByteArray → ByteArray) : Int × Dk :=
  if D.e ≠ 0 then (D.e, D.tick) else if n.data.toList.isEmpty then (1, D.tick)
  else D.tick.put n { D.get n with nt := true, nx := g (D.get n).nx }

theorem wclo_any (t s : ByteArray) (bx : Nat) (w : World) (hc : w.cell? ⟨bx, 0, none⟩ = some (.string s)) :
    Calls Try.prog 43 #[.string t, .pointer (some ⟨bx, 0, none⟩)] w fun e w' => e = .returned (.string s) ∧ w' = w := by
  go_enter Try.func43, Try.ntmps43
  go_wp2
  go_ret
  exact ⟨rfl, rfl⟩
theorem aclo_any (t s : ByteArray) (bx : Nat) (w : World) (hc : w.cell? ⟨bx, 0, none⟩ = some (.string s)) (hl : t.size + s.size ≤ 9223372036854775807) :
    Calls Try.prog 40 #[.string t, .pointer (some ⟨bx, 0, none⟩)] w fun e w' => e = .returned (.string (t ++ s)) ∧ w' = w := by
  go_enter Try.func40, Try.ntmps40
  go_wp2
  go_ret
  exact ⟨rfl, rfl⟩

section change
variable (w : World) (d m : Nat) (D : Dk) (hD : DkAt w d m D) (hO : D.Ok) (n s : ByteArray) (hs : s.size ≤ maxLen) (bx : Nat) (hc : At w bx 9 #[.string s])
include hD hO hs hc
set_option maxRecDepth 100000 in
set_option maxHeartbeats 400000 in
theorem change_write : Calls Try.prog 39 #[.pointer (some ⟨d, 0, none⟩), .string n, .func (.func 43) #[] #[.pointer (some ⟨bx, 0, none⟩)]] w fun e w' =>
      e = .returned (.int .i64 (D.change n fun _ => s).1) ∧ Chg (fun k => k = d ∨ k = m) w w' ∧ DkAt w' d m (D.change n fun _ => s).2 := by
  by_cases he : D.e = 0
  · have he1 : (D.e == 0) = true := by simpa using he
    have he2 : (D.e != 0) = false := by simpa using he
    have ct := try_any w d m D hD hO.a0 hO.a1
    go_enter Try.func39, Try.ntmps39
    go_wp2_with fail
    refine ct.mono ?_
    rintro e w1 ⟨rfl, hC1, hD1⟩
    have e4 : w1.cell? ⟨d, 4, none⟩ = some (.map (some m)) := hD1.1.cell 4
    have cl : (Instr.lookup 43 (.map (some m)) (.string n) false).run Try.prog w1 = .ok (.agg #[.bool (D.get n).nt, .string (D.get n).nx, .bool (D.get n).st, .string (D.get n).sx]) w1 := hD1.look n
    replace hc : At w1 bx 9 #[.string s] := hc.chg hC1 (hc.ne hD.1 (by decide))
    have hbl := hc.lt
    have c0 := hc.cell 0
    cases hn : n.toList.isEmpty
    · have hfin : D.change n (fun _ => s) = D.tick.put n ⟨true, s, (D.get n).st, (D.get n).sx⟩ := by unfold Dk.change; rw [if_neg (by simpa using he), if_neg (by rw [← ByteArray.toList_eq, hn]; exact Bool.false_ne_true)]
      have H := Lib.hid hfin
      clear hfin
      go_wp2_with fail
      refine (wclo_any _ s bx _ (by exact (hc.alloc _).cell 0)).mono ?_
      rintro e w2 ⟨rfl, rfl⟩
      go_wp2_with fail
      refine (put_any _ d m D.tick (hD1.alloc _) hO.tick n true (D.get n).st s (D.get n).sx hs (hO.t n).2).mono ?_
      rintro e w2 ⟨rfl, hC2, hD2⟩
      go_wp2_with fail
      go_ret
      rw [H.out]
      exact ⟨rfl, ((hC1.mono (fun k _ h => .inl h)).alloc _).trans hC2 (fun k _ h => h), hD2⟩
    · have hfin : D.change n (fun _ => s) = (1, D.tick) := by unfold Dk.change; rw [if_neg (by simpa using he), if_pos (by rw [← ByteArray.toList_eq]; exact hn)]
      go_wp2_with fail
      go_ret
      rw [hfin]
      exact ⟨rfl, hC1.mono (fun k _ h => .inl h), hD1⟩
  · have he1 : (D.e == 0) = false := by simpa using he
    have he2 : (D.e != 0) = true := by simpa using he
    have ct := try_any w d m D hD hO.a0 hO.a1
    go_enter Try.func39, Try.ntmps39
    go_wp2_with fail
    refine ct.mono ?_
    rintro e w1 ⟨rfl, hC1, hD1⟩
    go_wp2_with fail
    go_ret
    unfold Dk.change
    rw [if_pos he]
    exact ⟨rfl, hC1.mono (fun k _ h => .inl h), hD1⟩
variable (hl : (D.get n).nx.size + s.size ≤ 9223372036854775807)
omit hs in
include hl in
set_option maxRecDepth 100000 in
set_option maxHeartbeats 400000 in
theorem change_append : Calls Try.prog 39 #[.pointer (some ⟨d, 0, none⟩), .string n, .func (.func 40) #[] #[.pointer (some ⟨bx, 0, none⟩)]] w fun e w' =>
      e = .returned (.int .i64 (D.change n fun x => x ++ s).1) ∧ Chg (fun k => k = d ∨ k = m) w w' ∧ DkAt w' d m (D.change n fun x => x ++ s).2 := by
  by_cases he : D.e = 0
  · have he1 : (D.e == 0) = true := by simpa using he
    have he2 : (D.e != 0) = false := by simpa using he
    have ct := try_any w d m D hD hO.a0 hO.a1
    go_enter Try.func39, Try.ntmps39
    go_wp2_with fail
    refine ct.mono ?_
    rintro e w1 ⟨rfl, hC1, hD1⟩
    have e4 : w1.cell? ⟨d, 4, none⟩ = some (.map (some m)) := hD1.1.cell 4
    have cl : (Instr.lookup 43 (.map (some m)) (.string n) false).run Try.prog w1 = .ok (.agg #[.bool (D.get n).nt, .string (D.get n).nx, .bool (D.get n).st, .string (D.get n).sx]) w1 := hD1.look n
    replace hc : At w1 bx 9 #[.string s] := hc.chg hC1 (hc.ne hD.1 (by decide))
    have hbl := hc.lt
    have c0 := hc.cell 0
    cases hn : n.toList.isEmpty
    · have hfin : D.change n (fun x => x ++ s) = D.tick.put n ⟨true, (D.get n).nx ++ s, (D.get n).st, (D.get n).sx⟩ := by unfold Dk.change; rw [if_neg (by simpa using he), if_neg (by rw [← ByteArray.toList_eq, hn]; exact Bool.false_ne_true)]
      have H := Lib.hid hfin
      clear hfin
      go_wp2_with fail
      refine (aclo_any _ s bx _ (by exact (hc.alloc _).cell 0) hl).mono ?_
      rintro e w2 ⟨rfl, rfl⟩
      go_wp2_with fail
      refine (put_any _ d m D.tick (hD1.alloc _) hO.tick n true (D.get n).st ((D.get n).nx ++ s) (D.get n).sx (by rw [ByteArray.size_append]; exact hl) (hO.t n).2).mono ?_
      rintro e w2 ⟨rfl, hC2, hD2⟩
      go_wp2_with fail
      go_ret
      rw [H.out]
      exact ⟨rfl, ((hC1.mono (fun k _ h => .inl h)).alloc _).trans hC2 (fun k _ h => h), hD2⟩
    · have hfin : D.change n (fun x => x ++ s) = (1, D.tick) := by unfold Dk.change; rw [if_neg (by simpa using he), if_pos (by rw [← ByteArray.toList_eq]; exact hn)]
      go_wp2_with fail
      go_ret
      rw [hfin]
      exact ⟨rfl, hC1.mono (fun k _ h => .inl h), hD1⟩
  · have he1 : (D.e == 0) = false := by simpa using he
    have he2 : (D.e != 0) = true := by simpa using he
    have ct := try_any w d m D hD hO.a0 hO.a1
    go_enter Try.func39, Try.ntmps39
    go_wp2_with fail
    refine ct.mono ?_
    rintro e w1 ⟨rfl, hC1, hD1⟩
    go_wp2_with fail
    go_ret
    unfold Dk.change
    rw [if_pos he]
    exact ⟨rfl, hC1.mono (fun k _ h => .inl h), hD1⟩
end change

theorem write_any (w : World) (d m : Nat) (D : Dk) (hD : DkAt w d m D) (hO : D.Ok) (n s : ByteArray) (hs : s.size ≤ maxLen) :
    Calls Try.prog 24 #[.pointer (some ⟨d, 0, none⟩), .string n, .string s] w fun e w' =>
      e = .returned (.int .i64 (D.change n fun _ => s).1) ∧ Chg (fun k => k = d ∨ k = m) w w' ∧ DkAt w' d m (D.change n fun _ => s).2 := by
  go_enter Try.func24, Try.ntmps24
  go_wp2_with fail
  refine (change_write _ d m D (hD.alloc _) hO n s hs _ (At.new w _ _)).mono ?_
  rintro e w' ⟨rfl, hC, hD'⟩
  go_wp2_with fail
  go_ret
  exact ⟨rfl, ((Chg.refl _ _).alloc _).trans hC (fun _ _ h => h), hD'⟩
theorem append_any (w : World) (d m : Nat) (D : Dk) (hD : DkAt w d m D) (hO : D.Ok) (n s : ByteArray) (hl : (D.get n).nx.size + s.size ≤ 9223372036854775807) :
    Calls Try.prog 21 #[.pointer (some ⟨d, 0, none⟩), .string n, .string s] w fun e w' =>
      e = .returned (.int .i64 (D.change n fun x => x ++ s).1) ∧ Chg (fun k => k = d ∨ k = m) w w' ∧ DkAt w' d m (D.change n fun x => x ++ s).2 := by
  go_enter Try.func21, Try.ntmps21
  go_wp2_with fail
  refine (change_append _ d m D (hD.alloc _) hO n s _ (At.new w _ _) hl).mono ?_
  rintro e w' ⟨rfl, hC, hD'⟩
  go_wp2_with fail
  go_ret
  exact ⟨rfl, ((Chg.refl _ _).alloc _).trans hC (fun _ _ h => h), hD'⟩
end Go.Proofs.Yteleafbfdfipdaa
