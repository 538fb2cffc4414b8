/-
  Walks through platter: Remove.
-/
import Derived.Test.YteleafbfdfipdaaCrash
namespace Go.Proofs.Yteleafbfdfipdaa
open Go.RowKit Go.Sort

def Dk.remove1 (D : Dk) (n : ByteArray) : Dk := (D.put n ⟨false, ByteArray.empty, (D.get n).st, (D.get n).sx⟩).2
def Dk.removeL (D : Dk) (ns : List ByteArray) : Dk := ns.foldl Dk.remove1 D
/-- are all of them there now? -/
def Dk.rmOk (D : Dk) (ns : List ByteArray) : Bool := ns.all fun n => (D.get n).nt
theorem field_now (a b : Bool) (x y : ByteArray) (w : World) : (Instr.field 81 (.agg #[.bool a, .string x, .bool b, .string y]) 0).run Try.prog w = .ok (.agg #[.bool a, .string x]) w := by kernel_rfl
theorem field_there (a : Bool) (x : ByteArray) (w : World) : (Instr.field 79 (.agg #[.bool a, .string x]) 0).run Try.prog w = .ok (.bool a) w := by kernel_rfl
def Dk.remove (D : Dk) (ns : List ByteArray) : Int × Dk :=
  if D.e ≠ 0 then (D.e, D.tick) else if D.rmOk ns then (0, D.tick.removeL ns) else (5, D.tick)
theorem Dk.Ok.remove1 {D : Dk} (h : D.Ok) {n : ByteArray} (hn : n.size ≤ maxLen) : (D.remove1 n).Ok := h.put hn (Nat.zero_le _) (h.t n).2
theorem Dk.Ok.removeL {D : Dk} (h : D.Ok) {ns : List ByteArray} (hn : ∀ n ∈ ns, n.size ≤ maxLen) : (D.removeL ns).Ok := by
  unfold Dk.removeL
  induction ns generalizing D with
  | nil => exact h
  | cons n r ih => exact ih (h.remove1 (hn n (List.mem_cons_self ..))) (fun n' h' => hn n' (List.mem_cons_of_mem _ h'))
theorem removeL_take {D : Dk} {ns : List ByteArray} {k : Nat} {n : ByteArray} (h : ns[k]? = some n) : D.removeL (ns.take (k + 1)) = (D.removeL (ns.take k)).remove1 n := by
  unfold Dk.removeL
  rw [List.take_add_one, h]
  simp
theorem all_take {ns : List ByteArray} {p : ByteArray → Bool} {k : Nat} {n : ByteArray} (h : ns[k]? = some n) : (ns.take (k + 1)).all p = ((ns.take k).all p && p n) := by
  rw [List.take_add_one, h]
  simp

section remove
variable (w : World) (d m : Nat) (D : Dk) (hD : DkAt w d m D) (hO : D.Ok)
include hD hO
set_option maxRecDepth 100000 in
set_option maxHeartbeats 2000000 in
theorem remove_go (v : Value) (ns : List ByteArray) (hS : Sl w v (ns.map Value.string)) (hn : ∀ n ∈ ns, n.size ≤ maxLen) (hl : ns.length ≤ 1048576) (he : D.e = 0) :
    Calls Try.prog 27 #[.pointer (some ⟨d, 0, none⟩), v] w fun e w' =>
      e = .returned (.int .i64 (D.remove ns).1) ∧ Chg (fun k => k = d ∨ k = m) w w' ∧ DkAt w' d m (D.remove ns).2 := by
  have ct := try_any w d m D hD hO.a0 hO.a1
  have he1 : (D.e == 0) = true := by simpa using he
  have he2 : (D.e != 0) = false := by simpa using he
  have hap := hD.apart hS
  go_enter Try.func27, Try.ntmps27
  go_wp2_with fail
  refine ct.mono ?_
  rintro e w1 ⟨rfl, hC1, hD1⟩
  clear ct
  have hS1 := hS.chg hC1 (fun b o n c hv h hb => hap b o n c hv h (.inl hb))
  clear hS
  obtain ⟨A, c, rfl, hx⟩ := hS1
  rw [List.length_map]
  have hlen0 : (ns.length : Int) ≤ 1048576 := by omega
  have e4 : w1.cell? ⟨d, 4, none⟩ = some (.map (some m)) := hD1.1.cell 4
  have cl := fun n => hD1.look n
  go_wp2_with fail
  go_loop [20] (fun i => ∃ k : Nat, k ≤ ns.length ∧ i = .int .i64 k ∧ (ns.take k).all (fun n => (D.get n).nt) = true) (fun i => ns.length - (intOf i).toNat)
  case atStart => exact ⟨0, Nat.zero_le _, rfl, by simp⟩
  case round =>
    obtain ⟨k, hk, rfl, hall⟩ := hrel
    by_cases hlt : k < ns.length
    · have hne' : ns.map Value.string ≠ [] := by intro e; rw [List.map_eq_nil_iff] at e; subst e; simp at hlt
      obtain ⟨b, o, rfl, hc⟩ := hx hne'
      have hs : ns[k]? = some ns[k] := List.getElem?_eq_getElem hlt
      have hcell := hc k (.string ns[k]) (by rw [List.getElem?_map, hs]; rfl)
      have hcopy := Lib.hid hc
      clear hc
      have hstep := all_take (p := fun n => (D.get n).nt) hs
      rw [hall] at hstep
      have hmem : ns[k] ∈ ns := List.getElem_mem hlt
      have HS := Lib.hid hstep
      have HALL := Lib.hid hall
      clear hstep hall
      generalize ns[k] = s at hs hcell HS hmem
      cases ht : (D.get s).nt
      · have hno : D.rmOk ns = false := by
          unfold Dk.rmOk; rw [List.all_eq_false]; exact ⟨s, hmem, by simp [ht]⟩
        have hfin : D.remove ns = (5, D.tick) := by unfold Dk.remove; rw [if_neg (by simpa using he), if_neg (by rw [hno]; exact Bool.false_ne_true)]
        have HNO := Lib.hid hfin
        clear hno hfin
        have cls : (Instr.lookup 43 (.map (some m)) (.string s) false).run Try.prog w1 = .ok (.agg #[.bool false, .string (D.get s).nx, .bool (D.get s).st, .string (D.get s).sx]) w1 := by
          rw [cl s, ← ht]; rfl
        clear cl
        have fn := field_now
        have ft := field_there
        go_wp2_with fail
        go_ret
        rw [HNO.out]
        exact ⟨rfl, hC1.mono (fun _ _ h => .inl h), hD1⟩
      · have cls : (Instr.lookup 43 (.map (some m)) (.string s) false).run Try.prog w1 = .ok (.agg #[.bool true, .string (D.get s).nx, .bool (D.get s).st, .string (D.get s).sx]) w1 := by
          rw [cl s, ← ht]; rfl
        clear cl
        have HT := Lib.hid ht
        clear ht
        have fn := field_now
        have ft := field_there
        go_wp2_with fail
        go_round
        case rel => exact ⟨k + 1, by omega, by go_num, by rw [HS.out]; simp [HT.out]⟩
        case measure => simp [intOf]; omega
    · rw [List.take_of_length_le (by omega)] at hall
      have HALL := Lib.hid hall
      clear hall cl e4
      go_wp2_with fail
      go_loopw [36] (fun i wr => ∃ k : Nat, k ≤ ns.length ∧ i = .int .i64 k ∧ DkAt wr d m (D.tick.removeL (ns.take k)) ∧ Chg (fun k => k = d ∨ k = m) w1 wr) (fun i _ => ns.length - (intOf i).toNat)
      case atStart => exact ⟨0, Nat.zero_le _, rfl, by simpa [Dk.removeL] using hD1, Chg.refl _ _⟩
      case round =>
        obtain ⟨j, hj, rfl, hDk, hCk⟩ := hrel
        by_cases hlt2 : j < ns.length
        · have hne' : ns.map Value.string ≠ [] := by intro e; rw [List.map_eq_nil_iff] at e; subst e; simp at hlt2
          obtain ⟨b, o, rfl, hc⟩ := hx hne'
          replace hap := hap b o _ _ (by rw [List.length_map]) hne'
          have hs : ns[j]? = some ns[j] := List.getElem?_eq_getElem hlt2
          have hcw := hc j (.string ns[j]) (by rw [List.getElem?_map, hs]; rfl)
          have hcell : wr.cell? ⟨b, o + j, none⟩ = some (.string ns[j]) := (hCk.cell (cell_lt hcw) hap).trans hcw
          have hOk : (D.tick.removeL (ns.take j)).Ok := hO.tick.removeL fun n h => hn n (List.mem_of_mem_take h)
          have hstep := removeL_take (D := D.tick) hs
          have hsz : ns[j].size ≤ maxLen := hn _ (List.getElem_mem hlt2)
          have HS := Lib.hid hstep
          clear hstep hcw hc
          generalize ns[j] = s at hs hcell HS hsz
          generalize D.tick.removeL (ns.take j) = Dk at hDk hOk HS
          have e4 : wr.cell? ⟨d, 4, none⟩ = some (.map (some m)) := hDk.1.cell 4
          have cl : (Instr.lookup 43 (.map (some m)) (.string s) false).run Try.prog wr = .ok (.agg #[.bool (Dk.get s).nt, .string (Dk.get s).nx, .bool (Dk.get s).st, .string (Dk.get s).sx]) wr := hDk.look s
          go_wp2_with fail
          refine (put_any _ d m Dk (hDk.alloc _) hOk s _ _ _ _ (Nat.zero_le _) (hOk.t s).2).mono ?_
          rintro e w2 ⟨rfl, hC2, hD2⟩
          go_wp2_with fail
          go_roundw
          case rel => exact ⟨j + 1, by omega, by go_num, by rw [HS.out]; exact hD2, (hCk.alloc _).trans hC2 (fun _ _ h => h)⟩
          case measure => simp [intOf]; omega
        · go_wp2_with fail
          go_ret
          rw [List.take_of_length_le (by omega)] at hDk
          have hfin : D.remove ns = (0, D.tick.removeL ns) := by unfold Dk.remove; rw [if_neg (by simpa using he), if_pos (show D.rmOk ns = true from HALL.out)]
          rw [hfin]
          exact ⟨rfl, (hC1.mono (fun _ _ h => .inl h)).trans hCk (fun _ _ h => h), hDk⟩
theorem remove_err (v : Value) (he : D.e ≠ 0) :
    Calls Try.prog 27 #[.pointer (some ⟨d, 0, none⟩), v] w fun e w' =>
      e = .returned (.int .i64 D.e) ∧ Chg (fun k => k = d) w w' ∧ DkAt w' d m D.tick := by
  have ct := try_any w d m D hD hO.a0 hO.a1
  have he1 : (D.e == 0) = false := by simpa using he
  have he2 : (D.e != 0) = true := by simpa using he
  go_enter Try.func27, Try.ntmps27
  go_wp2_with fail
  refine ct.mono ?_
  rintro e w1 ⟨rfl, hC1, hD1⟩
  go_wp2_with fail
  go_ret
  exact ⟨rfl, hC1, hD1⟩
theorem remove_any (v : Value) (ns : List ByteArray) (hS : Sl w v (ns.map Value.string)) (hn : ∀ n ∈ ns, n.size ≤ maxLen) (hl : ns.length ≤ 1048576) :
    Calls Try.prog 27 #[.pointer (some ⟨d, 0, none⟩), v] w fun e w' =>
      e = .returned (.int .i64 (D.remove ns).1) ∧ Chg (fun k => k = d ∨ k = m) w w' ∧ DkAt w' d m (D.remove ns).2 := by
  by_cases he : D.e = 0
  · exact remove_go w d m D hD hO v ns hS hn hl he
  · unfold Dk.remove
    rw [if_pos he]
    refine (remove_err w d m D hD hO v he).mono ?_
    rintro e w' ⟨h1, h2, h3⟩
    exact ⟨h1, h2.mono (fun _ _ h => .inl h), h3⟩
end remove
end Go.Proofs.Yteleafbfdfipdaa
