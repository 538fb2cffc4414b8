/-
  Layer 13: a catalog's bytes, plain; what an encoder leaves of other blocks.
-/
import Derived.Test.YtimjipcplmnpbaaGreatCatIn
import Derived.Test.YtimjipcplmnpbaaGreatRdPlain
import Derived.Deep.MidRow
namespace Go.Proofs.YtimjipcplmnpbaaGreat
open Go.RowKit Go.Sort

section
variable {w w' : World} {base : Nat}
theorem At.enc {g : Nat} {t : TypeId} {cs : Array Value} (h : At w g t cs) (ht : t ≠ 91 ∧ t ≠ 5) (hc : EncChg w w' base) : At w' g t cs := by
  refine h.chg hc fun hs => ?_
  obtain ⟨_, cs', t', m, h2, h3⟩ := hs
  unfold At at h
  rw [h] at h2
  injection h2 with h2
  injection h2 with _ h2 _
  subst h2
  rcases h3 with h3 | h3
  · exact ht.1 h3
  · exact ht.2 h3
theorem own_enc {b0 : Nat} {t : TypeId} {size : Nat} {v : Value} {n : Nat} {xs : List Value} (h : w.ownsRow b0 t size v n xs) (ht : t ≠ 91 ∧ t ≠ 5) (hc : EncChg w w' base) : w'.ownsRow b0 t size v n xs := by
  refine own_keep h hc fun k hk hs => ?_
  rcases h.2 with ⟨rfl, _⟩ | ⟨g, cap, cur, rfl, _, hg, _⟩
  · cases hk
  · have e : k = g := by injection hk
    subst e
    obtain ⟨_, cs', t', m, h2, h3⟩ := hs
    rw [hg] at h2
    injection h2 with h2
    injection h2 with _ h2 _
    subst h2
    rcases h3 with h3 | h3
    · exact ht.1 h3
    · exact ht.2 h3
theorem own_sl {b0 : Nat} {t : TypeId} {v : Value} {n : Nat} {xs : List Value} (h : w.ownsRow b0 t 1 v n xs) : Sl w v xs := by
  have hl : xs.length = n := by have := h.1; omega
  obtain ⟨A, m, c, rfl⟩ := own_slice h
  rcases h.2 with ⟨e, e2⟩ | ⟨g, cap, cur, e, _⟩
  · injection e with e1 e3 e4
    subst e1 e3 e4
    have : xs = [] := List.eq_nil_of_length_eq_zero (by omega)
    subst this
    exact ⟨_, _, rfl, fun hne => absurd rfl hne⟩
  · injection e with e1 e3 e4
    subst e1 e3 e4
    exact ⟨_, _, by rw [hl], fun _ => ⟨g, 0, rfl, fun i x hi => by rw [Nat.zero_add]; have := h.cells (g := g) rfl i x hi; rw [Go.WideShapes.add_plain, Nat.zero_add] at this; exact this⟩⟩
theorem own_sle {b0 : Nat} {t : TypeId} {v : Value} {n : Nat} {xs : List Value} (h : w.ownsRow b0 t 1 v n xs) (ht : t ≠ 91 ∧ t ≠ 5) : SlE w base v xs := by
  refine ⟨own_sl h, fun b o n' c hv hne hs => ?_⟩
  rcases h.2 with ⟨rfl, e⟩ | ⟨g, cap, cur, rfl, _, hg, _⟩
  · exact hne (List.eq_nil_of_length_eq_zero (by have := h.1; omega))
  · injection hv with hv1
    injection hv1 with hv1
    injection hv1 with hb _
    subst hb
    obtain ⟨_, cs', t', m, h2, h3⟩ := hs
    rw [hg] at h2
    injection h2 with h2
    injection h2 with _ h2 _
    subst h2
    rcases h3 with h3 | h3
    · exact ht.1 h3
    · exact ht.2 h3
theorem cells_enc {g : Nat} {t : TypeId} {cs : Array Value} (h : At w g t cs) (ht : t ≠ 91 ∧ t ≠ 5) : ∀ w', EncChg w.drew w' base → ∀ i : Nat, w'.cell? ⟨g, i, none⟩ = cs[i]? := fun _w' hc i => (At.enc h.drew ht hc).cell i
end
/-- the bytes of a blob's first copies -/
def cpE (b : Bl) : Nat → List UInt8
  | 0 => []
  | 1 => cpEnc b.a
  | _ => cpEnc b.a ++ cpEnc b.b
abbrev cpArr (b : Bl) : Value := .agg #[.bool b.a.there, .int .i64 b.a.vol, .int .i64 b.a.at_, .bool b.b.there, .int .i64 b.b.vol, .int .i64 b.b.at_]
set_option maxRecDepth 100000 in
theorem cidx0 (a0 a1 a2 a3 a4 a5 : Value) : ∀ w, (Instr.index 106 (.agg #[a0, a1, a2, a3, a4, a5]) (.int .i64 0)).run Tryz.prog w = .ok (.agg #[a0, a1, a2]) w := fun _ => by first | kernel_rfl | rfl
set_option maxRecDepth 100000 in
theorem cidx1 (a0 a1 a2 a3 a4 a5 : Value) : ∀ w, (Instr.index 106 (.agg #[a0, a1, a2, a3, a4, a5]) (.int .i64 1)).run Tryz.prog w = .ok (.agg #[a3, a4, a5]) w := fun _ => by first | kernel_rfl | rfl
theorem cp_at {n : Nat} {b : Bl} (h : BlOk n b) (j : Nat) (hj : j < 2) : ∃ x : Cp, (∀ w, (Instr.index 106 (cpArr b) (.int .i64 (j : Int))).run Tryz.prog w = .ok (.agg #[.bool x.there, .int .i64 x.vol, .int .i64 x.at_]) w) ∧
    cpE b (j + 1) = cpE b j ++ cpEnc x ∧ 0 ≤ x.vol ∧ x.vol ≤ 11 ∧ 0 ≤ x.at_ ∧ x.at_ ≤ 1073741824 := by
  have h2 : j = 0 ∨ j = 1 := by omega
  rcases h2 with rfl | rfl
  · refine ⟨b.a, cidx0 _ _ _ _ _ _, rfl, ?_⟩
    rcases h.ca with e | ⟨_, _, h1, h2, h3, h4⟩
    · rw [e]; decide
    · exact ⟨h1, h2, h3, h4⟩
  · refine ⟨b.b, cidx1 _ _ _ _ _ _, rfl, ?_⟩
    rcases h.cb with e | ⟨_, _, h1, h2, h3, h4⟩
    · rw [e]; decide
    · exact ⟨h1, h2, h3, h4⟩
theorem cpE_length (b : Bl) (j : Nat) : (cpE b j).length ≤ 42 := by
  have h1 := cpEnc_length b.a
  have h2 := cpEnc_length b.b
  unfold cpE
  split
  · simp
  · omega
  · rw [List.length_append]; omega
theorem twelve {α : Type} {V : List α} (h : V.length = 12) : ∃ a0 a1 a2 a3 a4 a5 a6 a7 a8 a9 a10 a11, V = [a0, a1, a2, a3, a4, a5, a6, a7, a8, a9, a10, a11] := by
  match V, h with
  | [a0, a1, a2, a3, a4, a5, a6, a7, a8, a9, a10, a11], _ => exact ⟨a0, a1, a2, a3, a4, a5, a6, a7, a8, a9, a10, a11, rfl⟩
abbrev vlArr (V : List Vl) : Value := .agg ((V.map vlRow).flatten).toArray
set_option maxRecDepth 100000 in
theorem vl_idx {V : List Vl} (h : V.length = 12) (j : Nat) (hj : j < 12) : ∃ x : Vl, V[j]? = some x ∧ ∀ w, (Instr.index 98 (vlArr V) (.int .i64 (j : Int))).run Tryz.prog w = .ok (.agg #[.bool x.closed, .bool x.erase, .int .i64 x.gen]) w := by
  obtain ⟨a0, a1, a2, a3, a4, a5, a6, a7, a8, a9, a10, a11, rfl⟩ := twelve h
  have h2 : j = 0 ∨ j = 1 ∨ j = 2 ∨ j = 3 ∨ j = 4 ∨ j = 5 ∨ j = 6 ∨ j = 7 ∨ j = 8 ∨ j = 9 ∨ j = 10 ∨ j = 11 := by omega
  rcases h2 with rfl | rfl | rfl | rfl | rfl | rfl | rfl | rfl | rfl | rfl | rfl | rfl
  · exact ⟨a0, rfl, fun _ => by kernel_rfl⟩
  · exact ⟨a1, rfl, fun _ => by kernel_rfl⟩
  · exact ⟨a2, rfl, fun _ => by kernel_rfl⟩
  · exact ⟨a3, rfl, fun _ => by kernel_rfl⟩
  · exact ⟨a4, rfl, fun _ => by kernel_rfl⟩
  · exact ⟨a5, rfl, fun _ => by kernel_rfl⟩
  · exact ⟨a6, rfl, fun _ => by kernel_rfl⟩
  · exact ⟨a7, rfl, fun _ => by kernel_rfl⟩
  · exact ⟨a8, rfl, fun _ => by kernel_rfl⟩
  · exact ⟨a9, rfl, fun _ => by kernel_rfl⟩
  · exact ⟨a10, rfl, fun _ => by kernel_rfl⟩
  · exact ⟨a11, rfl, fun _ => by kernel_rfl⟩
theorem vl_range {w : World} {B : Nat → Prop} {c mb mn : Nat} {C : Ct} (h : CtAt w B c mb mn C) : w.rangeAt c 2 ((C.vols.map vlRow).flatten) := fun j v hv => by
  have := h.blk.cell (2 + j)
  rw [this, List.getElem?_toArray, show 2 + j = j + 1 + 1 by omega, List.getElem?_cons_succ, List.getElem?_cons_succ]
  exact hv
set_option maxRecDepth 100000 in
theorem vl_info {V : List Vl} (h : V.length = 12) : (Tryz.prog.info? 98).map (·.size) = some ((V.map vlRow).flatten).length := by
  obtain ⟨a0, a1, a2, a3, a4, a5, a6, a7, a8, a9, a10, a11, e⟩ := twelve h
  rw [e]
  kernel_rfl
end Go.Proofs.YtimjipcplmnpbaaGreat
