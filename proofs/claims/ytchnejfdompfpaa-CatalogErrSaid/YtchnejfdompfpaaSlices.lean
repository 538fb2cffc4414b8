/-
  A slice that reads as a list; blocks that a call made.
-/
import Derived.Test.YtchnejfdompfpaaBase
import Derived.Laws.AppendOwn
import Derived.Maps.AppendAt
namespace Go.Proofs.Ytchnejfdompfpaa
open Go.RowKit

/-- The slice value v holds just the one-cell values xs. -/
def Sl (w : World) (v : Value) (xs : List Value) : Prop :=
  ∃ A c, v = .slice A xs.length c ∧ (xs ≠ [] → ∃ b o, A = some ⟨b, o, none⟩ ∧ ∀ (i : Nat) (x : Value), xs[i]? = some x → w.cell? ⟨b, o + i, none⟩ = some x)

section
variable {S : Nat → Prop} {w w' : World} {v : Value} {xs : List Value}
theorem Sl.nil (w : World) (c : Nat) : Sl w (.slice none 0 c) [] := ⟨none, c, rfl, fun h => absurd rfl h⟩
theorem cell_lt {w : World} {a : Addr} {u : Value} (h : w.cell? a = some u) : a.block < w.heap.size := World.block_lt_of_cell? _ _ h
theorem Sl.ext (h : Sl w v xs) (he : Ext w w') : Sl w' v xs := by
  obtain ⟨A, c, hv, hx⟩ := h
  refine ⟨A, c, hv, fun hn => ?_⟩
  obtain ⟨b, o, rfl, hc⟩ := hx hn
  exact ⟨b, o, rfl, fun i x hi => (Ext.cell he (cell_lt (hc i x hi))).trans (hc i x hi)⟩
theorem Sl.chg (h : Sl w v xs) (he : Chg S w w') (hS : ∀ b o n c, v = .slice (some ⟨b, o, none⟩) n c → xs ≠ [] → ¬ S b) : Sl w' v xs := by
  obtain ⟨A, c, hv, hx⟩ := h
  refine ⟨A, c, hv, fun hn => ?_⟩
  obtain ⟨b, o, rfl, hc⟩ := hx hn
  exact ⟨b, o, rfl, fun i x hi => (he.cell (cell_lt (hc i x hi)) (hS _ _ _ _ hv hn)).trans (hc i x hi)⟩
theorem Sl.of_own {base : Nat} {e : TypeId} {n : Nat} (h : w.ownsRow base e 1 v n xs) : Sl w v xs := by
  have hl : xs.length = n := by simpa using h.1
  rcases h.2 with ⟨rfl, hn⟩ | ⟨g, cap, cur, rfl, _⟩
  · obtain rfl : xs = [] := List.eq_nil_of_length_eq_zero (by omega)
    exact Sl.nil _ _
  · refine ⟨some ⟨g, 0, none⟩, cap, by rw [hl], fun _ => ⟨g, 0, rfl, fun i x hi => ?_⟩⟩
    have hi' : i < n := by have := (List.getElem?_eq_some_iff.1 hi).1; omega
    have := h.cellAt i (by omega)
    rw [Nat.zero_add, this]; exact hi
end

theorem own_chg {S : Nat → Prop} {w w' : World} {base : Nat} {e : TypeId} {size : Nat} {v : Value} {n : Nat} {xs : List Value} (h : w.ownsRow base e size v n xs) (hc : Chg S w w') (hS : ∀ k, S k → k < base) : w'.ownsRow base e size v n xs := by
  obtain ⟨h1, h2⟩ := h
  refine ⟨h1, ?_⟩
  rcases h2 with h2 | ⟨g, cap, cur, rfl, hb, hg, h3⟩
  · exact .inl h2
  · refine .inr ⟨g, cap, cur, rfl, hb, ?_, h3⟩
    rw [hc.block g (lt_of_block hg) (fun hs => by have := hS _ hs; omega)]
    exact hg
theorem own_ge {w : World} {base : Nat} {e : TypeId} {size : Nat} {v : Value} {n : Nat} {xs : List Value} (h : w.ownsRow base e size v n xs) : ∀ k, some k = v.ownBlock → base ≤ k := by
  intro k hk
  rcases h.2 with ⟨rfl, _⟩ | ⟨g, cap, cur, rfl, hb, _⟩
  · cases hk
  · cases hk; exact hb
theorem Chg.of_grown {w w' : World} {row : Option Nat} (h : w.grownBy w' row) : Chg (fun k => some k = row) w w' := ⟨h.os, h.tape, h.output, h.size, fun k hk hn => h.block k hk hn⟩


/-! ### a whole block is stored anew, cell by cell -/
def setAll (w : World) (g : Nat) : Nat → List Value → World
  | _, [] => w
  | k, v :: r => setAll (w.setCell ⟨g, k, none⟩ v) g (k + 1) r
theorem At.setAll {g : Nat} {t : TypeId} : ∀ {vs : List Value} {k : Nat} {w : World} {cs : Array Value}, At w g t cs → cs.size = k + vs.length → At (setAll w g k vs) g t (cs.toList.take k ++ vs).toArray
  | [], k, w, cs, h, hl => by
    have : (cs.toList.take k ++ []).toArray = cs := by
      rw [List.append_nil, List.take_of_length_le (by simp at hl ⊢; omega)]
    rw [this]; exact h
  | v :: r, k, w, cs, h, hl => by
    have ih := At.setAll (vs := r) (k := k + 1) (h.set k v) (by simp at hl ⊢; omega)
    have e : (cs.setIfInBounds k v).toList.take (k + 1) ++ r = cs.toList.take k ++ v :: r := by
      have hk : k < cs.size := by simp at hl; omega
      rw [Array.toList_setIfInBounds, List.take_succ_eq_append_getElem (by simpa using hk)]
      have e2 : List.take k (cs.toList.set k v) = List.take k cs.toList := by
        apply List.ext_getElem?
        intro i
        simp only [List.getElem?_take]
        split
        · rw [List.getElem?_set_ne (by omega)]
        · rfl
      simp [e2]
    rw [e] at ih
    exact ih
theorem chg_setAll (w0 : World) (g : Nat) : ∀ (vs : List Value) (k : Nat) (w : World), Chg (· = g) w0 w → Chg (· = g) w0 (setAll w g k vs)
  | [], _, _, h => h
  | v :: r, k, _w, h => chg_setAll w0 g r (k + 1) _ (h.setCell (.inl rfl) v)

/-! ### append as one step of a region that draws its order -/
section
variable {P : Program} {ops : Array Oper} {o : Oper} {a : Act} {w : World} {K : Act → World → Prop} {Q : Exit → Act → World → Prop} {E : Prop}
theorem wp_append_own' (s x : Operand) (t : TypeId) (ho : o.op = .call { callee := .builtin .append, args := #[s, x], argTypes := #[t, t] })
    (base : Nat) (e : TypeId) (i : TypeInfo) (z : Value) (bytes : Nat) (ht : P.underlying t = some (.slice e)) (hi : P.info? e = some i) (hz : i.zero = some z)
    (hsize : i.size = 1) (hby : i.bytes = bytes) (hzs : z.cells.size = 1)
    (v : Value) (n : Nat) (xs : List Value) (hs : a.eval s = v) (hown : w.ownsRow base e 1 v n xs)
    (A : Addr) (m c : Nat) (news : List Value) (hx : a.eval x = .slice (some A) m c) (hl : news.length = m) (hnews : ∀ j u, news[j]? = some u → w.cell? (A.add j) = some u) (h1 : ∀ u ∈ news, u.oneCell' = true)
    (h63 : n + m ≤ maxLen) (hbytes : (n + m) * bytes ≤ 140737488355328) (hbase : base ≤ w.heap.size)
    (h : ∀ v' w', w'.ownsRow base e 1 v' (n + m) (xs ++ news) → w.grownBy w' v.ownBlock → K (a.put o.dst v') w') : o.wp P a w K Q := by
  obtain ⟨v', w', hrun, h2, h3, _⟩ := run_append_own_at (P := P) w base t o.type e i z 1 bytes ht hi hz hsize hby hzs (by omega) v n xs hown A m c news (by omega) hnews h1 h63 hbytes hbase
  unfold Oper.wp execOp
  simp only [ho, resolve, invoke, builtin, Sem.run_bind, Sem.run_pure, Result.andThen_ok, List.map_toArray, List.map_cons, List.map_nil, hs, hx, hrun]
  exact h v' w' h2 h3
theorem step_append_own (hgd : o.guard = none) (s x : Operand) (t : TypeId) (ho : o.op = .call { callee := .builtin .append, args := #[s, x], argTypes := #[t, t] })
    (base : Nat) (e : TypeId) (i : TypeInfo) (z : Value) (bytes : Nat) (ht : P.underlying t = some (.slice e)) (hi : P.info? e = some i) (hz : i.zero = some z)
    (hsize : i.size = 1) (hby : i.bytes = bytes) (hzs : z.cells.size = 1)
    (v : Value) (n : Nat) (xs : List Value) (hs : a.eval s = v) (hown : w.ownsRow base e 1 v n xs)
    (A : Addr) (m c : Nat) (news : List Value) (hx : a.eval x = .slice (some A) m c) (hl : news.length = m) (hnews : ∀ j u, news[j]? = some u → w.cell? (A.add j) = some u) (h1 : ∀ u ∈ news, u.oneCell' = true)
    (h63 : n + m ≤ maxLen) (hbytes : (n + m) * bytes ≤ 140737488355328) (hbase : base ≤ w.heap.size)
    (h : ∀ v' w', w'.ownsRow base e 1 v' (n + m) (xs ++ news) → w.grownBy w' v.ownBlock → K (a.put o.dst v') w') :
    if Region.wanted o (yielded ops a.tmps) = true then Oper.wp P o a w K Q else E := by
  have hw : Region.wanted o (yielded ops a.tmps) = true := by simp [Region.wanted, hgd]
  rw [if_pos hw]
  exact wp_append_own' s x t ho base e i z bytes ht hi hz hsize hby hzs v n xs hs hown A m c news hx hl hnews h1 h63 hbytes hbase h
theorem cell_one {w : World} {t : TypeId} {u : Value} : ∀ j (x : Value), [u][j]? = some x → (w.alloc (.cells #[u] t)).cell? (Addr.add ⟨w.heap.size, 0, none⟩ j) = some x := by
  intro j x hx
  cases j with
  | zero =>
    simp only [List.getElem?_cons_zero, Option.some.injEq] at hx
    subst hx
    exact (At.new w t #[u]).cell 0
  | succ j => simp at hx
end
end Go.Proofs.Ytchnejfdompfpaa
