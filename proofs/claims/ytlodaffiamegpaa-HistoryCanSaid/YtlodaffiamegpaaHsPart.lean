/-
  Layer 18: parts.
-/
import Derived.Test.YtlodaffiamegpaaHs11
import Derived.Test.YtlodaffiamegpaaHistPoss
namespace Go.Proofs.Ytlodaffiamegpaa
open Go.RowKit Go.Sort

theorem op_info : (Try.prog.info? 37).map (fun i => (i.zero, i.size, i.bytes)) = some (some (.agg #[.int .i64 0, .string ByteArray.empty, .int .u64 0, .int .i64 0, .int .i64 0, .int .i64 0, .int .u64 0, .slice none 0 0]), 8, 88) := by kernel_rfl
theorem ops_info : (Try.prog.info? 22).map (fun i => (i.zero, i.size, i.bytes)) = some (some (.slice none 0 0), 1, 24) := by kernel_rfl
theorem own_own {w : World} {b1 b2 : Nat} {e1 e2 : TypeId} {s1 s2 : Nat} {v1 v2 : Value} {n1 n2 : Nat} {xs1 xs2 : List Value} (h1 : w.ownsRow b1 e1 s1 v1 n1 xs1) (h2 : w.ownsRow b2 e2 s2 v2 n2 xs2) (hne : e1 ≠ e2) : ∀ k, some k = v1.ownBlock → some k ≠ v2.ownBlock := by
  intro k hk hk2
  rcases h1.2 with ⟨rfl, _⟩ | ⟨g, cap, cur, rfl, hb, hg, _⟩
  · cases hk
  · cases hk
    rcases h2.2 with ⟨rfl, _⟩ | ⟨g2, cap2, cur2, rfl, hb2, hg2, _⟩
    · cases hk2
    · cases hk2
      exact At.ne (t := e1) (cs := cur) (t' := e2) (cs' := cur2) hg hg2 hne rfl
theorem own_base {w : World} {b1 b2 : Nat} {e : TypeId} {s : Nat} {v : Value} {n : Nat} {xs : List Value} (h : w.ownsRow b1 e s v n xs) (hb : b2 ≤ b1) : w.ownsRow b2 e s v n xs := by
  refine ⟨h.1, ?_⟩
  rcases h.2 with h2 | ⟨g, cap, cur, h2, h3, h4⟩
  · exact .inl h2
  · exact .inr ⟨g, cap, cur, h2, Nat.le_trans hb h3, h4⟩
/-- the calls that are looked at -/
def keepB (x : HRow) : Bool := !(x.1.readsB && !x.1.ans)
def kept (l : List HRow) : List HRow := l.filter keepB
theorem kept_next {l : List HRow} {k : Nat} (h : k < l.length) : kept (l.take (k + 1)) = kept (l.take k) ++ (if keepB (rowAt l k) then [rowAt l k] else []) := by
  have e : l[k] = rowAt l k := by
    have := rowAt_get h
    rw [List.getElem?_eq_getElem h] at this
    exact Option.some.inj this
  unfold kept
  rw [List.take_succ_eq_append_getElem h, List.filter_append, e]
  by_cases hk : keepB (rowAt l k) = true
  · rw [if_pos hk, List.filter_cons_of_pos hk]; rfl
  · rw [if_neg hk, List.filter_cons_of_neg hk]; rfl
theorem kept_len (l : List HRow) (k : Nat) : (kept (l.take k)).length ≤ k := Nat.le_trans (List.length_filter_le _ _) (List.length_take_le _ _)
def wholeB (l : List HRow) : Bool := l.any fun x => x.1.kind == 4
/-- the calls of one name -/
def named (n : ByteArray) (l : List HRow) : List HRow := l.filter fun x => decide (x.1.name = n)
theorem named_next {n : ByteArray} {l : List HRow} {k : Nat} (h : k < l.length) : named n (l.take (k + 1)) = named n (l.take k) ++ (if (rowAt l k).1.name = n then [rowAt l k] else []) := by
  have e : l[k] = rowAt l k := by
    have := rowAt_get h
    rw [List.getElem?_eq_getElem h] at this
    exact Option.some.inj this
  unfold named
  rw [List.take_succ_eq_append_getElem h, List.filter_append, e]
  by_cases hk : (rowAt l k).1.name = n
  · rw [if_pos hk, List.filter_cons_of_pos (by simpa using hk)]; rfl
  · rw [if_neg hk, List.filter_cons_of_neg (by simpa using hk)]; rfl
theorem named_len (n : ByteArray) (l : List HRow) (k : Nat) : (named n (l.take k)).length ≤ k := Nat.le_trans (List.length_filter_le _ _) (List.length_take_le _ _)
def namesIn (l : List HRow) : List ByteArray := l.map fun x => x.1.name
/-- the parts that a history falls into -/
def partsOf (l : List HRow) : List (List HRow) := if wholeB (kept l) then [kept l] else (namesOf (namesIn (kept l))).map fun n => named n (kept l)
end Go.Proofs.Ytlodaffiamegpaa
