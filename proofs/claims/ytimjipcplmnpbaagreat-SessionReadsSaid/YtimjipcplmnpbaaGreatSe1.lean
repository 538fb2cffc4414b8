/-
  Layer 14: where a machine lies.
-/
import Derived.Test.YtimjipcplmnpbaaGreatSeP
import Derived.Test.YtimjipcplmnpbaaGreatCatIn
namespace Go.Proofs.YtimjipcplmnpbaaGreat
open Go.RowKit Go.Sort

/-- a client's entry: what came of its last command, with the names' slice -/
def lastV (l : Last × Value) : Value := .agg #[.int .i64 l.1.seq, .int .i64 l.1.r.err, .int .u64 (l.1.r.blob : Int), .int .i64 l.1.r.size, .int .u32 (l.1.r.sum : Int), l.2]
def zeroLast : Value := .agg #[.int .i64 0, .int .i64 0, .int .u64 0, .int .i64 0, .int .u32 0, .slice none 0 0]
theorem map_lasts : Tryz.prog.underlying 69 = some (.map 3 76) := Tryz.underlying69
theorem zero_last (w : World) : (zeroValue 76).run Tryz.prog w = .ok zeroLast w := by kernel_rfl
/-- the catalog's Apply, with the maps that stay -/
theorem capply_S {w : World} {B : Nat → Prop} {c mb mn : Nat} {P : Pm} {n : Nat} (h : CatIn w B c mb mn P) (hi : PInv n P) (hn : n ≤ 1000000) (x : Cmd) (dv : Value) (hS : w.ownsRow 0 3 1 dv x.disks.length (x.disks.map (Value.int .i64))) (hdl : x.disks.length ≤ 17592186043904) (hnl : x.name.size ≤ 9223372036854775807) (hx : x.Wf) :
    Calls Tryz.prog 32 #[.pointer (some ⟨c, 0, none⟩), cmdVal x dv] w fun e w' => Came B c mb mn (P.app x) w e w' ∧ ∀ b es clk, b ≠ mb → b ≠ mn → w.heap[b]? = some (.map es clk) → w'.heap[b]? = some (.map es clk) := by
  obtain ⟨C, hC, hR⟩ := h
  refine (app_any w B c mb mn C P n hC hR hi hn x dv hS hdl hnl hx).mono ?_
  rintro e w' ⟨nv, rfl, hON, C', h1, h2, h3⟩
  obtain ⟨A, cp, rfl⟩ := own_slc hON
  refine ⟨⟨A, cp, rfl, hON, ⟨C', h1, h2⟩, Kp.of_S hC h3⟩, fun b es clk hb1 hb2 hb => (h3.block b (lt_of_block hb) ?_).trans hb⟩
  rintro (rfl | rfl | rfl | ⟨r, hr, rfl⟩)
  · have := hC.blk; unfold At at this; rw [this] at hb; cases hb
  · exact hb1 rfl
  · exact hb2 rfl
  · have := (hC.bl r hr).1; unfold At at this; rw [this] at hb; cases hb

/-- a machine's clients -/
abbrev Rows14 := List (Int × (Last × Value))
structure MAt (w : World) (B : Nat → Prop) (m c mb mn mc : Nat) (M : Mach) (rows : Rows14) : Prop where
  blk : At w m 71 #[.pointer (some ⟨c, 0, none⟩), .map (some mc), .int .i64 M.n]
  cat : CatIn w B c mb mn M.P
  cl : rows.map (fun p => (p.1, p.2.1)) = M.cl
  map : MapAt i64Way lastV w mc rows
  nms : ∀ p ∈ rows, w.ownsRow 0 9 1 p.2.2 p.2.1.r.names.length (p.2.1.r.names.map Value.string)
  ne : mc ≠ mb ∧ mc ≠ mn
  lo : B m ∧ B mc
  nb : ∀ p ∈ rows, ∀ k, some k = p.2.2.ownBlock → B k
/-- a machine in memory shows M; all its blocks lie at B or above -/
def MachIn (w : World) (B : Nat → Prop) (m : Nat) (M : Mach) : Prop := ∃ c mb mn mc rows, MAt w B m c mb mn mc M rows
/-- what a call of a machine leaves as it was -/
structure Km (B : Nat → Prop) (w w' : World) : Prop where
  chg : Chg (fun k => B k) w w'
  at_ : ∀ g t cs, t ≠ 100 → t ≠ 108 → t ≠ 71 → At w g t cs → At w' g t cs
section
variable {w w' w'' : World} {B : Nat → Prop} {m c mb mn mc : Nat} {M : Mach} {rows : Rows14}
theorem Km.of_ext (h : Ext w w') : Km B w w' := ⟨h.chg, fun _ _ _ _ _ _ hA => hA.ext h⟩
theorem Km.of_kp (h : Kp B w w') : Km B w w' := ⟨h.chg, fun g t cs h1 h2 _ hA => h.at_ g t cs h1 h2 hA⟩
theorem Km.trans (h : Km B w w') (h' : Km B w' w'') : Km B w w'' := ⟨h.chg.trans h'.chg (fun _ _ e => e), fun g t cs h1 h2 h3 hA => h'.at_ g t cs h1 h2 h3 (h.at_ g t cs h1 h2 h3 hA)⟩
theorem Km.own {base : Nat} {e : TypeId} {size : Nat} {v : Value} {n : Nat} {xs : List Value} (h : Km B w w') (ho : w.ownsRow base e size v n xs) (h1 : e ≠ 100) (h2 : e ≠ 108) (h3 : e ≠ 71) : w'.ownsRow base e size v n xs := by
  refine ⟨ho.1, ?_⟩
  rcases ho.2 with hn | ⟨g, cap, cur, hv, hb, hg, rest⟩
  · exact .inl hn
  · exact .inr ⟨g, cap, cur, hv, hb, h.at_ g e cur h1 h2 h3 hg, rest⟩
theorem Km.ext {w0 : World} (h0 : Ext w0 w) (h : Km B w w') (hB : ∀ k, B k → w0.heap.size ≤ k) : Ext w0 w' := h0.chg_trans h.chg |>.mono (fun k hk e => by have e' : B k := e; have := hB k e'; omega)
theorem MAt.ext (h : MAt w B m c mb mn mc M rows) (he : Ext w w') : MAt w' B m c mb mn mc M rows :=
  ⟨h.blk.ext he, h.cat.ext he, h.cl, h.map.ext he, fun p hp => own_keep (h.nms p hp) he (fun _ _ hh => hh), h.ne, h.lo, h.nb⟩
theorem MachIn.ext (h : MachIn w B m M) (he : Ext w w') : MachIn w' B m M := by
  obtain ⟨c, mb, mn, mc, rows, h⟩ := h
  exact ⟨c, mb, mn, mc, rows, h.ext he⟩
/-- the clients in memory are those of the list -/
theorem rows_get (h : rows.map (fun p => (p.1, p.2.1)) = M.cl) (k : Int) : (lget k rows).map (·.1) = lget k M.cl := by
  rw [← h]
  unfold lget
  rw [List.find?_map, Option.map_map, Option.map_map]
  rfl
theorem MAt.look (h : MAt w B m c mb mn mc M rows) (k : Int) :
    (Instr.lookup 69 (.map (some mc)) (.int .i64 k) true).run Tryz.prog w = .ok (.tuple #[(lget k rows).elim zeroLast lastV, .bool (lget k rows).isSome]) w :=
  h.map.lookup_ok (K := i64Way) map_lasts Tryz.underlying3 zero_last k
theorem MAt.look0 (h : MAt w B m c mb mn mc M rows) (k : Int) :
    (Instr.lookup 69 (.map (some mc)) (.int .i64 k) false).run Tryz.prog w = .ok ((lget k rows).elim zeroLast lastV) w :=
  h.map.lookup (K := i64Way) map_lasts Tryz.underlying3 zero_last k
theorem CatIn.up {P : Pm} (h : CatIn w B c mb mn P) : ∀ k, w.heap.size ≤ k → B k := by
  obtain ⟨C, hC, _⟩ := h
  exact hC.up
theorem MAt.cells (h : MAt w B m c mb mn mc M rows) : w.cell? ⟨m, 0, none⟩ = some (.pointer (some ⟨c, 0, none⟩)) ∧ w.cell? ⟨m, 1, none⟩ = some (.map (some mc)) ∧ w.cell? ⟨m, 2, none⟩ = some (.int .i64 M.n) ∧ w.frozen? ⟨m, 2, none⟩ = false :=
  ⟨h.blk.cell 0, h.blk.cell 1, h.blk.cell 2, h.blk.frozen 2⟩
end
end Go.Proofs.YtimjipcplmnpbaaGreat
