/-
  Layer 13: a catalog, plain, and where it lies.
-/
import Derived.Test.YtchnejfdompfpaaSlices
import Derived.Test.YtchnejfdompfpaaOwnSet
import Derived.Test.YtchnejfdompfpaaCmd
namespace Go.Proofs.Ytchnejfdompfpaa
open Go.RowKit

structure Cp where
  there : Bool
  vol : Int
  at_ : Int
structure Bl where
  id : Nat
  name : ByteArray
  size : Int
  sum : Nat
  disks : List Int
  a : Cp
  b : Cp
  pins : Int
  dead : Bool
structure Vl where
  closed : Bool
  erase : Bool
  gen : Int
def Cp.none : Cp := ⟨false, 0, 0⟩
def Vl.zero : Vl := ⟨false, false, 0⟩
/-- a blob, where it lies, and its disks' slice -/
structure BR where
  b : Bl
  g : Nat
  dv : Value
abbrev blCells (b : Bl) (dv : Value) : Array Value := #[.int .u64 (b.id : Int), .string b.name, .int .i64 b.size, .int .u32 (b.sum : Int), dv, .bool b.a.there, .int .i64 b.a.vol, .int .i64 b.a.at_, .bool b.b.there, .int .i64 b.b.vol, .int .i64 b.b.at_, .int .i64 b.pins, .bool b.dead]
def vlRow (v : Vl) : List Value := [.bool v.closed, .bool v.erase, .int .i64 v.gen]
def ptrV (g : Nat) : Value := .pointer (some ⟨g, 0, Option.none⟩)
def u64V (n : Nat) : Value := .int .u64 (n : Int)
/-- a catalog -/
structure Ct where
  rows : List BR
  names : List (ByteArray × Nat)
  vols : List Vl
def Ct.idx (C : Ct) : List (Int × Nat) := C.rows.map fun r => ((r.b.id : Int), r.g)
structure CtAt (w : World) (B c mb mn : Nat) (C : Ct) : Prop where
  blk : At w c 64 (.map (some mb) :: .map (some mn) :: (C.vols.map vlRow).flatten).toArray
  bm : MapAt u64Way ptrV w mb C.idx
  nm : MapAt strWay u64V w mn C.names
  bl : ∀ r ∈ C.rows, At w r.g 44 (blCells r.b r.dv) ∧ w.ownsRow 0 3 1 r.dv r.b.disks.length (r.b.disks.map (Value.int .i64))
  inj : (C.rows.map BR.g).Nodup
  vlen : C.vols.length = 12
  mne : mb ≠ mn
  lo : B ≤ c ∧ B ≤ mb ∧ B ≤ mn ∧ ∀ r ∈ C.rows, B ≤ r.g

/-- the blocks that a catalog lies in, but for the disks -/
def Ct.S (C : Ct) (c mb mn : Nat) : Nat → Prop := fun k => k = c ∨ k = mb ∨ k = mn ∨ ∃ r ∈ C.rows, k = r.g
theorem own_keep {w w' : World} {S : Nat → Prop} {base : Nat} {e : TypeId} {size : Nat} {v : Value} {n : Nat} {xs : List Value} (h : w.ownsRow base e size v n xs) (hc : Chg S w w') (hS : ∀ k, some k = v.ownBlock → ¬ S k) : w'.ownsRow base e size v n xs := by
  obtain ⟨h1, h2⟩ := h
  refine ⟨h1, ?_⟩
  rcases h2 with h2 | ⟨g, cap, cur, rfl, hb, hg, h3⟩
  · exact .inl h2
  · refine .inr ⟨g, cap, cur, rfl, hb, ?_, h3⟩
    rw [hc.block g (lt_of_block hg) (hS g rfl)]
    exact hg
theorem CtAt.ext {w w' : World} {B c mb mn : Nat} {C : Ct} (h : CtAt w B c mb mn C) (he : Ext w w') : CtAt w' B c mb mn C where
  blk := h.blk.ext he
  bm := h.bm.ext he
  nm := h.nm.ext he
  bl := fun r hr => ⟨(h.bl r hr).1.ext he, own_keep (h.bl r hr).2 he (fun _ _ hh => hh)⟩
  inj := h.inj
  vlen := h.vlen
  mne := h.mne
  lo := h.lo
theorem blob_info : (Try.prog.info? 44).map (fun i => (i.size)) = some 13 := by kernel_rfl
theorem map_blobs : Try.prog.underlying 60 = some (.map 27 70) := Try.underlying60
theorem map_names : Try.prog.underlying 61 = some (.map 9 27) := Try.underlying61
theorem zero_ptr (w : World) : (zeroValue 70).run Try.prog w = .ok (.pointer none) w := by kernel_rfl
theorem zero_u64 (w : World) : (zeroValue 27).run Try.prog w = .ok (.int .u64 0) w := by kernel_rfl

/-- the row of a number -/
def Ct.find (C : Ct) (id : Nat) : Option BR := C.rows.find? fun r => decide (r.b.id = id)
theorem idx_find (C : Ct) (id : Nat) : lget (id : Int) C.idx = (C.find id).map BR.g := by
  unfold Ct.idx Ct.find lget
  rw [List.find?_map, Option.map_map]
  have e : ((fun p : Int × Nat => decide (p.1 = (id : Int))) ∘ fun r : BR => ((r.b.id : Int), r.g)) = fun r => decide (r.b.id = id) := by
    funext r
    simp only [Function.comp]
    rw [Bool.eq_iff_iff]; simp; omega
  rw [e]
  cases C.rows.find? fun r => decide (r.b.id = id) <;> rfl
theorem find_mem {C : Ct} {id : Nat} {r : BR} (h : C.find id = some r) : r ∈ C.rows ∧ r.b.id = id := by
  unfold Ct.find at h
  exact ⟨List.mem_of_find?_eq_some h, by simpa using List.find?_some h⟩
def ptrO (r : Option BR) : Value := match r with
  | some r => .pointer (some ⟨r.g, 0, none⟩)
  | none => .pointer none
theorem CtAt.look {w : World} {B c mb mn : Nat} {C : Ct} (h : CtAt w B c mb mn C) (id : Nat) :
    (Instr.lookup 60 (.map (some mb)) (.int .u64 (id : Int)) false).run Try.prog w = .ok (ptrO (C.find id)) w := by
  have := h.bm.lookup (K := u64Way) map_blobs Try.underlying27 zero_ptr (id : Int)
  rw [idx_find] at this
  rw [show (Instr.lookup 60 (.map (some mb)) (.int .u64 (id : Int)) false) = (Instr.lookup 60 (.map (some mb)) (u64Way.val (id : Int)) false) from rfl, this]
  cases C.find id <;> rfl
theorem CtAt.lookName {w : World} {B c mb mn : Nat} {C : Ct} (h : CtAt w B c mb mn C) (n : ByteArray) :
    (Instr.lookup 61 (.map (some mn)) (.string n) true).run Try.prog w = .ok (.tuple #[.int .u64 (((lget n C.names).getD 0 : Nat) : Int), .bool (lget n C.names).isSome]) w := by
  have := h.nm.lookup_ok (K := strWay) map_names Try.underlying9 zero_u64 n
  rw [show (Instr.lookup 61 (.map (some mn)) (.string n) true) = (Instr.lookup 61 (.map (some mn)) (strWay.val n) true) from rfl, this]
  cases lget n C.names <;> rfl
theorem S_lo {w : World} {B c mb mn : Nat} {C : Ct} (h : CtAt w B c mb mn C) : ∀ k, C.S c mb mn k → B ≤ k := by
  rintro k (rfl | rfl | rfl | ⟨r, hr, rfl⟩)
  · exact h.lo.1
  · exact h.lo.2.1
  · exact h.lo.2.2.1
  · exact h.lo.2.2.2 r hr
theorem S_not {w : World} {B c mb mn : Nat} {C : Ct} {g : Nat} {t : TypeId} {cs : Array Value} (h : CtAt w B c mb mn C) (hA : At w g t cs) (h1 : 64 ≠ t) (h2 : 44 ≠ t) : ¬ C.S c mb mn g := by
  rintro (e | e | e | ⟨r, hr, e⟩)
  · exact At.ne h.blk hA h1 e.symm
  · exact h.bm.ne_at hA e.symm
  · exact h.nm.ne_at hA e.symm
  · exact At.ne (h.bl r hr).1 hA h2 e.symm
/-! ### a blob is changed in place -/
def Ct.upd (C : Ct) (g : Nat) (b : Bl) (dv : Value) : Ct := { C with rows := C.rows.map fun r => if r.g = g then ⟨b, g, dv⟩ else r }
theorem own_apart' {w : World} {base : Nat} {e t : TypeId} {size : Nat} {v : Value} {n : Nat} {xs : List Value} {g : Nat} {cs : Array Value} (h : w.ownsRow base e size v n xs) (ha : At w g t cs) (hne : e ≠ t) : ∀ k, some k = v.ownBlock → k ≠ g := by
  intro k hk
  rcases h.2 with ⟨rfl, _⟩ | ⟨g', cap, cur, rfl, hb, hg, _⟩
  · cases hk
  · cases hk
    exact At.ne (t := e) (cs := cur) hg ha hne
theorem nodup_eq {α β : Type} {f : α → β} : ∀ {l : List α}, (l.map f).Nodup → ∀ {x y : α}, x ∈ l → y ∈ l → f x = f y → x = y
  | [], _, _, _, h, _, _ => by cases h
  | a :: l, hn, x, y, hx, hy, he => by
    rw [List.map_cons, List.nodup_cons] at hn
    rcases List.mem_cons.1 hx with h1 | h1 <;> rcases List.mem_cons.1 hy with h2 | h2
    · rw [h1, h2]
    · exact absurd (List.mem_map.2 ⟨y, h2, by rw [← he, h1]⟩) hn.1
    · exact absurd (List.mem_map.2 ⟨x, h1, by rw [he, h2]⟩) hn.1
    · exact nodup_eq hn.2 h1 h2 he
theorem upd_idx {C : Ct} {r : BR} {b : Bl} {dv : Value} (hr : r ∈ C.rows) (hi : (C.rows.map BR.g).Nodup) (hid : b.id = r.b.id) : (C.upd r.g b dv).idx = C.idx := by
  unfold Ct.idx Ct.upd
  simp only
  rw [List.map_map]
  refine List.map_congr_left fun q hq => ?_
  simp only [Function.comp]
  split
  · rename_i h
    have := nodup_eq hi hq hr h
    rw [this, hid]
  · rfl
theorem upd_g (C : Ct) (g : Nat) (b : Bl) (dv : Value) : (C.upd g b dv).rows.map BR.g = C.rows.map BR.g := by
  unfold Ct.upd
  simp only
  rw [List.map_map]
  refine List.map_congr_left fun q _ => ?_
  simp only [Function.comp]
  split
  · rename_i h; exact h.symm
  · rfl
theorem CtAt.chgBlob {w w' : World} {B c mb mn : Nat} {C : Ct} {r : BR} {b : Bl} {dv : Value} (h : CtAt w B c mb mn C) (hr : r ∈ C.rows) (hid : b.id = r.b.id) (hC : Chg (· = r.g) w w')
    (hB : At w' r.g 44 (blCells b dv)) (hO : w'.ownsRow 0 3 1 dv b.disks.length (b.disks.map (Value.int .i64))) : CtAt w' B c mb mn (C.upd r.g b dv) := by
  have hg := (h.bl r hr).1
  refine ⟨?_, ?_, ?_, ?_, ?_, h.vlen, h.mne, h.lo.1, h.lo.2.1, h.lo.2.2.1, fun q hq => ?_⟩
  rotate_left 5
  · obtain ⟨q0, hq0, rfl⟩ := List.mem_map.1 hq
    split
    · exact h.lo.2.2.2 r hr
    · exact h.lo.2.2.2 q0 hq0
  · exact h.blk.chg hC (fun e => by
      have h' : c = r.g := e
      exact At.ne h.blk hg (by decide) h')
  · rw [upd_idx hr h.inj hid]
    exact h.bm.chg hC (fun e => h.bm.ne_at hg e)
  · exact h.nm.chg hC (fun e => h.nm.ne_at hg e)
  · intro q hq
    obtain ⟨q0, hq0, rfl⟩ := List.mem_map.1 hq
    by_cases e : q0.g = r.g
    · rw [if_pos e]; exact ⟨hB, hO⟩
    · rw [if_neg e]
      have hb := h.bl q0 hq0
      exact ⟨hb.1.chg hC (fun e' => e e'), own_keep hb.2 hC (fun k hk e' => own_apart' hb.2 hg (by decide) k hk e')⟩
  · rw [upd_g]; exact h.inj
theorem CtAt.far {w w' : World} {B c mb mn : Nat} {C : Ct} {g : Nat} {t : TypeId} {cs : Array Value} (h : CtAt w B c mb mn C) (hC : Chg (· = g) w w') (hA : At w g t cs) (h1 : 64 ≠ t) (h2 : 44 ≠ t) (h3 : 3 ≠ t) : CtAt w' B c mb mn C where
  blk := h.blk.chg hC (fun e => At.ne h.blk hA h1 e)
  bm := h.bm.chg hC (fun e => h.bm.ne_at hA e)
  nm := h.nm.chg hC (fun e => h.nm.ne_at hA e)
  bl := fun r hr => ⟨(h.bl r hr).1.chg hC (fun e => At.ne (h.bl r hr).1 hA h2 e), own_keep (h.bl r hr).2 hC (fun k hk e => own_apart' (h.bl r hr).2 hA h3 k hk e)⟩
  inj := h.inj
  vlen := h.vlen
  mne := h.mne
  lo := h.lo
/-! ### the maps turn -/
theorem own_map {w : World} {base : Nat} {e : TypeId} {size : Nat} {v : Value} {n : Nat} {xs : List Value} {κ ν : Type} {K : KeyWay κ} {vv : ν → Value} {m : Nat} {L : List (κ × ν)} (h : w.ownsRow base e size v n xs) (hm : MapAt K vv w m L) : ∀ k, some k = v.ownBlock → k ≠ m := by
  intro k hk e'
  rcases h.2 with ⟨rfl, _⟩ | ⟨g', cap, cur, rfl, hb, hg, _⟩
  · cases hk
  · cases hk
    have hA : At w g' e cur := hg
    exact hm.ne_at hA e'.symm
def Ct.setNames (C : Ct) (L : List (ByteArray × Nat)) : Ct := { C with names := L }
theorem CtAt.chgNames {w w' : World} {B c mb mn : Nat} {C : Ct} {L : List (ByteArray × Nat)} (h : CtAt w B c mb mn C) (hC : Chg (· = mn) w w') (hM : MapAt strWay u64V w' mn L) : CtAt w' B c mb mn (C.setNames L) := by
  refine ⟨?_, ?_, hM, ?_, h.inj, h.vlen, h.mne, h.lo⟩
  · exact h.blk.chg hC (fun e => h.nm.ne_at h.blk e.symm)
  · exact h.bm.chg hC (fun e => h.mne e)
  · intro q hq
    have hb := h.bl q hq
    exact ⟨hb.1.chg hC (fun e => h.nm.ne_at hb.1 e.symm), own_keep hb.2 hC (fun k hk e => own_map hb.2 h.nm k hk e)⟩
def Ct.setRows (C : Ct) (R : List BR) : Ct := { C with rows := R }
theorem CtAt.chgRows {w w' : World} {B c mb mn : Nat} {C : Ct} {R : List BR} (h : CtAt w B c mb mn C) (hC : Chg (· = mb) w w') (hM : MapAt u64Way ptrV w' mb (C.setRows R).idx)
    (hR : ∀ q ∈ R, At w q.g 44 (blCells q.b q.dv) ∧ w.ownsRow 0 3 1 q.dv q.b.disks.length (q.b.disks.map (Value.int .i64))) (hi : (R.map BR.g).Nodup) (hlo : ∀ r ∈ R, B ≤ r.g) : CtAt w' B c mb mn (C.setRows R) := by
  refine ⟨?_, hM, ?_, ?_, hi, h.vlen, h.mne, h.lo.1, h.lo.2.1, h.lo.2.2.1, hlo⟩
  · exact h.blk.chg hC (fun e => h.bm.ne_at h.blk e.symm)
  · exact h.nm.chg hC (fun e => h.mne e.symm)
  · intro q hq
    have hb := hR q hq
    exact ⟨hb.1.chg hC (fun e => h.bm.ne_at hb.1 e.symm), own_keep hb.2 hC (fun k hk e => own_map hb.2 h.bm k hk e)⟩
def Ct.add (C : Ct) (b : Bl) (g : Nat) (dv : Value) : Ct := C.setRows (⟨b, g, dv⟩ :: C.rows.filter fun r => decide (r.b.id ≠ b.id))
def Ct.del (C : Ct) (id : Nat) : Ct := C.setRows (C.rows.filter fun r => decide (r.b.id ≠ id))
theorem idx_del (C : Ct) (id : Nat) : (C.del id).idx = ldel (id : Int) C.idx := by
  unfold Ct.idx Ct.del Ct.setRows ldel
  simp only
  rw [List.filter_map]
  congr 1
  refine List.filter_congr fun q _ => ?_
  simp only [Function.comp]
  rw [Bool.eq_iff_iff]; simp; omega
theorem idx_add (C : Ct) (b : Bl) (g : Nat) (dv : Value) : (C.add b g dv).idx = ((b.id : Int), g) :: ldel (b.id : Int) C.idx := by
  rw [← idx_del]; rfl
theorem CtAt.addRow {w : World} {B c mb mn : Nat} {C : Ct} (h : CtAt w B c mb mn C) {b : Bl} {g : Nat} {dv : Value} (hB : At w g 44 (blCells b dv)) (hO : w.ownsRow 0 3 1 dv b.disks.length (b.disks.map (Value.int .i64))) (hg : ∀ r ∈ C.rows, r.g ≠ g) (hgb : B ≤ g) :
    ∃ w', (Instr.mapUpdate 60 (.map (some mb)) (.int .u64 (b.id : Int)) (.pointer (some ⟨g, 0, none⟩))).run Try.prog w = .ok () w' ∧ CtAt w' B c mb mn (C.add b g dv) ∧ Chg (· = mb) w w' := by
  obtain ⟨w', h1, h2, h3⟩ := h.bm.update (K := u64Way) map_blobs Try.underlying27 (b.id : Int) g
  refine ⟨w', h1, ?_, h3⟩
  refine h.chgRows h3 (by rw [← idx_add (dv := dv)] at h2; exact h2) (fun q hq => ?_) ?_ (fun q hq => ?_)
  rotate_left 2
  · rcases List.mem_cons.1 hq with rfl | hq
    · exact hgb
    · exact h.lo.2.2.2 q (List.mem_filter.1 hq).1
  · rcases List.mem_cons.1 hq with rfl | hq
    · exact ⟨hB, hO⟩
    · exact h.bl q (List.mem_filter.1 hq).1
  · rw [List.map_cons, List.nodup_cons]
    refine ⟨fun hm => ?_, ?_⟩
    · obtain ⟨r, hr, e⟩ := List.mem_map.1 hm
      exact hg r (List.mem_filter.1 hr).1 e
    · exact h.inj.sublist ((List.filter_sublist).map _)
theorem CtAt.delRow {w : World} {B c mb mn : Nat} {C : Ct} (h : CtAt w B c mb mn C) (id : Nat) :
    ∃ w', (∀ ty, (Builtin.delete_ #[60, 27] ty #[.map (some mb), .int .u64 (id : Int)]).run Try.prog w = .ok (.tuple #[]) w') ∧ CtAt w' B c mb mn (C.del id) ∧ Chg (· = mb) w w' := by
  obtain ⟨w', h1, h2, h3⟩ := h.bm.delete (K := u64Way) map_blobs Try.underlying27 (id : Int)
  refine ⟨w', h1, ?_, h3⟩
  exact h.chgRows h3 (by rw [← idx_del] at h2; exact h2) (fun q hq => h.bl q (List.mem_filter.1 hq).1) (h.inj.sublist ((List.filter_sublist).map _)) (fun q hq => h.lo.2.2.2 q (List.mem_filter.1 hq).1)
theorem CtAt.addName {w : World} {B c mb mn : Nat} {C : Ct} (h : CtAt w B c mb mn C) (n : ByteArray) (id : Nat) :
    ∃ w', (Instr.mapUpdate 61 (.map (some mn)) (.string n) (.int .u64 (id : Int))).run Try.prog w = .ok () w' ∧ CtAt w' B c mb mn (C.setNames ((n, id) :: ldel n C.names)) ∧ Chg (· = mn) w w' := by
  obtain ⟨w', h1, h2, h3⟩ := h.nm.update (K := strWay) map_names Try.underlying9 n id
  exact ⟨w', h1, h.chgNames h3 h2, h3⟩
theorem CtAt.delName {w : World} {B c mb mn : Nat} {C : Ct} (h : CtAt w B c mb mn C) (n : ByteArray) :
    ∃ w', (∀ ty, (Builtin.delete_ #[61, 9] ty #[.map (some mn), .string n]).run Try.prog w = .ok (.tuple #[]) w') ∧ CtAt w' B c mb mn (C.setNames (ldel n C.names)) ∧ Chg (· = mn) w w' := by
  obtain ⟨w', h1, h2, h3⟩ := h.nm.delete (K := strWay) map_names Try.underlying9 n
  exact ⟨w', h1, h.chgNames h3 h2, h3⟩
end Go.Proofs.Ytchnejfdompfpaa
