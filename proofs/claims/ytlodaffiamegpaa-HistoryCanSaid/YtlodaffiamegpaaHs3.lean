/-
  Layer 18: the tables of a search in memory; now, ready.
-/
import Derived.Test.YtlodaffiamegpaaHs2
namespace Go.Proofs.Ytlodaffiamegpaa
open Go.RowKit Go.Sort

structure HTab where
  names : List ByteArray
  vals : List (List Nat)
  name : List Int
  put : List Nat
  before : List Nat
  need : Nat
/-- where they lie -/
structure HLoc where
  ov : Value
  nv : Value
  vv : Value
  svs : List Value
  mv : Value
  pv : Value
  bv : Value
  st : Nat
  sn : Nat
def Sep (S : Nat → Prop) (v : Value) : Prop := ∀ b o n c, v = .slice (some ⟨b, o, none⟩) n c → 0 < n → ¬ S b
def i64s (l : List Int) : List Value := l.map (Value.int .i64)
def nat64s (l : List Nat) : List Value := l.map fun (n : Nat) => Value.int .i64 (n : Int)
def u64s (l : List Nat) : List Value := l.map fun (n : Nat) => Value.int .u64 (n : Int)
def u32s (l : List Nat) : List Value := l.map fun (n : Nat) => Value.int .u32 (n : Int)

structure TabAt (S : Nat → Prop) (w : World) (g : Nat) (l : List HRow) (T : HTab) (X : HLoc) : Prop where
  blk : At w g 53 #[X.ov, X.nv, X.vv, X.mv, X.pv, X.bv, .int .u32 (T.need : Int), .slice (some ⟨X.st, 0, none⟩) T.names.length T.names.length, .map (some X.sn)]
  gS : ¬ S g
  ops : Sln w X.ov 8 (l.map hrow)
  opsS : Sep S X.ov
  rows : ∀ x ∈ l, Sl w (.slice x.2.1 x.1.names.length x.2.2) (x.1.names.map Value.string) ∧ Sep S (.slice x.2.1 x.1.names.length x.2.2)
  names : Sl w X.nv (T.names.map Value.string)
  namesS : Sep S X.nv
  vals : Sl w X.vv X.svs
  valsS : Sep S X.vv
  svs : X.svs.length = T.vals.length ∧ ∀ (i : Nat) (v : Value) (vs : List Nat), X.svs[i]? = some v → T.vals[i]? = some vs → Sl w v (u64s vs) ∧ Sep S v
  name : Sl w X.mv (i64s T.name)
  nameS : Sep S X.mv
  put : Sl w X.pv (nat64s T.put)
  putS : Sep S X.pv
  before : Sl w X.bv (u32s T.before)
  beforeS : Sep S X.bv

section
variable {S S' : Nat → Prop} {w w' : World} {g : Nat} {l : List HRow} {T : HTab} {X : HLoc}
theorem Sl.sep {v : Value} {xs : List Value} (h : Sl w v xs) (hs : Sep S v) (hc : Chg S w w') : Sl w' v xs := h.chg hc fun b o n c hv hne => hs b o n c hv (by
  obtain ⟨A, c', hv', _⟩ := h
  rw [hv'] at hv
  injection hv with _ hn _
  rw [← hn]; exact List.length_pos_iff.2 hne)
theorem Sln.sep {v : Value} {k : Nat} {xs : List (List Value)} (h : Sln w v k xs) (hs : Sep S v) (hc : Chg S w w') : Sln w' v k xs := h.chg hc fun b o n c hv hne => hs b o n c hv (by
  obtain ⟨A, c', hv', _⟩ := h
  rw [hv'] at hv
  injection hv with _ hn _
  rw [← hn]; exact List.length_pos_iff.2 hne)
theorem TabAt.chg (h : TabAt S w g l T X) (hc : Chg S w w') : TabAt S w' g l T X where
  blk := h.blk.chg hc h.gS
  gS := h.gS
  ops := h.ops.sep h.opsS hc
  opsS := h.opsS
  rows := fun x hx => ⟨(h.rows x hx).1.sep (h.rows x hx).2 hc, (h.rows x hx).2⟩
  names := h.names.sep h.namesS hc
  namesS := h.namesS
  vals := h.vals.sep h.valsS hc
  valsS := h.valsS
  svs := ⟨h.svs.1, fun i v vs h1 h2 => ⟨(h.svs.2 i v vs h1 h2).1.sep (h.svs.2 i v vs h1 h2).2 hc, (h.svs.2 i v vs h1 h2).2⟩⟩
  name := h.name.sep h.nameS hc
  nameS := h.nameS
  put := h.put.sep h.putS hc
  putS := h.putS
  before := h.before.sep h.beforeS hc
  beforeS := h.beforeS
theorem TabAt.ext (h : TabAt S w g l T X) (hc : Ext w w') : TabAt S w' g l T X := h.chg hc.chg
end

/-- element i of a slice -/
theorem sl_elem {w : World} {v : Value} {xs : List Value} {i : Nat} {x : Value} (h : Sl w v xs) (hx : xs[i]? = some x) : ∃ b o c, v = .slice (some ⟨b, o, none⟩) xs.length c ∧ w.cell? ⟨b, o + i, none⟩ = some x := by
  obtain ⟨A, c, hv, hc⟩ := h
  obtain ⟨b, o, rfl, hc2⟩ := hc (fun e => by subst e; simp at hx)
  exact ⟨b, o, c, hv, hc2 i x hx⟩
def stCells (st : List Nat) : Array Value := (nat64s st).toArray
theorem stCells_at {st : List Nat} {i n : Nat} (h : st[i]? = some n) : (stCells st)[i]? = some (.int .i64 (n : Int)) := by
  unfold stCells nat64s; simp [h]
theorem i64s_at {l : List Int} {i : Nat} {n : Int} (h : l[i]? = some n) : (i64s l)[i]? = some (.int .i64 n) := by
  unfold i64s; simp [h]
theorem nat64s_at {l : List Nat} {i n : Nat} (h : l[i]? = some n) : (nat64s l)[i]? = some (.int .i64 (n : Int)) := by
  unfold nat64s; simp [h]
theorem u32s_at {l : List Nat} {i n : Nat} (h : l[i]? = some n) : (u32s l)[i]? = some (.int .u32 (n : Int)) := by
  unfold u32s; simp [h]
theorem u64s_at {l : List Nat} {i n : Nat} (h : l[i]? = some n) : (u64s l)[i]? = some (.int .u64 (n : Int)) := by
  unfold u64s; simp [h]

/-- a call's name's state -/
def nowO (st : List Nat) : Option Int → Nat
  | some (.ofNat n) => st.getD n 0
  | _ => 0
def nowV (T : HTab) (st : List Nat) (i : Nat) : Nat := nowO st T.name[i]?

set_option maxHeartbeats 1000000 in
theorem now_any {S : Nat → Prop} (w : World) (g : Nat) (l : List HRow) (T : HTab) (X : HLoc) (st : List Nat) (hT : TabAt S w g l T X) (hst : At w X.st 3 (stCells st)) (hsl : st.length = T.names.length)
    (i : Nat) (hi : i < T.name.length) (_hn20 : T.name.length ≤ 20) (_hnn : T.names.length ≤ 20) (hlt : ∀ n : Nat, T.name[i]? = some (n : Int) → n < T.names.length) :
    Calls Try.prog 34 #[.pointer (some ⟨g, 0, none⟩), .int .i64 (i : Int)] w fun e w' => e = .returned (.int .i64 (nowV T st i : Nat)) ∧ Ext w w' := by
  obtain ⟨n, hn⟩ : ∃ n, T.name[i]? = some n := ⟨_, List.getElem?_eq_getElem hi⟩
  obtain ⟨mb, mo, mc, hmv, hm⟩ := sl_elem hT.name (i64s_at hn)
  have hml : (i64s T.name).length = T.name.length := by simp [i64s]
  rw [hml] at hmv
  have c3 := hT.blk.cell 3
  have c7 := hT.blk.cell 7
  simp at c3 c7
  rw [hmv] at c3
  have hnow : nowV T st i = nowO st (some n) := by unfold nowV; rw [hn]
  rw [hnow]
  clear hnow hmv hml
  cases n with
  | negSucc k =>
    have hneg : decide (Int.negSucc k < 0) = true := by simp [Int.negSucc_lt_zero]
    have hnow0 : nowO st (some (Int.negSucc k)) = 0 := rfl
    rw [hnow0]
    clear hnow0 hn
    generalize Int.negSucc k = m at hm hneg ⊢
    have hneg' : m < 0 := by simpa using hneg
    go_enter Try.func34, Try.ntmps34
    go_wp2_with fail
    go_ret
    exact ⟨rfl, Ext.refl _⟩
  | ofNat k =>
    have hk := hlt k hn
    have hneg : decide (((k : Nat) : Int) < 0) = false := by simp
    obtain ⟨s, hs⟩ : ∃ s, st[k]? = some s := ⟨_, List.getElem?_eq_getElem (by omega)⟩
    have hsc := (hst.cell k).trans (stCells_at hs)
    have hgd : st.getD k 0 = s := by rw [List.getD_eq_getElem?_getD, hs]; rfl
    show Calls _ _ _ _ fun e w' => e = .returned (.int .i64 ((st.getD k 0 : Nat) : Int)) ∧ Ext w w'
    rw [hgd]
    have hm' : w.cell? ⟨mb, mo + i, none⟩ = some (.int .i64 ((k : Nat) : Int)) := hm
    clear hm hgd hs hn hst hT
    have rg : ∀ {p : Addr} {u : Value}, w.cell? p = some u → ∀ d os, (grow (redrawn w d) os).cell? p = some u := fun h d os => (Ext.cell (ext_regrown w d os) (cell_lt h)).trans h
    have r3 := rg c3
    have r7 := rg c7
    have rm := rg hm'
    have rs := rg hsc
    clear rg
    go_enter Try.func34, Try.ntmps34
    go_wp2_with fail
    refine wp_region_quiet_ext (by kernel_rfl) (by kernel_rfl) ?_
    repeat (go_big_quiet_step (fail))
    refine wpQuiet_nil ?_
    intro W8 hE8
    go_wp2_with fail
    go_ret
    exact ⟨rfl, hE8⟩

/-! ### sets of calls as bits -/
theorem u32_of {a : Nat} (ha : a < 4294967296) : (BitVec.ofInt 32 (a : Int)).toNat = a := by
  rw [BitVec.ofInt_natCast, BitVec.toNat_ofNat]; exact Nat.mod_eq_of_lt (by omega)
theorem u32_wrap {a : Nat} (ha : a < 4294967296) : IntKind.u32.wrap (a : Int) = (a : Int) := by
  rw [IntKind.wrap_u32]; omega
theorem bits_and_u32 {a b : Nat} (ha : a < 4294967296) (hb : b < 4294967296) : bits .and .u32 (a : Int) (b : Int) = ((a &&& b : Nat) : Int) := by
  have hx : a &&& b < 2 ^ 32 := Nat.and_lt_two_pow _ (by omega)
  show IntKind.u32.wrap ((BitVec.ofInt 32 (a : Int) &&& BitVec.ofInt 32 (b : Int)).toNat : Int) = _
  rw [BitVec.toNat_and, u32_of ha, u32_of hb, u32_wrap (by omega)]
theorem bits_or_u32 {a b : Nat} (ha : a < 4294967296) (hb : b < 4294967296) : bits .or .u32 (a : Int) (b : Int) = ((a ||| b : Nat) : Int) := by
  have hx : a ||| b < 2 ^ 32 := Nat.or_lt_two_pow (by omega) (by omega)
  show IntKind.u32.wrap ((BitVec.ofInt 32 (a : Int) ||| BitVec.ofInt 32 (b : Int)).toNat : Int) = _
  rw [BitVec.toNat_or, u32_of ha, u32_of hb, u32_wrap (by omega)]
theorem bv_sub {n : Nat} (x y : BitVec n) : x &&& ~~~y = 0#n ↔ x &&& y = x := by
  constructor
  · intro h
    apply BitVec.eq_of_getLsbD_eq
    intro i hi
    have := congrArg (fun z => z.getLsbD i) h
    simp [hi] at this ⊢
    exact this
  · intro h
    apply BitVec.eq_of_getLsbD_eq
    intro i hi
    have := congrArg (fun z => z.getLsbD i) h
    simp [hi] at this ⊢
    exact this
theorem bits_without {a b : Nat} (ha : a < 4294967296) (hb : b < 4294967296) : (bits .andNot .u32 (a : Int) (b : Int) == 0) = (a &&& b == a) := by
  have h1 : bits .andNot .u32 (a : Int) (b : Int) = ((BitVec.ofInt 32 (a : Int) &&& ~~~BitVec.ofInt 32 (b : Int)).toNat : Int) := by
    show IntKind.u32.wrap ((BitVec.ofInt 32 (a : Int) &&& ~~~BitVec.ofInt 32 (b : Int)).toNat : Int) = _
    exact u32_wrap (BitVec.isLt _)
  rw [h1, Bool.eq_iff_iff, beq_iff_eq, beq_iff_eq]
  have h2 : ((BitVec.ofInt 32 (a : Int) &&& ~~~BitVec.ofInt 32 (b : Int)).toNat : Int) = 0 ↔ BitVec.ofInt 32 (a : Int) &&& ~~~BitVec.ofInt 32 (b : Int) = 0#32 := by
    constructor
    · intro h
      apply BitVec.eq_of_toNat_eq
      simpa using h
    · intro h; rw [h]; rfl
  rw [h2, bv_sub]
  constructor
  · intro h
    have := congrArg BitVec.toNat h
    rw [BitVec.toNat_and, u32_of ha, u32_of hb] at this
    exact this
  · intro h
    apply BitVec.eq_of_toNat_eq
    rw [BitVec.toNat_and, u32_of ha, u32_of hb]
    exact h
theorem shl_u32 {i : Nat} (hi : i < 20) : ((2 : Int) ^ i % 4294967296) = ((2 ^ i : Nat) : Int) := by
  have : 2 ^ i < 2 ^ 20 := Nat.pow_lt_pow_right (by omega) hi
  rw [show (2 : Nat) ^ 20 = 1048576 from rfl] at this
  have e : (2 : Int) ^ i = ((2 ^ i : Nat) : Int) := by simp
  rw [e]
  generalize 2 ^ i = m at this ⊢
  omega
theorem and_bit {d i : Nat} : d &&& 2 ^ i = 0 ↔ d.testBit i = false := by
  constructor
  · intro h
    have := congrArg (fun z => z.testBit i) h
    simpa [Nat.testBit_and, Nat.testBit_two_pow] using this
  · intro h
    apply Nat.eq_of_testBit_eq
    intro j
    rw [Nat.testBit_and, Nat.testBit_two_pow, Nat.zero_testBit]
    by_cases e : i = j
    · subst e; simp [h]
    · simp [e]
theorem has_bit {d i : Nat} (hd : d < 1048576) (hi : i < 20) : (bits .and .u32 (d : Int) ((2 : Int) ^ i % 4294967296) = 0) = (d.testBit i = false) := by
  have h2 : 2 ^ i < 2 ^ 20 := Nat.pow_lt_pow_right (by omega) hi
  rw [shl_u32 hi, bits_and_u32 (by omega) (by omega)]
  apply propext
  rw [← and_bit]
  omega

theorem ready_any {S : Nat → Prop} (w : World) (g : Nat) (l : List HRow) (T : HTab) (X : HLoc) (hT : TabAt S w g l T X) (i d b : Nat) (hi : T.before[i]? = some b) (h20 : i < 20) (_hb20 : T.before.length ≤ 20) (hd : d < 1048576) (hb : b < 1048576) :
    Calls Try.prog 31 #[.pointer (some ⟨g, 0, none⟩), .int .i64 (i : Int), .int .u32 (d : Int)] w fun e w' => e = .returned (.bool (!d.testBit i && b &&& d == b)) ∧ w' = w := by
  obtain ⟨bb, bo, bc, hbv, hm⟩ := sl_elem hT.before (u32s_at hi)
  have hbl : (u32s T.before).length = T.before.length := by simp [u32s]
  rw [hbl] at hbv
  have c5 := hT.blk.cell 5
  simp at c5
  rw [hbv] at c5
  have hil : i < T.before.length := (List.getElem?_eq_some_iff.1 hi).1
  have hbw := bits_without (a := b) (b := d) (by omega) (by omega)
  have hbit := has_bit hd h20
  clear hbv hbl hT
  have HW := Lib.hid hbw
  have HB := Lib.hid hbit
  clear hbw hbit
  cases htb : d.testBit i
  · have h0 : bits .and .u32 (d : Int) ((2 : Int) ^ i % 4294967296) = 0 := by rw [HB.out]; exact htb
    clear htb
    go_enter Try.func31, Try.ntmps31
    go_wp2_with fail
    go_ret
    exact ⟨ret_bool HW.out, rfl⟩
  · have h0 : (bits .and .u32 (d : Int) ((2 : Int) ^ i % 4294967296) == 0) = false := by
      rw [beq_eq_false_iff_ne]
      intro h
      rw [HB.out, htb] at h; cases h
    clear htb
    go_enter Try.func31, Try.ntmps31
    go_wp2_with fail
    go_ret
    exact ⟨rfl, rfl⟩
end Go.Proofs.Ytlodaffiamegpaa
