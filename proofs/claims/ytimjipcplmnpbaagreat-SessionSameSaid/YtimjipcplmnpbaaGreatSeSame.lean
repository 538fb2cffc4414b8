/-
  SessionSame: the walk.
-/
import Derived.Test.YtimjipcplmnpbaaGreatSe6
import Derived.Test.YtimjipcplmnpbaaGreatSeMv
import Derived.Test.YtimjipcplmnpbaaGreatSeW
import Derived.Test.YtimjipcplmnpbaaGreatOpenCmdS
namespace Go.Proofs.YtimjipcplmnpbaaGreat
open Go.RowKit Go.Sort

/-- two machines, apart from each other, in blocks at n0 or above -/
def Two (w : World) (n0 a b : Nat) (Ma Mb : Mach) : Prop :=
  ∃ Ba Bb : Nat → Prop, MachIn w Ba a Ma ∧ MachIn w Bb b Mb ∧ (∀ k, k < w.heap.size → Ba k → ¬ Bb k) ∧ (∀ k, Ba k → n0 ≤ k) ∧ (∀ k, Bb k → n0 ≤ k) ∧ n0 ≤ w.heap.size
/-- blocks of B, but for those that are new between -/
def Bx (B : Nat → Prop) (n n' : Nat) : Nat → Prop := fun k => B k ∧ (k < n ∨ n' ≤ k)
section
variable {w w' : World} {n0 a b : Nat} {Ma Mb : Mach} {Ba Bb : Nat → Prop}
theorem MachIn.aside {S : Nat → Prop} (h : MachIn w Bb b Mb) (hC : Chg S w w') (hS : ∀ k, k < w.heap.size → S k → ¬ Bb k) (hI : ∀ g cs, At w g 3 cs → At w' g 3 cs) : MachIn w' (Bx Bb w.heap.size w'.heap.size) b Mb := by
  have hu := h.up
  have hsz := hC.size
  refine h.moved (S := fun k => S k ∧ k < w.heap.size) (hC.mono fun k hk e => ⟨e, hk⟩) (fun k hk e => hS k e.2 e.1 hk) hI (fun k hk hb => ⟨hb, .inl hk⟩) (fun k hk => ⟨hu k (by omega), .inr hk⟩)
theorem Two.ext (h : Two w n0 a b Ma Mb) (hE : Ext w w') : Two w' n0 a b Ma Mb := by
  obtain ⟨Ba, Bb, h1, h2, h3, h4, h5, h6⟩ := h
  have hsz := hE.size
  refine ⟨Ba, _, h1.ext hE, h2.aside hE (fun _ _ hh => hh.elim) (fun g cs hA => hA.ext hE), fun k hk ha hb => ?_, h4, fun k hb => h5 k hb.1, by omega⟩
  rcases hb.2 with hb2 | hb2
  · exact h3 k hb2 ha hb.1
  · omega
theorem Two.swap (h : Two w n0 a b Ma Mb) : Two w n0 b a Mb Ma := by
  obtain ⟨Ba, Bb, h1, h2, h3, h4, h5, h6⟩ := h
  exact ⟨Bb, Ba, h2, h1, fun k hk hb ha => h3 k hk ha hb, h5, h4, h6⟩
theorem two_apply {n : Nat} (h : Two w n0 a b Ma Mb) (hi : MInv n Ma) (hn : n ≤ 1000) (s : ByteArray) (hs : s.size ≤ 1000) :
    Calls Tryz.prog 13 #[.pointer (some ⟨a, 0, none⟩), .string s] w fun e w' =>
      ∃ A cp, e = .returned (resV (Ma.app s.data.toList).2.err (Ma.app s.data.toList).2.blob (Ma.app s.data.toList).2.size (Ma.app s.data.toList).2.sum (.slice A (Ma.app s.data.toList).2.names.length cp)) ∧ Two w' n0 a b (Ma.app s.data.toList).1 Mb ∧ Chg (fun k => n0 ≤ k) w w' := by
  obtain ⟨Ba, Bb, h1, h2, h3, h4, h5, h6⟩ := h
  refine (mapply_any w Ba a Ma n h1 hi hn s hs).mono ?_
  rintro e w' ⟨A, cp, rfl, _, hM, hK⟩
  have hsz := hK.chg.size
  refine ⟨A, cp, rfl, ⟨Ba, _, hM, h2.aside hK.chg h3 (fun g cs hA => hK.at_ g _ cs (by decide) (by decide) (by decide) hA), fun k hk ha hb => ?_, h4, fun k hb => h5 k hb.1, by omega⟩, hK.chg.mono fun k _ e => h4 k e⟩
  rcases hb.2 with hb2 | hb2
  · exact h3 k hb2 ha hb.1
  · omega
theorem Two.machA (h : Two w n0 a b Ma Mb) : ∃ B, MachIn w B a Ma := by
  obtain ⟨Ba, Bb, h1, _⟩ := h
  exact ⟨Ba, h1⟩
theorem Two.machB (h : Two w n0 a b Ma Mb) : ∃ B, MachIn w B b Mb := by
  obtain ⟨Ba, Bb, _, h1, _⟩ := h
  exact ⟨Bb, h1⟩
theorem ext_hi {w0 w w' : World} (hE : Ext w0 w) (hC : Chg (fun k => w0.heap.size ≤ k) w w') : Ext w0 w' := hE.chg_trans hC |>.mono fun k hk e => by have e' : w0.heap.size ≤ k := e; omega
end
theorem two_new {w w1 w2 : World} {a b : Nat} (h1 : MachIn w1 (Hi w.heap.size) a Mach.empty) (hE1 : Ext w w1) (h2 : MachIn w2 (Hi w1.heap.size) b Mach.empty) (hE2 : Ext w1 w2) : Two w2 w.heap.size a b Mach.empty Mach.empty := by
  have q1 := hE1.size
  have q2 := hE2.size
  refine ⟨_, _, h1.aside hE2 (fun _ _ hh => hh.elim) (fun g cs hA => hA.ext hE2), h2, fun k hk ha hb => ?_, fun k ha => ha.1, fun k hb => ?_, by omega⟩
  · have hb' : w1.heap.size ≤ k := hb
    rcases ha.2 with e | e <;> omega
  · have hb' : w1.heap.size ≤ k := hb
    omega
set_option maxRecDepth 100000 in
set_option maxHeartbeats 8000000 in
theorem same_law (w : World) (l : List CRow) (lv : Value) (hl : CmdsIn w l lv) (hd : ∀ x ∈ l, x.1.disks.length ≤ 17592186043904) :
    Calls Tryz.prog 6 #[lv] w fun e w' => e = .returned (.bool true) ∧ Ext w w' := by
  obtain ⟨LA, lc, rfl, hlc, hlm⟩ := hl.cap
  have hll := hl.len
  unfold maxLen at hll hlm
  have HL := Lib.hid hl
  have HDL := Lib.hid hd
  clear hl hd
  go_enter Tryz.func6, Tryz.ntmps6
  go_wp2_with fail
  refine (snew_any w).mono ?_
  rintro e w0 ⟨a, rfl, hM0, hE0⟩
  go_wp2_with fail
  refine (snew_any w0).mono ?_
  rintro e w1 ⟨b, rfl, hM1, hE1⟩
  have hT1 := two_new hM0 hE0 hM1 hE1
  have X1 := hE0.trans hE1
  clear hM0 hE0 hM1 hE1
  go_wp2_with fail
  refine (sawake_any w1).mono ?_
  rintro e w2 ⟨rfl, hE2⟩
  have hT2 := hT1.ext hE2
  have X2 := X1.trans hE2
  clear hT1 X1 hE2
  go_wp2_with fail
  go_loopw [5] (fun kv wr => ∃ (k : Nat) (M : Mach), kv = .int .i64 (k : Int) ∧ k ≤ l.length ∧ k ≤ 30 ∧ Two wr w.heap.size a b M M ∧ MInv k M ∧ Ext w wr) (fun kv _ => 30 - (intOf kv).toNat)
  case atStart => exact ⟨0, _, rfl, Nat.zero_le _, Nat.zero_le _, hT2, MInv.empty, X2⟩
  case round =>
    clear hT2 X2
    obtain ⟨k, M, rfl, hkl, hk30, hT, hI, Xk⟩ := hrel
    obtain ⟨fk, hfk⟩ : ∃ fk : Bool, fk = decide (k < l.length ∧ k < 30) := ⟨_, rfl⟩
    obtain ⟨wo, hwo⟩ : ∃ wo : World, wo = wr := ⟨_, rfl⟩
    go_upto_region 5 with fail
    go_cut [28] from 21 to 28 (fun tv wx => tv = .bool fk ∧ wx = wo)
    case first =>
      clear hT hI Xk
      by_cases h1 : k < l.length
      · by_cases h2 : k < 30
        · obtain rfl : fk = true := by rw [hfk]; simp; omega
          clear hfk
          go_wp2_with fail
          go_meet
          case rel => exact ⟨by first | rfl | (simp <;> omega), hwo.symm⟩
        · obtain rfl : fk = false := by rw [hfk]; simp; omega
          clear hfk
          go_wp2_with fail
          go_meet
          case rel => exact ⟨by first | rfl | (simp <;> omega), hwo.symm⟩
      · obtain rfl : fk = false := by rw [hfk]; simp; omega
        clear hfk
        go_wp2_with fail
        go_meet
        case rel => exact ⟨by first | rfl | (simp <;> omega), hwo.symm⟩
    case rest =>
      obtain ⟨rfl, hwc⟩ := hcut
      subst hwc
      subst hwo
      cases fk
      · clear hfk
        go_wp2_with fail
        go_ret
        exact ⟨rfl, Xk⟩
      · have hfk2 : k < l.length ∧ k < 30 := by simpa using hfk.symm
        obtain ⟨hlt, hlt30⟩ := hfk2
        clear hfk
        obtain ⟨⟨x, dv⟩, hx⟩ : ∃ x, l[k]? = some x := ⟨_, List.getElem?_eq_getElem hlt⟩
        have hin : x.In dv _ := (HL.out.row _ (List.mem_of_getElem? hx)).ext Xk
        have hdx := HDL.out _ (List.mem_of_getElem? hx)
        have hS := HL.out.ops.ext Xk
        obtain ⟨lb, lo, rfl⟩ := cmds_some hS (fun e => by
          have := List.map_eq_nil_iff.1 e
          subst this; simp at hlt)
        obtain ⟨r0, r1, r2, r3, r4, r5, r6, r7, r8, r9, r10⟩ := crow_cells hS hx
        have HF := Lib.hid (sbytes_any _ x dv ⟨#[120]⟩ hin hdx (by decide))
        have hsl := seBytes_len x ⟨#[120]⟩
        clear hin hdx hx hS
        go_wp2_with fail
        refine HF.out.mono ?_
        rintro e w7 ⟨rfl, hE7⟩
        clear r0 r1 r2 r3 r4 r5 r6 r7 r8 r9 r10 HF
        generalize seBytes x ⟨#[120]⟩ = bs at hsl ⊢
        have hT7 := hT.ext hE7
        have X7 := Xk.trans hE7
        clear hT Xk hE7
        have hsz : (⟨bs.toArray⟩ : ByteArray).size ≤ 1000 := by
          show bs.toArray.size ≤ 1000
          rw [List.size_toArray]; omega
        have HA := Lib.hid (two_apply hT7 hI (by omega) ⟨bs.toArray⟩ hsz)
        rw [show (⟨bs.toArray⟩ : ByteArray).data.toList = bs from rfl] at HA
        have HSZ := Lib.hid hsz
        clear hsz hsl
        go_wp2_with fail
        refine HA.out.mono ?_
        rintro e w8 ⟨A8, c8, rfl, hT8, hC8⟩
        have X8 := ext_hi X7 hC8
        have HA2 := Lib.hid (two_apply hT8.swap hI (by omega) ⟨bs.toArray⟩ HSZ.out)
        rw [show (⟨bs.toArray⟩ : ByteArray).data.toList = bs from rfl] at HA2
        clear HA hT7 X7 hC8
        go_wp2_with fail
        refine HA2.out.mono ?_
        rintro e w9 ⟨A9, c9, rfl, hT9, hC9⟩
        have X9 := ext_hi X8 hC9
        have hI9 := hI.app bs
        clear HA2 hT8 X8 hC9 hI
        generalize (M.app bs).1 = M' at hT9 hI9
        generalize (M.app bs).2 = R at *
        unfold resV
        have hP := (At.new w9 36 #[.int .i64 R.err, .int .u64 (R.blob : Int), .int .i64 R.size, .int .u32 (R.sum : Int), .slice A8 R.names.length c8]).alloc (.cells #[.int .i64 R.err, .int .u64 (R.blob : Int), .int .i64 R.size, .int .u32 (R.sum : Int), .slice A9 R.names.length c9] 36)
        have hQ := At.new (w9.alloc (.cells #[.int .i64 R.err, .int .u64 (R.blob : Int), .int .i64 R.size, .int .u32 (R.sum : Int), .slice A8 R.names.length c8] 36)) 36 #[.int .i64 R.err, .int .u64 (R.blob : Int), .int .i64 R.size, .int .u32 (R.sum : Int), .slice A9 R.names.length c9]
        rw [show (w9.alloc (.cells #[.int .i64 R.err, .int .u64 (R.blob : Int), .int .i64 R.size, .int .u32 (R.sum : Int), .slice A8 R.names.length c8] 36)).heap.size = w9.heap.size + 1 by simp] at hQ
        have hE9 := ((Ext.refl w9).alloc (.cells #[.int .i64 R.err, .int .u64 (R.blob : Int), .int .i64 R.size, .int .u32 (R.sum : Int), .slice A8 R.names.length c8] 36)).alloc (.cells #[.int .i64 R.err, .int .u64 (R.blob : Int), .int .i64 R.size, .int .u32 (R.sum : Int), .slice A9 R.names.length c9] 36)
        go_upto_region 9 with fail
        have hT := hT9.ext hE9
        have XW := X9.trans hE9
        generalize (w9.alloc _).alloc _ = W at hP hQ hE9 hT XW ⊢
        obtain ⟨y, hy⟩ : ∃ y, w9.heap.size = y := ⟨_, rfl⟩
        rw [hy] at hP hQ ⊢
        clear hT9 X9 hE9 hy
        obtain ⟨Ba, hMa⟩ := hT.machB
        obtain ⟨Bb, hMb⟩ := hT.machA
        have p0 := hP.cell 0
        have p1 := hP.cell 1
        have q0 := hQ.cell 0
        have q1 := hQ.cell 1
        simp at p0 p1 q0 q1
        have HWA := Lib.hid (mwrite_any hMa hI9 (by omega))
        have HWB := Lib.hid (fun W' (hE : Ext W W') => mwrite_any (hMb.ext hE) hI9 (by omega))
        have HI9 := Lib.hid hI9
        clear hMa hMb hI9 hP hQ
        go_wp2_with fail
        refine HWA.out.mono ?_
        rintro e w10 ⟨rfl, hE10⟩
        have hT10 := hT.ext hE10
        have X10 := XW.trans hE10
        have HWB2 := Lib.hid (HWB.out _ hE10)
        clear hT XW hE10 HWA HWB p0 p1 q0 q1
        go_wp2_with fail
        refine HWB2.out.mono ?_
        rintro e w11 ⟨rfl, hE11⟩
        have hT11 := hT10.ext hE11
        have X11 := X10.trans hE11
        clear hT10 X10 hE11 HWB2
        go_wp2_with fail
        go_roundw
        case rel => exact ⟨k + 1, M', by go_num, by omega, by omega, hT11.swap, HI9.out, X11⟩
        case measure => simp [intOf]; omega
end Go.Proofs.YtimjipcplmnpbaaGreat
