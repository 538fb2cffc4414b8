/-
  The library's sort of uint64: the two partitions.
  The library's sort of uint64: the patterns that are broken.
-/
import Derived.Test.YtchnejfdompfpaaSortU
import Derived.Test.YtchnejfdompfpaaLay
import Derived.Laws.Bits64b
import Derived.Laws.Closers25b
namespace Go.Proofs.Ytchnejfdompfpaa
open Go.RowKit Go.Sort

/-- what is left of i is on p's side of the pivot (it stands at a), what is right of j is not -/
structure PI (p : Int → Int → Bool) (a b i j : Nat) (d : Array Int) : Prop where
  ai : a < i
  ij : i ≤ j + 1
  jb : j < b
  lo : ∀ t, a < t → t < i → p d[t]! d[a]! = true
  hi : ∀ t, j < t → t < b → p d[t]! d[a]! = false
def pL (x v : Int) : Bool := ltInt x v
def pE (x v : Int) : Bool := !ltInt v x
section
variable {p : Int → Int → Bool} {a b i j : Nat} {d : Array Int}
theorem PI.up (h : PI p a b i j d) (hij : i ≤ j) (hp : p d[i]! d[a]! = true) : PI p a b (i + 1) j d :=
  ⟨by have := h.ai; omega, by omega, h.jb, fun t h1 h2 => by
    by_cases e : t = i
    · rw [e]; exact hp
    · exact h.lo t h1 (by omega), h.hi⟩
theorem PI.down (h : PI p a b i j d) (hij : i ≤ j) (hp : p d[j]! d[a]! = false) : PI p a b i (j - 1) d :=
  ⟨h.ai, by have := h.ai; omega, by have := h.jb; omega, h.lo, fun t h1 h2 => by
    by_cases e : t = j
    · rw [e]; exact hp
    · exact h.hi t (by omega) h2⟩
theorem PI.lt (hij : i ≤ j) (h1 : p d[i]! d[a]! = false) (h2 : p d[j]! d[a]! = true) : i < j := by
  rcases Nat.lt_or_eq_of_le hij with h | h
  · exact h
  · subst h; rw [h1] at h2; cases h2
theorem PI.swap (h : PI p a b i j d) (hij : i < j) (hb : b ≤ d.size) (h1 : p d[i]! d[a]! = false) (h2 : p d[j]! d[a]! = true) : PI p a b (i + 1) (j - 1) (swp d i j) := by
  have e1 := h.ai
  have e2 := h.jb
  have ea : (swp d i j)[a]! = d[a]! := swp_other d i j a (by omega) (by omega)
  refine ⟨by omega, by omega, by omega, fun t g1 g2 => ?_, fun t g1 g2 => ?_⟩
  · rw [ea]
    by_cases e : t = i
    · rw [e, swp_left d i j (by omega) (by omega)]; exact h2
    · rw [swp_other d i j t e (by omega)]; exact h.lo t g1 (by omega)
  · rw [ea]
    by_cases e : t = j
    · rw [e, swp_right d i j (by omega)]; exact h1
    · rw [swp_other d i j t (by omega) e]; exact h.hi t (by omega) g2
theorem PI.fin (h : PI p a b i j d) (hij : ¬ i ≤ j) (hb : b ≤ d.size) : a ≤ j ∧ j < b ∧ (∀ t, a ≤ t → t < j → p (swp d j a)[t]! (swp d j a)[j]! = true) ∧ (∀ t, j < t → t < b → p (swp d j a)[t]! (swp d j a)[j]! = false) := by
  have e1 := h.ai
  have e2 := h.jb
  have e3 := h.ij
  have hj : (swp d j a)[j]! = d[a]! := by
    by_cases e : j = a
    · subst e
      rw [swp_right d j j (by omega)]
    · rw [swp_left d j a (by omega) e]
  rw [hj]
  refine ⟨by omega, e2, fun t g1 g2 => ?_, fun t g1 g2 => ?_⟩
  · by_cases e : t = a
    · rw [e, swp_right d j a (by omega)]; exact h.lo j (by omega) (by omega)
    · rw [swp_other d j a t (by omega) e]; exact h.lo t (by omega) (by omega)
  · rw [swp_other d j a t (by omega) (by omega)]; exact h.hi t g1 g2
end
section
variable (blk off cap : Nat) (d : Array Int) (w : World) (h : RU w blk off cap d) (hsz : d.size < 4611686018427387904)
include h hsz
set_option maxRecDepth 100000 in
set_option maxHeartbeats 16000000 in
theorem part_any (a b q : Nat) (haq : a ≤ q) (hqb : q < b) (hab : a + 1 < b) (hb : b ≤ d.size) : Calls Try.prog 93 #[.slice (some ⟨blk, off, none⟩) d.size cap, .int .i64 a, .int .i64 b, .int .i64 q] w fun e w' =>
      ∃ (m : Nat) (v : Bool) (d' : Array Int), e = .returned (.tuple #[.int .i64 m, .bool v]) ∧ a ≤ m ∧ m < b ∧ PermIn a b d d' ∧ (∀ t, a ≤ t → t < m → pL d'[t]! d'[m]! = true) ∧ (∀ t, m < t → t < b → pL d'[t]! d'[m]! = false) ∧ RU w' blk off cap d' ∧ Chg (· = blk) w w' := by
  go_enter Try.func93, Try.ntmps93
  go_wp2_with fail
  obtain ⟨dk, hdk⟩ : ∃ dk, dk = d := ⟨_, rfl⟩
  have HP : Hid (PermIn a b d dk) := Lib.hid (by rw [hdk]; exact permIn_refl _ _ _)
  have HS : Hid (dk.size = d.size) := Lib.hid (by rw [hdk])
  have hR : RU w blk off cap dk := by rw [hdk]; exact h
  have hC : Chg (· = blk) w w := Chg.refl _ _
  clear hdk h
  obtain ⟨G, hG⟩ := as_fun dk
  have hcw : ∀ t, t < d.size → w.cell? ⟨blk, off + t, none⟩ = some (.int .u64 (G t)) := fun t ht => by rw [hG]; exact hR.cell (by have := HS.out; omega)
  have hfw : ∀ t, t < d.size → w.frozen? ⟨blk, off + t, none⟩ = false := fun t _ => hR.frozen t
  have HG := Lib.hid hG
  clear hG
  obtain ⟨vv, hvv⟩ := hR.cellSet (a) (j := q) (by have := HS.out; omega) (.int .u64 (G (q)))
  go_region
  clear hvv
  have hZ := (hR.swap (i := a) (j := q) (by have := HS.out; omega) (by have := HS.out; omega)).drew
  have hZc := (RU.swapC hC rfl (off + (a)) (off + (q)) (.int .u64 dk[q]!) (.int .u64 dk[a]!)).drew
  rw [← HG.out, ← HG.out] at hZ hZc
  generalize World.drew _ = W9 at hZ hZc ⊢
  clear hcw hfw HG hR hC
  have HP2 := Lib.hid (permIn_trans _ _ _ _ _ HP.out (swp_permIn dk a b (a) (q) (by omega) (by omega) (by omega) (by omega) (by have := HS.out; omega)))
  have HS2 : Hid ((swp dk (a) (q)).size = d.size) := Lib.hid (by rw [size_swp]; exact HS.out)
  clear HP HS
  generalize swp dk (a) (q) = dz at *
  have hPI : PI pL a b (a + 1) (b - 1) dz := ⟨by omega, by omega, by omega, fun t h1 h2 => by omega, fun t h1 h2 => by omega⟩
  obtain ⟨i, hi⟩ : ∃ i, i = a + 1 := ⟨_, rfl⟩
  obtain ⟨j, hj⟩ : ∃ j, j = b - 1 := ⟨_, rfl⟩
  rw [← hi, ← hj] at hPI
  have ei : (a : Int) + 1 = (i : Int) := by omega
  have ej : (b : Int) - 1 = (j : Int) := by omega
  clear hi hj
  obtain ⟨dk, hdk⟩ : ∃ dk, dk = dz := ⟨_, rfl⟩
  subst hdk
  have HP := HP2
  have HS := HS2
  have hR := hZ
  have hC := hZc
  clear HP2 HS2 hZ hZc
  go_upto_block 0 with fail
  go_cut [10] from 30 to 46 (fun v wx => ∃ x : Nat, v = .int .i64 x ∧ PI pL a b x j dk ∧ (x ≤ j → pL dk[x]! dk[a]! = false) ∧ RU wx blk off cap dk ∧ Chg (· = blk) w wx)
  case first =>
    go_wp2_with fail
    go_loopw [10] (fun v wr => ∃ x : Nat, v = .int .i64 x ∧ PI pL a b x j dk ∧ RU wr blk off cap dk ∧ Chg (· = blk) w wr) (fun v _ => j + 1 - (intOf v).toNat)
    case atStart => exact ⟨i, rfl, hPI, hR, hC⟩
    case round =>
      clear hPI hR hC
      obtain ⟨i, rfl, hPI, hR, hC⟩ := hrel
      obtain ⟨G, hG⟩ := as_fun dk
      have hcw : ∀ t, t < d.size → wr.cell? ⟨blk, off + t, none⟩ = some (.int .u64 (G t)) := fun t ht => by rw [hG]; exact hR.cell (by have := HS.out; omega)
      have hfw : ∀ t, t < d.size → wr.frozen? ⟨blk, off + t, none⟩ = false := fun t _ => hR.frozen t
      have HG := Lib.hid hG
      clear hG
      have HPI := Lib.hid hPI
      have a1 := hPI.ai
      have a2 := hPI.ij
      have a3 := hPI.jb
      clear hPI
      have ad : a < d.size := by omega
      by_cases hij : i ≤ j
      · have vd : i < d.size := by omega
        cases hl : ltInt (G i) (G a)
        · go_wp2_with fail
          go_quiet ((first | (go_at_call 91; exact Calls.quiet_of_same (less_any _ _ _))))
          go_wp2_with fail
          go_meet
          case rel => exact ⟨i, rfl, HPI.out, fun _ => (show ltInt dk[i]! dk[a]! = _ from by rw [← HG.out, ← HG.out]; exact hl), hR.ext ((Ext.refl wr).drewN _), hC.drewN _⟩
        · go_wp2_with fail
          go_quiet ((first | (go_at_call 91; exact Calls.quiet_of_same (less_any _ _ _))))
          go_wp2_with fail
          go_roundw
          case rel => exact ⟨i + 1, by go_num, HPI.out.up hij (show ltInt dk[i]! dk[a]! = _ from by rw [← HG.out, ← HG.out]; exact hl), hR.ext ((Ext.refl wr).drewN _), hC.drewN _⟩
          case measure => simp [intOf] <;> omega
      · go_wp2_with fail
        go_quiet (fail)
        go_wp2_with fail
        go_meet
        case rel => exact ⟨i, rfl, HPI.out, fun h => absurd h hij, hR.ext ((Ext.refl wr).drewN _), hC.drewN _⟩
  case rest =>
    clear hPI hR hC
    obtain ⟨i, rfl, hPI, hST1, hR, hC⟩ := hcut
    obtain ⟨jo, hjo⟩ : ∃ jo, jo = j := ⟨_, rfl⟩
    have hjl : j ≤ jo := by omega
    have hjm : jo ≤ j := by omega
    rw [← hjo] at hST1
    clear hjo
    go_upto_block 2 with fail
    go_cut [11] from 46 to 63 (fun v wx => ∃ x : Nat, v = .int .i64 x ∧ x ≤ jo ∧ PI pL a b i x dk ∧ (i ≤ x → pL dk[x]! dk[a]! = true) ∧ RU wx blk off cap dk ∧ Chg (· = blk) w wx)
    case first =>
      go_wp2_with fail
      go_loopw [11] (fun v wr => ∃ x : Nat, v = .int .i64 x ∧ x ≤ jo ∧ PI pL a b i x dk ∧ RU wr blk off cap dk ∧ Chg (· = blk) w wr) (fun v _ => (intOf v).toNat)
      case atStart => exact ⟨j, rfl, by omega, hPI, hR, hC⟩
      case round =>
        clear hPI hR hC
        obtain ⟨j, rfl, hjl, hPI, hR, hC⟩ := hrel
        obtain ⟨G, hG⟩ := as_fun dk
        have hcw : ∀ t, t < d.size → wr.cell? ⟨blk, off + t, none⟩ = some (.int .u64 (G t)) := fun t ht => by rw [hG]; exact hR.cell (by have := HS.out; omega)
        have hfw : ∀ t, t < d.size → wr.frozen? ⟨blk, off + t, none⟩ = false := fun t _ => hR.frozen t
        have HG := Lib.hid hG
        clear hG
        have HPI := Lib.hid hPI
        have a1 := hPI.ai
        have a2 := hPI.ij
        have a3 := hPI.jb
        clear hPI
        have ad : a < d.size := by omega
        by_cases hij : i ≤ j
        · have vd : j < d.size := by omega
          cases hl : ltInt (G j) (G a)
          · go_wp2_with fail
            go_quiet ((first | (go_at_call 91; exact Calls.quiet_of_same (less_any _ _ _))))
            go_wp2_with fail
            go_roundw
            case rel => exact ⟨j - 1, by congr 1; omega, by omega, HPI.out.down hij (show ltInt dk[j]! dk[a]! = _ from by rw [← HG.out, ← HG.out]; exact hl), hR.ext ((Ext.refl wr).drewN _), hC.drewN _⟩
            case measure => simp [intOf] <;> omega
          · go_wp2_with fail
            go_quiet ((first | (go_at_call 91; exact Calls.quiet_of_same (less_any _ _ _))))
            go_wp2_with fail
            go_meet
            case rel => exact ⟨j, rfl, by omega, HPI.out, fun _ => (show ltInt dk[j]! dk[a]! = _ from by rw [← HG.out, ← HG.out]; exact hl), hR.ext ((Ext.refl wr).drewN _), hC.drewN _⟩
        · go_wp2_with fail
          go_quiet (fail)
          go_wp2_with fail
          go_meet
          case rel => exact ⟨j, rfl, by omega, HPI.out, fun h => absurd h hij, hR.ext ((Ext.refl wr).drewN _), hC.drewN _⟩
    case rest =>
      clear hPI hR hC
      obtain ⟨j, rfl, hjl, hPI, hST2, hR, hC⟩ := hcut
      by_cases hij : i ≤ j
      · skip
        have p1 := hST1 (by omega)
        have p2 := hST2 hij
        have hlt := PI.lt hij p1 p2
        have hPI2 := hPI.swap hlt (by have := HS.out; omega) p1 p2
        have HPI := Lib.hid hPI2
        have a1 := hPI.ai
        have a2 := hPI.jb
        clear hPI hPI2 p1 p2 hST1 hST2
        have ej : (j : Int) - 1 = ((j - 1 : Nat) : Int) := by omega
        have ei : (i : Int) + 1 = ((i + 1 : Nat) : Int) := by omega
        have HEJ := Lib.hid (show _ ∧ _ from ⟨ei, ej⟩)
        clear ei ej
        go_wp2_with fail
        obtain ⟨G, hG⟩ := as_fun dk
        have hcw : ∀ t, t < d.size → wc.cell? ⟨blk, off + t, none⟩ = some (.int .u64 (G t)) := fun t ht => by rw [hG]; exact hR.cell (by have := HS.out; omega)
        have hfw : ∀ t, t < d.size → wc.frozen? ⟨blk, off + t, none⟩ = false := fun t _ => hR.frozen t
        have HG := Lib.hid hG
        clear hG
        obtain ⟨vv, hvv⟩ := hR.cellSet (i) (j := j) (by have := HS.out; omega) (.int .u64 (G (j)))
        go_region
        clear hvv
        have hZ := (hR.swap (i := i) (j := j) (by have := HS.out; omega) (by have := HS.out; omega)).drew
        have hZc := (RU.swapC hC rfl (off + (i)) (off + (j)) (.int .u64 dk[j]!) (.int .u64 dk[i]!)).drew
        rw [← HG.out, ← HG.out] at hZ hZc
        generalize World.drew _ = W9 at hZ hZc ⊢
        clear hcw hfw HG hR hC
        have HP2 := Lib.hid (permIn_trans _ _ _ _ _ HP.out (swp_permIn dk a b (i) (j) (by omega) (by omega) (by omega) (by omega) (by have := HS.out; omega)))
        have HS2 : Hid ((swp dk (i) (j)).size = d.size) := Lib.hid (by rw [size_swp]; exact HS.out)
        clear HP HS
        generalize swp dk (i) (j) = dz at *
        have HPI2 := HPI
        clear HPI
        go_wp2_with fail
        obtain ⟨ei, ej⟩ := HEJ.out
        rw [ei, ej]
        clear ei ej HEJ
        go_loopw [10, 11] (fun iv jv wr => ∃ (i j : Nat) (dk : Array Int), iv = .int .i64 i ∧ jv = .int .i64 j ∧ PI pL a b i j dk ∧ PermIn a b d dk ∧ dk.size = d.size ∧ RU wr blk off cap dk ∧ Chg (· = blk) w wr) (fun _ jv _ => (intOf jv).toNat)
        case atStart => exact ⟨i + 1, j - 1, dz, rfl, rfl, HPI2.out, HP2.out, HS2.out, hZ, hZc⟩
        case round =>
          clear hZ hZc HP2 HS2 HPI2
          obtain ⟨i, j, dk, rfl, rfl, hPI, hP, hS, hR, hC⟩ := hrel
          have HP := Lib.hid hP
          have HS := Lib.hid hS
          have ai := hPI.ai
          clear hP hS
          go_upto_block 6 with fail
          go_cut [10] from 99 to 115 (fun v wx => ∃ x : Nat, v = .int .i64 x ∧ PI pL a b x j dk ∧ (x ≤ j → pL dk[x]! dk[a]! = false) ∧ RU wx blk off cap dk ∧ Chg (· = blk) w wx)
          case first =>
            go_wp2_with fail
            go_loopw [10] (fun v wr => ∃ x : Nat, v = .int .i64 x ∧ PI pL a b x j dk ∧ RU wr blk off cap dk ∧ Chg (· = blk) w wr) (fun v _ => j + 1 - (intOf v).toNat)
            case atStart => exact ⟨i, rfl, hPI, hR, hC⟩
            case round =>
              clear hPI hR hC
              obtain ⟨i, rfl, hPI, hR, hC⟩ := hrel
              obtain ⟨G, hG⟩ := as_fun dk
              have hcw : ∀ t, t < d.size → wr.cell? ⟨blk, off + t, none⟩ = some (.int .u64 (G t)) := fun t ht => by rw [hG]; exact hR.cell (by have := HS.out; omega)
              have hfw : ∀ t, t < d.size → wr.frozen? ⟨blk, off + t, none⟩ = false := fun t _ => hR.frozen t
              have HG := Lib.hid hG
              clear hG
              have HPI := Lib.hid hPI
              have a1 := hPI.ai
              have a2 := hPI.ij
              have a3 := hPI.jb
              clear hPI
              have ad : a < d.size := by omega
              by_cases hij : i ≤ j
              · have vd : i < d.size := by omega
                cases hl : ltInt (G i) (G a)
                · go_wp2_with fail
                  go_quiet ((first | (go_at_call 91; exact Calls.quiet_of_same (less_any _ _ _))))
                  go_wp2_with fail
                  go_meet
                  case rel => exact ⟨i, rfl, HPI.out, fun _ => (show ltInt dk[i]! dk[a]! = _ from by rw [← HG.out, ← HG.out]; exact hl), hR.ext ((Ext.refl wr).drewN _), hC.drewN _⟩
                · go_wp2_with fail
                  go_quiet ((first | (go_at_call 91; exact Calls.quiet_of_same (less_any _ _ _))))
                  go_wp2_with fail
                  go_roundw
                  case rel => exact ⟨i + 1, by go_num, HPI.out.up hij (show ltInt dk[i]! dk[a]! = _ from by rw [← HG.out, ← HG.out]; exact hl), hR.ext ((Ext.refl wr).drewN _), hC.drewN _⟩
                  case measure => simp [intOf] <;> omega
              · go_wp2_with fail
                go_quiet (fail)
                go_wp2_with fail
                go_meet
                case rel => exact ⟨i, rfl, HPI.out, fun h => absurd h hij, hR.ext ((Ext.refl wr).drewN _), hC.drewN _⟩
          case rest =>
            clear hPI hR hC
            obtain ⟨i, rfl, hPI, hST1, hR, hC⟩ := hcut
            obtain ⟨jo, hjo⟩ : ∃ jo, jo = j := ⟨_, rfl⟩
            have hjl : j ≤ jo := by omega
            have hjm : jo ≤ j := by omega
            rw [← hjo] at hST1
            clear hjo
            go_upto_block 8 with fail
            go_cut [11] from 115 to 132 (fun v wx => ∃ x : Nat, v = .int .i64 x ∧ x ≤ jo ∧ PI pL a b i x dk ∧ (i ≤ x → pL dk[x]! dk[a]! = true) ∧ RU wx blk off cap dk ∧ Chg (· = blk) w wx)
            case first =>
              go_wp2_with fail
              go_loopw [11] (fun v wr => ∃ x : Nat, v = .int .i64 x ∧ x ≤ jo ∧ PI pL a b i x dk ∧ RU wr blk off cap dk ∧ Chg (· = blk) w wr) (fun v _ => (intOf v).toNat)
              case atStart => exact ⟨j, rfl, by omega, hPI, hR, hC⟩
              case round =>
                clear hPI hR hC
                obtain ⟨j, rfl, hjl, hPI, hR, hC⟩ := hrel
                obtain ⟨G, hG⟩ := as_fun dk
                have hcw : ∀ t, t < d.size → wr.cell? ⟨blk, off + t, none⟩ = some (.int .u64 (G t)) := fun t ht => by rw [hG]; exact hR.cell (by have := HS.out; omega)
                have hfw : ∀ t, t < d.size → wr.frozen? ⟨blk, off + t, none⟩ = false := fun t _ => hR.frozen t
                have HG := Lib.hid hG
                clear hG
                have HPI := Lib.hid hPI
                have a1 := hPI.ai
                have a2 := hPI.ij
                have a3 := hPI.jb
                clear hPI
                have ad : a < d.size := by omega
                by_cases hij : i ≤ j
                · have vd : j < d.size := by omega
                  cases hl : ltInt (G j) (G a)
                  · go_wp2_with fail
                    go_quiet ((first | (go_at_call 91; exact Calls.quiet_of_same (less_any _ _ _))))
                    go_wp2_with fail
                    go_roundw
                    case rel => exact ⟨j - 1, by congr 1; omega, by omega, HPI.out.down hij (show ltInt dk[j]! dk[a]! = _ from by rw [← HG.out, ← HG.out]; exact hl), hR.ext ((Ext.refl wr).drewN _), hC.drewN _⟩
                    case measure => simp [intOf] <;> omega
                  · go_wp2_with fail
                    go_quiet ((first | (go_at_call 91; exact Calls.quiet_of_same (less_any _ _ _))))
                    go_wp2_with fail
                    go_meet
                    case rel => exact ⟨j, rfl, by omega, HPI.out, fun _ => (show ltInt dk[j]! dk[a]! = _ from by rw [← HG.out, ← HG.out]; exact hl), hR.ext ((Ext.refl wr).drewN _), hC.drewN _⟩
                · go_wp2_with fail
                  go_quiet (fail)
                  go_wp2_with fail
                  go_meet
                  case rel => exact ⟨j, rfl, by omega, HPI.out, fun h => absurd h hij, hR.ext ((Ext.refl wr).drewN _), hC.drewN _⟩
            case rest =>
              clear hPI hR hC
              obtain ⟨j, rfl, hjl, hPI, hST2, hR, hC⟩ := hcut
              by_cases hij : i ≤ j
              · skip
                have p1 := hST1 (by omega)
                have p2 := hST2 hij
                have hlt := PI.lt hij p1 p2
                have hPI2 := hPI.swap hlt (by have := HS.out; omega) p1 p2
                have HPI := Lib.hid hPI2
                have a1 := hPI.ai
                have a2 := hPI.jb
                clear hPI hPI2 p1 p2 hST1 hST2
                have ej : (j : Int) - 1 = ((j - 1 : Nat) : Int) := by omega
                have ei : (i : Int) + 1 = ((i + 1 : Nat) : Int) := by omega
                have HEJ := Lib.hid (show _ ∧ _ from ⟨ei, ej⟩)
                clear ei ej
                go_wp2_with fail
                obtain ⟨G, hG⟩ := as_fun dk
                have hcw : ∀ t, t < d.size → wc.cell? ⟨blk, off + t, none⟩ = some (.int .u64 (G t)) := fun t ht => by rw [hG]; exact hR.cell (by have := HS.out; omega)
                have hfw : ∀ t, t < d.size → wc.frozen? ⟨blk, off + t, none⟩ = false := fun t _ => hR.frozen t
                have HG := Lib.hid hG
                clear hG
                obtain ⟨vv, hvv⟩ := hR.cellSet (i) (j := j) (by have := HS.out; omega) (.int .u64 (G (j)))
                go_region
                clear hvv
                have hZ := (hR.swap (i := i) (j := j) (by have := HS.out; omega) (by have := HS.out; omega)).drew
                have hZc := (RU.swapC hC rfl (off + (i)) (off + (j)) (.int .u64 dk[j]!) (.int .u64 dk[i]!)).drew
                rw [← HG.out, ← HG.out] at hZ hZc
                generalize World.drew _ = W9 at hZ hZc ⊢
                clear hcw hfw HG hR hC
                have HP2 := Lib.hid (permIn_trans _ _ _ _ _ HP.out (swp_permIn dk a b (i) (j) (by omega) (by omega) (by omega) (by omega) (by have := HS.out; omega)))
                have HS2 : Hid ((swp dk (i) (j)).size = d.size) := Lib.hid (by rw [size_swp]; exact HS.out)
                clear HP HS
                generalize swp dk (i) (j) = dz at *
                have HPI2 := HPI
                clear HPI
                go_wp2_with fail
                go_roundw
                case rel => exact ⟨i + 1, j - 1, dz, by go_num, by congr 1; omega, HPI2.out, HP2.out, HS2.out, hZ, hZc⟩
                case measure => simp [intOf]; omega
              · skip
                obtain ⟨f1, f2, f3, f4⟩ := hPI.fin hij (by have := HS.out; omega)
                have HF := Lib.hid (show _ ∧ _ from ⟨f3, f4⟩)
                have ai := hPI.ai
                clear f3 f4 hPI
                go_wp2_with fail
                obtain ⟨G, hG⟩ := as_fun dk
                have hcw : ∀ t, t < d.size → wc.cell? ⟨blk, off + t, none⟩ = some (.int .u64 (G t)) := fun t ht => by rw [hG]; exact hR.cell (by have := HS.out; omega)
                have hfw : ∀ t, t < d.size → wc.frozen? ⟨blk, off + t, none⟩ = false := fun t _ => hR.frozen t
                have HG := Lib.hid hG
                clear hG
                obtain ⟨vv, hvv⟩ := hR.cellSet (j) (j := a) (by have := HS.out; omega) (.int .u64 (G (a)))
                go_region
                clear hvv
                have hZ := (hR.swap (i := j) (j := a) (by have := HS.out; omega) (by have := HS.out; omega)).drew
                have hZc := (RU.swapC hC rfl (off + (j)) (off + (a)) (.int .u64 dk[a]!) (.int .u64 dk[j]!)).drew
                rw [← HG.out, ← HG.out] at hZ hZc
                generalize World.drew _ = W9 at hZ hZc ⊢
                clear hcw hfw HG hR hC
                have HP2 := Lib.hid (permIn_trans _ _ _ _ _ HP.out (swp_permIn dk a b (j) (a) (by omega) (by omega) (by omega) (by omega) (by have := HS.out; omega)))
                have HS2 : Hid ((swp dk (j) (a)).size = d.size) := Lib.hid (by rw [size_swp]; exact HS.out)
                clear HP HS
                generalize swp dk (j) (a) = dz at *
                go_wp2_with fail
                go_ret2
                exact ⟨j, _, dz, rfl, f1, f2, HP2.out, HF.out.1, HF.out.2, hZ, hZc⟩
      · skip
        obtain ⟨f1, f2, f3, f4⟩ := hPI.fin hij (by have := HS.out; omega)
        have HF := Lib.hid (show _ ∧ _ from ⟨f3, f4⟩)
        have ai := hPI.ai
        clear f3 f4 hPI
        go_wp2_with fail
        obtain ⟨G, hG⟩ := as_fun dk
        have hcw : ∀ t, t < d.size → wc.cell? ⟨blk, off + t, none⟩ = some (.int .u64 (G t)) := fun t ht => by rw [hG]; exact hR.cell (by have := HS.out; omega)
        have hfw : ∀ t, t < d.size → wc.frozen? ⟨blk, off + t, none⟩ = false := fun t _ => hR.frozen t
        have HG := Lib.hid hG
        clear hG
        obtain ⟨vv, hvv⟩ := hR.cellSet (j) (j := a) (by have := HS.out; omega) (.int .u64 (G (a)))
        go_region
        clear hvv
        have hZ := (hR.swap (i := j) (j := a) (by have := HS.out; omega) (by have := HS.out; omega)).drew
        have hZc := (RU.swapC hC rfl (off + (j)) (off + (a)) (.int .u64 dk[a]!) (.int .u64 dk[j]!)).drew
        rw [← HG.out, ← HG.out] at hZ hZc
        generalize World.drew _ = W9 at hZ hZc ⊢
        clear hcw hfw HG hR hC
        have HP2 := Lib.hid (permIn_trans _ _ _ _ _ HP.out (swp_permIn dk a b (j) (a) (by omega) (by omega) (by omega) (by omega) (by have := HS.out; omega)))
        have HS2 : Hid ((swp dk (j) (a)).size = d.size) := Lib.hid (by rw [size_swp]; exact HS.out)
        clear HP HS
        generalize swp dk (j) (a) = dz at *
        go_wp2_with fail
        go_ret2
        exact ⟨j, _, dz, rfl, f1, f2, HP2.out, HF.out.1, HF.out.2, hZ, hZc⟩
set_option maxRecDepth 100000 in
set_option maxHeartbeats 16000000 in
theorem eqpart_any (a b q : Nat) (haq : a ≤ q) (hqb : q < b) (hab : a + 1 < b) (hb : b ≤ d.size) : Calls Try.prog 92 #[.slice (some ⟨blk, off, none⟩) d.size cap, .int .i64 a, .int .i64 b, .int .i64 q] w fun e w' =>
      ∃ (m : Nat) (d' : Array Int), e = .returned (.int .i64 m) ∧ a < m ∧ m ≤ b ∧ PermIn a b d d' ∧ d'[a]! = d[q]! ∧ (∀ t, a < t → t < m → pE d'[t]! d'[a]! = true) ∧ (∀ t, m ≤ t → t < b → pE d'[t]! d'[a]! = false) ∧ RU w' blk off cap d' ∧ Chg (· = blk) w w' := by
  obtain ⟨z, hz⟩ : ∃ z, z = d[q]! := ⟨_, rfl⟩
  have HQ := Lib.hid hz
  go_enter Try.func92, Try.ntmps92
  go_wp2_with fail
  obtain ⟨dk, hdk⟩ : ∃ dk, dk = d := ⟨_, rfl⟩
  have HP : Hid (PermIn a b d dk) := Lib.hid (by rw [hdk]; exact permIn_refl _ _ _)
  have HS : Hid (dk.size = d.size) := Lib.hid (by rw [hdk])
  have hR : RU w blk off cap dk := by rw [hdk]; exact h
  have hC : Chg (· = blk) w w := Chg.refl _ _
  have hdq : dk[q]! = d[q]! := by rw [hdk]
  clear hdk h
  obtain ⟨G, hG⟩ := as_fun dk
  have hcw : ∀ t, t < d.size → w.cell? ⟨blk, off + t, none⟩ = some (.int .u64 (G t)) := fun t ht => by rw [hG]; exact hR.cell (by have := HS.out; omega)
  have hfw : ∀ t, t < d.size → w.frozen? ⟨blk, off + t, none⟩ = false := fun t _ => hR.frozen t
  have HG := Lib.hid hG
  clear hG
  obtain ⟨vv, hvv⟩ := hR.cellSet (a) (j := q) (by have := HS.out; omega) (.int .u64 (G (q)))
  go_region
  clear hvv
  have hZ := (hR.swap (i := a) (j := q) (by have := HS.out; omega) (by have := HS.out; omega)).drew
  have hZc := (RU.swapC hC rfl (off + (a)) (off + (q)) (.int .u64 dk[q]!) (.int .u64 dk[a]!)).drew
  rw [← HG.out, ← HG.out] at hZ hZc
  generalize World.drew _ = W9 at hZ hZc ⊢
  clear hcw hfw HG hR hC
  have HP2 := Lib.hid (permIn_trans _ _ _ _ _ HP.out (swp_permIn dk a b (a) (q) (by omega) (by omega) (by omega) (by omega) (by have := HS.out; omega)))
  have HS2 : Hid ((swp dk (a) (q)).size = d.size) := Lib.hid (by rw [size_swp]; exact HS.out)
  have HZA : (swp dk (a) (q))[a]! = z := by
    by_cases e : a = q
    · subst e; rw [swp_right dk a a (by have := HS.out; omega)]; rw [hz, hdq]
    · rw [swp_left dk a q (by have := HS.out; omega) e]; rw [hz, hdq]
  clear HP HS hz hdq
  generalize swp dk (a) (q) = dz at *
  have hza : dz[a]! = z := HZA
  clear HZA
  have HZ := Lib.hid hza
  clear hza
  have hPI : PI pE a b (a + 1) (b - 1) dz := ⟨by omega, by omega, by omega, fun t h1 h2 => by omega, fun t h1 h2 => by omega⟩
  obtain ⟨i, hi⟩ : ∃ i, i = a + 1 := ⟨_, rfl⟩
  obtain ⟨j, hj⟩ : ∃ j, j = b - 1 := ⟨_, rfl⟩
  rw [← hi, ← hj] at hPI
  have ei : (a : Int) + 1 = (i : Int) := by omega
  have ej : (b : Int) - 1 = (j : Int) := by omega
  clear hi hj
  obtain ⟨dk, hdk⟩ : ∃ dk, dk = dz := ⟨_, rfl⟩
  subst hdk
  have HP := HP2
  have HS := HS2
  have hR := hZ
  have hC := hZc
  clear HP2 HS2 hZ hZc
  go_wp2_with fail
  clear ei ej
  go_loopw [9, 10] (fun iv jv wr => ∃ (i j : Nat) (dk : Array Int), iv = .int .i64 i ∧ jv = .int .i64 j ∧ PI pE a b i j dk ∧ PermIn a b d dk ∧ dk.size = d.size ∧ dk[a]! = z ∧ RU wr blk off cap dk ∧ Chg (· = blk) w wr) (fun _ jv _ => (intOf jv).toNat)
  case atStart => exact ⟨i, j, dk, rfl, rfl, hPI, HP.out, HS.out, HZ.out, hR, hC⟩
  case round =>
    clear hR hC HP HS hPI HZ
    obtain ⟨i, j, dk, rfl, rfl, hPI, hP, hS, hz, hR, hC⟩ := hrel
    have HP := Lib.hid hP
    have HS := Lib.hid hS
    have HZ := Lib.hid hz
    have ai := hPI.ai
    clear hP hS hz
    go_upto_block 2 with fail
    go_cut [9] from 29 to 46 (fun v wx => ∃ x : Nat, v = .int .i64 x ∧ PI pE a b x j dk ∧ (x ≤ j → pE dk[x]! dk[a]! = false) ∧ RU wx blk off cap dk ∧ Chg (· = blk) w wx)
    case first =>
      go_wp2_with fail
      go_loopw [9] (fun v wr => ∃ x : Nat, v = .int .i64 x ∧ PI pE a b x j dk ∧ RU wr blk off cap dk ∧ Chg (· = blk) w wr) (fun v _ => j + 1 - (intOf v).toNat)
      case atStart => exact ⟨i, rfl, hPI, hR, hC⟩
      case round =>
        clear hPI hR hC
        obtain ⟨i, rfl, hPI, hR, hC⟩ := hrel
        obtain ⟨G, hG⟩ := as_fun dk
        have hcw : ∀ t, t < d.size → wr.cell? ⟨blk, off + t, none⟩ = some (.int .u64 (G t)) := fun t ht => by rw [hG]; exact hR.cell (by have := HS.out; omega)
        have hfw : ∀ t, t < d.size → wr.frozen? ⟨blk, off + t, none⟩ = false := fun t _ => hR.frozen t
        have HG := Lib.hid hG
        clear hG
        have HPI := Lib.hid hPI
        have a1 := hPI.ai
        have a2 := hPI.ij
        have a3 := hPI.jb
        clear hPI
        have ad : a < d.size := by omega
        by_cases hij : i ≤ j
        · have vd : i < d.size := by omega
          cases hl : ltInt (G a) (G i)
          · go_wp2_with fail
            go_quiet ((first | (go_at_call 91; exact Calls.quiet_of_same (less_any _ _ _))))
            go_wp2_with fail
            go_roundw
            case rel => exact ⟨i + 1, by go_num, HPI.out.up hij (show (!ltInt dk[a]! dk[i]!) = _ from by rw [← HG.out, ← HG.out]; exact congrArg (fun b => !b) hl), hR.ext ((Ext.refl wr).drewN _), hC.drewN _⟩
            case measure => simp [intOf] <;> omega
          · go_wp2_with fail
            go_quiet ((first | (go_at_call 91; exact Calls.quiet_of_same (less_any _ _ _))))
            go_wp2_with fail
            go_meet
            case rel => exact ⟨i, rfl, HPI.out, fun _ => (show (!ltInt dk[a]! dk[i]!) = _ from by rw [← HG.out, ← HG.out]; exact congrArg (fun b => !b) hl), hR.ext ((Ext.refl wr).drewN _), hC.drewN _⟩
        · go_wp2_with fail
          go_quiet (fail)
          go_wp2_with fail
          go_meet
          case rel => exact ⟨i, rfl, HPI.out, fun h => absurd h hij, hR.ext ((Ext.refl wr).drewN _), hC.drewN _⟩
    case rest =>
      clear hPI hR hC
      obtain ⟨i, rfl, hPI, hST1, hR, hC⟩ := hcut
      obtain ⟨jo, hjo⟩ : ∃ jo, jo = j := ⟨_, rfl⟩
      have hjl : j ≤ jo := by omega
      have hjm : jo ≤ j := by omega
      rw [← hjo] at hST1
      clear hjo
      go_upto_block 4 with fail
      go_cut [10] from 46 to 62 (fun v wx => ∃ x : Nat, v = .int .i64 x ∧ x ≤ jo ∧ PI pE a b i x dk ∧ (i ≤ x → pE dk[x]! dk[a]! = true) ∧ RU wx blk off cap dk ∧ Chg (· = blk) w wx)
      case first =>
        go_wp2_with fail
        go_loopw [10] (fun v wr => ∃ x : Nat, v = .int .i64 x ∧ x ≤ jo ∧ PI pE a b i x dk ∧ RU wr blk off cap dk ∧ Chg (· = blk) w wr) (fun v _ => (intOf v).toNat)
        case atStart => exact ⟨j, rfl, by omega, hPI, hR, hC⟩
        case round =>
          clear hPI hR hC
          obtain ⟨j, rfl, hjl, hPI, hR, hC⟩ := hrel
          obtain ⟨G, hG⟩ := as_fun dk
          have hcw : ∀ t, t < d.size → wr.cell? ⟨blk, off + t, none⟩ = some (.int .u64 (G t)) := fun t ht => by rw [hG]; exact hR.cell (by have := HS.out; omega)
          have hfw : ∀ t, t < d.size → wr.frozen? ⟨blk, off + t, none⟩ = false := fun t _ => hR.frozen t
          have HG := Lib.hid hG
          clear hG
          have HPI := Lib.hid hPI
          have a1 := hPI.ai
          have a2 := hPI.ij
          have a3 := hPI.jb
          clear hPI
          have ad : a < d.size := by omega
          by_cases hij : i ≤ j
          · have vd : j < d.size := by omega
            cases hl : ltInt (G a) (G j)
            · go_wp2_with fail
              go_quiet ((first | (go_at_call 91; exact Calls.quiet_of_same (less_any _ _ _))))
              go_wp2_with fail
              go_meet
              case rel => exact ⟨j, rfl, by omega, HPI.out, fun _ => (show (!ltInt dk[a]! dk[j]!) = _ from by rw [← HG.out, ← HG.out]; exact congrArg (fun b => !b) hl), hR.ext ((Ext.refl wr).drewN _), hC.drewN _⟩
            · go_wp2_with fail
              go_quiet ((first | (go_at_call 91; exact Calls.quiet_of_same (less_any _ _ _))))
              go_wp2_with fail
              go_roundw
              case rel => exact ⟨j - 1, by congr 1; omega, by omega, HPI.out.down hij (show (!ltInt dk[a]! dk[j]!) = _ from by rw [← HG.out, ← HG.out]; exact congrArg (fun b => !b) hl), hR.ext ((Ext.refl wr).drewN _), hC.drewN _⟩
              case measure => simp [intOf] <;> omega
          · go_wp2_with fail
            go_quiet (fail)
            go_wp2_with fail
            go_meet
            case rel => exact ⟨j, rfl, by omega, HPI.out, fun h => absurd h hij, hR.ext ((Ext.refl wr).drewN _), hC.drewN _⟩
      case rest =>
        clear hPI hR hC
        obtain ⟨j, rfl, hjl, hPI, hST2, hR, hC⟩ := hcut
        by_cases hij : i ≤ j
        · skip
          have p1 := hST1 (by omega)
          have p2 := hST2 hij
          have hlt := PI.lt hij p1 p2
          have hPI2 := hPI.swap hlt (by have := HS.out; omega) p1 p2
          have HPI := Lib.hid hPI2
          have a1 := hPI.ai
          have a2 := hPI.jb
          clear hPI hPI2 p1 p2 hST1 hST2
          go_wp2_with fail
          obtain ⟨G, hG⟩ := as_fun dk
          have hcw : ∀ t, t < d.size → wc.cell? ⟨blk, off + t, none⟩ = some (.int .u64 (G t)) := fun t ht => by rw [hG]; exact hR.cell (by have := HS.out; omega)
          have hfw : ∀ t, t < d.size → wc.frozen? ⟨blk, off + t, none⟩ = false := fun t _ => hR.frozen t
          have HG := Lib.hid hG
          clear hG
          obtain ⟨vv, hvv⟩ := hR.cellSet (i) (j := j) (by have := HS.out; omega) (.int .u64 (G (j)))
          go_region
          clear hvv
          have hZ := (hR.swap (i := i) (j := j) (by have := HS.out; omega) (by have := HS.out; omega)).drew
          have hZc := (RU.swapC hC rfl (off + (i)) (off + (j)) (.int .u64 dk[j]!) (.int .u64 dk[i]!)).drew
          rw [← HG.out, ← HG.out] at hZ hZc
          generalize World.drew _ = W9 at hZ hZc ⊢
          clear hcw hfw HG hR hC
          have HZ2 : Hid ((swp dk (i) (j))[a]! = z) := Lib.hid (by rw [swp_other dk i j a (by omega) (by omega)]; exact HZ.out)
          clear HZ
          have HP2 := Lib.hid (permIn_trans _ _ _ _ _ HP.out (swp_permIn dk a b (i) (j) (by omega) (by omega) (by omega) (by omega) (by have := HS.out; omega)))
          have HS2 : Hid ((swp dk (i) (j)).size = d.size) := Lib.hid (by rw [size_swp]; exact HS.out)
          clear HP HS
          generalize swp dk (i) (j) = dz at *
          go_wp2_with fail
          go_roundw
          case rel => exact ⟨i + 1, j - 1, dz, by go_num, by congr 1; omega, HPI.out, HP2.out, HS2.out, HZ2.out, hZ, hZc⟩
          case measure => simp [intOf]; omega
        · skip
          have a1 := hPI.ai
          have a2 := hPI.ij
          have a3 := hPI.jb
          have HPI := Lib.hid hPI
          clear hPI hST1 hST2
          go_wp2_with fail
          go_ret
          exact ⟨i, dk, rfl, a1, by omega, HP.out, HZ.out.trans HQ.out, HPI.out.lo, fun t h1 h2 => HPI.out.hi t (by omega) h2, hR, hC⟩
end
end Go.Proofs.Ytchnejfdompfpaa
namespace Go.Proofs.Ytchnejfdompfpaa
open Go.RowKit Go.Sort

theorem len_cases : ∀ x, x < 50 → 8 ≤ x → (Lib.bitLen x = 4 ∧ x < 16) ∨ (Lib.bitLen x = 5 ∧ 16 ≤ x ∧ x < 32) ∨ (Lib.bitLen x = 6 ∧ 32 ≤ x) := by decide +kernel
theorem npt_any (w : World) (l : Nat) (h1 : 8 ≤ l) (h2 : l < 50) : Calls Try.prog 76 #[.int .i64 l] w fun e w' => ∃ m : Nat, e = .returned (.int .u64 m) ∧ 1 ≤ m ∧ m ≤ 2 * l ∧ l ≤ m ∧ w = w' := by
  have hl := len_cases l h2 h1
  have HC := Lib.hid (Try.bits_Len (l : Int) w (by omega) (by omega))
  rw [Int.toNat_natCast] at HC
  go_enter Try.func76, Try.ntmps76
  go_wp2_with fail
  refine HC.out.mono ?_
  rintro e w' ⟨rfl, rfl⟩
  clear HC
  rcases hl with ⟨hb, h3⟩ | ⟨hb, h3⟩ | ⟨hb, h3⟩
  all_goals rw [hb]; clear hb
  · go_wp2_with fail
    go_ret
    exact ⟨16, rfl, by omega, by omega, by omega, rfl⟩
  · go_wp2_with fail
    go_ret
    exact ⟨32, rfl, by omega, by omega, by omega, rfl⟩
  · go_wp2_with fail
    go_ret
    exact ⟨64, rfl, by omega, by omega, by omega, rfl⟩
def RndAt (w : World) (g : Nat) (x : Int) : Prop := At w g 122 #[.int .u64 x]
theorem rnd_set {W w : World} {g : Nat} {x : Int} (hg : RndAt w g x) (hC : Chg (· = g) W w) (y : Int) : RndAt ((w.setCell ⟨g, 0, none⟩ (.int .u64 y)).drew) g y ∧ Chg (· = g) W ((w.setCell ⟨g, 0, none⟩ (.int .u64 y)).drew) :=
  ⟨(At.set hg 0 _).drew, (hC.setCell (p := ⟨g, 0, none⟩) (.inl rfl) _).drew⟩
set_option maxHeartbeats 4000000 in
theorem next_any (w : World) (g : Nat) (x : Int) (hg : RndAt w g x) : Calls Try.prog 77 #[.pointer (some ⟨g, 0, none⟩)] w fun e w' => ∃ y : Int, e = .returned (.int .u64 y) ∧ (0 ≤ y ∧ y ≤ 18446744073709551615) ∧ RndAt w' g y ∧ Chg (· = g) w w' := by
  have c0 := At.cell hg 0
  have f0 := At.frozen hg 0
  have hC : Chg (· = g) w w := Chg.refl _ _
  simp at c0
  go_enter Try.func77, Try.ntmps77
  go_wp2_with fail
  go_region
  obtain ⟨hg1, hC1⟩ := rnd_set hg hC (bits .xor .u64 x (IntKind.u64.wrap (x * 8192)))
  generalize bits BinOp.xor IntKind.u64 _ _ = x1 at *
  generalize World.drew _ = w1 at *
  clear c0 f0 hg hC
  have c0 := At.cell hg1 0
  have f0 := At.frozen hg1 0
  simp at c0
  go_wp2_with fail
  go_region
  obtain ⟨hg2, hC2⟩ := rnd_set hg1 hC1 (bits .xor .u64 x1 (x1 / 128))
  generalize bits BinOp.xor IntKind.u64 _ _ = x2 at *
  generalize World.drew _ = w2 at *
  clear c0 f0 hg1 hC1
  have c0 := At.cell hg2 0
  have f0 := At.frozen hg2 0
  simp at c0
  go_wp2_with fail
  go_region
  obtain ⟨hg3, hC3⟩ := rnd_set hg2 hC2 (bits .xor .u64 x2 (IntKind.u64.wrap (x2 * 131072)))
  have hb := And.intro (bits_lo_u64 .xor x2 (IntKind.u64.wrap (x2 * 131072))) (bits_hi_u64 .xor x2 (IntKind.u64.wrap (x2 * 131072)))
  generalize bits BinOp.xor IntKind.u64 _ _ = x3 at *
  generalize World.drew _ = w3 at *
  clear c0 f0 hg2 hC2
  have c0 := At.cell hg3 0
  simp at c0
  go_wp2_with fail
  go_ret
  exact ⟨x3, rfl, hb, hg3, hC3⟩
section
variable (blk off cap : Nat) (d : Array Int) (w : World) (h : RU w blk off cap d) (hsz : d.size < 4611686018427387904)
include h hsz
set_option maxRecDepth 100000 in
set_option maxHeartbeats 8000000 in
theorem brk_any (a b : Nat) (hab : a + 12 < b) (hb : b ≤ d.size) (h50 : b < a + 50) : Calls Try.prog 87 #[.slice (some ⟨blk, off, none⟩) d.size cap, .int .i64 a, .int .i64 b] w fun e w' =>
      e = .returned (.tuple #[]) ∧ ∃ d', PermIn a b d d' ∧ RU w' blk off cap d' ∧ Chg (· = blk) w w' := by
  obtain ⟨l, hl⟩ : ∃ l, l = b - a := ⟨_, rfl⟩
  have en : (b : Int) - (a : Int) = (l : Int) := by omega
  have hl1 : 8 ≤ l := by omega
  have hl2 : l < 50 := by omega
  obtain ⟨B, hB⟩ : ∃ B, B = a + l / 4 * 2 := ⟨_, rfl⟩
  have eB : (a : Int) + (l : Int) / 4 * 2 = (B : Int) := by omega
  have hB1 : a + 4 ≤ B := by omega
  have hB2 : B + 1 < a + l := by omega
  have hal : a + l = b := by omega
  have HAL := Lib.hid hal
  clear hl hB hal
  have hW : RndAt (w.alloc (.cells #[.int .u64 (l : Int)] 122)) w.heap.size l := At.new w _ _
  have hR := h.ext ((Ext.refl w).alloc (.cells #[.int .u64 (l : Int)] 122))
  have hE := (Ext.refl w).alloc (.cells #[.int .u64 (l : Int)] 122)
  have hbl : blk < w.heap.size := by obtain ⟨cur, hc⟩ := h.block; exact hc.lt
  clear h
  go_enter Try.func87, Try.ntmps87
  go_wp2_with fail
  refine (npt_any _ l hl1 hl2).mono ?_
  rintro e w1 ⟨m, rfl, hm1, hm2, hm3, rfl⟩
  generalize hgs : w.heap.size = g at *
  have e1 : (m : Int) - 1 = ((m - 1 : Nat) : Int) := by omega
  go_wp2_with fail
  generalize hW1 : w.alloc (.cells #[.int .u64 (l : Int)] 122) = W1 at *
  have e0 : (B : Int) - 1 = ((B - 1 : Nat) : Int) := by omega
  rw [e0]
  clear e0 hW1
  go_loopw [9] (fun kv wr => ∃ (k : Nat) (dk : Array Int) (x : Int), kv = .int .i64 k ∧ B ≤ k + 1 ∧ k ≤ B + 2 ∧ PermIn a b d dk ∧ dk.size = d.size ∧ RU wr blk off cap dk ∧ RndAt wr g x ∧ Chg (fun j => j = blk ∨ j = g) w wr) (fun kv _ => B + 2 - (intOf kv).toNat)
  case atStart => exact ⟨B - 1, d, _, rfl, by omega, by omega, permIn_refl _ _ _, rfl, hR, hW, hE.chg⟩
  case round =>
    clear hR hW hE
    obtain ⟨k, dk, x, rfl, hk1, hk2, hP, hS, hR, hX, hC⟩ := hrel
    have HP := Lib.hid hP
    have HS := Lib.hid hS
    clear hP hS
    have hne : blk ≠ g := by omega
    by_cases hk : k ≤ B + 1
    · have HN := Lib.hid (next_any wr g x hX)
      clear hX
      go_wp2_with fail
      refine HN.out.mono ?_
      rintro e w2 ⟨y, rfl, ⟨hy0, hy1⟩, hX2, hCx⟩
      have hR2 := hR.chg hCx hne
      have hC2 : Chg (fun j => j = blk ∨ j = g) w w2 := hC.trans hCx (fun j _ e => .inr e)
      clear hR hC hCx HN
      obtain ⟨y, rfl⟩ := Int.eq_ofNat_of_zero_le hy0
      have e2 : bits .and .u64 (y : Int) ((m - 1 : Nat) : Int) = ((y &&& (m - 1) : Nat) : Int) := bits_and_u64_nat _ _ (by omega) (by omega)
      have ho : y &&& (m - 1) ≤ m - 1 := Nat.and_le_right
      generalize y &&& (m - 1) = o at *
      clear hy0 hy1
      have hway : (l ≤ o ∧ ∃ o2 : Nat, (o : Int) - (l : Int) = (o2 : Int) ∧ o2 < l) ∨ o < l := by
        by_cases hol : l ≤ o
        · exact .inl ⟨hol, o - l, by omega, by omega⟩
        · exact .inr (by omega)
      rcases hway with ⟨hol, o2, e3, ho2⟩ | ho2
      go_wp2_with fail
      clear e3 hol ho e2 e1
      rotate_left 1
      obtain ⟨o2, rfl⟩ : ∃ o2, o2 = o := ⟨_, rfl⟩
      go_wp2_with fail
      clear ho e2 e1
      all_goals
        have hal := HAL.out
        have n2 : ((a : Int) + (o2 : Int)).toNat = a + o2 := by omega
        have z2 : 0 ≤ (a : Int) + (o2 : Int) := by omega
        have b1 : k < d.size := by omega
        have b2 : a + o2 < d.size := by omega
        have hkb : a ≤ k ∧ k < b := by omega
        obtain ⟨G, hG⟩ := as_fun dk
        have hcw : ∀ t, t < d.size → w2.cell? ⟨blk, off + t, none⟩ = some (.int .u64 (G t)) := fun t ht => by rw [hG]; exact hR2.cell (by have := HS.out; omega)
        have hfw : ∀ t, t < d.size → w2.frozen? ⟨blk, off + t, none⟩ = false := fun t _ => hR2.frozen t
        have HG := Lib.hid hG
        clear hG
        obtain ⟨vv, hvv⟩ := hR2.cellSet k (j := a + o2) (by have := HS.out; omega) (.int .u64 (G (a + o2)))
        have HKB := Lib.hid hkb
        clear hal hkb
        have wr2 : IntKind.i64.wrap ((a : Int) + (o2 : Int)) = a + o2 := IntWalk.i64_in _ (by omega)
        go_region
        clear hvv wr2 n2 z2
        have hZ := (hR2.swap (i := k) (j := a + o2) (by have := HS.out; omega) (by have := HS.out; omega)).drew
        have hZc := (RU.swapC hC2 (.inl rfl) (off + k) (off + (a + o2)) (.int .u64 dk[a + o2]!) (.int .u64 dk[k]!)).drew
        have hZx : RndAt _ g y := ((At.far hX2 (p := ⟨blk, off + k, none⟩) (fun e => hne e.symm) (.int .u64 dk[a + o2]!)).far (p := ⟨blk, off + (a + o2), none⟩) (fun e => hne e.symm) (.int .u64 dk[k]!)).drew
        rw [← HG.out, ← HG.out] at hZ hZc hZx
        have hal := HAL.out
        have hkb := HKB.out
        have HP2 := Lib.hid (permIn_trans _ _ _ _ _ HP.out (swp_permIn dk a b k (a + o2) (by omega) (by omega) (by omega) (by omega) (by have := HS.out; omega)))
        have HS2 : Hid ((swp dk k (a + o2)).size = d.size) := Lib.hid (by rw [size_swp]; exact HS.out)
        generalize World.drew _ = W9 at hZ hZc hZx ⊢
        clear hcw hfw HG hR2 hC2 HP HS hX2 hal hkb
        generalize swp dk k (a + o2) = dz at *
        go_wp2_with fail
        go_roundw
        case rel => exact ⟨k + 1, dz, _, by go_num, by omega, by omega, HP2.out, HS2.out, hZ, hZx, hZc⟩
        case measure => simp [intOf]; omega
    · go_wp2_with fail
      go_end0
      exact ⟨rfl, dk, HP.out, hR, hC.mono (fun j hj e => by rcases e with e | e <;> omega)⟩
end
end Go.Proofs.Ytchnejfdompfpaa
