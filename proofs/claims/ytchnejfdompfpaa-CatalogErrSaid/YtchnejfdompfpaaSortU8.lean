/-
  The library's sort of uint64: pdqsort, of fewer than 50 numbers.
-/
import Derived.Test.YtchnejfdompfpaaSortU6
namespace Go.Proofs.Ytchnejfdompfpaa
open Go.RowKit Go.Sort

/-- what stands at m parts a row -/
structure Pt (a m b : Nat) (d : Array Int) : Prop where
  am : a ≤ m
  mb : m < b
  lo : ∀ t, a ≤ t → t < m → ltInt d[t]! d[m]! = true
  hi : ∀ t, m < t → t < b → ltInt d[t]! d[m]! = false
section
variable {a m b : Nat} {d L R : Array Int}
theorem Pt.permL (h : Pt a m b d) (hb : b ≤ d.size) (hp : PermIn a m d L) : Pt a m b L := by
  have e : ∀ i, m ≤ i → L[i]! = d[i]! := fun i hi => hp.2.1 i (.inr hi)
  have h1 := h.mb
  refine ⟨h.am, h.mb, fun t g1 g2 => ?_, fun t g1 g2 => ?_⟩
  · rw [e m (Nat.le_refl _)]
    exact permIn_all d L a m (fun x => ltInt x d[m]! = true) (by omega) hp h.lo t g1 g2
  · rw [e m (Nat.le_refl _), e t (by omega)]; exact h.hi t g1 g2
theorem Pt.permR (h : Pt a m b d) (hb : b ≤ d.size) (hp : PermIn (m + 1) b d R) : Pt a m b R := by
  have e : ∀ i, i ≤ m → R[i]! = d[i]! := fun i hi => hp.2.1 i (.inl (by omega))
  refine ⟨h.am, h.mb, fun t g1 g2 => ?_, fun t g1 g2 => ?_⟩
  · rw [e m (Nat.le_refl _), e t (by omega)]; exact h.lo t g1 g2
  · rw [e m (Nat.le_refl _)]
    exact permIn_all d R (m + 1) b (fun x => ltInt x d[m]! = false) hb hp (fun i g1 g2 => h.hi i (by omega) g2) t (by omega) g2
theorem Pt.glue (h : Pt a m b R) (h1 : SortedIn ltInt a m R) (h2 : SortedIn ltInt (m + 1) b R) : SortedIn ltInt a b R :=
  sorted_glue swo_ltInt h1 h2 h.lo h.hi
/-- the left part is sorted first -/
theorem Pt.left (h : Pt a m b d) (hb : b ≤ d.size) (hL : PermIn a m d L) (hs : SortedIn ltInt a m L) :
    Sort.Below ltInt (m + 1) b L ∧ ∀ R, PermIn (m + 1) b L R → SortedIn ltInt (m + 1) b R → SortedIn ltInt a b R := by
  have hp := h.permL hb hL
  refine ⟨.inr fun i g1 g2 => by rw [Nat.add_sub_cancel]; exact hp.hi i (by omega) g2, fun R hR hsR => ?_⟩
  exact (hp.permR (by rw [hL.1]; exact hb) hR).glue (hs.congr fun i _ g2 => hR.2.1 i (.inl (by omega))) hsR
/-- the right part is sorted first -/
theorem Pt.right (h : Pt a m b d) (hb : b ≤ d.size) (hB : Sort.Below ltInt a m d) (hL : PermIn (m + 1) b d L) (hs : SortedIn ltInt (m + 1) b L) :
    Sort.Below ltInt a m L ∧ ∀ R, PermIn a m L R → SortedIn ltInt a m R → SortedIn ltInt a b R := by
  have hp := h.permR hb hL
  have h1 := h.am
  refine ⟨?_, fun R hR hsR => ?_⟩
  · rcases hB with h0 | hB
    · exact .inl h0
    · exact .inr fun i g1 g2 => by rw [hL.2.1 i (.inl (by omega)), hL.2.1 (a - 1) (.inl (by omega))]; exact hB i g1 g2
  · exact (hp.permL (by rw [hL.1]; exact hb) hR).glue hsR (hs.congr fun i g1 _ => hR.2.1 i (.inr (by omega)))
/-- those that equal the least stand first -/
theorem eq_round {q : Nat} {d' : Array Int} (ha : 0 < a) (hB : Sort.Below ltInt a b d) (hb : b ≤ d.size) (hn : ltInt d[a - 1]! d[q]! = false) (ham : a < m) (hmb : m ≤ b) (hp : PermIn a b d d') (hq : d'[a]! = d[q]!)
    (h1 : ∀ t, a < t → t < m → pE d'[t]! d'[a]! = true) (h2 : ∀ t, m ≤ t → t < b → pE d'[t]! d'[a]! = false) :
    Sort.Below ltInt m b d' ∧ ∀ R, PermIn m b d' R → SortedIn ltInt m b R → SortedIn ltInt a b R := by
  have hge : ∀ i, a ≤ i → i < b → ltInt d[i]! d'[a]! = false := fun i g1 g2 => by
    rw [hq]
    rcases hB with h0 | hB
    · omega
    · exact swo_ltInt.ntrans _ _ _ (hB i g1 g2) hn
  have hge2 := permIn_all d d' a b (fun x => ltInt x d'[a]! = false) hb hp hge
  have k1 : ∀ t, a ≤ t → t < m → ltInt d'[a]! d'[t]! = false := fun t g1 g2 => by
    by_cases e : t = a
    · rw [e]; exact swo_ltInt.irrefl _
    · have := h1 t (by omega) g2
      unfold pE at this
      simpa using this
  have k2 : ∀ t, m ≤ t → t < b → ltInt d'[a]! d'[t]! = true := fun t g1 g2 => by
    have := h2 t g1 g2
    unfold pE at this
    simpa using this
  refine ⟨.inr fun i g1 g2 => ?_, fun R hR hs => ?_⟩
  · cases hc : ltInt d'[i]! d'[m - 1]! with
    | false => rfl
    | true => have := swo_ltInt.trans _ _ _ (k2 i g1 g2) hc; rw [k1 (m - 1) (by omega) (by omega)] at this; cases this
  · refine sorted_glue_eq swo_ltInt d'[a]! hs (fun i g1 g2 => ?_) (fun i g1 g2 => ?_) (permIn_all d' R m b (fun x => ltInt d'[a]! x = true) (by rw [hp.1]; exact hb) hR k2)
    · rw [hR.2.1 i (.inl g2)]; exact k1 i g1 g2
    · rw [hR.2.1 i (.inl g2)]; exact hge2 i g1 (by omega)
end
/-- what the loop of pdqsort keeps: what is left to be sorted is [a', b') -/
structure PQ (a b a' b' : Nat) (d dk : Array Int) : Prop where
  lo : a ≤ a'
  mid : a' ≤ b'
  hi : b' ≤ b
  perm : PermIn a b d dk
  below : Sort.Below ltInt a' b' dk
  fin : ∀ R, PermIn a' b' dk R → SortedIn ltInt a' b' R → SortedIn ltInt a b R
section
variable {a b a' b' : Nat} {d dk d2 : Array Int}
theorem PQ.size (h : PQ a b a' b' d dk) : dk.size = d.size := h.perm.1
theorem PQ.turn (h : PQ a b a' b' d dk) (hb : b ≤ d.size) (hp : PermIn a' b' dk d2) : PQ a b a' b' d d2 :=
  ⟨h.lo, h.mid, h.hi, permIn_trans _ _ _ _ _ h.perm (permIn_mono _ _ _ _ _ _ h.lo h.hi (by rw [h.size]; exact hb) hp), h.below.perm (by rw [h.size]; have := h.hi; omega) hp, fun R hR hs => h.fin R (permIn_trans _ _ _ _ _ hp hR) hs⟩
theorem PQ.left {m : Nat} {L : Array Int} (h : PQ a b a' b' d dk) (hb : b ≤ d.size) (hp : PermIn a' b' dk d2) (ht : Pt a' m b' d2) (hL : PermIn a' m d2 L) (hs : SortedIn ltInt a' m L) : PQ a b (m + 1) b' d L := by
  have h2 := h.turn hb hp
  have hb2 : b' ≤ d2.size := by rw [h2.size]; have := h.hi; omega
  have hmb := ht.mb
  have ham := ht.am
  have hlo := h.lo
  obtain ⟨g1, g2⟩ := ht.left hb2 hL hs
  refine ⟨by omega, by omega, h.hi, permIn_trans _ _ _ _ _ h2.perm (permIn_mono _ _ _ _ _ _ h.lo (by have := h.hi; omega) (by rw [h2.size]; exact hb) hL), g1, fun R hR hsR => ?_⟩
  have hRL : PermIn a' b' d2 R := permIn_trans _ _ _ _ _ (permIn_mono _ _ _ _ _ _ (Nat.le_refl _) (by omega) hb2 hL) (permIn_mono _ _ _ _ _ _ (by omega) (Nat.le_refl _) (by rw [hL.1]; exact hb2) hR)
  exact h2.fin R hRL (g2 R hR hsR)
theorem PQ.right {m : Nat} {L : Array Int} (h : PQ a b a' b' d dk) (hb : b ≤ d.size) (hp : PermIn a' b' dk d2) (ht : Pt a' m b' d2) (hL : PermIn (m + 1) b' d2 L) (hs : SortedIn ltInt (m + 1) b' L) : PQ a b a' m d L := by
  have h2 := h.turn hb hp
  have hb2 : b' ≤ d2.size := by rw [h2.size]; have := h.hi; omega
  have hmb := ht.mb
  have ham := ht.am
  obtain ⟨g1, g2⟩ := ht.right hb2 (h2.below.mono (by omega)) hL hs
  refine ⟨h.lo, ham, by have := h.hi; omega, permIn_trans _ _ _ _ _ h2.perm (permIn_mono _ _ _ _ _ _ (by have := h.lo; omega) h.hi (by rw [h2.size]; exact hb) hL), g1, fun R hR hsR => ?_⟩
  have hRL : PermIn a' b' d2 R := permIn_trans _ _ _ _ _ (permIn_mono _ _ _ _ _ _ (by omega) (Nat.le_refl _) hb2 hL) (permIn_mono _ _ _ _ _ _ (Nat.le_refl _) (by omega) (by rw [hL.1]; exact hb2) hR)
  exact h2.fin R hRL (g2 R hR hsR)
theorem PQ.eq {m q : Nat} (h : PQ a b a' b' d dk) (hb : b ≤ d.size) (ha : 0 < a') (hn : ltInt dk[a' - 1]! dk[q]! = false) (ham : a' < m) (hmb : m ≤ b') (hp : PermIn a' b' dk d2) (hq : d2[a']! = dk[q]!)
    (h1 : ∀ t, a' < t → t < m → pE d2[t]! d2[a']! = true) (h2 : ∀ t, m ≤ t → t < b' → pE d2[t]! d2[a']! = false) : PQ a b m b' d d2 := by
  have h3 := h.turn hb hp
  have hb1 : b' ≤ dk.size := by rw [h.size]; have := h.hi; omega
  obtain ⟨g1, g2⟩ := eq_round ha h.below hb1 hn ham hmb hp hq h1 h2
  refine ⟨by have := h.lo; omega, hmb, h.hi, h3.perm, g1, fun R hR hsR => ?_⟩
  exact h3.fin R (permIn_mono _ _ _ _ _ _ (by omega) (Nat.le_refl _) (by rw [hp.1]; exact hb1) hR) (g2 R hR hsR)
theorem PQ.done (h : PQ a b a' b' d dk) (hb : b ≤ d.size) (hp : PermIn a' b' dk d2) (hs : SortedIn ltInt a' b' d2) : PermIn a b d d2 ∧ SortedIn ltInt a b d2 :=
  ⟨(h.turn hb hp).perm, h.fin d2 hp hs⟩
end
/-- pdqsort of at most n numbers does what it should -/
def PdqOk (n : Nat) : Prop := ∀ (blk off cap a b lim : Nat) (d : Array Int) (w : World), RU w blk off cap d → d.size < 4611686018427387904 → b - a ≤ n → a ≤ b → b ≤ d.size → b < a + 50 → lim < 100 → Sort.Below ltInt a b d →
  Calls Try.prog 74 #[.slice (some ⟨blk, off, none⟩) d.size cap, .int .i64 a, .int .i64 b, .int .i64 lim] w fun e w' =>
    e = .returned (.tuple #[]) ∧ ∃ d', PermIn a b d d' ∧ SortedIn ltInt a b d' ∧ RU w' blk off cap d' ∧ Chg (· = blk) w w'
section
variable (blk off cap : Nat) (d : Array Int) (w : World) (h : RU w blk off cap d) (hsz : d.size < 4611686018427387904)
include h hsz
set_option maxRecDepth 100000 in
set_option maxHeartbeats 16000000 in
theorem pdq_step (n : Nat) (ih : Hid (∀ k, k < n → PdqOk k)) (a b lim : Nat) (hn : b - a ≤ n) (hab : a ≤ b) (hb : b ≤ d.size) (h50 : b < a + 50) (hlim : lim < 100) (hB : Sort.Below ltInt a b d) :
    Calls Try.prog 74 #[.slice (some ⟨blk, off, none⟩) d.size cap, .int .i64 a, .int .i64 b, .int .i64 lim] w fun e w' =>
      e = .returned (.tuple #[]) ∧ ∃ d', PermIn a b d d' ∧ SortedIn ltInt a b d' ∧ RU w' blk off cap d' ∧ Chg (· = blk) w w' := by
  have HB := Lib.hid hB
  clear hB
  go_enter Try.func74, Try.ntmps74
  go_wp2_with fail
  go_loopw [1, 2, 3, 8, 9] (fun av bv lv wb wp wr => ∃ (a' b' lim : Nat) (v1 v2 : Bool) (dk : Array Int), av = .int .i64 a' ∧ bv = .int .i64 b' ∧ lv = .int .i64 lim ∧ wb = .bool v1 ∧ wp = .bool v2 ∧ lim < 100 ∧ PQ a b a' b' d dk ∧ RU wr blk off cap dk ∧ Chg (· = blk) w wr) (fun av bv _ _ _ _ => (intOf bv - intOf av).toNat)
  case atStart => exact ⟨a, b, lim, true, true, d, rfl, rfl, rfl, rfl, rfl, hlim, ⟨Nat.le_refl _, hab, Nat.le_refl _, permIn_refl _ _ _, HB.out, fun R _ hs => hs⟩, h, Chg.refl _ _⟩
  case round =>
    clear h HB hlim
    obtain ⟨a', b', lim, v1, v2, dk, rfl, rfl, rfl, rfl, rfl, hlim, hPQ, hR, hC⟩ := hrel
    have HPQ := Lib.hid hPQ
    have q1 := hPQ.lo
    have q2 := hPQ.mid
    have q3 := hPQ.hi
    have hs := hPQ.size
    obtain ⟨l, hl⟩ : ∃ l, l = b' - a' := ⟨_, rfl⟩
    have en : (b' : Int) - (a' : Int) = (l : Int) := by omega
    have hl2 : a' + l = b' := by omega
    have HL := Lib.hid hl2
    clear hPQ hl hl2
    by_cases h12 : l ≤ 12
    · have HC := Lib.hid (insu_any blk off cap a' b' dk wr hR (by omega) (by omega) q2)
      rw [hs] at HC
      clear hs
      go_wp2_with fail
      refine HC.out.mono ?_
      rintro e w2 ⟨rfl, d2, hp2, hs2, hR2, hC2⟩
      go_wp2_with fail
      have hdn := HPQ.out.done hb hp2 hs2
      refine bodyPost_ret (v := .tuple #[]) (by simp [results, Try.results74, go_sem]) rfl ⟨rfl, d2, hdn.1, hdn.2, hR2, hC.trans hC2 (fun _ _ e => e)⟩
    rcases Nat.eq_zero_or_pos lim with h0 | h0
    · subst h0
      have hl3 := HL.out
      have HC := Lib.hid (heapu_any blk off cap dk wr hR (by omega) a' b' (by omega) (by omega))
      rw [hs] at HC
      clear hs hl3
      go_wp2_with fail
      refine HC.out.mono ?_
      rintro e w2 ⟨rfl, d2, hp2, hs2, hR2, hC2⟩
      go_wp2_with fail
      have hdn := HPQ.out.done hb hp2 hs2
      refine bodyPost_ret (v := .tuple #[]) (by simp [results, Try.results74, go_sem]) rfl ⟨rfl, d2, hdn.1, hdn.2, hR2, hC.trans hC2 (fun _ _ e => e)⟩
    have hl3 := HL.out
    have hlz : ((lim : Int) == 0) = false := by rw [beq_eq_false_iff_ne]; omega
    have HS := Lib.hid hs
    go_upto_if 35 with fail
    go_cut [3] from 35 to 42 (fun lv wx => ∃ (lim2 : Nat) (d2 : Array Int), lv = .int .i64 lim2 ∧ lim2 < 100 ∧ PQ a b a' b' d d2 ∧ RU wx blk off cap d2 ∧ Chg (· = blk) w wx)
    case first =>
      cases v1
      · have HC := Lib.hid (brk_any blk off cap dk wr hR (by omega) a' b' (by omega) (by omega) (by omega))
        rw [hs] at HC
        clear hs hl3
        go_wp2_with fail
        refine HC.out.mono ?_
        rintro e w2 ⟨rfl, d2, hp2, hR2, hC2⟩
        have e1 : (lim : Int) - 1 = ((lim - 1 : Nat) : Int) := by omega
        go_wp2_with fail
        go_meet
        case rel => exact ⟨lim - 1, d2, rfl, by omega, HPQ.out.turn hb hp2, hR2, hC.trans hC2 (fun _ _ e => e)⟩
      · clear hs hl3
        go_wp2_with fail
        go_meet
        case rel => exact ⟨lim, dk, rfl, hlim, HPQ.out, hR, hC⟩
    case rest =>
      clear hR hC hs HPQ HS hlz h0 hlim
      obtain ⟨lim, dk, rfl, hlim, hPQ, hR, hC⟩ := hcut
      have HPQ := Lib.hid hPQ
      have hs := hPQ.size
      clear hPQ
      have HC := Lib.hid (piv_any blk off cap dk wc hR (by omega) a' b' (by omega) (by omega) (by omega))
      rw [hs] at HC
      have HS := Lib.hid hs
      clear hs hl3
      go_wp2_with fail
      refine HC.out.mono ?_
      rintro e w2 ⟨p, q, rfl, hp1, hp2, hq, hR2, hE2⟩
      have hC2 := hC.ext_trans hE2
      clear hR hC hE2 HC
      go_upto_if 50 with fail
      go_cut [11, 12] from 50 to 61 (fun pv hv wx => ∃ (p q : Nat) (d2 : Array Int), pv = .int .i64 p ∧ hv = .int .i64 q ∧ a' ≤ p ∧ p < b' ∧ q ≤ 1 ∧ PQ a b a' b' d d2 ∧ RU wx blk off cap d2 ∧ Chg (· = blk) w wx)
      case first =>
        cases hqb : ((q : Int) == 2)
        · have hq1 : q ≤ 1 := by
            have : (q : Int) ≠ 2 := by rw [beq_eq_false_iff_ne] at hqb; exact hqb
            omega
          go_wp2_with fail
          go_meet
          case rel => exact ⟨p, q, dk, rfl, rfl, hp1, hp2, hq1, HPQ.out, hR2, hC2⟩
        · have HC := Lib.hid (rev_any blk off cap a' b' dk w2 hR2 (by have := HS.out; omega) (by have := HS.out; omega) (by omega))
          rw [HS.out] at HC
          go_wp2_with fail
          refine HC.out.mono ?_
          rintro e w3 ⟨rfl, d2, hpm, hR3, hC3⟩
          go_wp2_with fail
          go_meet
          case rel => exact ⟨b' - 1 - (p - a'), 1, d2, by congr 1; omega, rfl, by omega, by omega, Nat.le_refl _, HPQ.out.turn hb hpm, hR3, hC2.trans hC3 (fun _ _ e => e)⟩
      case rest =>
        clear HPQ HS hR2 hC2 hp1 hp2 hq
        obtain ⟨p, q, dk, rfl, rfl, hp1, hp2, hq, hPQ, hR, hC⟩ := hcut
        have HPQ := Lib.hid hPQ
        have HS := Lib.hid hPQ.size
        clear hPQ
        obtain ⟨wo, rfl⟩ : ∃ wo : World, wo = wc := ⟨_, rfl⟩
        go_upto_region 15 with fail
        go_cut [68] from 61 to 69 (fun tv wx => ∃ t : Bool, tv = .bool t ∧ wx = wo)
        case first =>
          cases v1
          · go_wp2_with fail
            go_meet
            case rel => exact ⟨false, rfl, rfl⟩
          · cases v2
            · go_wp2_with fail
              go_meet
              case rel => exact ⟨false, rfl, rfl⟩
            · go_wp2_with fail
              go_meet
              case rel => exact ⟨_, rfl, rfl⟩
        case rest =>
          obtain ⟨t, rfl, rfl⟩ := hcut
          have HC := Lib.hid (parti_any blk off cap dk wc hR (by have := HS.out; omega) a' b' (by omega) (by have := HS.out; omega) (by omega))
          rw [HS.out] at HC
          cases t
          go_upto_region 17 with fail
          clear HC
          have hR3 := hR
          have hC3 := hC
          clear hR hC
          obtain ⟨W3, rfl⟩ : ∃ W3 : World, W3 = wc := ⟨_, rfl⟩
          rotate_left 1
          go_wp2_with fail
          refine HC.out.mono ?_
          rintro e W3 ⟨v, rfl, hv, hE3⟩
          have hR3 := hR.ext hE3
          have hC3 := hC.ext_trans hE3
          have HV := Lib.hid hv
          clear hv hE3 hR hC HC
          cases v
          rotate_left 1
          · have hdn := HPQ.out.done hb (permIn_refl _ _ _) (HV.out rfl)
            go_wp2_with fail
            refine bodyPost_ret (v := .tuple #[]) (by simp [results, Try.results74, go_sem]) rfl ⟨rfl, dk, hdn.1, hdn.2, hR3, hC3⟩
          rotate_left 1
          go_upto_region 17 with fail
          clear HV
          all_goals
            obtain ⟨G, hG⟩ := as_fun dk
            have hcw : ∀ t, t < d.size → W3.cell? ⟨blk, off + t, none⟩ = some (.int .u64 (G t)) := fun t ht => by rw [hG]; exact hR3.cell (by have := HS.out; omega)
            have HG := Lib.hid hG
            clear hG
            have hpd : p < d.size := by omega
            have had : a' - 1 < d.size := by omega
            have ways : a' = 0 ∨ 0 < a' ∧ ltInt (G (a' - 1)) (G p) = true ∨ 0 < a' ∧ ltInt (G (a' - 1)) (G p) = false := by
              by_cases h0 : a' = 0
              · exact .inl h0
              · cases hl : ltInt (G (a' - 1)) (G p)
                · exact .inr (.inr ⟨by omega, rfl⟩)
                · exact .inr (.inl ⟨by omega, rfl⟩)
            rcases ways with h0 | ⟨h0, hl⟩ | ⟨h0, hl⟩
            have hz : ¬ 0 < a' := by omega
            clear h0
            go_quiet (fail)
            clear hz
            go_upto_region 20 with fail
            rotate_left 1
            have zi : 0 ≤ (a' : Int) - 1 := by omega
            have zn : ((a' : Int) - 1).toNat = a' - 1 := by omega
            have zw : IntKind.i64.wrap ((a' : Int) - 1) = (a' : Int) - 1 := IntWalk.i64_in _ (by omega)
            go_quiet ((first | (go_at_call 91; exact Calls.quiet_of_same (less_any _ _ _))))
            clear zi zn zw
            go_upto_region 20 with fail
            rotate_left 1
            have zi : 0 ≤ (a' : Int) - 1 := by omega
            have zn : ((a' : Int) - 1).toNat = a' - 1 := by omega
            have zw : IntKind.i64.wrap ((a' : Int) - 1) = (a' : Int) - 1 := IntWalk.i64_in _ (by omega)
            go_quiet ((first | (go_at_call 91; exact Calls.quiet_of_same (less_any _ _ _))))
            clear zi zn zw
            rw [HG.out, HG.out] at hl
            have HLT := Lib.hid hl
            clear hl hcw
            have hCE := Lib.hid (eqpart_any blk off cap dk (W3.drewN nq) (hR3.ext ((Ext.refl W3).drewN _)) (by have := HS.out; omega) a' b' p hp1 hp2 (by omega) (by have := HS.out; omega))
            rw [HS.out] at hCE
            go_wp2_with fail
            refine hCE.out.mono ?_
            rintro e W5 ⟨m, d2, rfl, ham, hmb, hpm, hq2, g1, g2, hR5, hC5⟩
            have HPQ2 := Lib.hid (HPQ.out.eq hb h0 HLT.out ham hmb hpm hq2 g1 g2)
            have hC6 := (hC3.drewN nq).trans hC5 (fun _ _ e => e)
            clear hCE HLT hpm hq2 g1 g2 hC5 hR3 hC3 HPQ
            go_wp2_with fail
            go_roundw
            case rel => exact ⟨m, b', lim, v1, v2, d2, rfl, rfl, rfl, rfl, rfl, hlim, HPQ2.out, hR5, hC6⟩
            case measure => simp [intOf]; omega
            all_goals
              have hE4 : Ext W3 (W3.drewN nq) := (Ext.refl W3).drewN _
              generalize W3.drewN nq = W4 at *
              have hR4 := hR3.ext hE4
              have hC4 := hC3.ext_trans hE4
              clear hR3 hC3 hE4 HG
              have hCP := Lib.hid (part_any blk off cap dk W4 hR4 (by have := HS.out; omega) a' b' p hp1 hp2 (by omega) (by have := HS.out; omega))
              rw [HS.out] at hCP
              go_wp2_with fail
              refine hCP.out.mono ?_
              rintro e W5 ⟨m, v, d2, rfl, ham, hmb, hpm, g1, g2, hR5, hC5⟩
              have HPT : Hid (Pt a' m b' d2) := Lib.hid ⟨ham, hmb, g1, g2⟩
              have HPM := Lib.hid hpm
              have hC6 := hC4.trans hC5 (fun _ _ e => e)
              have hsd : d2.size = d.size := by rw [hpm.1]; exact HS.out
              have HSD := Lib.hid hsd
              clear hCP g1 g2 hC4 hC5 hR4 hpm hsd
              obtain ⟨x, hx⟩ : ∃ x, x = m - a' := ⟨_, rfl⟩
              obtain ⟨y, hy⟩ : ∃ y, y = b' - m := ⟨_, rfl⟩
              have ex : (m : Int) - (a' : Int) = (x : Int) := by omega
              have ey : (b' : Int) - (m : Int) = (y : Int) := by omega
              have hxn : m - a' < n := by omega
              have hyn : b' - (m + 1) < n := by omega
              have HXY := Lib.hid (show _ ∧ _ from ⟨hx, hy⟩)
              have HXN := Lib.hid (show _ ∧ _ from ⟨hxn, hyn⟩)
              clear hx hy hxn hyn
              by_cases hxy : x < y
              · have HI := Lib.hid (ih.out _ HXN.out.1 blk off cap a' m lim d2 W5 hR5 (by have := HSD.out; omega) (Nat.le_refl _) ham (by have := HSD.out; omega) (by omega) hlim ((HPQ.out.turn hb HPM.out).below.mono (by omega)))
                rw [HSD.out] at HI
                clear hR5
                go_wp2_with fail
                refine HI.out.mono ?_
                rintro e W6 ⟨rfl, d3, hp3, hs3, hR6, hC7⟩
                have HPQ2 := Lib.hid (HPQ.out.left hb HPM.out HPT.out hp3 hs3)
                have hC8 := hC6.trans hC7 (fun _ _ e => e)
                clear HI hp3 hs3 hC7 hC6 HPQ HPM HPT
                go_wp2_with fail
                go_roundw
                case rel => exact ⟨m + 1, b', lim, _, v, d3, by go_num, rfl, rfl, rfl, rfl, hlim, HPQ2.out, hR6, hC8⟩
                case measure => simp [intOf]; omega
              · have HI := Lib.hid (ih.out _ HXN.out.2 blk off cap (m + 1) b' lim d2 W5 hR5 (by have := HSD.out; omega) (Nat.le_refl _) (by omega) (by have := HSD.out; omega) (by omega) hlim (.inr fun i k1 k2 => by rw [Nat.add_sub_cancel]; exact HPT.out.hi i (by omega) k2))
                rw [HSD.out, show ((m + 1 : Nat) : Int) = (m : Int) + 1 by omega] at HI
                clear hR5
                go_wp2_with fail
                refine HI.out.mono ?_
                rintro e W6 ⟨rfl, d3, hp3, hs3, hR6, hC7⟩
                have HPQ2 := Lib.hid (HPQ.out.right hb HPM.out HPT.out hp3 hs3)
                have hC8 := hC6.trans hC7 (fun _ _ e => e)
                clear HI hp3 hs3 hC7 hC6 HPQ HPM HPT
                go_wp2_with fail
                go_roundw
                case rel => exact ⟨a', m, lim, _, v, d3, rfl, rfl, rfl, rfl, rfl, hlim, HPQ2.out, hR6, hC8⟩
                case measure => simp [intOf]; omega
end
theorem pdq_all : ∀ n, PdqOk n := by
  intro n
  induction n using Nat.strongRecOn with
  | ind n ih =>
    intro blk off cap a b lim d w h hsz hn hab hb h50 hlim hB
    exact pdq_step blk off cap d w h hsz n (Lib.hid fun k hk => ih k hk) a b lim hn hab hb h50 hlim hB
end Go.Proofs.Ytchnejfdompfpaa
