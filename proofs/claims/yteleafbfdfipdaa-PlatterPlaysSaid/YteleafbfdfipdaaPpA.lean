/-
  The document's disk (glacierref04): Crash.
-/
import Derived.Test.YteleafbfdfipdaaPp9
import Derived.Test.YteleafbfdfipdaaLeft
import Derived.Deep.CutRange
import Derived.Deep.CutBlock
namespace Go.Proofs.Yteleafbfdfipdaa
open Go.RowKit Go.Sort

def crR1 (ch : List Int) (s : List FRow × Nat) (p : FRow) : List FRow × Nat :=
  if p.2.safe then s else (setL p.1 ⟨(p.2.left ch s.2).1, (p.2.left ch s.2).2, (p.2.left ch s.2).1, (p.2.left ch s.2).2⟩ s.1, s.2 + 1)
def crR (ch : List Int) (L : List FRow) (s : List FRow × Nat) : List FRow × Nat := L.foldl (crR1 ch) s
theorem crR_take {ch : List Int} {L : List FRow} {s : List FRow × Nat} {k : Nat} {p : FRow} (h : L[k]? = some p) : crR ch (L.take (k + 1)) s = crR1 ch (crR ch (L.take k) s) p := by
  unfold crR
  rw [List.take_add_one, h]
  simp
theorem pick_c (ch : List Int) (k : Nat) (m : Int) : (ch[k]?.getD 0) % m = pick ch k m := by
  unfold pick
  cases ch[k]? <;> simp
theorem crR1_yes {ch : List Int} {s : List FRow × Nat} {p : FRow} (h : p.2.safe = true) : crR1 ch s p = s := by unfold crR1; rw [if_pos h]
theorem crR1_no {ch : List Int} {s : List FRow × Nat} {x : ByteArray} {f : Fl} {lb : Bool} {lt : ByteArray} (h : f.safe = false) (hl : f.left ch s.2 = (lb, lt)) : crR1 ch s (x, f) = (setL x ⟨lb, lt, lb, lt⟩ s.1, s.2 + 1) := by
  unfold crR1; simp only [h, hl]; rfl

set_option maxRecDepth 100000 in
set_option maxHeartbeats 4000000 in
theorem rcrash_any (w : World) (lv : Value) (room : Int) (lost : Bool) (fl : Int) (L : List FRow) (h : RkS w lv L) (hl : L.length ≤ 100000) (cv : Value) (ch : List Int) (hS : Sl w cv (ch.map (Value.int .i64))) (hrg : ∀ x ∈ ch, I64 x) (hcl : ch.length ≤ 9223372036854775807) :
    Calls Try.prog 31 #[.agg #[lv, .int .i64 room, .bool lost, .int .i64 fl], cv] w fun e w' =>
      ∃ lv', e = .returned (.agg #[lv', .int .i64 room, .bool lost, .int .i64 fl]) ∧ RkIn w' lv' (crR ch L (L, 0)).1 ∧ Ext w w' := by
  obtain ⟨A, c, rfl⟩ := rk_slice h.in_
  obtain ⟨CA, cc, hv⟩ : ∃ NA nc, cv = .slice NA ch.length nc := by obtain ⟨a, b, h, _⟩ := hS; exact ⟨a, b, by rw [h, List.length_map]⟩
  subst hv
  have HPU : Hid (crR ch L (L, 0) = crR ch L (L, 0)) := Lib.hid rfl
  generalize hPR : (crR ch L (L, 0)).1 = PR
  have HPR := Lib.hid hPR
  clear hPR HPU
  have hE : Ext w ((w.alloc (.cells #[.slice A L.length c, .int .i64 room, .bool lost, .int .i64 fl] 29)).alloc (.cells #[.slice none 0 0, .int .i64 0, .bool false, .int .i64 0] 29)) := ((Ext.refl w).alloc _).alloc _
  have hX : At ((w.alloc (.cells #[.slice A L.length c, .int .i64 room, .bool lost, .int .i64 fl] 29)).alloc (.cells #[.slice none 0 0, .int .i64 0, .bool false, .int .i64 0] 29)) w.heap.size 29 #[.slice A L.length c, .int .i64 room, .bool lost, .int .i64 fl] := (At.new _ _ _).alloc _
  have hZ : At ((w.alloc (.cells #[.slice A L.length c, .int .i64 room, .bool lost, .int .i64 fl] 29)).alloc (.cells #[.slice none 0 0, .int .i64 0, .bool false, .int .i64 0] 29)) (w.heap.size + 1) 29 #[.slice none 0 0, .int .i64 0, .bool false, .int .i64 0] := At.new_eq (by simp) _ _
  go_enter Try.func31, Try.ntmps31
  go_upto_region 2 with fail
  generalize (w.alloc _).alloc _ = W at hE hX hZ ⊢
  have hxz : w.heap.size ≠ w.heap.size + 1 := by omega
  have hwx : w.heap.size ≤ w.heap.size := Nat.le_refl _
  have hwz : w.heap.size ≤ w.heap.size + 1 := by omega
  generalize hzb : w.heap.size + 1 = zb at *
  obtain ⟨xb, hxb⟩ : ∃ xb, xb = w.heap.size := ⟨_, rfl⟩
  rw [← hxb] at hX hxz ⊢
  replace hwx : w.heap.size ≤ xb := by omega
  clear hzb hxb
  have hRw := h.in_.ext hE
  have hsm := h.sml
  have HSM := Lib.hid hsm
  clear hsm
  have x0 := hX.cell 0
  have x1 := hX.cell 1
  have x2 := hX.cell 2
  have x3 := hX.cell 3
  simp at x0 x1 x2 x3
  go_wp2_with fail
  clear x0 x1 x2 x3
  go_loopw [5, 14] (fun av kv wr => ∃ (k : Nat) (B : Option Addr) (c2 : Nat) (Lk : List FRow) (at_ : Nat), kv = .int .i64 (k : Int) ∧ av = .int .i64 (at_ : Int) ∧ k ≤ L.length ∧ at_ ≤ k ∧ Lk.length ≤ L.length + k ∧ Hid (crR ch (L.take k) (L, 0) = (Lk, at_)) ∧ At wr xb 29 #[.slice B Lk.length c2, .int .i64 room, .bool lost, .int .i64 fl] ∧ RkIn wr (.slice B Lk.length c2) Lk ∧ At wr zb 29 #[.slice none 0 0, .int .i64 0, .bool false, .int .i64 0] ∧ Ext w wr) (fun _ kv _ => L.length - (intOf kv).toNat)
  case atStart => exact ⟨0, A, c, L, 0, rfl, rfl, Nat.zero_le _, Nat.zero_le _, by omega, Lib.hid rfl, hX, hRw, hZ, hE⟩
  case round =>
    clear hX hRw hZ hE
    obtain ⟨k, B, c2, Lk, at_, rfl, rfl, hk, hat, hLk, HPL, hX, hR, hZ, hE⟩ := hrel
    have hr := h.in_.ext hE
    have hSr := hS.ext hE
    by_cases hlt : k < L.length
    · obtain ⟨⟨x, f⟩, hb⟩ : ∃ q, L[k]? = some q := ⟨_, List.getElem?_eq_getElem hlt⟩
      have hfs := HSM.out _ (List.mem_of_getElem? hb)
      have hstep := crR_take (ch := ch) (s := (L, 0)) hb
      rw [HPL.out] at hstep
      have HST := Lib.hid hstep
      obtain ⟨rb, ro, rfl⟩ := rk_some hr (fun e => by rw [e] at hb; simp at hb)
      obtain ⟨r0, r1, r2, r3, r4⟩ := rk_cells hr hb
      clear hb hstep
      obtain ⟨n1, s1, n2, s2⟩ := f
      simp only at r1 r2 r3 r4 hfs
      obtain ⟨hz1, hz2⟩ := hfs
      have hEx := (Ext.refl wr).alloc (.cells #[.string x, .bool n1, .string s1, .bool n2, .string s2] 60)
      have hY := At.new wr 60 #[.string x, .bool n1, .string s1, .bool n2, .string s2]
      have hyx : xb ≠ wr.heap.size := fun e => by have := hX.lt; omega
      go_upto_region 5 with fail
      clear r0 r1 r2 r3 r4
      generalize wr.heap.size = yb at hY hyx ⊢
      generalize wr.alloc (.cells #[.string x, .bool n1, .string s1, .bool n2, .string s2] 60) = W1 at hY hEx ⊢
      replace hX := hX.ext hEx
      replace hZ := hZ.ext hEx
      replace hR := hR.ext hEx
      replace hSr := hSr.ext hEx
      have hE1 := hE.trans hEx
      clear hE hEx hr
      have y0 := hY.cell 0
      have y1 := hY.cell 1
      have y2 := hY.cell 2
      have y3 := hY.cell 3
      have y4 := hY.cell 4
      simp at y0 y1 y2 y3 y4
      by_cases hsf : Fl.safe ⟨n1, s1, n2, s2⟩ = true
      · have hsf2 : n1 = n2 ∧ s1 = s2 := by simpa [Fl.safe] using hsf
        obtain ⟨rfl, rfl⟩ := hsf2
        have HN : Hid (crR ch (L.take (k + 1)) (L, 0) = (Lk, at_)) := Lib.hid (by rw [HST.out]; exact crR1_yes hsf)
        clear hsf
        go_wp2_with fail
        go_roundw
        case rel => exact ⟨k + 1, B, c2, Lk, at_, by go_num, rfl, by omega, by omega, by omega, HN, hX, hR, hZ, hE1⟩
        case measure => simp [intOf]; omega
      · have hsf2 : Fl.safe ⟨n1, s1, n2, s2⟩ = false := by simpa using hsf
        obtain ⟨⟨lb, lt⟩, hl3⟩ : ∃ p : Bool × ByteArray, Fl.left ⟨n1, s1, n2, s2⟩ ch at_ = p := ⟨_, rfl⟩
        have hls := left_size ⟨n1, s1, n2, s2⟩ ch at_ 1000000 hz1 hz2
        rw [hl3] at hls
        have HN : Hid (crR ch (L.take (k + 1)) (L, 0) = (setL x ⟨lb, lt, lb, lt⟩ Lk, at_ + 1)) := Lib.hid (by rw [HST.out]; exact crR1_no (s := (Lk, at_)) hsf2 hl3)
        have HL3 := Lib.hid hl3
        clear hl3 HST HPL
        have HX := Lib.hid hsf2
        obtain ⟨wo, hwo⟩ : ∃ wo : World, wo = W1 := ⟨_, rfl⟩
        have HJ := Lib.hid (And.intro hX (And.intro hR (And.intro hZ (And.intro hE1 (And.intro hY hSr)))))
        clear hX hR hZ hE1 hY hSr hsf
        go_cut [22] from 18 to 22 (fun tv wx => tv = .bool false ∧ wx = wo)
        case first =>
          by_cases hnn : n1 = n2
          · subst hnn
            have hxx : ¬ s1 = s2 := fun e => by subst e; simp [Fl.safe] at hsf2
            have hxl : ¬ s1.toList = s2.toList := fun h => hxx (toList_inj.1 h)
            clear hxx hsf2
            go_wp2_with fail
            go_meet
            case rel => exact ⟨rfl, hwo.symm⟩
          · clear hsf2
            cases n1 <;> cases n2
            · exact absurd rfl hnn
            · clear hnn
              go_wp2_with fail
              go_meet
              case rel => exact ⟨rfl, hwo.symm⟩
            · clear hnn
              go_wp2_with fail
              go_meet
              case rel => exact ⟨rfl, hwo.symm⟩
            · exact absurd rfl hnn
        case rest =>
          obtain ⟨rfl, hwc⟩ := hcut
          subst hwc
          subst hwo
          clear hsf2
          have hSr := HJ.out.2.2.2.2.2
          go_upto_if 26 with fail
          obtain ⟨wo, hwo⟩ : ∃ wo : World, wo = wc := ⟨_, rfl⟩
          go_cut [8] from 26 to 30 (fun tv wx => tv = .int .i64 (ch[at_]?.getD 0) ∧ wx = wo)
          case first =>
            by_cases hac : at_ < ch.length
            · obtain ⟨cb, hcb⟩ : ∃ q, ch[at_]? = some q := ⟨_, List.getElem?_eq_getElem hac⟩
              obtain ⟨rb2, ro2, rfl, hcc⟩ : ∃ b o, CA = some ⟨b, o, none⟩ ∧ wc.cell? ⟨b, o + at_, none⟩ = some (.int .i64 cb) := by
                obtain ⟨A', c', hv, hx⟩ := hSr
                simp only [Value.slice.injEq] at hv
                obtain ⟨b, o, rfl, hc⟩ := hx (fun e => by rw [List.map_eq_nil_iff] at e; rw [e] at hcb; simp at hcb)
                exact ⟨b, o, hv.1, hc at_ _ (by rw [List.getElem?_map, hcb]; rfl)⟩
              have HCB := Lib.hid hcb
              clear hcb hSr
              go_wp2_with fail
              go_meet
              case rel => exact ⟨by rw [HCB.out]; rfl, hwo.symm⟩
            · have hcb : ch[at_]? = none := List.getElem?_eq_none (by omega)
              have HCB := Lib.hid hcb
              clear hcb hSr
              go_wp2_with fail
              go_meet
              case rel => exact ⟨by rw [HCB.out]; rfl, hwo.symm⟩
          case rest =>
            obtain ⟨rfl, hwc⟩ := hcut
            subst hwc
            subst hwo
            clear hSr
            obtain ⟨hX, hR, hZ, hE, hY, hSr⟩ := HJ.out
            have hcb : I64 (ch[at_]?.getD 0) := by
              cases hq : ch[at_]? with
              | none => exact ⟨by decide, by decide⟩
              | some z => exact hrg z (List.mem_of_getElem? hq)
            have HPK := Lib.hid (fun m => pick_c ch at_ m)
            generalize ch[at_]?.getD 0 = cb at hcb HPK ⊢
            obtain ⟨hcb1, hcb2⟩ := hcb
            clear HJ y0 y1 y2 y3 y4
            have y0 := hY.cell 0
            have y1 := hY.cell 1
            have y2 := hY.cell 2
            have y3 := hY.cell 3
            have y4 := hY.cell 4
            simp at y0 y1 y2 y3 y4
            go_upto_region 11 with fail
            have hQ := At.new wc 58 #[.bool n1, .string s1]
            have hEq := (Ext.refl wc).alloc (.cells #[.bool n1, .string s1] 58)
            have hqx : xb ≠ wc.heap.size := fun e => by have := hX.lt; omega
            have hqz : zb ≠ wc.heap.size := fun e => by have := hZ.lt; omega
            have hqy : yb ≠ wc.heap.size := fun e => by have := hY.lt; omega
            have hwq : w.heap.size ≤ wc.heap.size := hE.size
            have hqr : ∀ b o n c, Value.slice B Lk.length c2 = .slice (some ⟨b, o, none⟩) n c → Lk.map frow ≠ [] → ¬ b = wc.heap.size := fun b o n c e hne => by
              have := Sln.block_lt hR (fun r hr => by obtain ⟨p, _, rfl⟩ := List.mem_map.1 hr; simp [frow]) b o n c e hne
              omega
            clear y0 y1 y2 y3 y4
            generalize wc.heap.size = qb at *
            generalize wc.alloc (.cells #[.bool n1, .string s1] 58) = W2 at *
            replace hX := hX.ext hEq
            replace hZ := hZ.ext hEq
            replace hY := hY.ext hEq
            replace hR := hR.ext hEq
            replace hE := hE.trans hEq
            have hql := hQ.lt
            clear hEq hSr
            have y0 := hY.cell 0
            have y1 := hY.cell 1
            have y2 := hY.cell 2
            have y3 := hY.cell 3
            have y4 := hY.cell 4
            simp at y0 y1 y2 y3 y4
            obtain ⟨bb, hbb⟩ : ∃ bb : Bool, bb = (n1 && (decide (0 < (s1.size : Int) - s2.size) && Lib.hasPrefix s1.data.toList s2.data.toList)) := ⟨_, rfl⟩
            have HBB := Lib.hid hbb
            obtain ⟨wo, hwo⟩ : ∃ wo : World, wo = W2 := ⟨_, rfl⟩
            have HJ := Lib.hid (And.intro hX (And.intro hR (And.intro hZ (And.intro hE (And.intro hY hQ)))))
            clear hX hR hZ hE hY hQ
            go_cut [46] from 35 to 46 (fun tv wx => tv = .bool bb ∧ wx = wo)
            case first =>
              cases n1
              · obtain rfl : bb = false := hbb
                go_wp2_with fail
                go_meet
                case rel => exact ⟨rfl, hwo.symm⟩
              · go_wp2_with fail
                refine (begins_any s1 s2 W2 (by unfold maxLen; omega) (by unfold maxLen; omega)).mono ?_
                rintro e w4 ⟨rfl, rfl⟩
                rw [Bool.true_and] at hbb
                rw [← hbb]
                clear hbb
                go_wp2_with fail
                go_meet
                case rel => exact ⟨rfl, hwo.symm⟩
            case rest =>
              obtain ⟨rfl, hwc⟩ := hcut
              subst hwc
              subst hwo
              clear hbb
              go_upto_if 46 with fail
              have hQ := HJ.out.2.2.2.2.2
              have q0 := hQ.cell 0
              have q1 := hQ.cell 1
              have kq0 := hQ.frozen 0
              have kq1 := hQ.frozen 1
              simp at q0 q1
              obtain ⟨wo, hwo⟩ : ∃ wo : World, wo = wc := ⟨_, rfl⟩
              go_cut [10] from 46 to 80 (fun _ wx => Chg (· = qb) wo wx ∧ At wx qb 58 #[.bool lb, .string lt])
              case first =>
                have hY := HJ.out.2.2.2.2.1
                have y0 := hY.cell 0
                have y1 := hY.cell 1
                have y2 := hY.cell 2
                have y3 := hY.cell 3
                have y4 := hY.cell 4
                simp at y0 y1 y2 y3 y4
                have hyl := hY.lt
                clear HJ HN
                have hlf := HL3.out
                unfold Fl.left at hlf
                simp only at hlf
                have hbb := HBB.out
                have hqa := hQ.alloc (.cells #[.int .i64 cb] 3)
                have hc0 := Chg.refl (· = qb) wc
                have hcq := (Chg.refl (· = qb) wc).alloc (.cells #[.int .i64 cb] 3)
                have hnb := At.new wc 3 #[.int .i64 cb]
                cases bb
                · rw [if_neg (by rintro ⟨e1, e2, e3⟩; subst e1; rw [decide_eq_true e2, e3] at hbb; cases hbb), ← HPK.out 2] at hlf
                  have HLF := Lib.hid hlf
                  clear hlf HBB hbb HL3
                  have hp := rpick_any wc.heap.size 0 1 cb 2 (wc.alloc (.cells #[.int .i64 cb] 3)) (by omega) (by omega) hcb1 hcb2 (hnb.cell 0)
                  clear hnb
                  go_wp2_with fail
                  refine hp.mono ?_
                  rintro e w5 ⟨rfl, rfl⟩
                  clear hp
                  by_cases hz0 : cb % 2 = 0
                  · have hz := HLF.out
                    rw [if_pos hz0, Prod.mk.injEq] at hz
                    obtain ⟨rfl, rfl⟩ := hz
                    have hzb : (cb % 2 == 0) = true := by simpa using hz0
                    clear hz0 HLF
                    generalize cb % 2 = r2 at *
                    go_wp2_with fail
                    go_meet
                    case rel =>
                      rw [hwo]
                      exact ⟨((hc0.setCell (p := ⟨qb, 0, none⟩) (.inl rfl) _).setCell (p := ⟨qb, 1, none⟩) (.inl rfl) _).alloc _, ((hQ.set 0 _).set 1 _).alloc _⟩
                  · have hz := HLF.out
                    rw [if_neg hz0, Prod.mk.injEq] at hz
                    obtain ⟨rfl, rfl⟩ := hz
                    have hzb : (cb % 2 == 0) = false := by simpa using hz0
                    clear hz0 HLF
                    generalize cb % 2 = r2 at *
                    go_wp2_with fail
                    go_meet
                    case rel =>
                      rw [hwo]
                      exact ⟨hcq, hqa⟩
                · have hb3 : n1 = true ∧ 0 < (s1.size : Int) - s2.size ∧ Lib.hasPrefix s1.data.toList s2.data.toList = true := by simpa using hbb.symm
                  rw [if_pos hb3, ← HPK.out] at hlf
                  obtain ⟨rfl, hb4, _⟩ := hb3
                  have HLF := Lib.hid hlf
                  clear hlf HBB hbb HL3
                  have hm0 : (1 : Int) ≤ (s1.size : Int) - s2.size + 1 := by omega
                  have hp := rpick_any wc.heap.size 0 1 cb ((s1.size : Int) - s2.size + 1) (wc.alloc (.cells #[.int .i64 cb] 3)) hm0 (by omega) hcb1 hcb2 (hnb.cell 0)
                  have hr0 := Int.emod_nonneg cb (show ((s1.size : Int) - s2.size + 1) ≠ 0 by omega)
                  have hr1 := Int.emod_lt_of_pos cb (show 0 < ((s1.size : Int) - s2.size + 1) by omega)
                  obtain ⟨pk, hpk⟩ := Int.eq_ofNat_of_zero_le hr0
                  have HPK2 := Lib.hid hpk
                  rw [hpk] at hp hr1
                  clear hnb hr0 hm0 hpk
                  go_wp2_with fail
                  refine hp.mono ?_
                  rintro e w5 ⟨rfl, rfl⟩
                  clear hp
                  by_cases hz0 : pk = 0
                  · subst hz0
                    have hz := HLF.out
                    rw [HPK2.out, if_pos (by omega), Prod.mk.injEq] at hz
                    obtain ⟨rfl, rfl⟩ := hz
                    clear HLF HPK2
                    go_wp2_with fail
                    go_meet
                    case rel =>
                      rw [hwo]
                      exact ⟨(((hc0.setCell (p := ⟨qb, 1, none⟩) (.inl rfl) _).setCell (p := ⟨qb, 0, none⟩) (.inl rfl) _).setCell (p := ⟨qb, 1, none⟩) (.inl rfl) _).alloc _, (((hQ.set 1 _).set 0 _).set 1 _).alloc _⟩
                  · have hz := HLF.out
                    rw [HPK2.out, if_neg (by omega), Prod.mk.injEq] at hz
                    obtain ⟨rfl, rfl⟩ := hz
                    have hpl : s2.size + pk ≤ s1.size := by omega
                    clear HLF HPK2
                    go_wp2_with fail
                    go_meet
                    case rel =>
                      rw [hwo]
                      exact ⟨(hc0.setCell (p := ⟨qb, 1, none⟩) (.inl rfl) _).alloc _, (hQ.set 1 _).alloc _⟩
              case rest =>
                obtain ⟨hcq, hQ2⟩ := hcut
                subst hwo
                clear q0 q1 kq0 kq1 hQ hql
                obtain ⟨hX, hR, hZ, hE, hY, _⟩ := HJ.out
                replace hX := hX.chg hcq hqx
                replace hZ := hZ.chg hcq hqz
                replace hY := hY.chg hcq hqy
                replace hR := Sln.chg hR hcq hqr
                have hEc : Ext w wc := Chg.trans hE hcq (fun j hj hh => by omega)
                clear HJ hqr hcq hE HBB HPK HL3
                have x0 := hX.cell 0
                have x1 := hX.cell 1
                have x2 := hX.cell 2
                have x3 := hX.cell 3
                simp at x0 x1 x2 x3
                have y0 := hY.cell 0
                have q0 := hQ2.cell 0
                have q1 := hQ2.cell 1
                simp at y0 q0 q1
                go_wp2_with fail
                refine (rset_any wc _ room fl lost Lk hR (by omega) x ⟨lb, lt, lb, lt⟩).mono ?_
                rintro e w7 ⟨lv3, rfl, hR7, hE7⟩
                obtain ⟨D2, c3, rfl⟩ := rk_slice hR7
                have hlen3 := setL_length x ⟨lb, lt, lb, lt⟩ Lk
                generalize setL x ⟨lb, lt, lb, lt⟩ Lk = L3 at HN hR7 hlen3 ⊢
                have hX7 := hX.ext hE7
                have hZ7 := hZ.ext hE7
                have hE8 := hEc.trans hE7
                clear x0 x1 x2 x3 y0 q0 q1 hQ2 hX hZ hY hR hEc hE7
                have x0 := hX7.cell 0
                have x1 := hX7.cell 1
                have x2 := hX7.cell 2
                have x3 := hX7.cell 3
                have fr0 := hX7.frozen 0
                have fr1 := hX7.frozen 1
                have fr2 := hX7.frozen 2
                have fr3 := hX7.frozen 3
                simp at x0 x1 x2 x3
                go_upto_region 19 with fail
                have hX8 : At ((((w7.setCell ⟨xb, 0, none⟩ (.slice D2 L3.length c3)).setCell ⟨xb, 1, none⟩ (.int .i64 room)).setCell ⟨xb, 2, none⟩ (.bool lost)).setCell ⟨xb, 3, none⟩ (.int .i64 fl)) xb 29 #[.slice D2 L3.length c3, .int .i64 room, .bool lost, .int .i64 fl] := at_anew hX7 (vs := #[.slice D2 L3.length c3, .int .i64 room, .bool lost, .int .i64 fl]) rfl
                have hCx : Chg (· = xb) w7 ((((w7.setCell ⟨xb, 0, none⟩ (.slice D2 L3.length c3)).setCell ⟨xb, 1, none⟩ (.int .i64 room)).setCell ⟨xb, 2, none⟩ (.bool lost)).setCell ⟨xb, 3, none⟩ (.int .i64 fl)) := chg_setAll w7 xb [.slice D2 L3.length c3, .int .i64 room, .bool lost, .int .i64 fl] 0 w7 (Chg.refl _ _)
                have hZ8 := hZ7.chg hCx (fun e => hxz e.symm)
                have hR8 := Sln.chg hR7 hCx (rk_apart hR7 hX7 dz_nostr)
                have hE9 : Ext w ((((w7.setCell ⟨xb, 0, none⟩ (.slice D2 L3.length c3)).setCell ⟨xb, 1, none⟩ (.int .i64 room)).setCell ⟨xb, 2, none⟩ (.bool lost)).setCell ⟨xb, 3, none⟩ (.int .i64 fl)) := ext_anew hwx [.slice D2 L3.length c3, .int .i64 room, .bool lost, .int .i64 fl] 0 _ hE8
                clear x0 x1 x2 x3 fr0 fr1 fr2 fr3 hX7 hZ7 hE8 hR7 hCx
                generalize ((((w7.setCell ⟨xb, 0, none⟩ (.slice D2 L3.length c3)).setCell ⟨xb, 1, none⟩ (.int .i64 room)).setCell ⟨xb, 2, none⟩ (.bool lost)).setCell ⟨xb, 3, none⟩ (.int .i64 fl)) = w8 at hX8 hZ8 hR8 hE9 ⊢
                go_wp2_with fail
                go_roundw
                case rel => exact ⟨k + 1, D2, c3, L3, at_ + 1, by go_num, by go_num, by omega, by omega, by omega, HN, hX8, hR8, hZ8, hE9⟩
                case measure => simp [intOf]; omega
    · obtain rfl : k = L.length := by omega
      rw [List.take_length] at HPL
      have HFIN : Hid (Lk = PR) := Lib.hid (by rw [← HPR.out, HPL.out])
      have x0 := hX.cell 0
      have x1 := hX.cell 1
      have x2 := hX.cell 2
      have x3 := hX.cell 3
      simp at x0 x1 x2 x3
      have z0 := hZ.cell 0
      have z1 := hZ.cell 1
      have z2 := hZ.cell 2
      have z3 := hZ.cell 3
      have g0 := hZ.frozen 0
      have g1 := hZ.frozen 1
      have g2 := hZ.frozen 2
      have g3 := hZ.frozen 3
      simp at z0 z1 z2 z3
      go_wp2_with fail
      have hZ9 := at_anew hZ (vs := #[.slice B Lk.length c2, .int .i64 room, .bool lost, .int .i64 fl]) rfl
      refine bodyPost_ret (v := .agg #[.slice B Lk.length c2, .int .i64 room, .bool lost, .int .i64 fl]) (results_one Try.results31 _ rfl (hZ9.loadv Try.underlying29 rfl (by kernel_rfl))) rfl ?_
      have hE9 := ext_anew hwz [.slice B Lk.length c2, .int .i64 room, .bool lost, .int .i64 fl] 0 _ hE
      exact ⟨_, rfl, by rw [← HFIN.out]; exact Sln.chg hR (chg_setAll wr zb [.slice B Lk.length c2, .int .i64 room, .bool lost, .int .i64 fl] 0 wr (Chg.refl _ _)) (rk_apart hR hZ dz_nostr), hE9⟩
end Go.Proofs.Yteleafbfdfipdaa
