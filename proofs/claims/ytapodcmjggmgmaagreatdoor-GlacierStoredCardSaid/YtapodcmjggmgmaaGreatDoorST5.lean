/-
  Part 5 of what the law leans on.
-/
import Derived.Test.YtapodcmjggmgmaaGreatDoorST1
import Derived.Test.YtapodcmjggmgmaaGreatDoorST2
import Derived.Test.YtapodcmjggmgmaaGreatDoorST4
import Derived.Test.YtapodcmjggmgmaaGreatDoorChecked
import Derived.BigQuiet
import Derived.WalkSpells
import Derived.WalkLawsBesides
import Derived.Deep.LoopGhost
import Derived.Laws.BitsAllLaws
import Derived.Laws.AppendOwn
set_option linter.unusedVariables false
set_option linter.unusedSimpArgs false
set_option linter.unusedSectionVars false
namespace Go.Proofs.YtapodcmjggmgmaaGreatDoor
open Go.RowKit
def recL (kind num : Nat) (data : ByteArray) : List UInt8 := [kind, num].flatMap uenc ++ [data].flatMap senc
def frecL (kind num : Nat) (data : ByteArray) : List UInt8 := frameL (recL kind num data)
def frec (kind num : Nat) (data : ByteArray) : ByteArray := ⟨(frecL kind num data).toArray⟩
theorem recL_len (kind num : Nat) (data : ByteArray) : (recL kind num data).length ≤ 30 + data.size := by
  have h1 := uenc_length kind
  have h2 := uenc_length num
  have h3 := ienc_length data.size
  have h4 : data.data.toList.length = data.size := rfl
  simp [recL, senc]; omega
theorem frec_size (kind num : Nat) (data : ByteArray) : (frec kind num data).size ≤ 38 + data.size := by
  have h := recL_len kind num data
  have h2 := frameL_length (recL kind num data)
  show (frecL kind num data).length ≤ _
  unfold frecL; omega
theorem frec_ge (kind num : Nat) (data : ByteArray) : 8 ≤ (frec kind num data).size := by
  have h2 := frameL_length (recL kind num data)
  show 8 ≤ (frecL kind num data).length
  unfold frecL; omega
section
variable {P : Program} {ops : Array Oper} {Q : Exit → Act → World → Prop} {a0 : Act} {sp : List Sp} {E0 : Option Nat} {items : List (Nat × List UInt8)} {pre : List UInt8} {live : (Nat → Bool) → Bool} {W0 : World} {base : Nat} {j : Nat} {o : Oper}
theorem enc_quiet {f : FuncId} {x : Value} (ho : ops[j]? = some o) (hg : o.guard = none) (hs : sp.getD j .any = .val x) (hi : (items.all fun x => x.1 != j) = true) (hl : ∀ L : Nat → Bool, live (fun i => i == j || L i) = live L)
    (h : ∀ (e : Nat) (v : Nat → Value) (a : Act) (w : World), EncChg W0 w base → (∀ d, needs ops j d = true → (sp.getD d .any).holds base e (v d) w) → (∀ d t, dstOf ops d = some t → needs ops j d = true → a.tmps.getD t undef = v d) →
      ∃ args, (execOp a.eval o).run P w = .ok (.enter f args) w ∧ Calls P f args w fun r w' => r = .returned x ∧ Ext w w') :
    StepAt P ops Q a0 (spφ sp base) (spG E0 items pre live W0 base) j := by
  intro e L v a w hdown hLj hneed hG hφ hval h0
  obtain ⟨args, hrun, hcall⟩ := h e v a w hG.2.1 (fun d hd => hφ d (hneed d hd)) (fun d t hd hn => hval d t hd (hneed d hn))
  refine wpOp_calls ho hg hrun (hcall.mono ?_)
  rintro r w' ⟨rfl, hE⟩
  refine ⟨_, rfl, _, e, rfl, ?_, fun d _ _ hh => Sp.stays hh (EncChg.ext hE), hG.1, hG.2.1.trans (EncChg.ext hE), fun hlv => ?_⟩
  · unfold spφ
    rw [hs]; rfl
  · rw [hl] at hlv
    rw [chainL_congr (L' := L) fun c b hm => by have := List.all_eq_true.1 hi _ hm; simp at this; simp [this]]
    exact (hG.2.2 hlv).ext hE
end
set_option maxRecDepth 100000 in
set_option maxHeartbeats 4000000 in
theorem frec_any (w : World) (kind num : Nat) (data : ByteArray) (hk : kind < 18446744073709551616) (hn : num < 18446744073709551616) (hd : data.size ≤ 1000000) (hT : Tab w) :
    Calls Tryz.prog 142 #[.agg #[.int .u64 (kind : Int), .int .u64 (num : Int), .string data]] w fun r w' => r = .returned (.string (frec kind num data)) ∧ Ext w w' := by
  go_enter Tryz.func142, Tryz.ntmps142
  go_wp2_with fail
  have hB := At.new w 139 #[.int .u64 (kind : Int), .int .u64 (num : Int), .string data]
  have hE := (Ext.refl w).alloc (.cells #[.int .u64 (kind : Int), .int .u64 (num : Int), .string data] 139)
  generalize w.alloc (.cells #[.int .u64 (kind : Int), .int .u64 (num : Int), .string data] 139) = W at hB hE ⊢
  generalize w.heap.size = b at hB ⊢
  obtain ⟨base, hbase⟩ : ∃ n, n = W.heap.size := ⟨_, rfl⟩
  have hblt : b < base := by rw [hbase]; exact hB.lt
  have hcells : ∀ (w' : World), EncChg W.drew w' base → ∀ i : Nat, w'.cell? ⟨b, i, none⟩ = (#[Value.int .u64 (kind : Int), .int .u64 (num : Int), .string data] : Array Value)[i]? := by
    intro w' hW i
    rw [← hB.cell i]
    exact Chg.cell (w := W.drew) (p := ⟨b, i, none⟩) hW hB.lt (fun hs => by have := hs.1; simp at this; omega)
  have hTW : ∀ (w' : World), EncChg W.drew w' base → Tab w' := fun w' hW => (hT.ext hE.drew).chg hW (fun hs => by
    have h1 := hs.1
    have h2 := (hT.ext hE).lt
    omega)
  have hrl := recL_len kind num data
  refine wp_region_phi (Γ := Nat) (spφ [.ptr, .val (.pointer (some ⟨b, 0, none⟩)), .val (.int .u64 (kind : Int)), .val (.pointer (some ⟨b, 1, none⟩)), .val (.int .u64 (num : Int)), .sl [.int .u64 (kind : Int), .int .u64 (num : Int)], .ptr, .val (.pointer (some ⟨b, 2, none⟩)), .val (.string data), .sl [.string data], .ptr, .val (.string ⟨(recL kind num data).toArray⟩), .sl [.string ⟨(recL kind num data).toArray⟩], .val (.string (frec kind num data)), .val (.string (frec kind num data))] base)
    (spG none [(6, [kind, num].flatMap uenc), (10, [data].flatMap senc)] [] (fun L => L 0) W.drew base) (by kernel_rfl) (by kernel_rfl) (by kernel_rfl) 0 ⟨fun _ h => (by cases h), EncChg.refl _ _, fun h => (by cases h)⟩ ?steps ?fin
  case steps =>
    show StepsTo _ _ _ _ _ _ 15
    refine ⟨⟨⟨⟨⟨⟨⟨⟨⟨⟨⟨⟨⟨⟨⟨trivial, ?s0⟩, ?s1⟩, ?s2⟩, ?s3⟩, ?s4⟩, ?s5⟩, ?s6⟩, ?s7⟩, ?s8⟩, ?s9⟩, ?s10⟩, ?s11⟩, ?s12⟩, ?s13⟩, ?s14⟩
    case s0 =>
        refine enc_alloc [6, 10] rfl (fun w hW => by rw [hbase]; exact hW.size) rfl rfl rfl rfl rfl (by kernel_rfl) rfl rfl fun a w => ?_
        go_simp
    case s1 =>
        refine enc_val (x := .pointer (some ⟨b, 0, none⟩)) rfl rfl (.inl rfl) rfl (fun _ => rfl) fun e L v a w hW hφ hv h0 => ?_
        have e1 := h0 1 (by kernel_rfl)
        simp at e1
        go_simp
    case s2 =>
        refine enc_val (x := .int .u64 (kind : Int)) rfl rfl (.inl rfl) rfl (fun _ => rfl) fun e L v a w hW hφ hv h0 => ?_
        have e4 := hv 1 4 rfl (by kernel_rfl)
        rw [show v 1 = _ from hφ 1 (by kernel_rfl)] at e4
        simp at e4
        have hcell := hcells w hW 0
        simp at hcell
        go_simp
    case s3 =>
        refine enc_val (x := .pointer (some ⟨b, 1, none⟩)) rfl rfl (.inl rfl) rfl (fun _ => rfl) fun e L v a w hW hφ hv h0 => ?_
        have e1 := h0 1 (by kernel_rfl)
        simp at e1
        go_simp
    case s4 =>
        refine enc_val (x := .int .u64 (num : Int)) rfl rfl (.inl rfl) rfl (fun _ => rfl) fun e L v a w hW hφ hv h0 => ?_
        have e6 := hv 3 6 rfl (by kernel_rfl)
        rw [show v 3 = _ from hφ 3 (by kernel_rfl)] at e6
        simp at e6
        have hcell := hcells w hW 1
        simp at hcell
        go_simp
    case s5 =>
        refine enc_slice (cs := #[.int .u64 (kind : Int), .int .u64 (num : Int)]) (t := 28) (c := 2) (by decide) rfl rfl rfl rfl (fun _ => rfl) fun e L v a w hW hφ hv => ?_
        have e5 := hv 2 5 rfl (by kernel_rfl)
        rw [show v 2 = _ from hφ 2 (by kernel_rfl)] at e5
        simp at e5
        have e7 := hv 4 7 rfl (by kernel_rfl)
        rw [show v 4 = _ from hφ 4 (by kernel_rfl)] at e7
        simp at e7
        go_simp
    case s6 =>
        refine enc_call (f := 19) (bytes := [kind, num].flatMap uenc) (before := []) (after := [(10, [data].flatMap senc)]) rfl rfl rfl rfl rfl (by kernel_rfl) rfl (fun _ => rfl) (fun L hd' hn' => hn' 0 (by kernel_rfl)) fun e L v a w hgh hW hn' hd' hE hφ hv h0 => ?_
        have e3 := hv 0 3 rfl (by kernel_rfl)
        rw [show v 0 = _ from hφ 0 (by kernel_rfl)] at e3
        simp at e3
        have e8 := hv 5 8 rfl (by kernel_rfl)
        have hsl : SlE w base (v 5) _ := hφ 5 (by kernel_rfl)
        simp at e8
        generalize v 5 = sv at e8 hsl
        exact ⟨#[.pointer (some ⟨e, 0, none⟩), sv], by go_simp, eu_any w base e _ hE sv [kind, num] hsl (by simp; exact ⟨hk, hn⟩) (by simp) (by simp [chainL])⟩
    case s7 =>
        refine enc_val (x := .pointer (some ⟨b, 2, none⟩)) rfl rfl (.inl rfl) rfl (fun _ => rfl) fun e L v a w hW hφ hv h0 => ?_
        have e1 := h0 1 (by kernel_rfl)
        simp at e1
        go_simp
    case s8 =>
        refine enc_val (x := .string data) rfl rfl (.inl rfl) rfl (fun _ => rfl) fun e L v a w hW hφ hv h0 => ?_
        have e10 := hv 7 10 rfl (by kernel_rfl)
        rw [show v 7 = _ from hφ 7 (by kernel_rfl)] at e10
        simp at e10
        have hcell := hcells w hW 2
        simp at hcell
        go_simp
    case s9 =>
        refine enc_slice (cs := #[.string data]) (t := 9) (c := 1) (by decide) rfl rfl rfl rfl (fun _ => rfl) fun e L v a w hW hφ hv => ?_
        have e11 := hv 8 11 rfl (by kernel_rfl)
        rw [show v 8 = _ from hφ 8 (by kernel_rfl)] at e11
        simp at e11
        go_simp
    case s10 =>
        refine enc_call (f := 175) (bytes := [data].flatMap senc) (before := [(6, [kind, num].flatMap uenc)]) (after := []) rfl rfl rfl rfl rfl (by kernel_rfl) rfl (fun _ => rfl) (fun L hd' hn' => hd' 6 0 (hn' 6 (by kernel_rfl)) (by kernel_rfl)) fun e L v a w hgh hW hn' hd' hE hφ hv h0 => ?_
        have e9 := hv 6 9 rfl (by kernel_rfl)
        rw [show v 6 = _ from hφ 6 (by kernel_rfl)] at e9
        simp at e9
        have e12 := hv 9 12 rfl (by kernel_rfl)
        have hsl : SlE w base (v 9) _ := hφ 9 (by kernel_rfl)
        simp at e12
        generalize v 9 = sv at e12 hsl
        exact ⟨#[.pointer (some ⟨e, 0, none⟩), sv], by go_simp, es_any w base e _ hE sv [data] hsl (by simp; omega) (by simp) (by have := chainL_le L [(6, [kind, num].flatMap uenc)]; have := flat_length [kind, num]; simp at *; omega)⟩
    case s11 =>
        refine enc_read (f := 20) (x := .string ⟨(recL kind num data).toArray⟩) rfl rfl rfl rfl (fun _ => rfl) (fun L hd' hn' => hd' 6 0 (hd' 10 6 (hn' 10 (by kernel_rfl)) (by kernel_rfl)) (by kernel_rfl)) fun e L v a w hgh hn' hd' hE hφ hv => ?_
        have e13 := hv 10 13 rfl (by kernel_rfl)
        rw [show v 10 = _ from hφ 10 (by kernel_rfl)] at e13
        simp at e13
        have h3 := hd' 10 6 (hn' 10 (by kernel_rfl)) (by kernel_rfl)
        rw [chainL_on (fun k b hm => by simp at hm; rcases hm with h | h <;> rw [h.1]; exact h3; exact hn' 10 (by kernel_rfl))] at hE
        have he : ([] : List UInt8) ++ [(6, [kind, num].flatMap uenc), (10, [data].flatMap senc)].flatMap (·.2) = recL kind num data := by simp [recL]
        rw [he] at hE
        exact ⟨#[.pointer (some ⟨e, 0, none⟩)], by go_simp, (bytes_any w base e _ hE).mono fun _ _ ⟨h, h'⟩ => ⟨h, h' ▸ Ext.refl _⟩⟩
    case s12 =>
        refine enc_slice (cs := #[.string ⟨(recL kind num data).toArray⟩]) (t := 9) (c := 1) (by decide) rfl rfl rfl rfl (fun _ => rfl) fun e L v a w hW hφ hv => ?_
        have e14 := hv 11 14 rfl (by kernel_rfl)
        rw [show v 11 = _ from hφ 11 (by kernel_rfl)] at e14
        simp at e14
        go_simp
    case s13 =>
        refine enc_quiet (f := 174) (x := .string (frec kind num data)) rfl rfl rfl rfl (fun _ => rfl) fun e v a w hW hφ hv => ?_
        have e15 := hv 12 15 rfl (by kernel_rfl)
        have hsl : SlE w base (v 12) _ := hφ 12 (by kernel_rfl)
        simp at e15
        generalize v 12 = sv at e15 hsl
        exact ⟨#[sv], by go_simp, frame_any w sv ⟨(recL kind num data).toArray⟩ hsl.1 (by show (recL kind num data).length ≤ _; omega) (hTW w hW)⟩
    case s14 =>
        refine enc_val (x := .string (frec kind num data)) rfl rfl (.inl rfl) rfl (fun _ => rfl) fun e L v a w hW hφ hv h0 => ?_
        have e16 := hv 13 16 rfl (by kernel_rfl)
        rw [show v 13 = _ from hφ 13 (by kernel_rfl)] at e16
        simp at e16
        go_simp
  case fin =>
    intro e L v w1 hall hG hφ
    have hx : Ext w w1 := hE.drew.trans (hG.2.1.below (by rw [hbase]; exact Nat.le_refl _))
    have q14 : v 14 = .string (frec kind num data) := hφ 14 (by decide)
    clear hall hφ hG
    change Exit.then _ _ _ (putAll _ v _ 15) w1
    simp only [putAll, dstOf, Act.put]
    simp only [List.getElem?_toArray, List.getElem?_cons_zero, List.getElem?_cons_succ, Option.bind_some, List.setIfInBounds_toArray, List.set_cons_zero, List.set_cons_succ]
    rw [q14]
    go_wp2_with fail
    go_ret
    exact ⟨rfl, hx⟩
end Go.Proofs.YtapodcmjggmgmaaGreatDoor
namespace Go.Proofs.YtapodcmjggmgmaaGreatDoor
open Go.RowKit
def DecAt (w : World) (b : Nat) (s : ByteArray) (d : Dc) : Prop :=
  s.size ≤ 140737488355328 ∧ 0 ≤ d.err ∧ d.err ≤ 17 ∧ ∃ at_ : Nat, at_ + d.rest.length = s.size ∧ s.data.toList.drop at_ = d.rest ∧ At w b 226 #[.string s, .int .i64 at_, .int .i64 d.err]
section
variable {w w' : World} {b : Nat} {s : ByteArray} {d : Dc}
theorem DecAt.drewN (h : DecAt w b s d) (n : Nat) : DecAt (w.drewN n) b s d := h
theorem DecAt.chg {S : Nat → Prop} (h : DecAt w b s d) (hc : Chg S w w') (hn : ¬ S b) : DecAt w' b s d := by
  obtain ⟨h1, h2, h3, k, h4, h5, h6⟩ := h
  exact ⟨h1, h2, h3, k, h4, h5, h6.chg hc hn⟩
theorem DecAt.lt (h : DecAt w b s d) : b < w.heap.size := by
  obtain ⟨h1, h2, h3, k, h4, h5, h6⟩ := h
  exact h6.lt
end
def DecTo (w w' : World) (b : Nat) (s : ByteArray) (d : Dc) : Prop := Chg (· = b) w w' ∧ DecAt w' b s d
set_option maxHeartbeats 400000 in
theorem dleft_any (w : World) (b : Nat) (s : ByteArray) (d : Dc) (h : DecAt w b s d) :
    Calls Tryz.prog 154 #[.pointer (some ⟨b, 0, none⟩)] w fun e w' => e = .returned (.int .i64 d.rest.length) ∧ ∃ n, w' = w.drewN n := by
  obtain ⟨h1, h2, h3, k, h4, h5, h6⟩ := h
  have c0 := h6.cell 0
  have c1 := h6.cell 1
  simp at c0 c1
  go_enter Tryz.func154, Tryz.ntmps154
  go_wp2
  go_quiet (fail)
  go_wp2
  go_ret
  exact ⟨ret_i64 (by omega), _, rfl⟩
set_option maxHeartbeats 400000 in
theorem dfail_any (w : World) (b : Nat) (s : ByteArray) (d : Dc) (h : DecAt w b s d) (x : Int) (hx : 0 ≤ x ∧ x ≤ 17) :
    Calls Tryz.prog 152 #[.pointer (some ⟨b, 0, none⟩), .int .i64 x] w fun e w' => e = .returned (.tuple #[]) ∧ DecTo w w' b s (d.fail x) := by
  obtain ⟨h1, h2, h3, k, h4, h5, h6⟩ := h
  have c2 := h6.cell 2
  have f2 := h6.frozen 2
  simp at c2
  by_cases he : d.err = 0
  · have hd : (d.err == 0) = true := by simpa using he
    have hset := h6.set 2 (.int .i64 x)
    have H := Lib.hid he
    clear he
    go_enter Tryz.func152, Tryz.ntmps152
    go_wp2
    go_end0
    refine ⟨rfl, (Chg.refl (· = b) _).setCell (.inl rfl) _, ?_⟩
    unfold Dc.fail
    rw [if_pos H.out]
    exact ⟨h1, hx.1, hx.2, k, h4, h5, by simpa using hset⟩
  · have hd : (d.err == 0) = false := by simpa using he
    go_enter Tryz.func152, Tryz.ntmps152
    go_wp2
    go_end0
    refine ⟨rfl, Chg.refl _ _, ?_⟩
    unfold Dc.fail
    rw [if_neg he]
    exact ⟨h1, h2, h3, k, h4, h5, h6⟩
set_option maxHeartbeats 1000000 in
theorem dnext_any (w : World) (b : Nat) (s : ByteArray) (d : Dc) (h : DecAt w b s d) :
    Calls Tryz.prog 151 #[.pointer (some ⟨b, 0, none⟩)] w fun e w' => e = .returned (.tuple #[.int .u8 ((d.next.1.getD 0).toNat : Int), .bool d.next.1.isSome]) ∧ DecTo w w' b s d.next.2 := by
  obtain ⟨rest, err⟩ := d
  obtain ⟨h1, h2, h3, k, h4, h5, h6⟩ := h
  simp only at h2 h3 h4 h5 h6
  have c0 := h6.cell 0
  have c1 := h6.cell 1
  have c2 := h6.cell 2
  have f1 := h6.frozen 1
  have f2 := h6.frozen 2
  simp at c0 c1 c2
  by_cases he : err = 0
  · subst he
    cases rest with
    | nil =>
      have hk : k = s.size := by simpa using h4
      have g1 : decide (s.size ≤ k) = true := by simp; omega
      have H5 := Lib.hid h5
      have H4 := Lib.hid h4
      have hk1 : s.size ≤ k := by omega
      clear hk h5 h4
      go_enter Tryz.func151, Tryz.ntmps151
      go_wp2
      go_quiet (fail)
      go_wp2
      go_ret2
      exact ⟨rfl, ((Chg.refl (· = b) _).drewN _).setCell (.inl rfl) _, h1, by decide, by decide, k, H4.out, H5.out, (h6.drewN _).set 2 _⟩
    | cons c r =>
      have hk : k < s.size := by simp at h4; omega
      have hc : s[k] = c := by
        have e : s.data.toList[k]? = some c := by
          have := congrArg (·[0]?) h5
          simpa [List.getElem?_drop] using this
        have e2 : s.data.toList[k]? = some s[k] := by
          rw [List.getElem?_eq_getElem (by simpa using hk)]; rfl
        rw [e2] at e; injection e
      have hr : s.data.toList.drop (k + 1) = r := by
        have := congrArg (List.drop 1) h5
        simpa [List.drop_drop, Nat.add_comm] using this
      have h4' : (k + 1) + r.length = s.size := by simp at h4; omega
      have hfin : Dc.next ⟨c :: r, 0⟩ = (some c, ⟨r, 0⟩) := rfl
      have g1 : decide (s.size ≤ k) = false := by simp; omega
      have HC := Lib.hid hc
      have HR := Lib.hid hr
      have H4 := Lib.hid h4'
      have HF := Lib.hid hfin
      clear h5 h4 hc hr h4' hfin
      go_enter Tryz.func151, Tryz.ntmps151
      go_wp2
      go_quiet (fail)
      go_wp2
      have hB : At ((w.drewN nq).setCell ⟨b, 1, none⟩ (.int .i64 ((k : Int) + 1))) b 226 #[.string s, .int .i64 ((k : Int) + 1), .int .i64 0] := (h6.drewN _).set 1 _
      have hC : Chg (· = b) w ((w.drewN nq).setCell ⟨b, 1, none⟩ (.int .i64 ((k : Int) + 1))) := ((Chg.refl (· = b) _).drewN _).setCell (.inl rfl) _
      generalize (w.drewN nq).setCell ⟨b, 1, none⟩ (.int .i64 ((k : Int) + 1)) = W at hB hC ⊢
      clear c0 c1 c2 f1 f2 h6
      have c0 := hB.cell 0
      have c1 := hB.cell 1
      simp at c0 c1
      go_quiet (fail)
      go_wp2
      go_ret2
      rw [HF.out]
      refine ⟨by rw [← HC.out]; rfl, hC.drewN _, h1, h2, h3, k + 1, H4.out, HR.out, ?_⟩
      rw [show ((k + 1 : Nat) : Int) = (k : Int) + 1 from by omega]
      exact hB.drewN _
  · have hd : (err == 0) = false := by simpa using he
    have hd2 : (err != 0) = true := by simpa using he
    have hfin : Dc.next ⟨rest, err⟩ = (none, ⟨rest, err⟩) := by unfold Dc.next; rw [if_neg he]
    have HF := Lib.hid hfin
    clear hfin
    go_enter Tryz.func151, Tryz.ntmps151
    go_wp2
    go_quiet (fail)
    go_wp2
    go_ret2
    rw [HF.out]
    exact ⟨rfl, (Chg.refl (· = b) _).drewN _, h1, h2, h3, k, h4, h5, h6.drewN _⟩
theorem beq128 (c : UInt8) : (c == 128) = decide (c.toNat = 128) := by
  rw [Bool.eq_iff_iff]; simp [← UInt8.toNat_inj]
theorem u64_in {x : Nat} (h : x < 18446744073709551616) : IntKind.u64.wrap (x : Int) = x := by simp [IntKind.wrap, IntKind.bits, IntKind.signed]; omega
theorem u_step (v c : Nat) (hv : v ≤ 144115188075855871) (hc : c < 256) : bits .or .u64 ((v : Int) * 128) (IntKind.u64.wrap (bits .andNot .u8 (c : Int) 128)) = ((v * 128 + c % 128 : Nat) : Int) := by
  have e1 : bits .andNot .u8 (c : Int) 128 = ((c % 128 : Nat) : Int) := by
    rw [show (128 : Int) = ((128 : Nat) : Int) from rfl, u8_andNot_nat c 128 hc (by omega)]
    rw [show 255 - 128 = 2 ^ 7 - 1 from rfl, Nat.and_two_pow_sub_one_eq_mod]
  rw [e1, u64_in (by omega), show (v : Int) * 128 = ((v * 128 : Nat) : Int) from by omega, u64_or_nat _ _ (by omega) (by omega)]
  rw [show v * 128 = v <<< 7 from by rw [Nat.shiftLeft_eq], ← Nat.shiftLeft_add_eq_or_of_lt (by omega)]
theorem DecTo.refl {w : World} {b : Nat} {s : ByteArray} {d : Dc} (h : DecAt w b s d) : DecTo w w b s d := ⟨Chg.refl _ _, h⟩
theorem DecTo.trans {w w1 w2 : World} {b : Nat} {s : ByteArray} {d d' : Dc} (h : DecTo w w1 b s d) (h' : DecTo w1 w2 b s d') : DecTo w w2 b s d' := ⟨h.1.trans h'.1 (fun _ _ h => h), h'.2⟩
theorem next_nil {d : Dc} (h : d.err = 0) (hr : d.rest = []) : d.next = (none, ⟨[], 2⟩) := by unfold Dc.next; rw [if_pos h, hr]
theorem next_cons {d : Dc} {c : UInt8} {r : List UInt8} (h : d.err = 0) (hr : d.rest = c :: r) : d.next = (some c, ⟨r, 0⟩) := by unfold Dc.next; rw [if_pos h, hr, ← h]
set_option maxHeartbeats 1000000 in
theorem du_any (w : World) (b : Nat) (s : ByteArray) (d : Dc) (h : DecAt w b s d) :
    Calls Tryz.prog 111 #[.pointer (some ⟨b, 0, none⟩)] w fun e w' => e = .returned (.int .u64 (d.u.1 : Int)) ∧ DecTo w w' b s d.u.2 := by
  by_cases he : d.err = 0
  · generalize hR : uloop true 0 d.rest = R
    have hu : d.u = R := by unfold Dc.u; rw [if_pos he]; exact hR
    rw [hu]
    go_enter Tryz.func111, Tryz.ntmps111
    go_wp2_with fail
    go_loopg [3, 4] d.rest.length (fun k v f wr => ∃ (fb : Bool) (vn : Nat) (r : List UInt8), r.length = k ∧ v = .int .u64 (vn : Int) ∧ vn < 18446744073709551616 ∧ f = .bool fb ∧ DecTo w wr b s ⟨r, 0⟩ ∧ uloop fb vn r = R)
    case atStart => exact ⟨true, 0, d.rest, rfl, rfl, by omega, rfl, by rw [← he]; exact DecTo.refl h, hR⟩
    case round =>
      clear hR h hu
      obtain ⟨fb, vn, r, rfl, rfl, hvn, rfl, hD, hR⟩ := hrel
      have cn := dnext_any _ b s ⟨r, 0⟩ hD.2
      cases r with
      | nil =>
        rw [next_nil rfl rfl] at cn
        have HR := Lib.hid hR
        clear hR
        go_wp2_with fail
        refine cn.mono ?_
        rintro e w1 ⟨rfl, hD1⟩
        go_wp2_with fail
        go_ret
        rw [← HR.out]
        exact ⟨rfl, hD.trans hD1⟩
      | cons c r =>
        rw [next_cons rfl rfl] at cn
        have cf := fun w1 h => dfail_any w1 b s ⟨r, 0⟩ h 3 (by decide)
        have hc256 := c.toNat_lt
        rw [show Dc.fail ⟨r, 0⟩ 3 = ⟨r, 3⟩ from rfl] at cf
        by_cases hbad : ((fb && c == 128) || decide (144115188075855871 < vn)) = true
        · have hfin : R = (0, ⟨r, 3⟩) := by rw [← hR, uloop, if_pos hbad]
          have HF := Lib.hid hfin
          clear hfin hR
          have hcases : (fb = true ∧ c.toNat = 128) ∨ (fb = true ∧ c.toNat ≠ 128 ∧ 144115188075855871 < vn) ∨ (fb = false ∧ 144115188075855871 < vn) := by
            rw [beq128] at hbad
            cases fb <;> simp at hbad ⊢ <;> omega
          clear hbad
          rcases hcases with ⟨rfl, g⟩ | ⟨rfl, g, g2⟩ | ⟨rfl, g2⟩
          · have t1 : ((c.toNat : Int) == 128) = true := by simp; omega
            clear g
            go_wp2_with fail
            refine cn.mono ?_
            rintro e w1 ⟨rfl, hD1⟩
            go_wp2_with fail
            refine (cf _ hD1.2).mono ?_
            rintro e w2 ⟨rfl, hD2⟩
            go_wp2_with fail
            go_ret
            rw [HF.out]
            exact ⟨rfl, (hD.trans hD1).trans hD2⟩
          · have t1 : ((c.toNat : Int) == 128) = false := by simp; omega
            have t2 : decide ((144115188075855871 : Int) < (vn : Int)) = true := by simp; omega
            clear g g2
            go_wp2_with fail
            refine cn.mono ?_
            rintro e w1 ⟨rfl, hD1⟩
            go_wp2_with fail
            refine (cf _ hD1.2).mono ?_
            rintro e w2 ⟨rfl, hD2⟩
            go_wp2_with fail
            go_ret
            rw [HF.out]
            exact ⟨rfl, (hD.trans hD1).trans hD2⟩
          · have t2 : decide ((144115188075855871 : Int) < (vn : Int)) = true := by simp; omega
            clear g2
            go_wp2_with fail
            refine cn.mono ?_
            rintro e w1 ⟨rfl, hD1⟩
            go_wp2_with fail
            refine (cf _ hD1.2).mono ?_
            rintro e w2 ⟨rfl, hD2⟩
            go_wp2_with fail
            go_ret
            rw [HF.out]
            exact ⟨rfl, (hD.trans hD1).trans hD2⟩
        · rw [uloop, if_neg hbad] at hR
          have hcases : ((fb = true ∧ c.toNat ≠ 128) ∨ fb = false) ∧ vn ≤ 144115188075855871 := by
            rw [beq128] at hbad
            cases fb <;> simp at hbad ⊢ <;> omega
          clear hbad
          obtain ⟨hc, hv⟩ := hcases
          have t2 : decide ((144115188075855871 : Int) < (vn : Int)) = false := by simp; omega
          rcases hc with ⟨rfl, g⟩ | rfl
          · have t1 : ((c.toNat : Int) == 128) = false := by simp; omega
            clear g
            by_cases hlt : c.toNat < 128
            · have t3 : decide ((c.toNat : Int) < 128) = true := by simp; omega
              go_wp2_with fail
              refine cn.mono ?_
              rintro e w1 ⟨rfl, hD1⟩
              go_wp2_with fail
              go_ret
              rw [← hR, if_pos hlt, u_step vn c.toNat hv hc256]
              exact ⟨rfl, hD.trans hD1⟩
            · have t3 : decide ((c.toNat : Int) < 128) = false := by simp; omega
              rw [if_neg hlt] at hR
              have HR := Lib.hid hR
              clear hR
              go_wp2_with fail
              refine cn.mono ?_
              rintro e w1 ⟨rfl, hD1⟩
              go_wp2_with fail
              go_roundg r.length
              case measure => simp
              case rel => exact ⟨false, _, r, rfl, by rw [u_step vn c.toNat hv hc256], by omega, rfl, hD.trans hD1, HR.out⟩
          · by_cases hlt : c.toNat < 128
            · have t3 : decide ((c.toNat : Int) < 128) = true := by simp; omega
              go_wp2_with fail
              refine cn.mono ?_
              rintro e w1 ⟨rfl, hD1⟩
              go_wp2_with fail
              go_ret
              rw [← hR, if_pos hlt, u_step vn c.toNat hv hc256]
              exact ⟨rfl, hD.trans hD1⟩
            · have t3 : decide ((c.toNat : Int) < 128) = false := by simp; omega
              rw [if_neg hlt] at hR
              have HR := Lib.hid hR
              clear hR
              go_wp2_with fail
              refine cn.mono ?_
              rintro e w1 ⟨rfl, hD1⟩
              go_wp2_with fail
              go_roundg r.length
              case measure => simp
              case rel => exact ⟨false, _, r, rfl, by rw [u_step vn c.toNat hv hc256], by omega, rfl, hD.trans hD1, HR.out⟩
  · have hu : d.u = (0, d) := by unfold Dc.u; rw [if_neg he]
    have cn := dnext_any _ b s d h
    have hn : d.next = (none, d) := by unfold Dc.next; rw [if_neg he]
    rw [hn] at cn
    rw [hu]
    clear hu hn
    go_enter Tryz.func111, Tryz.ntmps111
    go_wp2_with fail
    refine wp_loop_rounds 1 ?_
    rw [rounds_succ]
    go_wp2_with fail
    refine cn.mono ?_
    rintro e w1 ⟨rfl, hD1⟩
    go_wp2_with fail
    go_ret
    exact ⟨rfl, hD1⟩
theorem Dc.u_lt (d : Dc) : d.u.1 < 18446744073709551616 := by
  have key : ∀ (l : List UInt8) (f : Bool) (v : Nat), (uloop f v l).1 < 18446744073709551616 := by
    intro l
    induction l with
    | nil => intro f v; simp [uloop]
    | cons c r ih =>
      intro f v
      rw [uloop]
      split
      · simp
      · rename_i h
        have hv : v ≤ 144115188075855871 := by simp at h; omega
        split
        · simp only; omega
        · exact ih _ _
  unfold Dc.u
  split
  · exact key _ _ _
  · simp
set_option maxHeartbeats 1000000 in
theorem di_any (w : World) (b : Nat) (s : ByteArray) (d : Dc) (h : DecAt w b s d) (most : Int) (hm0 : 0 ≤ most) (hm : most ≤ 9223372036854775807) :
    Calls Tryz.prog 153 #[.pointer (some ⟨b, 0, none⟩), .int .i64 most] w fun e w' => e = .returned (.int .i64 ((d.i most).1 : Int)) ∧ DecTo w w' b s (d.i most).2 := by
  have cu := du_any w b s d h
  have hlt := d.u_lt
  by_cases hg : max most 0 < (d.u.1 : Int)
  · have hfin : d.i most = (0, d.u.2.fail 11) := by unfold Dc.i; rw [if_pos hg]
    have HF := Lib.hid hfin
    clear hfin
    generalize d.u = U at cu hg HF hlt
    obtain ⟨v, D⟩ := U
    simp only at cu hg HF hlt
    have cf := fun w1 h => dfail_any w1 b s D h 11 (by decide)
    have t1 : decide (most < (v : Int)) = true := by simp; omega
    have t2 : decide (max most 0 < (v : Int)) = true := by simp; omega
    clear hg
    go_enter Tryz.func153, Tryz.ntmps153
    go_wp2_with fail
    refine cu.mono ?_
    rintro e w1 ⟨rfl, hD1⟩
    go_wp2_with fail
    all_goals
      refine (cf _ hD1.2).mono ?_
      rintro e w2 ⟨rfl, hD2⟩
      go_wp2_with fail
      go_ret
      rw [HF.out]
      exact ⟨rfl, hD1.trans hD2⟩
  · have hfin : d.i most = d.u := by unfold Dc.i; rw [if_neg hg]
    have HF := Lib.hid hfin
    clear hfin
    generalize d.u = U at cu hg HF hlt
    obtain ⟨v, D⟩ := U
    simp only at cu hg HF hlt
    have hg1 : (v : Int) ≤ most := by omega
    have t1 : decide (most < (v : Int)) = false := by simp; omega
    have t2 : decide (max most 0 < (v : Int)) = false := by simp; omega
    clear hg
    go_enter Tryz.func153, Tryz.ntmps153
    go_wp2_with fail
    refine cu.mono ?_
    rintro e w1 ⟨rfl, hD1⟩
    go_wp2_with fail
    all_goals
      go_ret
      rw [HF.out]
      exact ⟨rfl, hD1⟩
end Go.Proofs.YtapodcmjggmgmaaGreatDoor
namespace Go.Proofs.YtapodcmjggmgmaaGreatDoor
open Go.RowKit
theorem from_any (w : World) (s : ByteArray) (hs : s.size ≤ 140737488355328) :
    Calls Tryz.prog 110 #[.string s] w fun e w' => ∃ b, e = .returned (.pointer (some ⟨b, 0, none⟩)) ∧ w.heap.size ≤ b ∧ DecAt w' b s ⟨s.data.toList, 0⟩ ∧ Ext w w' := by
  go_enter Tryz.func110, Tryz.ntmps110
  go_wp2
  go_ret
  exact ⟨_, rfl, Nat.le_refl _, ⟨hs, Int.le_refl 0, by show (0 : Int) ≤ 17; decide, 0, by simp, by simp, At.new w _ _⟩, (Ext.refl w).alloc _⟩
theorem extract_take (s : ByteArray) (k n : Nat) : s.extract k (k + n) = ⟨((s.data.toList.drop k).take n).toArray⟩ := by
  have e : (s.extract k (k + n)).data = s.data.extract k (k + n) := by simp
  have e2 : s.extract k (k + n) = ⟨(s.extract k (k + n)).data⟩ := rfl
  rw [e2, e]
  congr 1
  apply Array.toList_inj.1
  simp
set_option maxHeartbeats 1000000 in
theorem ds_any (w : World) (b : Nat) (s : ByteArray) (d : Dc) (h : DecAt w b s d) (most : Int) (hm0 : 0 ≤ most) (hm : most ≤ 9223372036854775807) :
    Calls Tryz.prog 112 #[.pointer (some ⟨b, 0, none⟩), .int .i64 most] w fun e w' => e = .returned (.string ⟨(d.s most).1.toArray⟩) ∧ DecTo w w' b s (d.s most).2 := by
  have ci := di_any w b s d h most hm0 hm
  have hn : ((d.i most).1 : Int) ≤ most := by
    unfold Dc.i
    split
    · simpa using hm0
    · omega
  unfold Dc.s
  generalize d.i most = R at ci hn
  obtain ⟨n, D⟩ := R
  simp only at ci hn ⊢
  by_cases he : D.err = 0
  · rw [if_pos he]
    have t1 : (D.err == 0) = true := by simpa using he
    have t1' : (D.err != 0) = false := by simpa using he
    have cl := fun w1 h => dleft_any w1 b s D h
    by_cases g : D.rest.length < n
    · rw [if_pos g]
      have cf := fun w1 h => dfail_any w1 b s D h 2 (by decide)
      have hf : D.fail 2 = { D with err := 2 } := by unfold Dc.fail; rw [if_pos he]
      rw [hf] at cf
      clear hf he
      have t2 : decide ((D.rest.length : Int) < (n : Int)) = true := by simp; omega
      go_enter Tryz.func112, Tryz.ntmps112
      go_wp2_with fail
      refine ci.mono ?_
      rintro e w1 ⟨rfl, hD1⟩
      have hD := hD1.2
      obtain ⟨h1, h2, h3, k, h4, h5, h6⟩ := hD
      have c2 := h6.cell 2
      simp at c2
      go_wp2_with fail
      refine (cl w1 hD1.2).mono ?_
      rintro e w2 ⟨rfl, m, rfl⟩
      go_wp2_with fail
      refine (cf _ (hD1.2.drewN m)).mono ?_
      rintro e w2 ⟨rfl, hD2⟩
      clear h6 c2
      have hD := hD2.2
      obtain ⟨_, _, _, k', _, _, h6⟩ := hD
      have c2 := h6.cell 2
      simp at c2
      go_wp2_with fail
      go_ret
      exact ⟨rfl, (hD1.1.drewN m).trans hD2.1 (fun _ _ h => h), hD2.2⟩
    · rw [if_neg g]
      have hle : n ≤ D.rest.length := by omega
      have t2 : decide ((D.rest.length : Int) < (n : Int)) = false := by simp; omega
      clear g
      go_enter Tryz.func112, Tryz.ntmps112
      go_wp2_with fail
      refine ci.mono ?_
      rintro e w1 ⟨rfl, hD1⟩
      have hD := hD1.2
      obtain ⟨h1, h2, h3, k, h4, h5, h6⟩ := hD
      have c2 := h6.cell 2
      have c1 := h6.cell 1
      have f1 := h6.frozen 1
      simp at c2 c1
      have hk0 : (k : Int) ≤ s.size := by omega
      have hkn : (k : Int) + n ≤ s.size := by omega
      have H4 := Lib.hid h4
      have H5 := Lib.hid h5
      have HE := Lib.hid he
      clear h4 h5 he
      go_wp2_with fail
      refine (cl w1 hD1.2).mono ?_
      rintro e w2 ⟨rfl, m, rfl⟩
      go_wp2_with fail
      have hB : At ((w1.drewN m).setCell ⟨b, 1, none⟩ (.int .i64 ((k : Int) + n))) b 226 #[.string s, .int .i64 ((k : Int) + n), .int .i64 D.err] := (h6.drewN _).set 1 _
      have hC : Chg (· = b) w1 ((w1.drewN m).setCell ⟨b, 1, none⟩ (.int .i64 ((k : Int) + n))) := ((Chg.refl (· = b) _).drewN _).setCell (.inl rfl) _
      generalize (w1.drewN m).setCell ⟨b, 1, none⟩ (.int .i64 ((k : Int) + n)) = W at hB hC ⊢
      clear c1 c2 f1 h6
      have c0 := hB.cell 0
      have c1 := hB.cell 1
      simp at c0 c1
      go_quiet (fail)
      go_wp2
      go_ret
      rw [extract_take, H5.out]
      refine ⟨rfl, (hD1.1.trans hC (fun _ _ h => h)).drewN _, h1, h2, h3, k + n, ?_, ?_, ?_⟩
      · have := H4.out
        simp only [List.length_drop]; omega
      · rw [← List.drop_drop, H5.out]
      · rw [show ((k + n : Nat) : Int) = (k : Int) + n from by omega]
        exact hB.drewN _
  · rw [if_neg he]
    have t1 : (D.err == 0) = false := by simpa using he
    have t1' : (D.err != 0) = true := by simpa using he
    go_enter Tryz.func112, Tryz.ntmps112
    go_wp2_with fail
    refine ci.mono ?_
    rintro e w1 ⟨rfl, hD1⟩
    have hD := hD1.2
    obtain ⟨h1, h2, h3, k, h4, h5, h6⟩ := hD
    have c2 := h6.cell 2
    simp at c2
    go_wp2_with fail
    go_ret
    exact ⟨rfl, hD1⟩
end Go.Proofs.YtapodcmjggmgmaaGreatDoor
namespace Go.Proofs.YtapodcmjggmgmaaGreatDoor
open Go.RowKit
end Go.Proofs.YtapodcmjggmgmaaGreatDoor
namespace Go.Proofs.YtapodcmjggmgmaaGreatDoor
open Go.RowKit
theorem DecAt.extD {w w' : World} {b : Nat} {s : ByteArray} {d : Dc} (h : DecAt w b s d) (hE : Ext w w') : DecAt w' b s d := h.chg hE (fun h => h)
set_option maxRecDepth 100000 in
theorem ddone_ok (w : World) (b : Nat) (s : ByteArray) (h : DecAt w b s ⟨[], 0⟩) :
    Calls Tryz.prog 113 #[.pointer (some ⟨b, 0, none⟩)] w fun e w' => e = .returned (.int .i64 0) ∧ Ext w w' := by
  have cl := dleft_any w b s _ h
  obtain ⟨_, _, _, k, _, _, h6⟩ := h
  go_enter Tryz.func113, Tryz.ntmps113
  go_wp2_with fail
  refine cl.mono ?_
  rintro e w1 ⟨rfl, n, rfl⟩
  clear cl
  have c2 := (h6.drewN n).cell 2
  simp only [List.length_nil]
  go_wp2_with fail
  go_ret
  exact ⟨rfl, (Ext.refl w).drewN _⟩
theorem rec_u1 (kind num : Nat) (data : ByteArray) (hk : kind < 18446744073709551616) : Dc.u ⟨recL kind num data, 0⟩ = (kind, ⟨uenc num ++ (senc data ++ []), 0⟩) := by
  have : recL kind num data = uenc kind ++ (uenc num ++ (senc data ++ [])) := by simp [recL]
  rw [this]; exact u_enc hk _
theorem rec_info : (Tryz.prog.info? 139).map (·.size) = some 3 := by kernel_rfl
set_option maxRecDepth 100000 in
set_option maxHeartbeats 600000 in
theorem parse_any (w : World) (kind num : Nat) (data : ByteArray) (hk : 1 ≤ kind ∧ kind ≤ 3) (hn : num < 18446744073709551616) (hd : data.size ≤ 1000000) :
    Calls Tryz.prog 73 #[.string ⟨(recL kind num data).toArray⟩] w fun e w' => e = .returned (.tuple #[.agg #[.int .u64 (kind : Int), .int .u64 (num : Int), .string data], .bool true]) ∧ Ext w w' := by
  have hrl := recL_len kind num data
  have u1 := rec_u1 kind num data (by omega)
  have u2 : Dc.u ⟨uenc num ++ (senc data ++ []), 0⟩ = (num, ⟨senc data ++ [], 0⟩) := u_enc hn _
  have hsl : (data.size : Int) ≤ ((recL kind num data).length : Int) := by
    have : (recL kind num data).length = (uenc kind).length + ((uenc num).length + ((ienc data.size).length + data.data.toList.length)) := by simp [recL, senc, Nat.add_assoc]
    have h4 : data.data.toList.length = data.size := rfl
    omega
  obtain ⟨s, hs⟩ : ∃ s : ByteArray, (⟨(recL kind num data).toArray⟩ : ByteArray) = s := ⟨_, rfl⟩
  have hss : s.size = (recL kind num data).length := by rw [← hs]; rfl
  have u3 : Dc.s ⟨senc data ++ [], 0⟩ (s.size : Int) = (data.data.toList, ⟨[], 0⟩) := by rw [hss]; exact s_enc hsl (by omega) []
  have hsb : s.size ≤ 1000030 := by omega
  have hdat : s.data.toList = recL kind num data := by rw [← hs]
  rw [hs]
  have hkk : (1 : Int) ≤ (kind : Int) ∧ (kind : Int) ≤ 3 := by omega
  obtain ⟨k1, k2⟩ := hkk
  clear hs hss hsl hrl
  go_enter Tryz.func73, Tryz.ntmps73
  go_wp2_with fail
  have hA0 := At.new w 139 #[.int .u64 0, .int .u64 0, .string ⟨#[]⟩]
  have hE0 := (Ext.refl w).alloc (.cells #[.int .u64 0, .int .u64 0, .string ⟨#[]⟩] 139)
  have hlt0 : w.heap.size < (w.alloc (.cells #[.int .u64 0, .int .u64 0, .string ⟨#[]⟩] 139)).heap.size := by simp
  generalize w.alloc (.cells #[.int .u64 0, .int .u64 0, .string ⟨#[]⟩] 139) = w0 at hA0 hE0 hlt0 ⊢
  obtain ⟨rb, hrb⟩ : ∃ rb, w.heap.size = rb := ⟨_, rfl⟩
  rw [hrb] at hA0 hlt0 ⊢
  refine (from_any w0 s (by omega)).mono ?_
  rintro e w1 ⟨db, rfl, hdb, hD1, hE1⟩
  rw [hdat] at hD1
  clear hdat
  have hrd : rb ≠ db := by omega
  go_wp2_with fail
  have c1 := du_any w1 db s _ hD1
  rw [u1] at c1
  refine c1.mono ?_
  rintro e w2 ⟨rfl, hC2, hD2⟩
  clear c1
  go_wp2_with fail
  have c2 := du_any w2 db s _ hD2
  rw [u2] at c2
  refine c2.mono ?_
  rintro e w3 ⟨rfl, hC3, hD3⟩
  clear c2
  have hA3 := ((hA0.ext hE1).chg hC2 (fun h => hrd h)).chg hC3 (fun h => hrd h)
  have hC23 := hC2.trans hC3 (fun _ _ h => h)
  have hrx : rb ≠ w3.heap.size := Nat.ne_of_lt hA3.lt
  have hA4 := At.new w3 139 #[.int .u64 0, .int .u64 0, .string ⟨#[]⟩]
  have hT4 := Lib.hid hA4.there
  have hA4' : At ((w3.alloc (.cells #[.int .u64 0, .int .u64 0, .string ⟨#[]⟩] 139)).setCells w3.heap.size 0 [.int .u64 (kind : Int), .int .u64 (num : Int), .string ⟨#[]⟩]) w3.heap.size 139 #[.int .u64 (kind : Int), .int .u64 (num : Int), .string ⟨#[]⟩] := hA4.cells_all (cs := #[.int .u64 (kind : Int), .int .u64 (num : Int), .string ⟨#[]⟩]) rfl
  go_wp2_with (refine wpList_store_mid rfl 139 _ _ rfl w3.heap.size 0 #[.int .u64 (kind : Int), .int .u64 (num : Int), .string ⟨#[]⟩] rfl rfl hT4.out rec_info (by simp [Value.oneCell']) ?_)
  have hC4 : Chg (fun k => k = w3.heap.size) w3 ((w3.alloc (.cells #[.int .u64 0, .int .u64 0, .string ⟨#[]⟩] 139)).setCells w3.heap.size 0 [.int .u64 (kind : Int), .int .u64 (num : Int), .string ⟨#[]⟩]) := Chg.setCells ((Chg.refl (fun k => k = w3.heap.size) w3).alloc _) rfl _ _
  have hE4 : Ext w3 ((w3.alloc (.cells #[.int .u64 0, .int .u64 0, .string ⟨#[]⟩] 139)).setCells w3.heap.size 0 [.int .u64 (kind : Int), .int .u64 (num : Int), .string ⟨#[]⟩]) := hC4.mono fun k hk e => by omega
  obtain ⟨xb, hxb⟩ : ∃ xb, w3.heap.size = xb := ⟨_, rfl⟩
  generalize (w3.alloc (.cells #[.int .u64 0, .int .u64 0, .string ⟨#[]⟩] 139)).setCells w3.heap.size 0 [.int .u64 (kind : Int), .int .u64 (num : Int), .string ⟨#[]⟩] = w4 at hA4' hE4 ⊢
  have hdx : db ≠ xb := by have := hD3.lt; omega
  rw [hxb] at hA4' hrx ⊢
  have hD4 := hD3.extD hE4
  have c3 := ds_any w4 db s _ hD4 (s.size : Int) (by omega) (by omega)
  rw [u3] at c3
  refine c3.mono ?_
  rintro e w5 ⟨rfl, hC5, hD5⟩
  clear c3 hT4 hA4 hC4
  have hA5 := hA4'.chg hC5 (fun h => hdx h.symm)
  have hR5 := (hA3.ext hE4).chg hC5 hrd
  have d2 := hA5.cell 2
  have f2 := hA5.frozen 2
  have hEw : Ext w w5 := ((hE0.trans hE1).chg_trans (hC23.trans (hE4.chg_trans hC5) (fun _ _ h => h))).mono (fun k hk e => by have := hE0.size; omega)
  go_wp2_with fail
  have hA6 := hA5.set 2 (.string (⟨data.data.toList.toArray⟩ : ByteArray))
  have hR6 := hR5.far (p := ⟨xb, 2, none⟩) hrx (.string (⟨data.data.toList.toArray⟩ : ByteArray))
  have hD6 := hD5.chg ((Chg.refl (fun k => k = xb) w5).setCell (p := ⟨xb, 2, none⟩) (.inl rfl) (.string (⟨data.data.toList.toArray⟩ : ByteArray))) hdx
  have hxn : ¬ xb < w.heap.size := by have := hE0.size; have := hC23.size; have := hE1.size; omega
  have hE6 : Ext w (w5.setCell ⟨xb, 2, none⟩ (.string (⟨data.data.toList.toArray⟩ : ByteArray))) := hEw.setCell (p := ⟨xb, 2, none⟩) (by show w.heap.size ≤ xb; omega) _
  have hdd : (⟨data.data.toList.toArray⟩ : ByteArray) = data := rfl
  simp only [List.setIfInBounds_toArray, List.set_cons_zero, List.set_cons_succ] at hA6
  rw [hdd] at hA6 hR6 hD6 hE6
  change Code.wp _ _ _ _ (w5.setCell ⟨xb, 2, none⟩ (.string data))
  generalize w5.setCell ⟨xb, 2, none⟩ (.string data) = W at hA6 hR6 hD6 hE6 ⊢
  obtain ⟨CC, hCQ⟩ : ∃ CC : Array Value, CC = #[.int .u64 (kind : Int), .int .u64 (num : Int), .string data] := ⟨_, rfl⟩
  rw [← hCQ] at hA6
  have hCs : CC.size = 3 := by rw [hCQ]; rfl
  have hC1 : CC.all (·.oneCell') = true := by rw [hCQ]; simp [Value.oneCell']
  have q0 : CC[0]? = some (.int .u64 (kind : Int)) := by rw [hCQ]; rfl
  have HCQ := Lib.hid hCQ
  clear hCQ
  have hST : GQ.St (fun k => k = rb) (fun b w => At w rb 139 (if b = true then CC else #[.int .u64 0, .int .u64 0, .string ⟨#[]⟩])) [] := ⟨fun _ _ _ h hE => h.ext hE, by
    intro gx hx
    cases hx⟩
  refine wp_region_phi (Γ := Nat → Value) (sgφ [.val (.agg CC), .val (.pointer (some ⟨db, 0, none⟩)), .val (.int .i64 0), .val (.bool true), .val (.bool true), .val (.pointer (some ⟨xb, 0, none⟩)), .val (.int .u64 (kind : Int)), .val (.bool true), .val (.bool true), .val (.bool true), .val (.pointer (some ⟨xb, 0, none⟩)), .val (.int .u64 (kind : Int)), .val (.bool true), .val (.bool true), .any, .val (.bool true)])
    (GQ W (fun k => k = rb) 14 (fun b w => At w rb 139 (if b = true then CC else #[.int .u64 0, .int .u64 0, .string ⟨#[]⟩])) [])
    (by kernel_rfl) (by kernel_rfl) (by kernel_rfl) (fun _ => undef) (GQ.start _ _ _ _ _ _ (hR6)) ?steps ?fin
  case steps =>
    show StepsTo _ _ _ _ _ _ 16
    refine ⟨⟨⟨⟨⟨⟨⟨⟨⟨⟨⟨⟨⟨⟨⟨⟨trivial, ?s0⟩, ?s1⟩, ?s2⟩, ?s3⟩, ?s4⟩, ?s5⟩, ?s6⟩, ?s7⟩, ?s8⟩, ?s9⟩, ?s10⟩, ?s11⟩, ?s12⟩, ?s13⟩, ?s14⟩, ?s15⟩
    case s0 =>
      refine sg_val (x := .agg CC) rfl rfl rfl (GQ.keep (j := 0) (by decide) rfl) fun γ L v a w st => ?_
      have f5 := st.far 5 (by kernel_rfl)
      simp at f5
      have hrg := (hA6.chg st.inv.chg (fun h => hrx h.symm)).range
      have hld := exec_load_mid (P := Tryz.prog) (x := .tmp 5) (o := { dst := some 18, op := .load 139 (.tmp 5), type := 139, pos := "", after := #[], guard := none }) rfl (show a.eval (.tmp 5) = _ by simpa [Act.eval] using f5) hrg Tryz.underlying139 rfl (by rw [Array.length_toList, hCs]; exact rec_info)
      rw [Array.toArray_toList] at hld
      exact hld
    case s1 =>
      refine sg_val (x := .pointer (some ⟨db, 0, none⟩)) rfl rfl rfl (GQ.keep (j := 1) (by decide) rfl) fun γ L v a w st => ?_
      have f4 := st.far 4 (by kernel_rfl)
      simp at f4
      go_simp
    case s2 =>
      refine sg_callv' (x := .int .i64 0) (f := 113) rfl rfl rfl fun γ L v a w st => ?_
      have e1 := st.val 1 19 rfl (by kernel_rfl)
      rw [show v 1 = _ from st.φ 1 (by kernel_rfl)] at e1
      simp at e1
      refine ⟨#[.pointer (some ⟨db, 0, none⟩)], by go_simp, ?_⟩
      refine Calls.mono (ddone_ok w db s (hD6.chg st.inv.chg (fun h => hrd h.symm))) ?_
      rintro e w' ⟨rfl, hE⟩
      exact ⟨rfl, st.inv.call hST hE (by decide) rfl st.off⟩
    case s3 =>
      refine sg_val (x := .bool true) rfl rfl rfl (GQ.keep (j := 3) (by decide) rfl) fun γ L v a w st => ?_
      have e2 := st.val 2 20 rfl (by kernel_rfl)
      rw [show v 2 = _ from st.φ 2 (by kernel_rfl)] at e2
      simp at e2
      go_simp
    case s4 =>
      refine sg_val (x := .bool true) rfl rfl rfl (GQ.keep (j := 4) (by decide) rfl) fun γ L v a w st => ?_
      have e3 := st.val 3 21 rfl (by kernel_rfl)
      rw [show v 3 = _ from st.φ 3 (by kernel_rfl)] at e3
      simp at e3
      go_simp
    case s5 =>
      refine sg_val_on (x := .pointer (some ⟨xb, 0, none⟩)) (on := 4) (t := 22) (b := true) rfl rfl (by kernel_rfl) rfl rfl rfl (GQ.keep (j := 5) (by decide) rfl) fun γ L v a w st => ?_
      have f5 := st.far 5 (by kernel_rfl)
      simp at f5
      have e4 := st.val 4 22 rfl (by kernel_rfl)
      rw [show v 4 = _ from st.φ 4 (by kernel_rfl)] at e4
      simp at e4
      go_simp
    case s6 =>
      refine sg_val_on (x := .int .u64 (kind : Int)) (on := 4) (t := 22) (b := true) rfl rfl (by kernel_rfl) rfl rfl rfl (GQ.keep (j := 6) (by decide) rfl) fun γ L v a w st => ?_
      have e5 := st.val 5 23 rfl (by kernel_rfl)
      rw [show v 5 = _ from st.φ 5 (by kernel_rfl)] at e5
      simp at e5
      have e4 := st.val 4 22 rfl (by kernel_rfl)
      rw [show v 4 = _ from st.φ 4 (by kernel_rfl)] at e4
      simp at e4
      have hcl := ((hA6.chg st.inv.chg (fun h => hrx h.symm)).cell 0).trans q0
      go_simp
    case s7 =>
      refine sg_val_on (x := .bool true) (on := 4) (t := 22) (b := true) rfl rfl (by kernel_rfl) rfl rfl rfl (GQ.keep (j := 7) (by decide) rfl) fun γ L v a w st => ?_
      have e6 := st.val 6 24 rfl (by kernel_rfl)
      rw [show v 6 = _ from st.φ 6 (by kernel_rfl)] at e6
      simp at e6
      have e4 := st.val 4 22 rfl (by kernel_rfl)
      rw [show v 4 = _ from st.φ 4 (by kernel_rfl)] at e4
      simp at e4
      go_simp
    case s8 =>
      refine sg_val (x := .bool true) rfl rfl rfl (GQ.keep (j := 8) (by decide) rfl) fun γ L v a w st => ?_
      have e4 := st.val 4 22 rfl (by kernel_rfl)
      rw [show v 4 = _ from st.φ 4 (by kernel_rfl)] at e4
      simp at e4
      have e7 := st.val 7 25 rfl (by kernel_rfl)
      rw [show v 7 = _ from st.φ 7 (by kernel_rfl)] at e7
      simp at e7
      go_simp
    case s9 =>
      refine sg_val (x := .bool true) rfl rfl rfl (GQ.keep (j := 9) (by decide) rfl) fun γ L v a w st => ?_
      have e8 := st.val 8 26 rfl (by kernel_rfl)
      rw [show v 8 = _ from st.φ 8 (by kernel_rfl)] at e8
      simp at e8
      go_simp
    case s10 =>
      refine sg_val_on (x := .pointer (some ⟨xb, 0, none⟩)) (on := 9) (t := 27) (b := true) rfl rfl (by kernel_rfl) rfl rfl rfl (GQ.keep (j := 10) (by decide) rfl) fun γ L v a w st => ?_
      have f5 := st.far 5 (by kernel_rfl)
      simp at f5
      have e9 := st.val 9 27 rfl (by kernel_rfl)
      rw [show v 9 = _ from st.φ 9 (by kernel_rfl)] at e9
      simp at e9
      go_simp
    case s11 =>
      refine sg_val_on (x := .int .u64 (kind : Int)) (on := 9) (t := 27) (b := true) rfl rfl (by kernel_rfl) rfl rfl rfl (GQ.keep (j := 11) (by decide) rfl) fun γ L v a w st => ?_
      have e10 := st.val 10 28 rfl (by kernel_rfl)
      rw [show v 10 = _ from st.φ 10 (by kernel_rfl)] at e10
      simp at e10
      have e9 := st.val 9 27 rfl (by kernel_rfl)
      rw [show v 9 = _ from st.φ 9 (by kernel_rfl)] at e9
      simp at e9
      have hcl := ((hA6.chg st.inv.chg (fun h => hrx h.symm)).cell 0).trans q0
      go_simp
    case s12 =>
      refine sg_val_on (x := .bool true) (on := 9) (t := 27) (b := true) rfl rfl (by kernel_rfl) rfl rfl rfl (GQ.keep (j := 12) (by decide) rfl) fun γ L v a w st => ?_
      have e11 := st.val 11 29 rfl (by kernel_rfl)
      rw [show v 11 = _ from st.φ 11 (by kernel_rfl)] at e11
      simp at e11
      have e9 := st.val 9 27 rfl (by kernel_rfl)
      rw [show v 9 = _ from st.φ 9 (by kernel_rfl)] at e9
      simp at e9
      go_simp
    case s13 =>
      refine sg_val (x := .bool true) rfl rfl rfl (GQ.keep (j := 13) (by decide) rfl) fun γ L v a w st => ?_
      have e9 := st.val 9 27 rfl (by kernel_rfl)
      rw [show v 9 = _ from st.φ 9 (by kernel_rfl)] at e9
      simp at e9
      have e12 := st.val 12 30 rfl (by kernel_rfl)
      rw [show v 12 = _ from st.φ 12 (by kernel_rfl)] at e12
      simp at e12
      go_simp
    case s14 =>
      refine sg_skip rfl rfl rfl fun γ L v a w st => ?_
      have e0 := st.val 0 18 rfl (by kernel_rfl)
      rw [show v 0 = _ from st.φ 0 (by kernel_rfl)] at e0
      simp at e0
      have f2 := st.far 2 (by kernel_rfl)
      simp at f2
      have hpw := st.inv.pw
      rw [st.off] at hpw
      simp only [Bool.false_eq_true, if_false] at hpw
      refine ⟨w.setCells rb 0 CC.toList, exec_store_mid (x := .tmp 2) (y := .tmp 18) (cells := CC) rfl (show a.eval (.tmp 2) = _ by simpa [Act.eval] using f2) (show a.eval (.tmp 18) = _ by simpa [Act.eval] using e0) (by rw [hCs]; exact hpw.there) (by rw [hCs]; exact rec_info) hC1, st.inv.write (Chg.setCells (Chg.refl (fun k => k = rb) w) rfl _ _) (by simp only [if_true]; exact At.cells_all (cs := CC) hpw (by rw [hCs]; rfl)) (by intro x hx; cases hx) rfl⟩
    case s15 =>
      refine sg_val (x := .bool true) rfl rfl rfl (GQ.keep (j := 15) (by decide) rfl) fun γ L v a w st => ?_
      have e13 := st.val 13 31 rfl (by kernel_rfl)
      rw [show v 13 = _ from st.φ 13 (by kernel_rfl)] at e13
      simp at e13
      go_simp
  case fin =>
    intro γ L v wr hall hG hφ
    have h15 : v 15 = (.bool true) := hφ 15 (by decide)
    have hAr := hG.pw
    rw [hall 14 (by decide)] at hAr
    have hEr := hE6.chg_trans hG.chg
    clear hall hφ hG
    change Exit.then _ _ _ (putAll _ v _ 16) wr
    simp only [putAll, dstOf, Act.put]
    simp only [List.getElem?_toArray, List.getElem?_cons_zero, List.getElem?_cons_succ, Option.bind_some, List.setIfInBounds_toArray, List.set_cons_zero, List.set_cons_succ]
    rw [h15]
    clear h15
    simp only [if_true] at hAr
    have hl := run_loadVar_mid (P := Tryz.prog) wr rb 0 139 CC.toList _ hAr.range Tryz.underlying139 rfl (by rw [Array.length_toList, hCs]; exact rec_info)
    rw [Array.toArray_toList] at hl
    go_wp2_with fail
    refine bodyPost_ret (v := .tuple #[.agg CC, .bool true]) (results_ct (Tryz.results73) _ rfl hl) rfl ?_
    rw [HCQ.out]
    exact ⟨rfl, hEr.mono fun k hk e => by omega⟩
end Go.Proofs.YtapodcmjggmgmaaGreatDoor
