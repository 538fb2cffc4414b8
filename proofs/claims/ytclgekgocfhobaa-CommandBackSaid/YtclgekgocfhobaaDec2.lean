/-
  Walks through wire's decoder: B, S, List, Done, From.
-/
import Derived.Test.YtclgekgocfhobaaDec
import Derived.Laws.AppendOwn
import Derived.Test.YtclgekgocfhobaaSlices
import Derived.Test.YtclgekgocfhobaaInfo
namespace Go.Proofs.Ytclgekgocfhobaa
open Go.RowKit

theorem Dc.next_le (d : Dc) : d.next.2.rest.length ≤ d.rest.length := by
  unfold Dc.next
  split
  · split
    · simp_all
    · simp_all
  · exact Nat.le_refl _

theorem ddone_any (w : World) (b : Nat) (s : ByteArray) (d : Dc) (h : DecAt w b s d) :
    Calls Try.prog 26 #[.pointer (some ⟨b, 0, none⟩)] w fun e w' => e = .returned (.int .i64 d.done.err) ∧ DecTo w w' b s d.done := by
  have cl := left_any w b s d h
  have cf := fun w1 h => fail_any w1 b s d h 3 (by decide)
  by_cases g : d.rest = []
  · have hfin : d.done = d := by unfold Dc.done; rw [if_pos g]
    rw [g] at cl
    rw [hfin]
    clear hfin g
    go_enter Try.func26, Try.ntmps26
    go_wp2_with fail
    refine cl.mono ?_
    rintro e w1 ⟨rfl, n, rfl⟩
    obtain ⟨h1, h2, h3, k, h4, h5, h6⟩ := h
    have c2 := h6.cell 2
    simp at c2
    go_wp2_with fail
    go_ret
    exact ⟨rfl, (Chg.refl _ _).drewN _, h1, h2, h3, k, h4, h5, h6.drewN _⟩
  · have hfin : d.done = d.fail 3 := by unfold Dc.done; rw [if_neg g]
    have hpos : 0 < d.rest.length := List.length_pos_iff.2 g
    rw [hfin]
    clear hfin g
    go_enter Try.func26, Try.ntmps26
    go_wp2_with fail
    refine cl.mono ?_
    rintro e w1 ⟨rfl, n, rfl⟩
    go_wp2_with fail
    refine (cf _ (h.drewN n)).mono ?_
    rintro e w2 ⟨rfl, hD2⟩
    have hD := hD2.2
    obtain ⟨h1, h2, h3, k, h4, h5, h6⟩ := hD
    have c2 := h6.cell 2
    simp at c2
    go_wp2_with fail
    go_ret
    exact ⟨rfl, ((Chg.refl (· = b) _).drewN n).trans hD2.1 (fun _ _ h => h), hD2.2⟩

theorem from_any (w : World) (s : ByteArray) (hs : s.size ≤ 140737488355328) :
    Calls Try.prog 20 #[.string s] w fun e w' => ∃ b, e = .returned (.pointer (some ⟨b, 0, none⟩)) ∧ w.heap.size ≤ b ∧ DecAt w' b s ⟨s.data.toList, 0⟩ ∧ Ext w w' := by
  go_enter Try.func20, Try.ntmps20
  go_wp2
  go_ret
  exact ⟨_, rfl, Nat.le_refl _, ⟨hs, Int.le_refl 0, by show (0 : Int) ≤ 17; decide, 0, by simp, by simp, At.new w _ _⟩, (Ext.refl w).alloc _⟩

theorem extract_take (s : ByteArray) (k n : Nat) : s.extract k (k + n) = ⟨((s.data.toList.drop k).take n).toArray⟩ := by
  have e : (s.extract k (k + n)).data = s.data.extract k (k + n) := by simp
  have e2 : s.extract k (k + n) = ⟨(s.extract k (k + n)).data⟩ := rfl
  rw [e2, e]
  congr 1
  apply Array.toList_inj.1
  simp
set_option maxHeartbeats 1000000 in
theorem ds_any (w : World) (b : Nat) (s : ByteArray) (d : Dc) (h : DecAt w b s d) (most : Int) (hm0 : 0 ≤ most) (hm : most ≤ 9223372036854775807) :
    Calls Try.prog 22 #[.pointer (some ⟨b, 0, none⟩), .int .i64 most] w fun e w' => e = .returned (.string ⟨(d.s most).1.toArray⟩) ∧ DecTo w w' b s (d.s most).2 := by
  have ci := di_any w b s d h most hm0 hm
  have hn : ((d.i most).1 : Int) ≤ most := by
    unfold Dc.i
    split
    · simpa using hm0
    · omega
  unfold Dc.s
  generalize d.i most = R at ci hn
  obtain ⟨n, D⟩ := R
  simp only at ci hn ⊢
  by_cases he : D.err = 0
  · rw [if_pos he]
    have t1 : (D.err == 0) = true := by simpa using he
    have t1' : (D.err != 0) = false := by simpa using he
    have cl := fun w1 h => left_any w1 b s D h
    by_cases g : D.rest.length < n
    · rw [if_pos g]
      have cf := fun w1 h => fail_any w1 b s D h 2 (by decide)
      have hf : D.fail 2 = { D with err := 2 } := by unfold Dc.fail; rw [if_pos he]
      rw [hf] at cf
      clear hf he
      have t2 : decide ((D.rest.length : Int) < (n : Int)) = true := by simp; omega
      go_enter Try.func22, Try.ntmps22
      go_wp2_with fail
      refine ci.mono ?_
      rintro e w1 ⟨rfl, hD1⟩
      have hD := hD1.2
      obtain ⟨h1, h2, h3, k, h4, h5, h6⟩ := hD
      have c2 := h6.cell 2
      simp at c2
      go_wp2_with fail
      refine (cl w1 hD1.2).mono ?_
      rintro e w2 ⟨rfl, m, rfl⟩
      go_wp2_with fail
      refine (cf _ (hD1.2.drewN m)).mono ?_
      rintro e w2 ⟨rfl, hD2⟩
      clear h6 c2
      have hD := hD2.2
      obtain ⟨_, _, _, k', _, _, h6⟩ := hD
      have c2 := h6.cell 2
      simp at c2
      go_wp2_with fail
      go_ret
      exact ⟨rfl, (hD1.1.drewN m).trans hD2.1 (fun _ _ h => h), hD2.2⟩
    · rw [if_neg g]
      have hle : n ≤ D.rest.length := by omega
      have t2 : decide ((D.rest.length : Int) < (n : Int)) = false := by simp; omega
      clear g
      go_enter Try.func22, Try.ntmps22
      go_wp2_with fail
      refine ci.mono ?_
      rintro e w1 ⟨rfl, hD1⟩
      have hD := hD1.2
      obtain ⟨h1, h2, h3, k, h4, h5, h6⟩ := hD
      have c2 := h6.cell 2
      have c1 := h6.cell 1
      have f1 := h6.frozen 1
      simp at c2 c1
      have hk0 : (k : Int) ≤ s.size := by omega
      have hkn : (k : Int) + n ≤ s.size := by omega
      have H4 := Lib.hid h4
      have H5 := Lib.hid h5
      have HE := Lib.hid he
      clear h4 h5 he
      go_wp2_with fail
      refine (cl w1 hD1.2).mono ?_
      rintro e w2 ⟨rfl, m, rfl⟩
      go_wp2_with fail
      have hB : At ((w1.drewN m).setCell ⟨b, 1, none⟩ (.int .i64 ((k : Int) + n))) b 66 #[.string s, .int .i64 ((k : Int) + n), .int .i64 D.err] := (h6.drewN _).set 1 _
      have hC : Chg (· = b) w1 ((w1.drewN m).setCell ⟨b, 1, none⟩ (.int .i64 ((k : Int) + n))) := ((Chg.refl (· = b) _).drewN _).setCell (.inl rfl) _
      generalize (w1.drewN m).setCell ⟨b, 1, none⟩ (.int .i64 ((k : Int) + n)) = W at hB hC ⊢
      clear c1 c2 f1 h6
      have c0 := hB.cell 0
      have c1 := hB.cell 1
      simp at c0 c1
      go_quiet (fail)
      go_wp2
      go_ret
      rw [extract_take, H5.out]
      refine ⟨rfl, (hD1.1.trans hC (fun _ _ h => h)).drewN _, h1, h2, h3, k + n, ?_, ?_, ?_⟩
      · have := H4.out
        simp only [List.length_drop]; omega
      · rw [← List.drop_drop, H5.out]
      · rw [show ((k + n : Nat) : Int) = (k : Int) + n from by omega]
        exact hB.drewN _
  · rw [if_neg he]
    have t1 : (D.err == 0) = false := by simpa using he
    have t1' : (D.err != 0) = true := by simpa using he
    go_enter Try.func22, Try.ntmps22
    go_wp2_with fail
    refine ci.mono ?_
    rintro e w1 ⟨rfl, hD1⟩
    have hD := hD1.2
    obtain ⟨h1, h2, h3, k, h4, h5, h6⟩ := hD
    have c2 := h6.cell 2
    simp at c2
    go_wp2_with fail
    go_ret
    exact ⟨rfl, hD1⟩

set_option maxHeartbeats 2000000 in
theorem dlist_any (w : World) (b : Nat) (s : ByteArray) (d : Dc) (h : DecAt w b s d) (most each : Int) (hm0 : 0 ≤ most) (hm : most ≤ 1048576) (he0 : 0 ≤ each) (he1 : each ≤ 9223372036854775807) :
    Calls Try.prog 24 #[.pointer (some ⟨b, 0, none⟩), .int .i64 most, .int .i64 each] w fun e w' => ∃ v, e = .returned v ∧
      w'.ownsRow w.heap.size 3 1 v (d.list most each).1.length ((d.list most each).1.map (Value.int .i64)) ∧ ((d.list most each).1 = [] → v = .slice none 0 0) ∧ DecTo w w' b s (d.list most each).2 := by
  have hb := h.lt
  have ci := di_any w b s d h most hm0 (by omega)
  have hn : ((d.i most).1 : Int) ≤ most := by
    unfold Dc.i
    split
    · simpa using hm0
    · omega
  unfold Dc.list
  generalize d.i most = R at ci hn
  obtain ⟨n, D⟩ := R
  simp only at ci hn ⊢
  generalize hL : listLoop each n D = L
  obtain ⟨i0, hi, hz0, hz1, hz2⟩ := info_parts int_info
  go_enter Try.func24, Try.ntmps24
  go_wp2_with fail
  refine ci.mono ?_
  rintro e w1 ⟨rfl, hD1⟩
  go_wp2_with fail
  go_loopw [7, 8] (fun lv nv wr => ∃ (k : Nat) (l : List Int) (D' : Dc), (k : Int) ≤ most ∧ (l.length : Int) + k ≤ most ∧ nv = .int .i64 (k : Int) ∧ wr.ownsRow w.heap.size 3 1 lv l.length (l.map (Value.int .i64)) ∧ (l = [] → lv = .slice none 0 0) ∧ DecTo w wr b s D' ∧
      L = (((listLoop each k D').1).map (l ++ ·), (listLoop each k D').2)) (fun _ nv _ => (intOf nv).toNat)
  case atStart =>
    refine ⟨n, [], D, hn, by simpa using hn, rfl, ⟨rfl, .inl ⟨rfl, rfl⟩⟩, fun _ => rfl, hD1, ?_⟩
    rw [hL]
    obtain ⟨o, E⟩ := L
    cases o <;> simp
  case round =>
    clear hL ci hD1
    obtain ⟨k, l, D', hk, hlk, rfl, hown, hnil, hD, hLk⟩ := hrel
    cases k with
    | zero =>
      have hfin : L = (some l, D') := by rw [hLk]; simp [listLoop]
      clear hLk
      have HF := Lib.hid hfin
      clear hfin
      go_wp2_with fail
      go_ret
      rw [HF.out]
      exact ⟨_, rfl, hown, hnil, hD⟩
    | succ k =>
      have cx := di_any _ b s D' hD.2 each he0 he1
      rw [listLoop] at hLk
      generalize D'.i each = X at cx hLk
      obtain ⟨x, D2⟩ := X
      simp only at cx hLk
      by_cases he : D2.err = 0
      · rw [if_pos he] at hLk
        have t1 : (D2.err == 0) = true := by simpa using he
        have t1' : (D2.err != 0) = false := by simpa using he
        have hstep : L = (((listLoop each k D2).1).map ((l ++ [(x : Int)]) ++ ·), (listLoop each k D2).2) := by
          rw [hLk]
          generalize listLoop each k D2 = Z
          obtain ⟨o, E⟩ := Z
          cases o <;> simp
        have HS := Lib.hid hstep
        clear hstep hLk he
        have hkk : (k : Int) + 1 ≤ most := by omega
        have hll : (l.length : Int) + 1 ≤ 1048576 := by omega
        go_wp2_with fail
        refine cx.mono ?_
        rintro e w2 ⟨rfl, hD2⟩
        have hD' := hD2.2
        obtain ⟨h1, h2, h3, k', h4, h5, h6⟩ := hD'
        have c2 := h6.cell 2
        simp at c2
        clear h4 h5
        have hown2 := own_chg hown hD2.1 (fun k h => by have : k = b := h; omega)
        have hT := hD.trans hD2
        have hsz := hT.1.size
        go_wp2_with (at_builtin; refine wpList_append_own _ rfl _ _ 24 rfl w.heap.size 3 i0 (.int .i64 0) 1 8 Try.underlying24 hi hz0 hz1 hz2 rfl (by decide) _ _ _ rfl (hown2.alloc _) ⟨w2.heap.size, 0, none⟩ 1 1 [.int .i64 (x : Int)] rfl rfl ?c1 ?c2 ?c3 ?c4 ?c5 ?_)
        case c1 =>
          intro j u hu
          cases j with
          | zero =>
            simp only [List.getElem?_cons_zero, Option.some.injEq] at hu
            subst hu
            exact (At.new w2 3 #[.int .i64 (x : Int)]).cell 0
          | succ j => simp at hu
        case c2 => simp [Value.oneCell']
        case c3 => unfold maxLen; omega
        case c4 => omega
        case c5 => simp; omega
        intro v' w3 hown3 hgrow _
        have hge := own_ge (hown2.alloc (.cells #[.int .i64 (x : Int)] 3))
        have hG := Chg.of_grown hgrow
        have hT3 : DecTo w w3 b s D2 := by
          refine ⟨(hT.1.alloc _).trans hG (fun k hk h => absurd (hge k h) (by omega)), ?_⟩
          exact (hT.2.alloc _).chg hG (fun h => absurd (hge b h) (by omega))
        clear hG hgrow hge hT hD2 h6 c2 hown2
        go_wp2
        go_roundw
        case rel =>
          exact ⟨k, l ++ [(x : Int)], D2, by omega, by simp; omega, by go_num, by simpa using hown3, fun h => by simp at h, hT3, HS.out⟩
        case measure => simp [intOf]
      · rw [if_neg he] at hLk
        have t1 : (D2.err == 0) = false := by simpa using he
        have t1' : (D2.err != 0) = true := by simpa using he
        have hfin : L = (none, D2) := by rw [hLk]; rfl
        have HF := Lib.hid hfin
        clear hfin hLk he
        go_wp2_with fail
        refine cx.mono ?_
        rintro e w2 ⟨rfl, hD2⟩
        have hD' := hD2.2
        obtain ⟨h1, h2, h3, k', h4, h5, h6⟩ := hD'
        have c2 := h6.cell 2
        simp at c2
        clear h4 h5
        go_wp2_with fail
        go_ret
        rw [HF.out]
        exact ⟨_, rfl, ⟨rfl, .inl ⟨rfl, rfl⟩⟩, fun _ => rfl, hD.trans hD2⟩
end Go.Proofs.Ytclgekgocfhobaa
