/-
  Walks through wire's encoder: S, List, Bytes.
-/
import Derived.Test.YtchnejfdompfpaaEnc
import Derived.Lib.AppendStr
import Derived.Laws.IdiomStrings
import Derived.Laws.BytesArg
namespace Go.Proofs.Ytchnejfdompfpaa
open Go.RowKit

theorem ienc_length (n : Int) : (ienc n).length ≤ 10 := uenc_length _
theorem iflat_length (l : List Int) : (l.flatMap ienc).length ≤ 10 * l.length := by
  induction l with
  | nil => simp
  | cons n r ih => have := ienc_length n; simp only [List.flatMap_cons, List.length_append, List.length_cons]; omega

section
variable (w : World) (base e : Nat) (bs : List UInt8)
set_option maxRecDepth 100000 in
theorem bytes_any (h : EncAt w base e bs) :
    Calls Try.prog 39 #[.pointer (some ⟨e, 0, none⟩)] w fun r w' => r = .returned (.string ⟨bs.toArray⟩) ∧ w' = w := by
  obtain ⟨hb, v, hv, hown⟩ := h
  have d0 : w.cell? ⟨e, 0, none⟩ = some v := hv.cell 0
  obtain ⟨A, m, c, rfl⟩ := own_slice hown
  have hrun : (convert 82 9 (.slice A m c)).run Try.prog w = .ok (.string ⟨bs.toArray⟩) w := by
    rcases hown.2 with ⟨h1, h2⟩ | ⟨g, cap, cur, h1, _⟩
    · injection h1 with q1 q2 q3
      subst q1
      rw [run_convert_bytes_nil w 82 5 Try.underlying82 Try.underlying5 _ c 9 Try.underlying9]
      rw [List.eq_nil_of_length_eq_zero h2]; rfl
    · injection h1 with q1 q2 q3
      subst q1 q2 q3
      refine run_convert_bytes_back w 82 9 5 ⟨g, 0, none⟩ _ bs Try.underlying82 Try.underlying5 Try.underlying9 fun j hj => ?_
      have := hown.cells (g := g) rfl j (U8 bs[j]) (by rw [List.getElem?_map, List.getElem?_eq_getElem hj]; rfl)
      exact this
  clear hown
  go_enter Try.func39, Try.ntmps39
  go_wp2
  go_ret
  exact ⟨rfl, rfl⟩

theorem elist_any (h : EncAt w base e bs) (vv : Value) (vs : List Int) (hS : SlE w base vv (vs.map (Value.int .i64))) (hv : ∀ n ∈ vs, -9223372036854775808 ≤ n ∧ n ≤ 9223372036854775807) (hl : vs.length ≤ 1048576) (hbs : bs.length + 10 * vs.length + 20 ≤ 1099511627776) :
    Calls Try.prog 38 #[.pointer (some ⟨e, 0, none⟩), vv] w fun r w' => r = .returned (.pointer (some ⟨e, 0, none⟩)) ∧ EncTo w w' base e (bs ++ lenc vs) := by
  have hS0 := hS
  obtain ⟨A, c, rfl, hx⟩ := hS.1
  rw [List.length_map]
  have hl0 : (vs.length : Int) ≤ 1048576 := by omega
  clear hx hS
  go_enter Try.func38, Try.ntmps38
  go_wp2_with fail
  refine (ei_any _ base e bs (h.alloc _) _ [(vs.length : Int)] ?_ ?_ (by simp) (by simp; omega)).mono ?_
  · exact SlE.new (t := 3) (cs := #[.int .i64 (vs.length : Int)]) w base (by decide)
  · intro n hn; rw [List.mem_singleton] at hn; omega
  rintro r w1 ⟨rfl, hT1⟩
  go_wp2_with fail
  refine (ei_any _ base e _ hT1.2 _ vs ?_ hv hl (by have := iflat_length [(vs.length : Int)]; simp at this ⊢; omega)).mono ?_
  · have := (hS0.ext ((Ext.refl w).alloc (.cells #[.int .i64 (vs.length : Int)] 3))).chg hT1.1
    rw [List.length_map] at this
    exact this
  rintro r w2 ⟨rfl, hT2⟩
  go_wp2_with fail
  go_ret
  refine ⟨rfl, ((EncChg.ext ((Ext.refl w).alloc _)).trans hT1.1).trans hT2.1, ?_⟩
  have := hT2.2
  rw [List.append_assoc] at this
  simpa [lenc] using this

set_option maxRecDepth 100000 in
set_option maxHeartbeats 1000000 in
theorem es_any (h : EncAt w base e bs) (vv : Value) (vs : List ByteArray) (hS : SlE w base vv (vs.map Value.string)) (hv : ∀ n ∈ vs, n.size ≤ 1048576) (hl : vs.length ≤ 131072) (hbs : bs.length + 1048600 * vs.length ≤ 1099511627776) :
    Calls Try.prog 36 #[.pointer (some ⟨e, 0, none⟩), vv] w fun r w' => r = .returned (.pointer (some ⟨e, 0, none⟩)) ∧ EncTo w w' base e (bs ++ vs.flatMap senc) := by
  have hS0 := hS
  obtain ⟨A, c, rfl, hx⟩ := hS.1
  rw [List.length_map]
  have hl0 : (vs.length : Int) ≤ 1048576 := by omega
  obtain ⟨i0, hi, hz0, hz1, hz2⟩ := info_parts u8_info
  go_enter Try.func36, Try.ntmps36
  go_wp2_with fail
  go_loopw [9] (fun iv wr => ∃ k : Nat, k ≤ vs.length ∧ iv = .int .i64 (k : Int) ∧ EncTo w wr base e (bs ++ (vs.take k).flatMap senc)) (fun iv _ => vs.length - (intOf iv).toNat)
  case atStart => exact ⟨0, Nat.zero_le _, rfl, EncChg.refl _ _, by simpa using h⟩
  case round =>
    obtain ⟨k, hk, rfl, hT⟩ := hrel
    by_cases hlt : k < vs.length
    · have hSr := (hS0.chg hT.1).1
      obtain ⟨A', c', hv', hx'⟩ := hSr
      injection hv' with q1 q2 q3
      subst q1 q3
      obtain ⟨b, o, rfl, hcell⟩ := hx' (by intro e; rw [List.map_eq_nil_iff] at e; subst e; simp at hlt)
      have r0 : wr.cell? ⟨b, o + k, none⟩ = some (.string vs[k]) := hcell k _ (by rw [List.getElem?_map, List.getElem?_eq_getElem hlt]; rfl)
      have hvk := hv _ (List.getElem_mem hlt)
      have htk : bs ++ (vs.take (k + 1)).flatMap senc = ((bs ++ (vs.take k).flatMap senc) ++ [(vs[k].size : Int)].flatMap ienc) ++ vs[k].data.toList := by
        rw [List.take_succ_eq_append_getElem hlt, List.flatMap_append, List.append_assoc, List.append_assoc]; simp [senc]
      have hlen : (bs ++ (vs.take k).flatMap senc).length + 1048600 ≤ 1099511627776 := by
        have h1 : ∀ l : List ByteArray, (∀ n ∈ l, n.size ≤ 1048576) → (l.flatMap senc).length ≤ 1048600 * l.length := by
          intro l
          induction l with
          | nil => simp
          | cons n r ih =>
            intro hh
            have h2 := ienc_length n.size
            have h3 := ih fun m hm => hh m (List.mem_cons_of_mem _ hm)
            have h4 := hh n (List.mem_cons_self ..)
            have h5 : n.data.toList.length = n.size := by simp
            simp only [List.flatMap_cons, List.length_append, List.length_cons, senc, h5] at h3 ⊢; omega
        have h2 := h1 (vs.take k) fun n hn => hv n (List.mem_of_mem_take hn)
        have h3 : (vs.take k).length ≤ k := List.length_take_le _ _
        simp only [List.length_append]; omega
      generalize vs[k] = s at r0 hvk htk
      generalize bs ++ (vs.take k).flatMap senc = pre at htk hT hlen
      have hl2 := ienc_length s.size
      have HTK := Lib.hid htk
      clear hx hx' q2 hcell htk
      go_wp2_with fail
      refine (ei_any _ base e pre (hT.2.alloc _) _ [(s.size : Int)] ?_ ?_ (by simp) (by simp; omega)).mono ?_
      · exact SlE.new (t := 3) (cs := #[.int .i64 (s.size : Int)]) wr base (by decide)
      · intro n hn; rw [List.mem_singleton] at hn; omega
      rintro r w1 ⟨rfl, hT1⟩
      have hTT : EncTo w w1 base e (pre ++ [(s.size : Int)].flatMap ienc) := ⟨(hT.1.alloc _).trans hT1.1, hT1.2⟩
      clear hT1 hT
      generalize hout : pre ++ [(s.size : Int)].flatMap ienc = out at hTT HTK
      have hol : out.length ≤ pre.length + 10 := by rw [← hout]; simp; omega
      clear hout
      obtain ⟨he, lv, hlv, hown⟩ := hTT.2
      have d0 : w1.cell? ⟨e, 0, none⟩ = some lv := hlv.cell 0
      have df : w1.frozen? ⟨e, 0, none⟩ = false := hlv.frozen 0
      have hlt' := hlv.lt
      go_wp2_with (at_builtin; go_loud (refine Lib.wpList_append_own_string _ rfl _ _ 82 9 rfl base 5 i0 Try.underlying82 Try.underlying9 hi hz0 hz1 hz2 _ _ _ rfl hown s rfl ?c3 ?c4 ?c5 ?_))
      case c3 => unfold maxLen; omega
      case c4 => omega
      case c5 => omega
      intro v1 w2 hown1 hgrow1 _
      obtain ⟨A1, n1, c1, rfl⟩ := own_slice hown1
      have hlv1 := enc_grown hlv hown (Ext.refl _) hgrow1
      have d1 := hlv1.cell 0
      have f1 := hlv1.frozen 0
      have hT2 := enc_store (out' := out ++ s.data.toList) hTT hlv hown (Ext.refl _) hgrow1 hown1 (by rw [List.map_append]; congr 1) (by simp)
      go_wp2_with fail
      go_roundw
      case rel => exact ⟨k + 1, by omega, by go_num, by rw [HTK.out]; exact hT2⟩
      case measure => simp [intOf]; omega
    · have hge : vs.length ≤ k := by omega
      go_wp2_with fail
      go_ret
      rw [List.take_of_length_le (by omega)] at hT
      exact ⟨rfl, hT⟩
end
end Go.Proofs.Ytchnejfdompfpaa
