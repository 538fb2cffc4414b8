/-
  The document's bytes (glacierref01): a number's.
  The document's bytes (glacierref01): a whole number's, a truth's, a text's, a list's.
-/
import Derived.Test.YtchnejfdompfpaaGreatL13F
namespace Go.Proofs.YtchnejfdompfpaaGreat
open Go.RowKit Go.Sort

/-- one byte as a text -/
theorem conv_one (w : World) (x : UInt8) : (convert 93 9 (.slice (some ⟨w.heap.size, 0, none⟩) 1 1)).run Tryz.prog (w.alloc (.cells #[U8 x] 5)) = .ok (.string ⟨#[x]⟩) (w.alloc (.cells #[U8 x] 5)) := by
  have hA := At.new w 5 #[U8 x]
  exact run_convert_bytes_back _ 93 9 5 ⟨w.heap.size, 0, none⟩ 1 [x] Tryz.underlying93 Tryz.underlying5 Tryz.underlying9 fun j hj => by
    obtain rfl : j = 0 := by simpa using hj
    exact hA.cell 0
theorem U8_lo (v : Nat) : U8 (UInt8.ofNat (v % 128)) = .int .u8 ((v : Int) % 128) := by
  unfold U8
  rw [UInt8.toNat_ofNat_of_lt' (by show _ < 256; omega)]
  congr 1
theorem U8_hi (v : Nat) : U8 (UInt8.ofNat (v % 128 + 128)) = .int .u8 (128 + (v : Int) % 128) := by
  unfold U8
  rw [UInt8.toNat_ofNat_of_lt' (by show _ < 256; omega)]
  congr 1
  omega
theorem conv_lo (w : World) (v : Nat) : (convert 93 9 (.slice (some ⟨w.heap.size, 0, none⟩) 1 1)).run Tryz.prog (w.alloc (.cells #[.int .u8 ((v : Int) % 128)] 5)) = .ok (.string ⟨#[UInt8.ofNat (v % 128)]⟩) (w.alloc (.cells #[.int .u8 ((v : Int) % 128)] 5)) := by
  have := conv_one w (UInt8.ofNat (v % 128))
  rw [U8_lo] at this
  exact this
theorem conv_hi (w : World) (v : Nat) : (convert 93 9 (.slice (some ⟨w.heap.size, 0, none⟩) 1 1)).run Tryz.prog (w.alloc (.cells #[.int .u8 (128 + (v : Int) % 128)] 5)) = .ok (.string ⟨#[UInt8.ofNat (v % 128 + 128)]⟩) (w.alloc (.cells #[.int .u8 (128 + (v : Int) % 128)] 5)) := by
  have := conv_one w (UInt8.ofNat (v % 128 + 128))
  rw [U8_hi] at this
  exact this
theorem ba_app (a b : List UInt8) : (⟨a.toArray⟩ : ByteArray) ++ ⟨b.toArray⟩ = ⟨(a ++ b).toArray⟩ := ByteArray.ext (by simp [ByteArray.data_append])
theorem ofNat_add_128 (n : Nat) : UInt8.ofNat (n + 128) = UInt8.ofNat n + 128 := UInt8.ofNat_add n 128
set_option maxRecDepth 100000 in
set_option maxHeartbeats 4000000 in
theorem ru_any (w : World) (v : Nat) (hv : v < 18446744073709551616) : Calls Tryz.prog 40 #[.int .u64 (v : Int)] w fun e w' => e = .returned (.string ⟨(uenc v).toArray⟩) ∧ Ext w w' := by
  go_enter Tryz.func40, Tryz.ntmps40
  go_upto_region 1 with fail
  have h0 := conv_lo w v
  go_upto_region 2 with fail
  clear h0
  have hE0 := (Ext.refl w).alloc (.cells #[.int .u8 ((v : Int) % 128)] 5)
  generalize w.alloc _ = W at hE0 ⊢
  obtain ⟨gsp, gsp2⟩ := ugroups_spec hv
  have hg9 := ugroups_le v
  have HG := Lib.hid (And.intro gsp gsp2)
  clear gsp gsp2
  go_upto_region 4 with fail
  go_loopw [0, 3, 4] (fun xv sv jv wr => ∃ j : Nat, j ≤ ugroups v ∧ xv = .int .u64 ((v / 128 ^ (j + 1) : Nat) : Int) ∧ sv = .string ⟨(uhi v j ++ [UInt8.ofNat (v % 128)]).toArray⟩ ∧ jv = .int .i64 (j : Int) ∧ Ext w wr) (fun _ _ jv _ => ugroups v - (intOf jv).toNat)
  case atStart => exact ⟨0, by omega, by simp, rfl, rfl, hE0⟩
  case round =>
    obtain ⟨j, hj, rfl, rfl, rfl, hE⟩ := hrel
    by_cases hlt : j < ugroups v
    · have hpos : 0 < v / 128 ^ (j + 1) := by
        refine Nat.div_pos ?_ (Nat.pow_pos (by omega))
        rcases HG.out.2 with e | e
        · omega
        · exact Nat.le_trans (Nat.pow_le_pow_right (by omega) (by omega)) e
      obtain ⟨n, hn⟩ : ∃ n, v / 128 ^ (j + 1) = n := ⟨_, rfl⟩
      have hdd : v / 128 ^ (j + 1 + 1) = n / 128 := by rw [Nat.pow_succ, ← Nat.div_div_eq_div_mul, hn]
      have HUH : Hid (uhi v (j + 1) = UInt8.ofNat (n % 128 + 128) :: uhi v j) := Lib.hid (by rw [uhi, hn])
      have HDD := Lib.hid hdd
      have hn64 : n < 18446744073709551616 := by rw [← hn]; exact Nat.lt_of_le_of_lt (Nat.div_le_self _ _) hv
      rw [hn] at hpos ⊢
      clear hn hdd
      have hj9 : j < 9 := by omega
      have h0 := conv_hi wr n
      go_wp2_with fail
      case roundEnd =>
        refine ⟨⟨j + 1, by omega, by rw [HDD.out]; simp, ?_, by simp, hE.alloc _⟩, by simp [intOf]; omega⟩
        rw [HUH.out, ofNat_add_128]
        exact congrArg Value.string (ba_app [_] _)
      case isTrue hbig =>
        rw [uhi_length] at hbig
        omega
    · obtain rfl : j = ugroups v := by omega
      have hz : v / 128 ^ (ugroups v + 1) = 0 := Nat.div_eq_of_lt HG.out.1
      rw [hz]
      by_cases h9 : ugroups v < 9
      · go_wp2_with fail
        go_ret
        exact ⟨rfl, hE⟩
      · go_wp2_with fail
        go_ret
        exact ⟨rfl, hE⟩
end Go.Proofs.YtchnejfdompfpaaGreat
namespace Go.Proofs.YtchnejfdompfpaaGreat
open Go.RowKit Go.Sort

set_option maxRecDepth 100000 in
set_option maxHeartbeats 1000000 in
theorem ri_any (w : World) (n : Int) (h : -9223372036854775808 ≤ n ∧ n ≤ 9223372036854775807) : Calls Tryz.prog 39 #[.int .i64 n] w fun e w' => e = .returned (.string ⟨(ienc n).toArray⟩) ∧ Ext w w' := by
  obtain ⟨m, hm⟩ : ∃ m : Nat, max n 0 = (m : Int) := ⟨(max n 0).toNat, by omega⟩
  have HM : Hid (ienc n = uenc m) := Lib.hid (by unfold ienc; rw [hm]; rfl)
  have HU := Lib.hid (ru_any w m (by omega))
  go_enter Tryz.func39, Tryz.ntmps39
  by_cases hn : 0 < n
  · have e : (m : Int) = n := by omega
    rw [e] at HU
    go_wp2_with fail
    refine HU.out.mono ?_
    rintro e w1 ⟨rfl, hE⟩
    go_wp2_with fail
    go_ret
    exact ⟨by rw [HM.out]; rfl, hE⟩
  · have e : (m : Int) = 0 := by omega
    rw [e] at HU
    go_wp2_with fail
    refine HU.out.mono ?_
    rintro e w1 ⟨rfl, hE⟩
    go_wp2_with fail
    go_ret
    exact ⟨by rw [HM.out]; rfl, hE⟩
set_option maxRecDepth 100000 in
theorem rb_any (w : World) (x : Bool) : Calls Tryz.prog 42 #[.bool x] w fun e w' => e = .returned (.string ⟨(benc x).toArray⟩) ∧ Ext w w' := by
  go_enter Tryz.func42, Tryz.ntmps42
  cases x
  · go_wp2_with fail
    go_ret
    exact ⟨rfl, Ext.refl _⟩
  · go_wp2_with fail
    go_ret
    exact ⟨rfl, Ext.refl _⟩
theorem ba_app2 (a : List UInt8) (s : ByteArray) : (⟨a.toArray⟩ : ByteArray) ++ s = ⟨(a ++ s.data.toList).toArray⟩ := ByteArray.ext (by simp [ByteArray.data_append])
theorem ienc_le (n : Int) : (ienc n).length ≤ 10 := ienc_length n
set_option maxRecDepth 100000 in
set_option maxHeartbeats 1000000 in
theorem rs_any (w : World) (s : ByteArray) (h : s.size ≤ 1000000000000) : Calls Tryz.prog 41 #[.string s] w fun e w' => e = .returned (.string ⟨(senc s).toArray⟩) ∧ Ext w w' := by
  have HI := Lib.hid (ri_any w (s.size : Int) (by omega))
  have hl := ienc_le (s.size : Int)
  go_enter Tryz.func41, Tryz.ntmps41
  go_wp2_with fail
  refine HI.out.mono ?_
  rintro e w1 ⟨rfl, hE⟩
  have hsz : ¬ 9223372036854775807 < (ienc (s.size : Int)).length + s.size := by omega
  go_wp2_with fail
  go_ret
  exact ⟨by unfold senc; rw [← ba_app2]; rfl, hE⟩
theorem ri_re (W : World) (n : Int) (h : -9223372036854775808 ≤ n ∧ n ≤ 9223372036854775807) (dd : Nat) (os : Array Obj) : Calls Tryz.prog 39 #[.int .i64 n] (grow (redrawn W dd) os) fun e w'' => e = .returned (.string ⟨(ienc n).toArray⟩) ∧ ∃ p : Regrown, w'' = grow (redrawn W p.d) p.os :=
  Calls.ext_of (ri_any _ n h)
theorem ru_re (W : World) (v : Nat) (h : v < 18446744073709551616) (dd : Nat) (os : Array Obj) : Calls Tryz.prog 40 #[.int .u64 (v : Int)] (grow (redrawn W dd) os) fun e w'' => e = .returned (.string ⟨(uenc v).toArray⟩) ∧ ∃ p : Regrown, w'' = grow (redrawn W p.d) p.os :=
  Calls.ext_of (ru_any _ v h)
theorem rb_re (W : World) (x : Bool) (dd : Nat) (os : Array Obj) : Calls Tryz.prog 42 #[.bool x] (grow (redrawn W dd) os) fun e w'' => e = .returned (.string ⟨(benc x).toArray⟩) ∧ ∃ p : Regrown, w'' = grow (redrawn W p.d) p.os :=
  Calls.ext_of (rb_any _ x)
theorem rs_re (W : World) (s : ByteArray) (h : s.size ≤ 1000000000000) (dd : Nat) (os : Array Obj) : Calls Tryz.prog 41 #[.string s] (grow (redrawn W dd) os) fun e w'' => e = .returned (.string ⟨(senc s).toArray⟩) ∧ ∃ p : Regrown, w'' = grow (redrawn W p.d) p.os :=
  Calls.ext_of (rs_any _ s h)
theorem flat_take {α β : Type} {l : List α} {k : Nat} {x : α} (h : l[k]? = some x) (f : α → List β) : (l.take (k + 1)).flatMap f = (l.take k).flatMap f ++ f x := by
  rw [List.take_add_one, h, List.flatMap_append]
  simp
set_option maxRecDepth 100000 in
set_option maxHeartbeats 2000000 in
theorem rl_any (w : World) (lv : Value) (l : List Int) (h : w.ownsRow 0 3 1 lv l.length (l.map (Value.int .i64))) (hl : l.length ≤ 1000000000) (hr : ∀ x ∈ l, -9223372036854775808 ≤ x ∧ x ≤ 9223372036854775807) :
    Calls Tryz.prog 43 #[lv] w fun e w' => e = .returned (.string ⟨(lenc l).toArray⟩) ∧ Ext w w' := by
  obtain ⟨A, c, rfl⟩ := own_slc h
  have HS := Lib.hid (own_sl h)
  have HR := Lib.hid hr
  clear h hr
  have HI := Lib.hid (ri_any w (l.length : Int) (by omega))
  have hil := ienc_le (l.length : Int)
  have HF := Lib.hid (iflat_length)
  go_enter Tryz.func43, Tryz.ntmps43
  go_wp2_with fail
  refine HI.out.mono ?_
  rintro e w1 ⟨rfl, hE⟩
  clear HI
  go_upto_region 3 with fail
  go_loopw [3, 11] (fun sv iv wr => ∃ k : Nat, k ≤ l.length ∧ sv = .string ⟨(ienc (l.length : Int) ++ (l.take k).flatMap ienc).toArray⟩ ∧ iv = .int .i64 (k : Int) ∧ Ext w wr) (fun _ iv _ => l.length - (intOf iv).toNat)
  case atStart => exact ⟨0, by omega, by simp, rfl, hE⟩
  case round =>
    clear hE
    obtain ⟨k, hk, rfl, rfl, hE⟩ := hrel
    by_cases hlt : k < l.length
    · obtain ⟨x, hx⟩ : ∃ x, l[k]? = some x := ⟨_, List.getElem?_eq_getElem hlt⟩
      obtain ⟨A', c', ha, hc⟩ := HS.out.ext hE
      have hne : l.map (Value.int .i64) ≠ [] := fun e => by rw [List.map_eq_nil_iff.1 e] at hlt; simp at hlt
      obtain ⟨g, o, rfl, hcc⟩ := hc hne
      injection ha with ha q1 q2
      clear q1 q2
      subst ha
      have c1 := hcc k (.int .i64 x) (by rw [List.getElem?_map, hx]; rfl)
      have hxr := HR.out x (List.mem_of_getElem? hx)
      have HFT := Lib.hid (flat_take hx ienc)
      have hxl := ienc_le x
      have htl : ((l.take k).flatMap ienc).length ≤ 10 * k := by
        have := HF.out (l.take k)
        rw [List.length_take] at this
        omega
      have HC := Lib.hid (ri_any wr x hxr)
      clear hc hcc hx hne
      generalize hP : ienc (l.length : Int) ++ (l.take k).flatMap ienc = PR
      have hpl : PR.length ≤ 10 + 10 * k := by rw [← hP, List.length_append]; omega
      go_wp2_with fail
      refine HC.out.mono ?_
      rintro e w2 ⟨rfl, hE2⟩
      have hsz : ¬ 9223372036854775807 < PR.length + (ienc x).length := by omega
      clear HC c1
      go_wp2_with fail
      exact ⟨⟨k + 1, by omega, by rw [HFT.out, ← List.append_assoc, hP]; exact congrArg Value.string (ba_app _ _), by simp, hE.trans hE2⟩, by simp [intOf]; omega⟩
    · obtain rfl : k = l.length := by omega
      go_wp2_with fail
      go_ret
      exact ⟨by rw [List.take_length]; rfl, hE⟩
theorem rl_re (W : World) (lv : Value) (l : List Int) (h : W.ownsRow 0 3 1 lv l.length (l.map (Value.int .i64))) (hl : l.length ≤ 1000000000) (hr : ∀ x ∈ l, -9223372036854775808 ≤ x ∧ x ≤ 9223372036854775807) (dd : Nat) (os : Array Obj) :
    Calls Tryz.prog 43 #[lv] (grow (redrawn W dd) os) fun e w'' => e = .returned (.string ⟨(lenc l).toArray⟩) ∧ ∃ p : Regrown, w'' = grow (redrawn W p.d) p.os :=
  Calls.ext_of (rl_any _ lv l (own_keep h (ext_regrown W dd os) (fun _ _ hh => hh)) hl hr)
end Go.Proofs.YtchnejfdompfpaaGreat
