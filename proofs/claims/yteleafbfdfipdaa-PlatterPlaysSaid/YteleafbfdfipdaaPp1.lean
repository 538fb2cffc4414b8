/-
  The document's disk (glacierref04): where it lies; Find, Used, Safe.
-/
import Derived.Test.YteleafbfdfipdaaSafe
import Derived.Test.YteleafbfdfipdaaRemove
import Derived.Test.YteleafbfdfipdaaSlices
import Derived.Test.YteleafbfdfipdaaMid
namespace Go.Proofs.Yteleafbfdfipdaa
open Go.RowKit Go.Sort

theorem At.loadv {P : Program} {w : World} {g : Nat} {t : TypeId} {cs : Array Value} (h : At w g t cs) {d : TypeDesc} (hu : P.underlying t = some d) (hd : d.isRow = true) (hi : (P.info? t).map (·.size) = some cs.size) :
    (loadVar t ⟨g, 0, none⟩).run P w = .ok (.agg cs) w := by
  have := run_loadVar_mid (P := P) w g 0 t cs.toList d h.range hu hd (by rw [hi, Array.length_toList])
  rwa [Array.toArray_toList] at this
theorem ext_anew {w : World} {g : Nat} (hg : w.heap.size ≤ g) : ∀ (vs : List Value) (k : Nat) (w' : World), Ext w w' → Ext w (setAll w' g k vs)
  | [], _, _, h => h
  | v :: r, k, _w, h => ext_anew hg r (k + 1) _ (Chg.setCell h (.inr hg) v)
theorem at_anew {w : World} {g : Nat} {t : TypeId} {cs : Array Value} (h : At w g t cs) {vs : Array Value} (hs : cs.size = vs.size) : At (setAll w g 0 vs.toList) g t vs := by
  have := h.setAll (vs := vs.toList) (k := 0) (by rw [Array.length_toList]; omega)
  simpa using this
abbrev FRow := ByteArray × Fl
/-- a file's cells -/
def frow (p : FRow) : List Value := [.string p.1, .bool p.2.nt, .string p.2.nx, .bool p.2.st, .string p.2.sx]
abbrev fcells (n : ByteArray) (f : Fl) : Array Value := #[.string n, .bool f.nt, .string f.nx, .bool f.st, .string f.sx]
def RkIn (w : World) (lv : Value) (L : List FRow) : Prop := Sln w lv 5 (L.map frow)
theorem RkIn.ext {w w' : World} {lv : Value} {L : List FRow} (h : RkIn w lv L) (hE : Ext w w') : RkIn w' lv L := Sln.ext h hE
def getF (n : ByteArray) (L : List FRow) : Fl := (lget n L).getD Fl.zero
theorem getF_get (D : Dk) (n : ByteArray) : getF n D.files = D.get n := rfl
theorem rk_slice {w : World} {v : Value} {L : List FRow} (h : RkIn w v L) : ∃ A c, v = .slice A L.length c := by
  obtain ⟨A, c, hv, _⟩ := h; exact ⟨A, c, by rw [hv, List.length_map]⟩
theorem rk_some {w : World} {A : Option Addr} {n c : Nat} {L : List FRow} (h : RkIn w (.slice A n c) L) (hl : L ≠ []) : ∃ b o, A = some ⟨b, o, none⟩ := by
  obtain ⟨A', c', hv, hx⟩ := h
  simp only [Value.slice.injEq] at hv
  obtain ⟨b, o, rfl, _⟩ := hx (fun e => hl (List.map_eq_nil_iff.1 e))
  exact ⟨b, o, hv.1⟩
theorem rk_cells {w : World} {b o n c : Nat} {L : List FRow} (h : RkIn w (.slice (some ⟨b, o, none⟩) n c) L) {i : Nat} {x : ByteArray} {f : Fl} (hi : L[i]? = some (x, f)) :
    w.cell? ⟨b, o + i * 5, none⟩ = some (.string x) ∧ w.cell? ⟨b, o + i * 5 + 1, none⟩ = some (.bool f.nt) ∧ w.cell? ⟨b, o + i * 5 + 2, none⟩ = some (.string f.nx) ∧ w.cell? ⟨b, o + i * 5 + 3, none⟩ = some (.bool f.st) ∧ w.cell? ⟨b, o + i * 5 + 4, none⟩ = some (.string f.sx) := by
  obtain ⟨A, c', hv, hx⟩ := h
  have hg : (L.map frow)[i]? = some (frow (x, f)) := by rw [List.getElem?_map, hi]; rfl
  have hne : L.map frow ≠ [] := fun e => by rw [e] at hg; simp at hg
  obtain ⟨b', o', rfl, hc⟩ := hx hne
  simp only [Value.slice.injEq, Option.some.injEq, Addr.mk.injEq, and_true] at hv
  obtain ⟨⟨rfl, rfl⟩, _, _⟩ := hv
  exact ⟨hc i _ hg 0 _ rfl, hc i _ hg 1 _ rfl, hc i _ hg 2 _ rfl, hc i _ hg 3 _ rfl, hc i _ hg 4 _ rfl⟩
theorem drop_some {α : Type} {l : List α} {k : Nat} {x : α} (h : l[k]? = some x) : l.drop k = x :: l.drop (k + 1) := by
  obtain ⟨h1, h2⟩ := List.getElem?_eq_some_iff.1 h
  rw [List.drop_eq_getElem_cons h1, h2]
theorem getF_cons (n x : ByteArray) (f : Fl) (r : List FRow) : getF n ((x, f) :: r) = if x = n then f else getF n r := by
  unfold getF; rw [lget_cons]; split <;> rfl
theorem getF_nil (n : ByteArray) : getF n [] = Fl.zero := rfl

set_option maxRecDepth 100000 in
set_option maxHeartbeats 1000000 in
theorem rfind_any (w : World) (lv : Value) (room fail : Int) (lost : Bool) (L : List FRow) (h : RkIn w lv L) (n : ByteArray) (hl : L.length ≤ 1000000) :
    Calls Try.prog 19 #[.agg #[lv, .int .i64 room, .bool lost, .int .i64 fail], .string n] w fun e w' => e = .returned (.agg (fcells n (getF n L))) ∧ Ext w w' := by
  obtain ⟨A, c, rfl⟩ := rk_slice h
  go_enter Try.func19, Try.ntmps19
  go_wp2_with fail
  have hE : Ext w ((w.alloc (.cells #[.slice A L.length c, .int .i64 room, .bool lost, .int .i64 fail] 29)).alloc (.cells #[.string ⟨#[]⟩, .bool false, .string ⟨#[]⟩, .bool false, .string ⟨#[]⟩] 60)) := ((Ext.refl w).alloc _).alloc _
  have hZ : At ((w.alloc (.cells #[.slice A L.length c, .int .i64 room, .bool lost, .int .i64 fail] 29)).alloc (.cells #[.string ⟨#[]⟩, .bool false, .string ⟨#[]⟩, .bool false, .string ⟨#[]⟩] 60)) (w.heap.size + 1) 60 #[.string ⟨#[]⟩, .bool false, .string ⟨#[]⟩, .bool false, .string ⟨#[]⟩] := At.new_eq (by simp) _ _
  have hzn : w.heap.size ≤ w.heap.size + 1 := by omega
  generalize (w.alloc _).alloc _ = W at hE hZ ⊢
  generalize w.heap.size + 1 = zb at hZ hzn ⊢
  generalize w.heap.size = yb
  replace h := h.ext hE
  go_loopw [10] (fun kv wr => ∃ k : Nat, kv = .int .i64 (k : Int) ∧ k ≤ L.length ∧ getF n L = getF n (L.drop k) ∧ RkIn wr (.slice A L.length c) L ∧ At wr zb 60 #[.string ⟨#[]⟩, .bool false, .string ⟨#[]⟩, .bool false, .string ⟨#[]⟩] ∧ Ext w wr) (fun kv _ => L.length - (intOf kv).toNat)
  case atStart => exact ⟨0, rfl, Nat.zero_le _, rfl, h, hZ, hE⟩
  case round =>
    clear h hE hZ
    obtain ⟨k, rfl, hk, hpl, h, hZ, hE⟩ := hrel
    by_cases hlt : k < L.length
    · obtain ⟨⟨x, f⟩, hb⟩ : ∃ q, L[k]? = some q := ⟨_, List.getElem?_eq_getElem hlt⟩
      rw [drop_some hb, getF_cons] at hpl
      have HPL := Lib.hid hpl
      obtain ⟨rb, ro, rfl⟩ := rk_some h (fun e => by rw [e] at hb; simp at hb)
      obtain ⟨r0, r1, r2, r3, r4⟩ := rk_cells h hb
      have hzl := hZ.lt
      have z0 := hZ.cell 0
      clear hpl hb
      have hEx := (Ext.refl wr).alloc (.cells (fcells x f) 60)
      have hX := At.new wr 60 (fcells x f)
      go_upto_region 4 with fail
      clear r0 r1 r2 r3 r4 z0
      generalize wr.heap.size = xb at hX ⊢
      generalize wr.alloc (.cells (fcells x f) 60) = W1 at hX hEx ⊢
      replace h := h.ext hEx
      replace hE := hE.trans hEx
      replace hZ := hZ.ext hEx
      clear hEx hzl
      have x0 := hX.cell 0
      simp at x0
      by_cases hx : x = n
      · subst hx
        rw [if_pos rfl] at HPL
        have x1 := hX.cell 1
        have x2 := hX.cell 2
        have x3 := hX.cell 3
        have x4 := hX.cell 4
        simp at x1 x2 x3 x4
        have z0 := hZ.cell 0
        have z1 := hZ.cell 1
        have z2 := hZ.cell 2
        have z3 := hZ.cell 3
        have z4 := hZ.cell 4
        have y0 := hZ.frozen 0
        have y1 := hZ.frozen 1
        have y2 := hZ.frozen 2
        have y3 := hZ.frozen 3
        have y4 := hZ.frozen 4
        simp at z0 z1 z2 z3 z4
        have hzl := hZ.lt
        go_wp2_with fail
        have hZ2 := at_anew hZ (vs := fcells x f) rfl
        refine bodyPost_ret (v := .agg (fcells x f)) (results_one Try.results19 _ rfl (hZ2.loadv Try.underlying60 rfl (by kernel_rfl))) rfl ?_
        exact ⟨by rw [HPL.out], ext_anew hzn (fcells x f).toList 0 _ hE⟩
      · have hxl : (x.toList == n.toList) = false := by
          rw [beq_eq_false_iff_ne]
          exact fun e => hx (toList_inj.1 e)
        rw [if_neg hx] at HPL
        clear hx
        go_wp2_with fail
        go_roundw
        case rel => exact ⟨k + 1, by go_num, by omega, HPL.out, h, hZ, hE⟩
        case measure => simp [intOf]; omega
    · obtain rfl : k = L.length := by omega
      rw [List.drop_length, getF_nil] at hpl
      have HPL := Lib.hid hpl
      have z0 := hZ.cell 0
      have z1 := hZ.cell 1
      have z2 := hZ.cell 2
      have z3 := hZ.cell 3
      have z4 := hZ.cell 4
      have y0 := hZ.frozen 0
      have y1 := hZ.frozen 1
      have y2 := hZ.frozen 2
      have y3 := hZ.frozen 3
      have y4 := hZ.frozen 4
      simp at z0 z1 z2 z3 z4
      have hzl := hZ.lt
      clear hpl
      go_wp2_with fail
      have hZ2 := at_anew hZ (vs := fcells n Fl.zero) rfl
      refine bodyPost_ret (v := .agg (fcells n Fl.zero)) (results_one Try.results19 _ rfl (hZ2.loadv Try.underlying60 rfl (by kernel_rfl))) rfl ?_
      exact ⟨by rw [HPL.out], ext_anew hzn (fcells n Fl.zero).toList 0 _ hE⟩

def usedL (L : List FRow) : Int := (L.map fun p => wt p.2.nx p.2.sx).sum
theorem usedL_nil : usedL [] = 0 := rfl
theorem usedL_cons (p : FRow) (r : List FRow) : usedL (p :: r) = wt p.2.nx p.2.sx + usedL r := by unfold usedL; rw [List.map_cons, List.sum_cons]
theorem usedL_bound {L : List FRow} {B : Nat} (h : ∀ p ∈ L, p.2.nx.size ≤ B ∧ p.2.sx.size ≤ B) : 0 ≤ usedL L ∧ usedL L ≤ (L.length * B : Nat) := by
  induction L with
  | nil => simp [usedL]
  | cons p r ih =>
    have h1 := h p (List.mem_cons_self ..)
    have h2 := ih (fun q hq => h q (List.mem_cons_of_mem _ hq))
    rw [usedL_cons, List.length_cons, Nat.add_mul]
    unfold wt
    omega
theorem usedL_take {L : List FRow} {k : Nat} {x : ByteArray} {f : Fl} (h : L[k]? = some (x, f)) : usedL (L.take (k + 1)) = usedL (L.take k) + max (f.nx.size : Int) (f.sx.size : Int) := by
  unfold usedL
  rw [List.take_add_one, h]
  simp [wt]

set_option maxRecDepth 100000 in
set_option maxHeartbeats 1000000 in
theorem rused_any (w : World) (lv : Value) (room fail : Int) (lost : Bool) (L : List FRow) (h : RkIn w lv L) (hl : L.length ≤ 1000000) (hs : ∀ p ∈ L, p.2.nx.size ≤ 1000000 ∧ p.2.sx.size ≤ 1000000) :
    Calls Try.prog 9 #[.agg #[lv, .int .i64 room, .bool lost, .int .i64 fail]] w fun e w' => e = .returned (.int .i64 (usedL L)) ∧ Ext w w' := by
  obtain ⟨A, c, rfl⟩ := rk_slice h
  have HS := Lib.hid hs
  clear hs
  go_enter Try.func9, Try.ntmps9
  go_wp2_with fail
  have hE : Ext w (w.alloc (.cells #[.slice A L.length c, .int .i64 room, .bool lost, .int .i64 fail] 29)) := (Ext.refl w).alloc _
  generalize w.alloc _ = W at hE ⊢
  generalize w.heap.size = yb
  replace h := h.ext hE
  go_loopw [3, 9] (fun av kv wr => ∃ k : Nat, kv = .int .i64 (k : Int) ∧ av = .int .i64 (usedL (L.take k)) ∧ k ≤ L.length ∧ RkIn wr (.slice A L.length c) L ∧ Ext w wr) (fun _ kv _ => L.length - (intOf kv).toNat)
  case atStart => exact ⟨0, rfl, rfl, Nat.zero_le _, h, hE⟩
  case round =>
    clear h hE
    obtain ⟨k, rfl, rfl, hk, h, hE⟩ := hrel
    by_cases hlt : k < L.length
    · obtain ⟨⟨x, f⟩, hb⟩ : ∃ q, L[k]? = some q := ⟨_, List.getElem?_eq_getElem hlt⟩
      obtain ⟨rb, ro, rfl⟩ := rk_some h (fun e => by rw [e] at hb; simp at hb)
      obtain ⟨r0, r1, r2, r3, r4⟩ := rk_cells h hb
      have hz := HS.out _ (List.mem_of_getElem? hb)
      have hu := usedL_bound (B := 1000000) (L := L.take k) (fun p hp => HS.out p (List.mem_of_mem_take hp))
      rw [List.length_take, Nat.min_eq_left hk] at hu
      have HT := Lib.hid (usedL_take hb)
      have hEx := (Ext.refl wr).alloc (.cells (fcells x f) 60)
      have hX := At.new wr 60 (fcells x f)
      clear hb
      simp only at hz
      generalize usedL (L.take k) = u at hu HT ⊢
      obtain ⟨z1, z2⟩ := hz
      obtain ⟨u1, u2⟩ := hu
      have u3 : u ≤ 1000000000000 := by omega
      clear u2
      go_upto_region 5 with fail
      clear r0 r1 r2 r3 r4
      generalize wr.heap.size = xb at hX ⊢
      generalize wr.alloc (.cells (fcells x f) 60) = W1 at hX hEx ⊢
      replace h := h.ext hEx
      replace hE := hE.trans hEx
      clear hEx
      have x2 := hX.cell 2
      have x4 := hX.cell 4
      simp at x2 x4
      go_wp2_with fail
      go_roundw
      case rel => exact ⟨k + 1, by go_num, by rw [HT.out], by omega, h, hE⟩
      case measure => simp [intOf]; omega
    · obtain rfl : k = L.length := by omega
      go_wp2_with fail
      go_ret
      exact ⟨by rw [List.take_length]; rfl, hE⟩

def safeL (L : List FRow) : Bool := L.all fun p => p.2.safe
theorem safeL_cons (x : ByteArray) (f : Fl) (r : List FRow) : safeL ((x, f) :: r) = (f.safe && safeL r) := rfl
set_option maxRecDepth 100000 in
set_option maxHeartbeats 1000000 in
theorem rsafe_any (w : World) (lv : Value) (room fail : Int) (lost : Bool) (L : List FRow) (h : RkIn w lv L) (hl : L.length ≤ 1000000) :
    Calls Try.prog 11 #[.agg #[lv, .int .i64 room, .bool lost, .int .i64 fail]] w fun e w' => e = .returned (.bool (safeL L)) ∧ Ext w w' := by
  obtain ⟨A, c, rfl⟩ := rk_slice h
  go_enter Try.func11, Try.ntmps11
  go_wp2_with fail
  have hE : Ext w (w.alloc (.cells #[.slice A L.length c, .int .i64 room, .bool lost, .int .i64 fail] 29)) := (Ext.refl w).alloc _
  generalize w.alloc _ = W at hE ⊢
  generalize w.heap.size = yb
  replace h := h.ext hE
  go_loopw [8] (fun kv wr => ∃ k : Nat, kv = .int .i64 (k : Int) ∧ safeL L = safeL (L.drop k) ∧ k ≤ L.length ∧ RkIn wr (.slice A L.length c) L ∧ Ext w wr) (fun kv _ => L.length - (intOf kv).toNat)
  case atStart => exact ⟨0, rfl, rfl, Nat.zero_le _, h, hE⟩
  case round =>
    clear h hE
    obtain ⟨k, rfl, hpl, hk, h, hE⟩ := hrel
    by_cases hlt : k < L.length
    · obtain ⟨⟨x, f⟩, hb⟩ : ∃ q, L[k]? = some q := ⟨_, List.getElem?_eq_getElem hlt⟩
      rw [drop_some hb, safeL_cons] at hpl
      have HPL := Lib.hid hpl
      obtain ⟨rb, ro, rfl⟩ := rk_some h (fun e => by rw [e] at hb; simp at hb)
      obtain ⟨r0, r1, r2, r3, r4⟩ := rk_cells h hb
      have hEx := (Ext.refl wr).alloc (.cells (fcells x f) 60)
      have hX := At.new wr 60 (fcells x f)
      clear hb hpl
      go_upto_region 4 with fail
      clear r0 r1 r2 r3 r4
      generalize wr.heap.size = xb at hX ⊢
      generalize wr.alloc (.cells (fcells x f) 60) = W1 at hX hEx ⊢
      replace h := h.ext hEx
      replace hE := hE.trans hEx
      clear hEx
      have x1 := hX.cell 1
      have x2 := hX.cell 2
      have x3 := hX.cell 3
      have x4 := hX.cell 4
      simp at x1 x2 x3 x4
      obtain ⟨n1, s1, n2, s2⟩ := f
      simp only at x1 x2 x3 x4
      clear hX
      by_cases hnn : n1 = n2
      · subst hnn
        by_cases hxx : s1 = s2
        · subst hxx
          go_wp2_with fail
          go_roundw
          case rel => exact ⟨k + 1, by go_num, by rw [HPL.out]; simp [Fl.safe], by omega, h, hE⟩
          case measure => simp [intOf]; omega
        · have hxl : ¬ s1.toList = s2.toList := fun h => hxx (toList_inj.1 h)
          have hfin : safeL L = false := by rw [HPL.out]; simp [Fl.safe, hxx]
          have H := Lib.hid hfin
          clear hfin hxx
          go_wp2_with fail
          go_ret
          exact ⟨by rw [H.out]; rfl, hE⟩
      · have hfin : safeL L = false := by rw [HPL.out]; simp [Fl.safe, hnn]
        have H := Lib.hid hfin
        clear hfin
        cases n1 <;> cases n2
        · exact absurd rfl hnn
        · clear hnn
          go_wp2_with fail
          go_ret
          exact ⟨by rw [H.out]; rfl, hE⟩
        · clear hnn
          go_wp2_with fail
          go_ret
          exact ⟨by rw [H.out]; rfl, hE⟩
        · exact absurd rfl hnn
    · obtain rfl : k = L.length := by omega
      rw [List.drop_length] at hpl
      have HPL := Lib.hid hpl
      clear hpl
      go_wp2_with fail
      go_ret
      exact ⟨by rw [HPL.out]; rfl, hE⟩
end Go.Proofs.Yteleafbfdfipdaa
