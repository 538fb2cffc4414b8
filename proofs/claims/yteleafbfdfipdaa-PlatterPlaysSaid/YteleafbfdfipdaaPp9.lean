/-
  The document's disk (glacierref04): Sync: a name is put behind a copy of the names.
-/
import Derived.Test.YteleafbfdfipdaaPp8
import Derived.Test.YteleafbfdfipdaaRegion
import Derived.Test.YteleafbfdfipdaaOpen
import Derived.Maps.AppendAt
namespace Go.Proofs.Yteleafbfdfipdaa
open Go.RowKit Go.Sort

/-- what the region leaves that puts a name behind a copy of the names -/
structure GS (W : World) (n : Nat) (xs : List Value) (x : Value) (γ : Nat → Value) (L : Nat → Bool) (w : World) : Prop where
  ext : Ext W w
  lit : L 5 = true → ∃ g, γ 3 = .slice (some ⟨g, 0, none⟩) 1 1 ∧ At w g 9 #[x] ∧ (L 2 = false → L 0 = true → some g ≠ (γ 0).ownBlock) ∧ (L 2 = true → some g ≠ (γ 1).ownBlock)
  fin : L 6 = true → w.ownsRow W.heap.size 9 1 (γ 2) (n + 1) (xs ++ [x])
  mid : L 6 = false → L 2 = true → w.ownsRow W.heap.size 9 1 (γ 1) n xs
  beg : L 2 = false → L 0 = true → w.ownsRow W.heap.size 9 1 (γ 0) 0 []
  asg : L 7 = true → γ 4 = γ 2
theorem GS.keep {W : World} {n : Nat} {xs : List Value} {x : Value} {j : Nat} (h0 : 0 ≠ j) (h2 : 2 ≠ j) (h5 : 5 ≠ j) (h6 : 6 ≠ j) (h7 : 7 ≠ j) : ∀ γ L w, GS W n xs x γ L w → L j = false → GS W n xs x γ (fun i => i == j || L i) w := by
  intro γ L w h _
  have e0 : ((0 : Nat) == j) = false := by simp [h0]
  have e2 : ((2 : Nat) == j) = false := by simp [h2]
  have e5 : ((5 : Nat) == j) = false := by simp [h5]
  have e6 : ((6 : Nat) == j) = false := by simp [h6]
  have e7 : ((7 : Nat) == j) = false := by simp [h7]
  refine ⟨h.ext, ?_, ?_, ?_, ?_, ?_⟩
  · simpa only [e0, e2, e5, Bool.false_or] using h.lit
  · simpa only [e6, Bool.false_or] using h.fin
  · simpa only [e2, e6, Bool.false_or] using h.mid
  · simpa only [e0, e2, Bool.false_or] using h.beg
  · simpa only [e7, Bool.false_or] using h.asg
theorem one_str {w : World} {g : Nat} {x : Value} (h : At w g 9 #[x]) : Sl w (.slice (some ⟨g, 0, none⟩) 1 1) [x] :=
  ⟨_, 1, rfl, fun _ => ⟨g, 0, rfl, fun i y hi => by
    cases i with
    | zero => cases hi; exact h.cell 0
    | succ i => simp at hi⟩⟩
theorem ex_append_at {P : Program} {o : Oper} {K : Value → World → Prop} {a : Act} {w : World} {base : Nat} {e : TypeId} {v : Value} {n : Nat} {xs : List Value} (hown : w.ownsRow base e 1 v n xs) {vx : Value} {ys : List Value} (hS : Sl w vx ys)
    (hone : ∀ y ∈ ys, y.oneCell' = true) {z : Value} {bytes : Nat} (t : TypeId) (ht : P.underlying t = some (.slice e)) (hinfo : (P.info? e).map (fun i => (i.zero, i.size, i.bytes)) = some (some z, 1, bytes))
    (hzs : z.cells.size = 1) (hby : bytes ≤ 128) (hn : n + ys.length < 1000000000000) (hbase : base ≤ w.heap.size)
    (s x : Operand) (ho : o.op = .call { callee := .builtin .append, args := #[s, x], argTypes := #[t, t] }) (hs : a.eval s = v) (hx : a.eval x = vx)
    (h : ∀ v' w', w'.ownsRow base e 1 v' (n + ys.length) (xs ++ ys) → Chg (fun k => some k = v.ownBlock) w w' → (v'.ownBlock = v.ownBlock ∨ v'.ownBlock = some w.heap.size) → K v' w') :
    ∃ v' w', (execOp a.eval o).run P w = .ok (.value v') w' ∧ K v' w' := by
  obtain ⟨i, hi, h0, h1, h2⟩ : ∃ i, P.info? e = some i ∧ i.zero = some z ∧ i.size = 1 ∧ i.bytes = bytes := by
    cases hp : P.info? e with
    | none => rw [hp] at hinfo; cases hinfo
    | some i =>
      rw [hp] at hinfo
      simp only [Option.map_some, Option.some.injEq, Prod.mk.injEq] at hinfo
      exact ⟨i, rfl, hinfo.1, hinfo.2.1, hinfo.2.2⟩
  have hby2 : (n + ys.length) * bytes ≤ 140737488355328 := by
    have : (n + ys.length) * bytes ≤ 1000000000000 * 128 := Nat.mul_le_mul (by omega) hby
    omega
  obtain ⟨A, c, rfl, hc⟩ := hS
  have fin : ∀ v' w', (Builtin.append_ #[t, t] o.type #[v, .slice A ys.length c]).run P w = .ok v' w' → (execOp a.eval o).run P w = .ok (.value v') w' := fun v' w' hrun => by
    unfold execOp
    simp only [ho, resolve, invoke, builtin, Sem.run_bind, Sem.run_pure, Result.andThen_ok, List.map_toArray, List.map_cons, List.map_nil, hs, hx, hrun]
  cases ys with
  | nil =>
    cases A with
    | none =>
      have hrun : (Builtin.append_ #[t, t] o.type #[v, .slice none 0 c]).run P w = .ok v w := by
        rcases hown.2 with ⟨rfl, rfl⟩ | ⟨g, cap, cur, rfl, _, _, hnc, _⟩
        · simp [Builtin.append_, run_underlying ht, sizeOf, typeInfo, hi, Builtin.lenOf, Builtin.firstCells]
        · simp [Builtin.append_, run_underlying ht, sizeOf, typeInfo, hi, Builtin.lenOf, Builtin.firstCells, hnc, storeCells]
      exact ⟨v, w, fin _ _ hrun, h v w (by simpa using hown) (Chg.refl _ _) (.inl rfl)⟩
    | some ad =>
      obtain ⟨v', w', hrun, h3, h4, _, h5⟩ := run_append_own_at (P := P) (w := w) base t o.type e i z 1 bytes ht hi h0 h1 h2 hzs (by decide) v n xs hown ad 0 c [] (by simp) (fun j u hu => by simp at hu) (fun u hu => by cases hu) (by unfold maxLen; simp at hn; omega) (by simpa using hby2) hbase
      exact ⟨v', w', fin _ _ hrun, h v' w' (by simpa using h3) (Chg.of_grown h4) h5⟩
  | cons r rs =>
    obtain ⟨b, o', rfl, hcc⟩ := hc (by simp)
    obtain ⟨v', w', hrun, h3, h4, _, h5⟩ := run_append_own_at (P := P) (w := w) base t o.type e i z 1 bytes ht hi h0 h1 h2 hzs (by decide) v n xs hown ⟨b, o', none⟩ (r :: rs).length c (r :: rs) (by rw [Nat.mul_one]) (fun j u hu => by
      rw [Go.WideShapes.add_plain]
      exact hcc j u hu) hone (by unfold maxLen; omega) hby2 hbase
    exact ⟨v', w', fin _ _ hrun, h v' w' h3 (Chg.of_grown h4) h5⟩


def fstL (L : List FRow) : List ByteArray := L.map (·.1)
theorem fstL_take {L : List FRow} {k : Nat} {x : ByteArray} {f : Fl} (h : L[k]? = some (x, f)) : fstL (L.take (k + 1)) = fstL (L.take k) ++ [x] := by
  unfold fstL; rw [List.take_add_one, h]; simp
def sy1 (L : List FRow) (n : ByteArray) : List FRow := setL n ⟨(getF n L).nt, (getF n L).nx, (getF n L).nt, (getF n L).nx⟩ L
def syL (L : List FRow) (ns : List ByteArray) : List FRow := ns.foldl sy1 L
def allN (L : List FRow) (ns : List ByteArray) : List ByteArray := if ns.length = 0 then fstL L else ns
def syncR (lost : Bool) (armed : Int) (L : List FRow) (ns : List ByteArray) : Int × List FRow :=
  if tryE lost armed ≠ 0 then (tryE lost armed, L) else (0, syL L (allN L ns))

theorem syL_take {L : List FRow} {ns : List ByteArray} {k : Nat} {n : ByteArray} (h : ns[k]? = some n) : syL L (ns.take (k + 1)) = sy1 (syL L (ns.take k)) n := by
  unfold syL
  rw [List.take_add_one, h]
  simp
theorem sl_apart {w : World} {v : Value} {ns : List ByteArray} (hS : Sl w v (ns.map Value.string)) {g : Nat} {t : TypeId} {cs : Array Value} (hA : At w g t cs) (hs : ∀ (i : Nat) (s : ByteArray), cs[i]? ≠ some (.string s)) :
    ∀ b o n c, v = .slice (some ⟨b, o, none⟩) n c → ns.map Value.string ≠ [] → ¬ b = g := by
  rintro b o n c rfl hne rfl
  obtain ⟨A, c', hv, hx⟩ := hS
  obtain ⟨b', o', rfl, hc⟩ := hx hne
  simp only [Value.slice.injEq, Option.some.injEq, Addr.mk.injEq, and_true] at hv
  obtain ⟨⟨rfl, rfl⟩, _, _⟩ := hv
  cases ns with
  | nil => exact hne rfl
  | cons s r =>
    have h0 := hc 0 (.string s) rfl
    rw [hA.cell] at h0
    exact hs _ _ h0

set_option maxRecDepth 100000 in
set_option maxHeartbeats 2000000 in
theorem rsync_any (w : World) (lv : Value) (room : Int) (lost : Bool) (armed : Int) (L : List FRow) (h : RkS w lv L) (h0 : 0 ≤ armed) (h1 : armed ≤ 4611686018427387904) (v : Value) (ns : List ByteArray) (hS : Sl w v (ns.map Value.string)) (hn : ns.length ≤ 1000) (hl : L.length ≤ 100000) :
    Calls Try.prog 30 #[.agg #[lv, .int .i64 room, .bool lost, .int .i64 (armed - 1)], v] w fun e w' =>
      ∃ lv', e = .returned (.tuple #[.agg #[lv', .int .i64 room, .bool lost, .int .i64 (tryA lost armed - 1)], .int .i64 (syncR lost armed L ns).1]) ∧ RkIn w' lv' (syncR lost armed L ns).2 ∧ Ext w w' := by
  obtain ⟨A, c, rfl⟩ := rk_slice h.in_
  obtain ⟨NA, nc, hv⟩ : ∃ NA nc, v = .slice NA ns.length nc := by obtain ⟨a, b, h, _⟩ := hS; exact ⟨a, b, by rw [h, List.length_map]⟩
  subst hv
  have hct := fun wx => rtry_any wx (.slice A L.length c) ⟨_, _, _, rfl⟩ room lost armed h0 h1
  obtain ⟨fl, hfl⟩ : ∃ fl, fl = armed - 1 := ⟨_, rfl⟩
  obtain ⟨a2, ha2⟩ : ∃ fl, fl = tryA lost armed - 1 := ⟨_, rfl⟩
  obtain ⟨er, her⟩ : ∃ fl, fl = tryE lost armed := ⟨_, rfl⟩
  rw [← hfl, ← ha2, ← her] at hct
  have HPR : Hid (∀ a b, syncR lost armed L ns = (a, b) → (syncR lost armed L ns).1 = a ∧ (syncR lost armed L ns).2 = b) := Lib.hid (fun a b hh => by rw [hh]; exact ⟨rfl, rfl⟩)
  have HPU : Hid (syncR lost armed L ns = if er ≠ 0 then (er, L) else (0, syL L (allN L ns))) := Lib.hid (by rw [her]; rfl)
  generalize hPR : syncR lost armed L ns = PR at HPR HPU ⊢
  clear hPR
  rw [← hfl, ← ha2]
  clear hfl ha2 her h0 h1
  have hE : Ext w ((w.alloc (.cells #[.slice A L.length c, .int .i64 room, .bool lost, .int .i64 fl] 29)).alloc (.cells #[.slice none 0 0, .int .i64 0, .bool false, .int .i64 0] 29)) := ((Ext.refl w).alloc _).alloc _
  have hX : At ((w.alloc (.cells #[.slice A L.length c, .int .i64 room, .bool lost, .int .i64 fl] 29)).alloc (.cells #[.slice none 0 0, .int .i64 0, .bool false, .int .i64 0] 29)) w.heap.size 29 #[.slice A L.length c, .int .i64 room, .bool lost, .int .i64 fl] := (At.new _ _ _).alloc _
  have hZ : At ((w.alloc (.cells #[.slice A L.length c, .int .i64 room, .bool lost, .int .i64 fl] 29)).alloc (.cells #[.slice none 0 0, .int .i64 0, .bool false, .int .i64 0] 29)) (w.heap.size + 1) 29 #[.slice none 0 0, .int .i64 0, .bool false, .int .i64 0] := At.new_eq (by simp) _ _
  go_enter Try.func30, Try.ntmps30
  go_upto_region 1 with fail
  generalize (w.alloc _).alloc _ = W at hE hX hZ ⊢
  have hxz : w.heap.size ≠ w.heap.size + 1 := by omega
  have hwx : w.heap.size ≤ w.heap.size := Nat.le_refl _
  have hwz : w.heap.size ≤ w.heap.size + 1 := by omega
  generalize hzb : w.heap.size + 1 = zb at *
  obtain ⟨xb, hxb⟩ : ∃ xb, xb = w.heap.size := ⟨_, rfl⟩
  rw [← hxb] at hX hxz ⊢
  replace hwx : w.heap.size ≤ xb := by omega
  clear hzb hxb
  have x0 := hX.cell 0
  have x1 := hX.cell 1
  have x2 := hX.cell 2
  have x3 := hX.cell 3
  simp at x0 x1 x2 x3
  go_wp2_with fail
  refine (hct W).mono ?_
  rintro e w1 ⟨rfl, hE1⟩
  replace hX := hX.ext hE1
  replace hZ := hZ.ext hE1
  replace hE := hE.trans hE1
  clear x0 x1 x2 x3 hE1 hct
  have x0 := hX.cell 0
  have x1 := hX.cell 1
  have x2 := hX.cell 2
  have x3 := hX.cell 3
  have fr0 := hX.frozen 0
  have fr1 := hX.frozen 1
  have fr2 := hX.frozen 2
  have fr3 := hX.frozen 3
  simp at x0 x1 x2 x3
  go_upto_region 2 with fail
  have hX2 : At ((((w1.setCell ⟨xb, 0, none⟩ (.slice A L.length c)).setCell ⟨xb, 1, none⟩ (.int .i64 room)).setCell ⟨xb, 2, none⟩ (.bool lost)).setCell ⟨xb, 3, none⟩ (.int .i64 a2)) xb 29 #[.slice A L.length c, .int .i64 room, .bool lost, .int .i64 a2] := at_anew hX (vs := #[.slice A L.length c, .int .i64 room, .bool lost, .int .i64 a2]) rfl
  have hCx : Chg (· = xb) w1 ((((w1.setCell ⟨xb, 0, none⟩ (.slice A L.length c)).setCell ⟨xb, 1, none⟩ (.int .i64 room)).setCell ⟨xb, 2, none⟩ (.bool lost)).setCell ⟨xb, 3, none⟩ (.int .i64 a2)) := chg_setAll w1 xb [.slice A L.length c, .int .i64 room, .bool lost, .int .i64 a2] 0 w1 (Chg.refl _ _)
  have hE2 : Ext w ((((w1.setCell ⟨xb, 0, none⟩ (.slice A L.length c)).setCell ⟨xb, 1, none⟩ (.int .i64 room)).setCell ⟨xb, 2, none⟩ (.bool lost)).setCell ⟨xb, 3, none⟩ (.int .i64 a2)) := ext_anew hwx [.slice A L.length c, .int .i64 room, .bool lost, .int .i64 a2] 0 _ hE
  replace hZ := hZ.chg hCx (fun e => hxz e.symm)
  clear x0 x1 x2 x3 fr0 fr1 fr2 fr3 hX hCx hE
  generalize ((((w1.setCell ⟨xb, 0, none⟩ (.slice A L.length c)).setCell ⟨xb, 1, none⟩ (.int .i64 room)).setCell ⟨xb, 2, none⟩ (.bool lost)).setCell ⟨xb, 3, none⟩ (.int .i64 a2)) = W2 at hX2 hZ hE2 ⊢
  have x0 := hX2.cell 0
  have x1 := hX2.cell 1
  have x2 := hX2.cell 2
  have x3 := hX2.cell 3
  simp at x0 x1 x2 x3
  by_cases he : er = 0
  · have he2 : (er != 0) = false := by simpa using he
    rw [if_neg (by simpa using he)] at HPU
    clear he
    go_upto_if 23 with fail
    clear x0 x1 x2 x3
    have x0 := hX2.cell 0
    simp at x0
    go_cut [1, 8] from 24 to 38 (fun nv _ wx => ∃ NB nc', nv = .slice NB (allN L ns).length nc' ∧ Sl wx nv ((allN L ns).map Value.string) ∧ Ext W2 wx)
    case first =>
      by_cases hns : ns.length = 0
      · have HAN : Hid (allN L ns = fstL L) := Lib.hid (if_pos hns)
        have hnil : ns = [] := List.eq_nil_of_length_eq_zero hns
        subst hnil
        go_wp2_with fail
        go_loopw [1, 27] (fun nv kv wr => ∃ (k : Nat) (NB : Option Addr) (nc' : Nat), kv = .int .i64 (k : Int) ∧ nv = .slice NB k nc' ∧ k ≤ L.length ∧ Sl wr nv ((fstL (L.take k)).map Value.string) ∧ Ext W2 wr) (fun _ kv _ => L.length - (intOf kv).toNat)
        case atStart => exact ⟨0, _, _, rfl, rfl, Nat.zero_le _, hS.ext hE2, Ext.refl _⟩
        case round =>
          obtain ⟨k, NB, nc', rfl, rfl, hk, hSk, hEr⟩ := hrel
          have hEw := hE2.trans hEr
          have hr := h.in_.ext hEw
          by_cases hlt : k < L.length
          · obtain ⟨⟨x, g⟩, hb⟩ : ∃ q, L[k]? = some q := ⟨_, List.getElem?_eq_getElem hlt⟩
            have HTK := Lib.hid (fstL_take hb)
            obtain ⟨rb, ro, rfl⟩ := rk_some hr (fun e => by rw [e] at hb; simp at hb)
            obtain ⟨r0, r1, r2, r3, r4⟩ := rk_cells hr hb
            have hEx := (Ext.refl wr).alloc (.cells (fcells x g) 60)
            have hY := At.new wr 60 (fcells x g)
            clear hb
            go_upto_region 8 with fail
            clear r0 r1 r2 r3 r4
            generalize wr.heap.size = yy at hY ⊢
            generalize wr.alloc (.cells (fcells x g) 60) = W1 at hY hEx ⊢
            have hSy := hSk.ext hEx
            have hEy := hEr.trans hEx
            have hlen : (fstL (L.take k)).length = k := by unfold fstL; rw [List.length_map, List.length_take, Nat.min_eq_left hk]
            have hones : ∀ y ∈ (fstL (L.take k)).map Value.string, y.oneCell' = true := fun y hy => by
              obtain ⟨z, _, rfl⟩ := List.mem_map.1 hy; rfl
            have hlk : k ≤ 100000 := by omega
            clear hSk hEr hr hEw hEx
            generalize hxs : fstL (L.take k) = xs at *
            clear hxs
            refine wp_region_phi (Γ := Nat → Value) (sgφ [.g 0, .val (.slice NB k nc'), .g 1, .val (.pointer (some ⟨yy, 0, none⟩)), .val (.string x), .g 3, .g 2, .g 4]) (GS W1 k (xs.map Value.string) (.string x)) (by kernel_rfl) (by kernel_rfl) (by kernel_rfl) (fun _ => undef) ⟨(Ext.refl W1).drew, (fun hh => by cases hh), (fun hh => by cases hh), (fun _ hh => by cases hh), (fun _ hh => by cases hh), (fun hh => by cases hh)⟩ ?steps ?fin
            case steps =>
              show StepsTo _ _ _ _ _ _ 8
              refine ⟨⟨⟨⟨⟨⟨⟨⟨trivial, ?s0⟩, ?s1⟩, ?s2⟩, ?s3⟩, ?s4⟩, ?s5⟩, ?s6⟩, ?s7⟩
              case s0 =>
                refine sg_new (k := 0) rfl rfl rfl (by kernel_rfl) fun γ L' v a w' st => ?_
                have h2 : L' 2 = false := by
                  cases hq : L' 2 with
                  | false => rfl
                  | true =>
                    have q0 := st.down 2 0 hq (by kernel_rfl)
                    have q99 := st.off; rw [q0] at q99; cases q99
                have h6 : L' 6 = false := by
                  cases hq : L' 6 with
                  | false => rfl
                  | true =>
                    have q2 := st.down 6 2 hq (by kernel_rfl)
                    have q0 := st.down 2 0 q2 (by kernel_rfl)
                    have q99 := st.off; rw [q0] at q99; cases q99
                have h0 : L' 0 = false := st.off
                have hG := st.inv
                refine ⟨.slice (some ⟨w'.heap.size, 0, none⟩) 0 0, w'.alloc (.cells #[] 9), by go_simp, ⟨hG.ext.alloc _, ?_, ?_, ?_, ?_, ?_⟩⟩
                · intro h5
                  obtain ⟨g, e1, e2, _, _⟩ := hG.lit (by simpa using h5)
                  refine ⟨g, by simpa [upd] using e1, e2.alloc _, fun _ _ => ?_, fun hh => ?_⟩
                  · have := e2.lt
                    simp [upd, Value.ownBlock]; omega
                  · simp [h2] at hh
                · intro hh; simp [h6] at hh
                · intro _ hh; simp [h2] at hh
                · intro _ _
                  exact w'.ownsRow_made #[] 0 hG.ext.size (by unfold maxLen; omega) rfl
                · intro hh
                  have q6 := st.down 7 6 (by simpa using hh) (by kernel_rfl)
                  rw [h6] at q6; cases q6
              case s1 =>
                refine sg_val (x := .slice NB k nc') rfl rfl rfl (GS.keep (j := 1) (by decide) (by decide) (by decide) (by decide) (by decide)) fun γ L' v a w' st => ?_
                have e1 := st.late 1 (by kernel_rfl)
                simp at e1
                go_simp
              case s2 =>
                refine sg_new (k := 1) rfl rfl rfl (by kernel_rfl) fun γ L' v a w' st => ?_
                have h6 : L' 6 = false := by
                  cases hq : L' 6 with
                  | false => rfl
                  | true =>
                    have q2 := st.down 6 2 hq (by kernel_rfl)
                    have q99 := st.off; rw [q2] at q99; cases q99
                have h2 : L' 2 = false := st.off
                have e0 := st.val 0 31 rfl (by kernel_rfl)
                rw [show v 0 = _ from st.φ 0 (by kernel_rfl)] at e0
                simp at e0
                have e1 := st.val 1 32 rfl (by kernel_rfl)
                rw [show v 1 = _ from st.φ 1 (by kernel_rfl)] at e1
                simp at e1
                have hG := st.inv
                have hd0 := st.dep 0 (by kernel_rfl)
                have hO := hG.beg h2 hd0
                refine ex_append_at hO (hSy.ext hG.ext) hones 34 Try.underlying34 str_info rfl (by decide) (by rw [List.length_map]; omega) hG.ext.size (.tmp 31) (.tmp 32) rfl (by simp [Act.eval, e0]) (by simp [Act.eval, e1]) fun v' w2 hOw hC hbl => ?_
                rw [List.length_map, hlen, Nat.zero_add, List.nil_append] at hOw
                refine ⟨Chg.own_ext hG.ext hC hO (Nat.le_refl _), ?_, ?_, ?_, ?_, ?_⟩
                · intro h5
                  obtain ⟨g, e1, e2, e3, _⟩ := hG.lit (by simpa using h5)
                  have hne := e3 h2 hd0
                  refine ⟨g, by simpa [upd] using e1, e2.chg hC hne, fun hh => by simp at hh, fun _ => ?_⟩
                  rcases hbl with hbl | hbl
                  · simp only [upd, if_true]; rw [hbl]; exact hne
                  · simp only [upd, if_true]; rw [hbl]
                    have := e2.lt
                    simp; omega
                · intro hh; simp [h6] at hh
                · intro _ _; simpa [upd] using hOw
                · intro hh; simp at hh
                · intro hh
                  have q6 := st.down 7 6 (by simpa using hh) (by kernel_rfl)
                  rw [h6] at q6; cases q6
              case s3 =>
                refine sg_val (x := .pointer (some ⟨yy, 0, none⟩)) rfl rfl rfl (GS.keep (j := 3) (by decide) (by decide) (by decide) (by decide) (by decide)) fun γ L' v a w' st => ?_
                have e8 := st.far 8 (by kernel_rfl)
                simp at e8
                go_simp
              case s4 =>
                refine sg_val (x := .string x) rfl rfl rfl (GS.keep (j := 4) (by decide) (by decide) (by decide) (by decide) (by decide)) fun γ L' v a w' st => ?_
                have e3 := st.val 3 34 rfl (by kernel_rfl)
                rw [show v 3 = _ from st.φ 3 (by kernel_rfl)] at e3
                simp at e3
                have y0 := (hY.ext st.inv.ext).cell 0
                simp at y0
                go_simp
              case s5 =>
                refine sg_new (k := 3) rfl rfl rfl (by kernel_rfl) fun γ L' v a w' st => ?_
                have h6 : L' 6 = false := by
                  cases hq : L' 6 with
                  | false => rfl
                  | true =>
                    have q5 := st.down 6 5 hq (by kernel_rfl)
                    have q99 := st.off; rw [q5] at q99; cases q99
                have h5 : L' 5 = false := st.off
                have e4 := st.val 4 35 rfl (by kernel_rfl)
                rw [show v 4 = _ from st.φ 4 (by kernel_rfl)] at e4
                simp at e4
                have hG := st.inv
                refine ⟨.slice (some ⟨w'.heap.size, 0, none⟩) 1 1, w'.alloc (.cells #[.string x] 9), by go_simp, ⟨hG.ext.alloc _, ?_, ?_, ?_, ?_, ?_⟩⟩
                · intro _
                  refine ⟨w'.heap.size, by simp [upd], At.new w' _ _, fun h2 hh => ?_, fun hh => ?_⟩
                  · have := hG.beg (by simpa using h2) (by simpa using hh)
                    intro e
                    have := (this.lt _ (by simpa [upd] using e.symm)).2
                    omega
                  · have := hG.mid h6 (by simpa using hh)
                    intro e
                    have := (this.lt _ (by simpa [upd] using e.symm)).2
                    omega
                · intro hh; simp [h6] at hh
                · intro _ hh; have := (hG.mid h6 (by simpa using hh)).alloc (.cells #[.string x] 9); simpa [upd] using this
                · intro h2 h0; have := (hG.beg (by simpa using h2) (by simpa using h0)).alloc (.cells #[.string x] 9); simpa [upd] using this
                · intro hh
                  have q6 := st.down 7 6 (by simpa using hh) (by kernel_rfl)
                  rw [h6] at q6; cases q6
              case s6 =>
                refine sg_new (k := 2) rfl rfl rfl (by kernel_rfl) fun γ L' v a w' st => ?_
                have h6 : L' 6 = false := st.off
                have e2 := st.val 2 33 rfl (by kernel_rfl)
                rw [show v 2 = _ from st.φ 2 (by kernel_rfl)] at e2
                simp at e2
                have e5 := st.val 5 36 rfl (by kernel_rfl)
                rw [show v 5 = _ from st.φ 5 (by kernel_rfl)] at e5
                simp at e5
                have hG := st.inv
                have hd2 := st.dep 2 (by kernel_rfl)
                have hd5 := st.dep 5 (by kernel_rfl)
                have hO := hG.mid h6 hd2
                obtain ⟨g, g1, g2, g3, g4⟩ := hG.lit hd5
                refine ex_append_at hO (one_str g2) (fun y hy => by rw [List.mem_singleton] at hy; subst hy; rfl) 34 Try.underlying34 str_info rfl (by decide) (by simp; omega) hG.ext.size (.tmp 33) (.tmp 36) rfl (by simp [Act.eval, e2]) (by simp [Act.eval, e5, g1]) fun v' w2 hOw hC hbl => ?_
                refine ⟨Chg.own_ext hG.ext hC hO (Nat.le_refl _), ?_, ?_, ?_, ?_, ?_⟩
                · intro _
                  exact ⟨g, by simpa [upd] using g1, g2.chg hC (g4 hd2), fun hh => by simp [hd2] at hh, fun _ => by simpa [upd] using g4 hd2⟩
                · intro _; simpa [upd] using hOw
                · intro hh; simp at hh
                · intro hh; simp [hd2] at hh
                · intro hh
                  have q6 := st.down 7 6 (by simpa using hh) (by kernel_rfl)
                  rw [h6] at q6; cases q6
              case s7 =>
                refine sg_new (k := 4) rfl rfl rfl (by kernel_rfl) fun γ L' v a w' st => ?_
                have e6 := st.val 6 37 rfl (by kernel_rfl)
                rw [show v 6 = _ from st.φ 6 (by kernel_rfl)] at e6
                simp at e6
                have hG := st.inv
                refine ⟨γ 2, w', by go_simp, ⟨hG.ext, ?_, ?_, ?_, ?_, ?_⟩⟩
                · intro h5
                  obtain ⟨g, g1, g2, g3, g4⟩ := hG.lit (by simpa using h5)
                  exact ⟨g, by simpa [upd] using g1, g2, fun h2 hh => by simpa [upd] using g3 (by simpa using h2) (by simpa using hh), fun hh => by simpa [upd] using g4 (by simpa using hh)⟩
                · intro hh; simpa [upd] using hG.fin (by simpa using hh)
                · intro hh h2; simpa [upd] using hG.mid (by simpa using hh) (by simpa using h2)
                · intro h2 h0; simpa [upd] using hG.beg (by simpa using h2) (by simpa using h0)
                · intro _; simp [upd]
            case fin =>
              intro γ L' v wx hall hG hφ
              have hown := hG.fin (hall 6 (by decide))
              have h7 : v 7 = γ 4 := hφ 7 (by decide)
              rw [hG.asg (hall 7 (by decide))] at h7
              have hE := hG.ext
              obtain ⟨NB2, nc2, hg2⟩ := own_slc hown
              rw [hg2] at h7 hown
              clear hall hφ hG
              change Exit.inBlock _ _ _ (putAll _ v _ 8) wx
              simp only [putAll, dstOf, Act.put]
              simp only [List.getElem?_toArray, List.getElem?_cons_zero, List.getElem?_cons_succ, Option.bind_some, List.setIfInBounds_toArray, List.set_cons_zero, List.set_cons_succ]
              rw [h7]
              clear hSy
              go_wp2_with fail
              go_roundw
              case rel => exact ⟨k + 1, NB2, nc2, by go_num, rfl, by omega, by rw [HTK.out]; have := Sl.of_own hown; simpa using this, hEy.trans hE⟩
              case measure => simp [intOf]; omega
          · obtain rfl : k = L.length := by omega
            rw [List.take_length] at hSk
            have hlen : (allN L []).length = L.length := by rw [HAN.out]; unfold fstL; rw [List.length_map]
            go_wp2_with fail
            go_meet
            case rel => exact ⟨NB, nc', by rw [hlen], by rw [HAN.out]; exact hSk, hEr⟩
      · have HAN : Hid (allN L ns = ns) := Lib.hid (if_neg hns)
        have hln : (ns.length == 0) = false := by simp [hns]
        go_wp2_with fail
        go_meet
        case rel => exact ⟨NA, nc, by rw [HAN.out], by rw [HAN.out]; exact hS.ext hE2, Ext.refl _⟩
    case rest =>
      obtain ⟨NB, nc', rfl, hSm, hEr⟩ := hcut
      have hXr := hX2.ext hEr
      have hZr := hZ.ext hEr
      have hEw := hE2.trans hEr
      have hRr := h.in_.ext hEw
      obtain ⟨p1, p2⟩ := HPR.out _ _ HPU.out
      have HP := Lib.hid (And.intro p1 p2)
      have hms : (allN L ns).length ≤ 100000 := by
        unfold allN; split
        · unfold fstL; rw [List.length_map]; exact hl
        · omega
      clear p1 p2 HPU HPR hX2 hZ hE2 x0 hS
      generalize allN L ns = ms at *
      go_wp2_with fail
      go_loopw [41] (fun kv wx => ∃ (k : Nat) (B : Option Addr) (c2 : Nat) (Lk : List FRow), kv = .int .i64 (k : Int) ∧ k ≤ ms.length ∧ Lk.length ≤ L.length + k ∧ Hid (syL L (ms.take k) = Lk) ∧ At wx xb 29 #[.slice B Lk.length c2, .int .i64 room, .bool lost, .int .i64 a2] ∧ RkIn wx (.slice B Lk.length c2) Lk ∧ At wx zb 29 #[.slice none 0 0, .int .i64 0, .bool false, .int .i64 0] ∧ Sl wx (.slice NB ms.length nc') (ms.map Value.string) ∧ Ext w wx) (fun kv _ => ms.length - (intOf kv).toNat)
      case atStart => exact ⟨0, A, c, L, rfl, Nat.zero_le _, by omega, Lib.hid rfl, hXr, hRr, hZr, hSm, hEw⟩
      case round =>
        skip
        clear hXr hRr hZr hEw hSm hEr
        obtain ⟨k, B, c2, Lk, rfl, hk2, hLk, HPL, hX, hR, hZ, hSr, hE⟩ := hrel
        by_cases hlt : k < ms.length
        · obtain ⟨n, hb⟩ : ∃ q, ms[k]? = some q := ⟨_, List.getElem?_eq_getElem hlt⟩
          have HRT := Lib.hid (syL_take (L := L) hb)
          obtain ⟨rb, ro, rfl, hcc⟩ : ∃ b o, NB = some ⟨b, o, none⟩ ∧ wr.cell? ⟨b, o + k, none⟩ = some (.string n) := by
            obtain ⟨A', c', hv, hx⟩ := id hSr
            simp only [Value.slice.injEq] at hv
            obtain ⟨b, o, rfl, hc⟩ := hx (fun e => by rw [List.map_eq_nil_iff] at e; rw [e] at hb; simp at hb)
            exact ⟨b, o, hv.1, hc k _ (by rw [List.getElem?_map, hb]; rfl)⟩
          clear hb
          go_upto_region 13 with fail
          clear hcc
          have x0 := hX.cell 0
          have x1 := hX.cell 1
          have x2 := hX.cell 2
          have x3 := hX.cell 3
          simp at x0 x1 x2 x3
          go_wp2_with fail
          refine (rfind_any wr _ room a2 lost Lk hR n (by omega)).mono ?_
          rintro e w3 ⟨rfl, hE3⟩
          go_upto_region 14 with fail
          have HRM : Hid (sy1 Lk n = setL n ⟨(getF n Lk).nt, (getF n Lk).nx, (getF n Lk).nt, (getF n Lk).nx⟩ Lk) := Lib.hid rfl
          generalize getF n Lk = g at HRM ⊢
          obtain ⟨n1, s1, n2, s2⟩ := g
          simp only at HRM
          have hF := At.new w3 60 #[.string n, .bool n1, .string s1, .bool n2, .string s2]
          have hX3 := (hX.ext hE3).alloc (.cells #[.string n, .bool n1, .string s1, .bool n2, .string s2] 60)
          have hZ3 := (hZ.ext hE3).alloc (.cells #[.string n, .bool n1, .string s1, .bool n2, .string s2] 60)
          have hE4 := (hE.trans hE3).alloc (.cells #[.string n, .bool n1, .string s1, .bool n2, .string s2] 60)
          have hS4 := hSr.ext (hE3.alloc (.cells #[.string n, .bool n1, .string s1, .bool n2, .string s2] 60))
          have hR4 := hR.ext (hE3.alloc (.cells #[.string n, .bool n1, .string s1, .bool n2, .string s2] 60))
          have hfx : xb ≠ w3.heap.size := fun e => by have := (hX.ext hE3).lt; omega
          have hfz : zb ≠ w3.heap.size := fun e => by have := (hZ.ext hE3).lt; omega
          have hfr : ∀ b o n c, Value.slice B Lk.length c2 = .slice (some ⟨b, o, none⟩) n c → Lk.map frow ≠ [] → ¬ b = w3.heap.size := fun b o n c e hne => by
            have := Sln.block_lt (Sln.ext hR hE3) (fun r hr => by obtain ⟨p, _, rfl⟩ := List.mem_map.1 hr; simp [frow]) b o n c e hne
            omega
          have hfs : ∀ b o n c, Value.slice (some ⟨rb, ro, none⟩) ms.length nc' = .slice (some ⟨b, o, none⟩) n c → ms.map Value.string ≠ [] → ¬ b = w3.heap.size := fun b o n c e hne => by
            have := sl_block (hSr.ext hE3) b o n c e hne
            omega
          have hwf : w.heap.size ≤ w3.heap.size := (hE.trans hE3).size
          clear x0 x1 x2 x3 hX hZ hE hE3 hR hSr
          generalize w3.heap.size = fb at *
          generalize w3.alloc _ = w4 at *
          have q0 := hF.cell 0
          have q1 := hF.cell 1
          have q2 := hF.cell 2
          have q3 := hF.cell 3
          have q4 := hF.cell 4
          have kf0 := hF.frozen 0
          have kf1 := hF.frozen 1
          have kf2 := hF.frozen 2
          have kf3 := hF.frozen 3
          have kf4 := hF.frozen 4
          simp at q0 q1 q2 q3 q4
          go_upto_region 15 with fail
          have hF5 : At ((w4.setCell ⟨fb, 3, none⟩ (.bool n1)).setCell ⟨fb, 4, none⟩ (.string s1)) fb 60 #[.string n, .bool n1, .string s1, .bool n1, .string s1] := (hF.set 3 _).set 4 _
          have hX5 : At ((w4.setCell ⟨fb, 3, none⟩ (.bool n1)).setCell ⟨fb, 4, none⟩ (.string s1)) xb 29 #[.slice B Lk.length c2, .int .i64 room, .bool lost, .int .i64 a2] := (hX3.far hfx _).far hfx _
          have hZ5 : At ((w4.setCell ⟨fb, 3, none⟩ (.bool n1)).setCell ⟨fb, 4, none⟩ (.string s1)) zb 29 #[.slice none 0 0, .int .i64 0, .bool false, .int .i64 0] := (hZ3.far hfz _).far hfz _
          have hE5 : Ext w ((w4.setCell ⟨fb, 3, none⟩ (.bool n1)).setCell ⟨fb, 4, none⟩ (.string s1)) := (hE4.setCell hwf _).setCell hwf _
          have hR5 : RkIn ((w4.setCell ⟨fb, 3, none⟩ (.bool n1)).setCell ⟨fb, 4, none⟩ (.string s1)) (.slice B Lk.length c2) Lk := Sln.chg hR4 (((Chg.refl (· = fb) w4).setCell (p := ⟨fb, 3, none⟩) (.inl rfl) _).setCell (p := ⟨fb, 4, none⟩) (.inl rfl) _) hfr
          have hS5 : Sl ((w4.setCell ⟨fb, 3, none⟩ (.bool n1)).setCell ⟨fb, 4, none⟩ (.string s1)) (.slice (some ⟨rb, ro, none⟩) ms.length nc') (ms.map Value.string) := Sl.chg hS4 (((Chg.refl (· = fb) w4).setCell (p := ⟨fb, 3, none⟩) (.inl rfl) _).setCell (p := ⟨fb, 4, none⟩) (.inl rfl) _) hfs
          clear q0 q1 q2 q3 q4 kf0 kf1 kf2 kf3 kf4 hF hX3 hZ3 hE4 hR4 hS4 hfr hfs
          generalize ((w4.setCell ⟨fb, 3, none⟩ (.bool n1)).setCell ⟨fb, 4, none⟩ (.string s1)) = w6 at hF5 hX5 hZ5 hE5 hR5 hS5 ⊢
          have x0 := hX5.cell 0
          have x1 := hX5.cell 1
          have x2 := hX5.cell 2
          have x3 := hX5.cell 3
          simp at x0 x1 x2 x3
          have q0 := hF5.cell 0
          have q1 := hF5.cell 1
          have q2 := hF5.cell 2
          have q3 := hF5.cell 3
          have q4 := hF5.cell 4
          simp at q0 q1 q2 q3 q4
          go_wp2_with fail
          refine (rset_any w6 _ room a2 lost Lk hR5 (by omega) n ⟨n1, s1, n1, s1⟩).mono ?_
          rintro e w7 ⟨lv3, rfl, hR7, hE7⟩
          obtain ⟨D2, c3, rfl⟩ := rk_slice hR7
          have hlen3 := setL_length n ⟨n1, s1, n1, s1⟩ Lk
          have HN : Hid (syL L (ms.take (k + 1)) = setL n ⟨n1, s1, n1, s1⟩ Lk) := Lib.hid (by rw [HRT.out, HPL.out, HRM.out])
          generalize setL n ⟨n1, s1, n1, s1⟩ Lk = L3 at HN hR7 hlen3 ⊢
          have hX7 := hX5.ext hE7
          have hZ7 := hZ5.ext hE7
          have hE8 := hE5.trans hE7
          have hS7 := hS5.ext hE7
          clear x0 x1 x2 x3 q0 q1 q2 q3 q4 hF5 hX5 hZ5 hE5 hR5 hS5 hE7
          have x0 := hX7.cell 0
          have x1 := hX7.cell 1
          have x2 := hX7.cell 2
          have x3 := hX7.cell 3
          have fr0 := hX7.frozen 0
          have fr1 := hX7.frozen 1
          have fr2 := hX7.frozen 2
          have fr3 := hX7.frozen 3
          simp at x0 x1 x2 x3
          go_upto_region 16 with fail
          have hX8 : At ((((w7.setCell ⟨xb, 0, none⟩ (.slice D2 L3.length c3)).setCell ⟨xb, 1, none⟩ (.int .i64 room)).setCell ⟨xb, 2, none⟩ (.bool lost)).setCell ⟨xb, 3, none⟩ (.int .i64 a2)) xb 29 #[.slice D2 L3.length c3, .int .i64 room, .bool lost, .int .i64 a2] := at_anew hX7 (vs := #[.slice D2 L3.length c3, .int .i64 room, .bool lost, .int .i64 a2]) rfl
          have hCx : Chg (· = xb) w7 ((((w7.setCell ⟨xb, 0, none⟩ (.slice D2 L3.length c3)).setCell ⟨xb, 1, none⟩ (.int .i64 room)).setCell ⟨xb, 2, none⟩ (.bool lost)).setCell ⟨xb, 3, none⟩ (.int .i64 a2)) := chg_setAll w7 xb [.slice D2 L3.length c3, .int .i64 room, .bool lost, .int .i64 a2] 0 w7 (Chg.refl _ _)
          have hZ8 := hZ7.chg hCx (fun e => hxz e.symm)
          have hR8 := Sln.chg hR7 hCx (rk_apart hR7 hX7 dz_nostr)
          have hS8 := Sl.chg hS7 hCx (sl_apart hS7 hX7 dz_nostr)
          have hE9 : Ext w ((((w7.setCell ⟨xb, 0, none⟩ (.slice D2 L3.length c3)).setCell ⟨xb, 1, none⟩ (.int .i64 room)).setCell ⟨xb, 2, none⟩ (.bool lost)).setCell ⟨xb, 3, none⟩ (.int .i64 a2)) := ext_anew hwx [.slice D2 L3.length c3, .int .i64 room, .bool lost, .int .i64 a2] 0 _ hE8
          clear x0 x1 x2 x3 fr0 fr1 fr2 fr3 hX7 hZ7 hE8 hR7 hS7 hCx
          generalize ((((w7.setCell ⟨xb, 0, none⟩ (.slice D2 L3.length c3)).setCell ⟨xb, 1, none⟩ (.int .i64 room)).setCell ⟨xb, 2, none⟩ (.bool lost)).setCell ⟨xb, 3, none⟩ (.int .i64 a2)) = w8 at hX8 hZ8 hR8 hS8 hE9 ⊢
          go_wp2_with fail
          go_roundw
          case rel => exact ⟨k + 1, D2, c3, L3, by go_num, by omega, by omega, HN, hX8, hR8, hZ8, hS8, hE9⟩
          case measure => simp [intOf]; omega
        · obtain rfl : k = ms.length := by omega
          rw [List.take_length] at HPL
          have x0 := hX.cell 0
          have x1 := hX.cell 1
          have x2 := hX.cell 2
          have x3 := hX.cell 3
          simp at x0 x1 x2 x3
          have z0 := hZ.cell 0
          have z1 := hZ.cell 1
          have z2 := hZ.cell 2
          have z3 := hZ.cell 3
          have g0 := hZ.frozen 0
          have g1 := hZ.frozen 1
          have g2 := hZ.frozen 2
          have g3 := hZ.frozen 3
          simp at z0 z1 z2 z3
          go_wp2_with fail
          have hZ9 := at_anew hZ (vs := #[.slice B Lk.length c2, .int .i64 room, .bool lost, .int .i64 a2]) rfl
          refine bodyPost_ret (v := .tuple #[.agg #[.slice B Lk.length c2, .int .i64 room, .bool lost, .int .i64 a2], .int .i64 0]) (results_ct Try.results30 _ rfl (hZ9.loadv Try.underlying29 rfl (by kernel_rfl))) rfl ?_
          have hE9 := ext_anew hwz [.slice B Lk.length c2, .int .i64 room, .bool lost, .int .i64 a2] 0 _ hE
          obtain ⟨p1, p2⟩ := HP.out
          exact ⟨_, by rw [p1], by rw [p2, HPL.out]; exact Sln.chg hR (chg_setAll wr zb [.slice B Lk.length c2, .int .i64 room, .bool lost, .int .i64 a2] 0 wr (Chg.refl _ _)) (rk_apart hR hZ dz_nostr), hE9⟩
  · have he2 : (er != 0) = true := by simpa using he
    rw [if_pos he] at HPU
    obtain ⟨p1, p2⟩ := HPR.out _ _ HPU.out
    have HP := Lib.hid (And.intro p1 p2)
    clear p1 p2 he
    have z0 := hZ.cell 0
    have z1 := hZ.cell 1
    have z2 := hZ.cell 2
    have z3 := hZ.cell 3
    have g0 := hZ.frozen 0
    have g1 := hZ.frozen 1
    have g2 := hZ.frozen 2
    have g3 := hZ.frozen 3
    simp at z0 z1 z2 z3
    go_wp2_with fail
    have hZ9 := at_anew hZ (vs := #[.slice A L.length c, .int .i64 room, .bool lost, .int .i64 a2]) rfl
    refine bodyPost_ret (v := .tuple #[.agg #[.slice A L.length c, .int .i64 room, .bool lost, .int .i64 a2], .int .i64 er]) (results_ct Try.results30 _ rfl (hZ9.loadv Try.underlying29 rfl (by kernel_rfl))) rfl ?_
    have hE9 := ext_anew hwz [.slice A L.length c, .int .i64 room, .bool lost, .int .i64 a2] 0 _ hE2
    obtain ⟨p1, p2⟩ := HP.out
    exact ⟨_, by rw [p1], by rw [p2]; exact h.in_.ext hE9, hE9⟩
end Go.Proofs.Yteleafbfdfipdaa
