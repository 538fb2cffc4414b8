/-
  CommandApart: the walk.
-/
import Derived.Test.YtclgekgocfhobaaBackW
import Derived.Test.YtclgekgocfhobaaRegG
namespace Go.Proofs.Ytclgekgocfhobaa
open Go.RowKit Go.Sort

theorem write_re (W : World) (c : Cmd) (dv : Value) (hc : c.Wf) (hS : Sl W dv (c.disks.map (Value.int .i64))) (hl : c.disks.length ≤ 1048576) (hnm : c.name.size ≤ 1048576) (dd : Nat) (os : Array Obj) :
    Calls Try.prog 13 #[cmdVal c dv] (grow (redrawn W dd) os) fun e w'' => e = .returned (.string ⟨c.enc.toArray⟩) ∧ ∃ p : Regrown, w'' = grow (redrawn W p.d) p.os :=
  Calls.ext_of (write_any _ c dv hc (hS.ext (ext_regrown W dd os)) hl hnm)
theorem sameB_iff (a b : Cmd) : sameB a b = true ↔ a = b := by
  obtain ⟨k, cl, sq, nm, bl, sz, sm, ds, po, vo, at_⟩ := a
  obtain ⟨k', cl', sq', nm', bl', sz', sm', ds', po', vo', at'⟩ := b
  have hn : nm.toList = nm'.toList ↔ nm = nm' := toList_inj
  simp only [sameB, Bool.and_eq_true, decide_eq_true_eq, beq_iff_eq, hn, Cmd.mk.injEq]
  constructor
  · rintro ⟨⟨⟨⟨⟨⟨⟨⟨⟨⟨a, b⟩, c⟩, d⟩, e⟩, f⟩, g⟩, h⟩, i⟩, j⟩, k⟩; exact ⟨b, c, d, e, f, g, h, a, i, j, k⟩
  · rintro ⟨b, c, d, e, f, g, h, a, i, j, k⟩; exact ⟨⟨⟨⟨⟨⟨⟨⟨⟨⟨a, b⟩, c⟩, d⟩, e⟩, f⟩, g⟩, h⟩, i⟩, j⟩, k⟩
theorem enc_same {a b : Cmd} (ha : a.good = true) (wa : a.Wf) (hb : b.good = true) (wb : b.Wf) : ((⟨a.enc.toArray⟩ : ByteArray).toList == (⟨b.enc.toArray⟩ : ByteArray).toList) = sameB a b := by
  rw [Bool.eq_iff_iff, beq_iff_eq, sameB_iff, toList_inj]
  constructor
  · intro h
    exact enc_inj ha wa hb wb (by simpa using congrArg (fun s : ByteArray => s.data.toList) h)
  · rintro rfl; rfl

/-- A slice of integers that lies from base on. -/
def DSl (w : World) (base : Nat) (v : Value) (ds : List Int) : Prop := Sl w v (ds.map (Value.int .i64)) ∧ (∀ b o n c, v = .slice (some ⟨b, o, none⟩) n c → base ≤ b) ∧ ∃ A n c, v = .slice A n c
theorem DSl.of_own {w : World} {base base' : Nat} {v : Value} {ds : List Int} {n : Nat} (h : w.ownsRow base' 3 1 v n (ds.map (Value.int .i64))) (hb : base ≤ base') : DSl w base v ds :=
  ⟨Sl.of_own h, fun b o n c hv => by have := own_ge h b (by rw [hv]; rfl); omega, own_slice h⟩
theorem DSl.ext {w w' : World} {base : Nat} {v : Value} {ds : List Int} (h : DSl w base v ds) (he : Ext w w') : DSl w' base v ds := ⟨h.1.ext he, h.2⟩
theorem DSl.far {w : World} {base : Nat} {v : Value} {ds : List Int} (h : DSl w base v ds) {p : Addr} (hp : p.block < base) (u : Value) : DSl (w.setCell p u) base v ds :=
  ⟨h.1.chg ((Chg.refl (· = p.block) _).setCell (.inl rfl) _) fun b o n c hv _ hh => by have := h.2.1 b o n c hv; have h' : b = p.block := hh; omega, h.2⟩

/-- the region's state: both commands' blocks, what was made -/
structure ApG (W0 : World) (base ba bb : Nat) (a b : Cmd) (va vb : Value) (γ : Nat → Value) (L : Nat → Bool) (w : World) : Prop where
  hA : At w ba 26 #[.int .i64 a.kind, .int .i64 a.client, .int .i64 a.seq, .string a.name, .int .u64 (a.blob : Int), .int .i64 a.size, .int .u32 (a.sum : Int), (if L 7 = true then γ 0 else va), .int .i64 a.pool, .int .i64 a.vol, .int .i64 a.at_]
  hB : At w bb 26 #[.int .i64 b.kind, .int .i64 b.client, .int .i64 b.seq, .string b.name, .int .u64 (b.blob : Int), .int .i64 b.size, .int .u32 (b.sum : Int), (if L 9 = true then γ 1 else vb), .int .i64 b.pool, .int .i64 b.vol, .int .i64 b.at_]
  chg : Chg (fun k => k = ba ∨ k = bb) W0 w
  da : L 2 = true → DSl w base (γ 0) (diskOf a.disks)
  db : L 5 = true → DSl w base (γ 1) (diskOf b.disks)

set_option maxRecDepth 100000 in
set_option maxHeartbeats 4000000 in
theorem apart_any (w : World) (a b : Cmd) (va vb : Value) (ia : a.In va w) (ib : b.In vb w) (la : a.disks.length ≤ 17592186043904) (lb : b.disks.length ≤ 17592186043904) :
    Calls Try.prog 6 #[cmdVal a va, cmdVal b vb] w fun e w' => e = .returned (.bool true) ∧ Ext w w' := by
  have wa := ia.wf
  have wb := ib.wf
  have na := ia.nm
  have nb := ib.nm
  unfold maxLen at na nb
  have hSa := ia.sl.1
  have hSb := ib.sl.1
  have hba := sl_block hSa
  have hbb := sl_block hSb
  obtain ⟨_, A, n, rfl, _, _⟩ := ia.sl
  obtain ⟨_, B, m, rfl, _, _⟩ := ib.sl
  clear ia ib
  rw [List.length_map] at hSa hSb hba hbb ⊢
  rw [List.length_map]
  unfold cmdVal
  go_enter Try.func6, Try.ntmps6
  go_wp2_with fail
  have hA0 := At.new w 26 #[.int .i64 a.kind, .int .i64 a.client, .int .i64 a.seq, .string a.name, .int .u64 (a.blob : Int), .int .i64 a.size, .int .u32 (a.sum : Int), .slice A a.disks.length n, .int .i64 a.pool, .int .i64 a.vol, .int .i64 a.at_]
  have hA := hA0.alloc (.cells #[.int .i64 b.kind, .int .i64 b.client, .int .i64 b.seq, .string b.name, .int .u64 (b.blob : Int), .int .i64 b.size, .int .u32 (b.sum : Int), .slice B b.disks.length m, .int .i64 b.pool, .int .i64 b.vol, .int .i64 b.at_] 26)
  have hB := At.new (w.alloc (.cells #[.int .i64 a.kind, .int .i64 a.client, .int .i64 a.seq, .string a.name, .int .u64 (a.blob : Int), .int .i64 a.size, .int .u32 (a.sum : Int), .slice A a.disks.length n, .int .i64 a.pool, .int .i64 a.vol, .int .i64 a.at_] 26)) 26 #[.int .i64 b.kind, .int .i64 b.client, .int .i64 b.seq, .string b.name, .int .u64 (b.blob : Int), .int .i64 b.size, .int .u32 (b.sum : Int), .slice B b.disks.length m, .int .i64 b.pool, .int .i64 b.vol, .int .i64 b.at_]
  have X : Ext w ((w.alloc (.cells #[.int .i64 a.kind, .int .i64 a.client, .int .i64 a.seq, .string a.name, .int .u64 (a.blob : Int), .int .i64 a.size, .int .u32 (a.sum : Int), .slice A a.disks.length n, .int .i64 a.pool, .int .i64 a.vol, .int .i64 a.at_] 26)).alloc (.cells #[.int .i64 b.kind, .int .i64 b.client, .int .i64 b.seq, .string b.name, .int .u64 (b.blob : Int), .int .i64 b.size, .int .u32 (b.sum : Int), .slice B b.disks.length m, .int .i64 b.pool, .int .i64 b.vol, .int .i64 b.at_] 26)) := ((Ext.refl w).alloc _).alloc _
  have hsz : (w.alloc (.cells #[.int .i64 a.kind, .int .i64 a.client, .int .i64 a.seq, .string a.name, .int .u64 (a.blob : Int), .int .i64 a.size, .int .u32 (a.sum : Int), .slice A a.disks.length n, .int .i64 a.pool, .int .i64 a.vol, .int .i64 a.at_] 26)).heap.size = w.heap.size + 1 := by simp
  rw [hsz] at hB
  generalize (w.alloc (.cells #[.int .i64 a.kind, .int .i64 a.client, .int .i64 a.seq, .string a.name, .int .u64 (a.blob : Int), .int .i64 a.size, .int .u32 (a.sum : Int), .slice A a.disks.length n, .int .i64 a.pool, .int .i64 a.vol, .int .i64 a.at_] 26)).alloc (.cells #[.int .i64 b.kind, .int .i64 b.client, .int .i64 b.seq, .string b.name, .int .u64 (b.blob : Int), .int .i64 b.size, .int .u32 (b.sum : Int), .slice B b.disks.length m, .int .i64 b.pool, .int .i64 b.vol, .int .i64 b.at_] 26) = W at hA hB X ⊢
  clear hA0 hsz
  obtain ⟨ba, hbeq⟩ : ∃ x, x = w.heap.size := ⟨_, rfl⟩
  rw [← hbeq] at hA hB ⊢
  have hbl : w.heap.size ≤ ba := by omega
  have hbl2 : ba ≤ w.heap.size := by omega
  clear hbeq
  obtain ⟨base, hbase⟩ : ∃ x, x = W.heap.size := ⟨_, rfl⟩
  have hlt : ba + 1 < base := by rw [hbase]; exact hB.lt
  have hsA : ∀ w', Chg (fun k => k = ba ∨ k = ba + 1) W.drew w' → Sl w' (.slice A a.disks.length n) (a.disks.map (Value.int .i64)) := fun w' h => (hSa.ext X.drew).chg h fun b' o n' c' hv hne hh => by have := hba b' o n' c' hv hne; omega
  have hsB : ∀ w', Chg (fun k => k = ba ∨ k = ba + 1) W.drew w' → Sl w' (.slice B b.disks.length m) (b.disks.map (Value.int .i64)) := fun w' h => (hSb.ext X.drew).chg h fun b' o n' c' hv hne hh => by have := hbb b' o n' c' hv hne; omega
  refine wp_region_phi (Γ := Nat → Value) (sgφ [.val (.pointer (some ⟨ba, 7, none⟩)), .val (.slice A a.disks.length n), .g 0, .val (.pointer (some ⟨ba + 1, 7, none⟩)), .val (.slice B b.disks.length m), .g 1, .val (.pointer (some ⟨ba, 7, none⟩)), .any, .val (.pointer (some ⟨ba + 1, 7, none⟩)), .any])
    (ApG W.drew base ba (ba + 1) a b (.slice A a.disks.length n) (.slice B b.disks.length m)) (by kernel_rfl) (by kernel_rfl) (by kernel_rfl) (fun _ => undef) ⟨hA.drew, hB.drew, Chg.refl _ _, fun h => (by cases h), fun h => (by cases h)⟩ ?steps ?fin
  case steps =>
    show StepsTo _ _ _ _ _ _ 10
    refine ⟨⟨⟨⟨⟨⟨⟨⟨⟨⟨trivial, ?s0⟩, ?s1⟩, ?s2⟩, ?s3⟩, ?s4⟩, ?s5⟩, ?s6⟩, ?s7⟩, ?s8⟩, ?s9⟩
    case s0 =>
      refine sg_val (x := .pointer (some ⟨ba, 7, none⟩)) rfl rfl rfl (fun γ L w h _ => ⟨h.hA, h.hB, h.chg, h.da, h.db⟩) fun γ L v a w st => ?_
      have e := st.far 2 (by kernel_rfl)
      simp at e
      go_simp
    case s1 =>
      refine sg_val (x := .slice A a.disks.length n) rfl rfl rfl (fun γ L w h _ => ⟨h.hA, h.hB, h.chg, h.da, h.db⟩) fun γ L v a' w st => ?_
      have e := st.val 0 5 rfl (by kernel_rfl)
      rw [show v 0 = _ from st.φ 0 (by kernel_rfl)] at e
      simp at e
      have hc := st.inv.hA.cell 7
      simp at hc
      have hf : L 7 = false := by
        cases hq : L 7 with
        | false => rfl
        | true => have q1 := st.down 7 2 hq (by kernel_rfl); have q2 := st.down 2 1 q1 (by kernel_rfl); have q3 := st.off; rw [q2] at q3; cases q3
      rw [hf] at hc
      simp at hc
      go_simp
    case s2 =>
      refine sg_call (k := 0) (f := 9) rfl rfl rfl rfl fun γ L v a' w st => ?_
      have e := st.val 1 6 rfl (by kernel_rfl)
      rw [show v 1 = _ from st.φ 1 (by kernel_rfl)] at e
      simp at e
      refine ⟨#[.slice A a.disks.length n], by go_simp, ?_⟩
      refine (disk_any w _ a.disks (hsA w st.inv.chg) la).mono ?_
      rintro r w' ⟨x, rfl, hown, hE⟩
      have hf : L 7 = false := by
        cases hq : L 7 with
        | false => rfl
        | true => have q1 := st.down 7 2 hq (by kernel_rfl); have q3 := st.off; rw [q1] at q3; cases q3
      have hsz := st.inv.chg.size
      have hbw : base ≤ w.heap.size := by rw [hbase]; exact hsz
      refine ⟨x, rfl, ⟨?_, ?_, st.inv.chg.ext_trans hE, ?_, ?_⟩⟩
      · simpa [hf] using st.inv.hA.ext hE
      · simpa [upd] using st.inv.hB.ext hE
      · intro _; simpa [upd] using DSl.of_own hown hbw
      · intro h5; simpa [upd] using (st.inv.db h5).ext hE
    case s3 =>
      refine sg_val (x := .pointer (some ⟨ba + 1, 7, none⟩)) rfl rfl rfl (fun γ L w h _ => ⟨h.hA, h.hB, h.chg, h.da, h.db⟩) fun γ L v a w st => ?_
      have e := st.far 3 (by kernel_rfl)
      simp at e
      go_simp
    case s4 =>
      refine sg_val (x := .slice B b.disks.length m) rfl rfl rfl (fun γ L w h _ => ⟨h.hA, h.hB, h.chg, h.da, h.db⟩) fun γ L v a' w st => ?_
      have e := st.val 3 8 rfl (by kernel_rfl)
      rw [show v 3 = _ from st.φ 3 (by kernel_rfl)] at e
      simp at e
      have hc := st.inv.hB.cell 7
      simp at hc
      have hf : L 9 = false := by
        cases hq : L 9 with
        | false => rfl
        | true => have q1 := st.down 9 5 hq (by kernel_rfl); have q2 := st.down 5 4 q1 (by kernel_rfl); have q3 := st.off; rw [q2] at q3; cases q3
      rw [hf] at hc
      simp at hc
      go_simp
    case s5 =>
      refine sg_call (k := 1) (f := 9) rfl rfl rfl rfl fun γ L v a' w st => ?_
      have e := st.val 4 9 rfl (by kernel_rfl)
      rw [show v 4 = _ from st.φ 4 (by kernel_rfl)] at e
      simp at e
      refine ⟨#[.slice B b.disks.length m], by go_simp, ?_⟩
      refine (disk_any w _ b.disks (hsB w st.inv.chg) lb).mono ?_
      rintro r w' ⟨x, rfl, hown, hE⟩
      have hf : L 9 = false := by
        cases hq : L 9 with
        | false => rfl
        | true => have q1 := st.down 9 5 hq (by kernel_rfl); have q3 := st.off; rw [q1] at q3; cases q3
      have hsz := st.inv.chg.size
      have hbw : base ≤ w.heap.size := by rw [hbase]; exact hsz
      refine ⟨x, rfl, ⟨?_, ?_, st.inv.chg.ext_trans hE, ?_, ?_⟩⟩
      · simpa [upd] using st.inv.hA.ext hE
      · simpa [hf] using st.inv.hB.ext hE
      · intro h5; simpa [upd] using (st.inv.da h5).ext hE
      · intro _; simpa [upd] using DSl.of_own hown hbw
    case s6 =>
      refine sg_val (x := .pointer (some ⟨ba, 7, none⟩)) rfl rfl rfl (fun γ L w h _ => ⟨h.hA, h.hB, h.chg, h.da, h.db⟩) fun γ L v a w st => ?_
      have e := st.far 2 (by kernel_rfl)
      simp at e
      go_simp
    case s7 =>
      refine sg_skip rfl rfl rfl fun γ L v a' w st => ?_
      have e := st.val 6 11 rfl (by kernel_rfl)
      rw [show v 6 = _ from st.φ 6 (by kernel_rfl)] at e
      simp at e
      have e2 := st.val 2 7 rfl (by kernel_rfl)
      rw [show v 2 = γ 0 from st.φ 2 (by kernel_rfl)] at e2
      simp at e2
      have hD := st.inv.da (st.dep 2 (by kernel_rfl))
      obtain ⟨A', n', c', hv⟩ := hD.2.2
      have hc := st.inv.hA.cell 7
      have fz := st.inv.hA.frozen 7
      simp at hc
      have hl := st.inv.hA.lt
      refine ⟨w.setCell ⟨ba, 7, none⟩ (γ 0), by rw [hv] at e2 ⊢; go_simp, ⟨?_, ?_, st.inv.chg.setCell (.inl (by simp)) _, fun h => (st.inv.da h).far (by simp only; omega) _, fun h => (st.inv.db h).far (by simp only; omega) _⟩⟩
      · simpa using st.inv.hA.set 7 (γ 0)
      · simpa using st.inv.hB.far (p := ⟨ba, 7, none⟩) (by simp) (γ 0)
    case s8 =>
      refine sg_val (x := .pointer (some ⟨ba + 1, 7, none⟩)) rfl rfl rfl (fun γ L w h _ => ⟨h.hA, h.hB, h.chg, h.da, h.db⟩) fun γ L v a w st => ?_
      have e := st.far 3 (by kernel_rfl)
      simp at e
      go_simp
    case s9 =>
      refine sg_skip rfl rfl rfl fun γ L v a' w st => ?_
      have e := st.val 8 12 rfl (by kernel_rfl)
      rw [show v 8 = _ from st.φ 8 (by kernel_rfl)] at e
      simp at e
      have e2 := st.val 5 10 rfl (by kernel_rfl)
      rw [show v 5 = γ 1 from st.φ 5 (by kernel_rfl)] at e2
      simp at e2
      have hD := st.inv.db (st.dep 5 (by kernel_rfl))
      obtain ⟨A', n', c', hv⟩ := hD.2.2
      have hc := st.inv.hB.cell 7
      have fz := st.inv.hB.frozen 7
      simp at hc
      have hl := st.inv.hB.lt
      refine ⟨w.setCell ⟨ba + 1, 7, none⟩ (γ 1), by rw [hv] at e2 ⊢; go_simp, ⟨?_, ?_, st.inv.chg.setCell (.inl (by simp)) _, fun h => (st.inv.da h).far (by simp only; omega) _, fun h => (st.inv.db h).far (by simp only; omega) _⟩⟩
      · simpa using st.inv.hA.far (p := ⟨ba + 1, 7, none⟩) (by simp) (γ 1)
      · simpa using st.inv.hB.set 7 (γ 1)
  case fin =>
    intro γ L v w1 hall G hφ
    obtain ⟨hA1, hB1, hC, dA, dB⟩ := G
    rw [hall 7 (by decide)] at hA1
    rw [hall 9 (by decide)] at hB1
    have dA := dA (hall 2 (by decide))
    have dB := dB (hall 5 (by decide))
    simp only [if_true] at hA1 hB1
    obtain ⟨hDa, _, A', n', c', hv0⟩ := dA
    obtain ⟨hDb, _, B', m', d', hv1⟩ := dB
    rw [hv0] at hA1 hDa
    rw [hv1] at hB1 hDb
    change Exit.then _ _ _ (putAll _ v _ 10) w1
    simp only [putAll, dstOf, Act.put]
    simp only [List.getElem?_toArray, List.getElem?_cons_zero, List.getElem?_cons_succ, Option.bind_some, List.setIfInBounds_toArray, List.set_cons_zero, List.set_cons_succ]
    have X1 : Ext w w1 := Chg.mono (X.drew.chg_trans hC) fun k hk h => by omega
    clear hC hsA hsB hA hB hSa hSb hba hbb hall hφ hbase hlt X hv0 hv1
    have d6a := diskOf_len a.disks
    have d6b := diskOf_len b.disks
    have dra : ∀ d ∈ diskOf a.disks, -9223372036854775808 ≤ d ∧ d ≤ 9223372036854775807 := fun d hd => by have := upB_iff.1 ((diskOf_mem a.disks d).1 hd).2; omega
    have drb : ∀ d ∈ diskOf b.disks, -9223372036854775808 ≤ d ∧ d ≤ 9223372036854775807 := fun d hd => by have := upB_iff.1 ((diskOf_mem b.disks d).1 hd).2; omega
    go_wp2_with fail
    obtain ⟨a1, ha1⟩ : ∃ c1 : Cmd, c1 = ⟨a.kind, a.client, a.seq, a.name, a.blob, a.size, a.sum, diskOf a.disks, a.pool, a.vol, a.at_⟩ := ⟨_, rfl⟩
    have wa1 : a1.Wf := by
      rw [ha1]
      exact ⟨wa.kind, wa.client, wa.seq, wa.blob, wa.size, wa.sum, wa.pool, wa.vol, wa.at_, dra⟩
    obtain ⟨b1, hb1⟩ : ∃ c1 : Cmd, c1 = ⟨b.kind, b.client, b.seq, b.name, b.blob, b.size, b.sum, diskOf b.disks, b.pool, b.vol, b.at_⟩ := ⟨_, rfl⟩
    have wb1 : b1.Wf := by
      rw [hb1]
      exact ⟨wb.kind, wb.client, wb.seq, wb.blob, wb.size, wb.sum, wb.pool, wb.vol, wb.at_, drb⟩
    have ekind : a.kind = a1.kind := by rw [ha1]
    have eclient : a.client = a1.client := by rw [ha1]
    have eseq : a.seq = a1.seq := by rw [ha1]
    have ename : a.name = a1.name := by rw [ha1]
    have eblob : a.blob = a1.blob := by rw [ha1]
    have esize : a.size = a1.size := by rw [ha1]
    have esum : a.sum = a1.sum := by rw [ha1]
    have epool : a.pool = a1.pool := by rw [ha1]
    have evol : a.vol = a1.vol := by rw [ha1]
    have eat_ : a.at_ = a1.at_ := by rw [ha1]
    have edisks : diskOf a.disks = a1.disks := by rw [ha1]
    rw [ekind, eclient, eseq, ename, eblob, esize, esum, epool, evol, eat_] at hA1
    rw [edisks] at hDa d6a
    rw [ename] at na
    clear ekind eclient eseq ename eblob esize esum epool evol eat_ edisks ha1
    have ekind : b.kind = b1.kind := by rw [hb1]
    have eclient : b.client = b1.client := by rw [hb1]
    have eseq : b.seq = b1.seq := by rw [hb1]
    have ename : b.name = b1.name := by rw [hb1]
    have eblob : b.blob = b1.blob := by rw [hb1]
    have esize : b.size = b1.size := by rw [hb1]
    have esum : b.sum = b1.sum := by rw [hb1]
    have epool : b.pool = b1.pool := by rw [hb1]
    have evol : b.vol = b1.vol := by rw [hb1]
    have eat_ : b.at_ = b1.at_ := by rw [hb1]
    have edisks : diskOf b.disks = b1.disks := by rw [hb1]
    rw [ekind, eclient, eseq, ename, eblob, esize, esum, epool, evol, eat_] at hB1
    rw [edisks] at hDb d6b
    rw [ename] at nb
    clear ekind eclient eseq ename eblob esize esum epool evol eat_ edisks hb1
    clear wa wb la lb dra drb
    refine (cawake_any _).mono ?_
    rintro e w2 ⟨rfl, hE2⟩
    replace hA1 := hA1.ext hE2
    replace hB1 := hB1.ext hE2
    replace hDa := hDa.ext hE2
    replace hDb := hDb.ext hE2
    replace X1 := X1.trans hE2
    clear hE2
    have y0 := hA1.cell 0
    have y1 := hA1.cell 1
    have y2 := hA1.cell 2
    have y3 := hA1.cell 3
    have y4 := hA1.cell 4
    have y5 := hA1.cell 5
    have y6 := hA1.cell 6
    have y7 := hA1.cell 7
    have y8 := hA1.cell 8
    have y9 := hA1.cell 9
    have y10 := hA1.cell 10
    simp at y0 y1 y2 y3 y4 y5 y6 y7 y8 y9 y10
    go_wp2_with fail
    have cg := good_any w2 a1 (.slice A' n' c') hDa (by omega) na
    unfold cmdVal at cg
    refine cg.mono ?_
    clear cg
    cases hga : a1.good
    · rintro e w3 ⟨rfl, hE3⟩
      replace X1 := X1.trans hE3
      go_wp2_with fail
      refine (cawake_any _).mono ?_
      rintro e w5 ⟨rfl, hE5⟩
      go_wp2_with fail
      go_ret
      exact ⟨rfl, X1.trans hE5⟩
    · rintro e w3 ⟨rfl, hE3⟩
      replace hA1 := hA1.ext hE3
      replace hB1 := hB1.ext hE3
      replace hDa := hDa.ext hE3
      replace hDb := hDb.ext hE3
      replace X1 := X1.trans hE3
      clear hE3
      clear y0 y1 y2 y3 y4 y5 y6 y7 y8 y9 y10
      have z0 := hB1.cell 0
      have z1 := hB1.cell 1
      have z2 := hB1.cell 2
      have z3 := hB1.cell 3
      have z4 := hB1.cell 4
      have z5 := hB1.cell 5
      have z6 := hB1.cell 6
      have z7 := hB1.cell 7
      have z8 := hB1.cell 8
      have z9 := hB1.cell 9
      have z10 := hB1.cell 10
      simp at z0 z1 z2 z3 z4 z5 z6 z7 z8 z9 z10
      go_wp2_with fail
      have cg := good_any w3 b1 (.slice B' m' d') hDb (by omega) nb
      unfold cmdVal at cg
      refine cg.mono ?_
      clear cg
      cases hgb : b1.good
      · rintro e w4 ⟨rfl, hE4⟩
        replace X1 := X1.trans hE4
        go_wp2_with fail
        refine (cawake_any _).mono ?_
        rintro e w5 ⟨rfl, hE5⟩
        go_wp2_with fail
        go_ret
        exact ⟨rfl, X1.trans hE5⟩
      · rintro e w4 ⟨rfl, hE4⟩
        replace hA1 := hA1.ext hE4
        replace hB1 := hB1.ext hE4
        replace hDa := hDa.ext hE4
        replace hDb := hDb.ext hE4
        replace X1 := X1.trans hE4
        clear hE4
        clear z0 z1 z2 z3 z4 z5 z6 z7 z8 z9 z10
        go_wp2_with fail
        have n32a := (Cmd.good_iff.1 hga).2.2.2.2.2.1
        have n32b := (Cmd.good_iff.1 hgb).2.2.2.2.2.1
        have heq := enc_same hga wa1 hgb wb1
        have cw1 := write_re w4 a1 (.slice A' n' c') wa1 hDa (by omega) (by omega)
        have cw2 := write_re w4 b1 (.slice B' m' d') wb1 hDb (by omega) (by omega)
        have cw3 := told_re w4 a1 A' n' c'
        have cw4 := told_re w4 b1 B' m' d'
        have cw5 := same_re w4 a1 b1 (.slice A' n' c') (.slice B' m' d') hDa hDb (by omega) (by omega)
        generalize (⟨a1.enc.toArray⟩ : ByteArray) = sA at cw1 heq
        generalize (⟨b1.enc.toArray⟩ : ByteArray) = sB at cw2 heq
        generalize sameB a1 b1 = sm at cw5 heq
        unfold cmdVal at cw1 cw2 cw3 cw4 cw5
        have hbb : (sm == sm) = true := by simp
        refine wp_region_quiet_ext (by kernel_rfl) (by kernel_rfl) ?_
        have y0 := hA1.cell_regrown 0
        have z0 := hB1.cell_regrown 0
        have y1 := hA1.cell_regrown 1
        have z1 := hB1.cell_regrown 1
        have y2 := hA1.cell_regrown 2
        have z2 := hB1.cell_regrown 2
        have y3 := hA1.cell_regrown 3
        have z3 := hB1.cell_regrown 3
        have y4 := hA1.cell_regrown 4
        have z4 := hB1.cell_regrown 4
        have y5 := hA1.cell_regrown 5
        have z5 := hB1.cell_regrown 5
        have y6 := hA1.cell_regrown 6
        have z6 := hB1.cell_regrown 6
        have y7 := hA1.cell_regrown 7
        have z7 := hB1.cell_regrown 7
        have y8 := hA1.cell_regrown 8
        have z8 := hB1.cell_regrown 8
        have y9 := hA1.cell_regrown 9
        have z9 := hB1.cell_regrown 9
        have y10 := hA1.cell_regrown 10
        have z10 := hB1.cell_regrown 10
        simp at y0 z0 y1 z1 y2 z2 y3 z3 y4 z4 y5 z5 y6 z6 y7 z7 y8 z8 y9 z9 y10 z10
        repeat (go_big_quiet_step (first | with_reducible exact cw1 _ _ | with_reducible exact cw2 _ _ | with_reducible exact cw3 _ _ | with_reducible exact cw4 _ _ | with_reducible exact cw5 _ _))
        refine wpQuiet_nil ?_
        intro W8 hE8
        go_wp2_with fail
        go_ret
        exact ⟨rfl, X1.trans hE8⟩
end Go.Proofs.Ytclgekgocfhobaa
