/-
  Part 12 of what the law leans on.
-/
import Derived.Test.YtapodcmjggmgmaaGreatDoorSR1
import Derived.Test.YtapodcmjggmgmaaGreatDoorSR2
import Derived.Test.YtapodcmjggmgmaaGreatDoorSR3
import Derived.Test.YtapodcmjggmgmaaGreatDoorSR11
set_option linter.unusedVariables false
set_option linter.unusedSimpArgs false
set_option linter.unusedSectionVars false
namespace Go.Proofs.YtapodcmjggmgmaaGreatDoor
open Go.RowKit Go.Sort
theorem gMap_keys (nx : Nat) (L : List (Nat × ByteArray)) : ∀ k, k ≤ L.length → (gMap nx L k).map (·.1) = ((L.take k).map fun x => (x.1 : Int)).reverse
  | 0, _ => rfl
  | k + 1, hk => by
    have ih := gMap_keys nx L k (by omega)
    obtain ⟨x, hx⟩ : ∃ x, L[k]? = some x := ⟨_, List.getElem?_eq_getElem (by omega)⟩
    show (gPlc nx L k).1 :: (gMap nx L k).map (·.1) = _
    rw [ih, List.take_add_one, hx]
    simp only [Option.toList_some, List.map_append, List.map_cons, List.map_nil, List.reverse_append, List.reverse_cons, List.reverse_nil, List.nil_append, List.cons_append]
    congr 1
    unfold gPlc
    rw [List.getD_eq_getElem?_getD, hx]; rfl
theorem gMap_mem (nx : Nat) (L : List (Nat × ByteArray)) {i : Nat} : ∀ {k : Nat}, i < k → gPlc nx L i ∈ gMap nx L k
  | k + 1, h => by
    by_cases e : i = k
    · subst e; exact List.mem_cons_self ..
    · exact List.mem_cons_of_mem _ (gMap_mem nx L (by omega))
theorem gText_pre (L : List (Nat × ByteArray)) : ∀ {k : Nat} (j : Nat), k + j ≤ L.length → ∃ r, gText L (k + j) = gText L k ++ r
  | k, 0, _ => ⟨[], by simp⟩
  | k, j + 1, h => by
    obtain ⟨r, hr⟩ := gText_pre L j (k := k) (by omega)
    obtain ⟨x, hx⟩ : ∃ x, L[k + j]? = some x := ⟨_, List.getElem?_eq_getElem (by omega)⟩
    exact ⟨r ++ (frec 1 x.1 x.2).data.toList, by rw [← Nat.add_assoc, gText_succ hx, hr, List.append_assoc]⟩
theorem gText_at {L : List (Nat × ByteArray)} {i : Nat} {x : Nat × ByteArray} (h : L[i]? = some x) :
    ((⟨(gText L L.length).toArray⟩ : ByteArray).extract (gText L i).length ((gText L i).length + (frec 1 x.1 x.2).size) = frec 1 x.1 x.2) ∧ (gText L i).length + (frec 1 x.1 x.2).size ≤ (⟨(gText L L.length).toArray⟩ : ByteArray).size := by
  have hi := (List.getElem?_eq_some_iff.1 h).1
  obtain ⟨r, hr⟩ := gText_pre L (k := i + 1) (L.length - (i + 1)) (by omega)
  rw [show i + 1 + (L.length - (i + 1)) = L.length by omega, gText_succ h] at hr
  have hl : (frec 1 x.1 x.2).data.toList.length = (frec 1 x.1 x.2).size := rfl
  refine ⟨bytes_ext ?_, ?_⟩
  · rw [extract_list]
    show ((gText L L.length).drop _).take _ = _
    rw [hr, List.append_assoc, List.drop_append_of_le_length (Nat.le_refl _), List.drop_length, List.nil_append, List.take_append_of_le_length (by omega), List.take_of_length_le (by omega)]
  · show _ ≤ (gText L L.length).length
    rw [hr]
    simp only [List.length_append]
    omega
theorem Inv.no_file {S : St} {L : List (Nat × ByteArray)} {B : Nat} (h : Inv S L B) {k : Nat} (hk : S.seg < k) (h100 : k < 100) : S.D.get (segN k) = Fl.zero := by
  unfold Dk.get
  cases hg : lget (segN k) S.D.files with
  | none => rfl
  | some f =>
    exfalso
    have hm := (lget_some (rises_nodup h.calm.ok.srt)).1 hg
    obtain ⟨j, j1, j2, e⟩ := h.files _ hm
    have := segN_inj h100 (by omega) e
    omega
structure Packs (S : St) (L : List (Nat × ByteArray)) (ns : List Nat) (B : Nat) : Prop where
  hns : S.D.names = ns.map segN
  hne : ns ≠ []
  hnr : ∀ n ∈ ns, 1 ≤ n ∧ n < 100 ∧ n < S.seg + 1
  hnl : ns.length ≤ 1000
  h2 : S.seg + 1 < 100
  hfl : S.D.files.length ≤ 1048576
  hR2 : (S.D.change (segN (S.seg + 1)) fun _ => ⟨(gText L L.length).toArray⟩).2.Calm
  hfl1 : (S.D.change (segN (S.seg + 1)) fun _ => ⟨(gText L L.length).toArray⟩).2.files.length ≤ 1048576
  hD2 : (S.D.change (segN (S.seg + 1)) fun _ => ⟨(gText L L.length).toArray⟩).1 = 0 → ((S.D.change (segN (S.seg + 1)) fun _ => ⟨(gText L L.length).toArray⟩).2.syncL [segN (S.seg + 1)]).Calm ∧ ((S.D.change (segN (S.seg + 1)) fun _ => ⟨(gText L L.length).toArray⟩).2.syncL [segN (S.seg + 1)]).rmOk (ns.map segN) = true ∧
      (((S.D.change (segN (S.seg + 1)) fun _ => ⟨(gText L L.length).toArray⟩).2.syncL [segN (S.seg + 1)]).removeL (ns.map segN)).Calm ∧ (((S.D.change (segN (S.seg + 1)) fun _ => ⟨(gText L L.length).toArray⟩).2.syncL [segN (S.seg + 1)]).removeL (ns.map segN)).files.length ≤ 1048576
  out : (S.compact L ns = (7, S)) ∨ ((S.compact L ns).1 = 0 ∧ Inv (S.compact L ns).2 L (B + 1))
theorem Inv.packs {S : St} {L : List (Nat × ByteArray)} {B : Nat} (h : Inv S L B) (hB : B ≤ 46) (hnt : (S.D.get (segN S.seg)).nt = true) : ∃ ns, Packs S L ns B := by
  obtain ⟨ns, hns, hn, hall, hnl⟩ := h.names (by omega)
  have hsg := h.segB
  have h1 := h.seg1
  have hne : ns ≠ [] := List.ne_nil_of_mem (hall S.seg h1 (Nat.le_refl _) hnt)
  have hfl := files_few h.calm.ok h.files
  have hnx : S.seg + 1 < 100 := by omega
  have hz := h.no_file (k := S.seg + 1) (by omega) hnx
  have hc := change_spec h.calm (segN_ne (S.seg + 1) hnx) (fun _ => ⟨(gText L L.length).toArray⟩)
  rw [hz] at hc
  obtain ⟨tx, htx⟩ : ∃ tx : ByteArray, tx = ⟨(gText L L.length).toArray⟩ := ⟨_, rfl⟩
  have htl : tx.size ≤ 201938 + 38 := by
    have h1 := gText_le L (fun y hy => (h.st.dat y hy).1) L.length
    have h3 := h.st.few
    rw [htx]
    show (gText L L.length).length ≤ _
    omega
  have hszN : (segN (S.seg + 1)).size ≤ maxLen := by rw [segN_size hnx]; decide
  have hp := put_spec h.calm (n := segN (S.seg + 1)) hszN (f := { Fl.zero with nt := true, nx := tx }) (by show tx.size ≤ _; unfold maxLen; omega) (Nat.zero_le _) rfl
  have hnr : ∀ n ∈ ns, 1 ≤ n ∧ n < 100 ∧ n < S.seg + 1 := fun n hn' => by
    obtain ⟨a, b, _⟩ := hn n hn'
    exact ⟨a, by omega, by omega⟩
  rw [← htx] at hc
  rcases hp with hp | ⟨p1, p2, p3, p4, p5, p6, p7⟩
  · have hR : (S.D.change (segN (S.seg + 1)) fun _ => tx) = (7, S.D) := by rw [hc]; exact hp
    refine ⟨ns, hns, hne, hnr, by omega, hnx, by omega, ?_, ?_, ?_, ?_⟩
    · rw [← htx, hR]; exact h.calm
    · rw [← htx, hR]; show S.D.files.length ≤ _; omega
    · rw [← htx, hR]; intro h0; simp at h0
    · left
      unfold St.compact
      rw [← htx, hR, if_neg (by simp)]
  · have hR1 : (S.D.change (segN (S.seg + 1)) fun _ => tx) = S.D.put (segN (S.seg + 1)) { Fl.zero with nt := true, nx := tx } := hc
    rw [← hR1] at p1 p2 p3 p4 p5 p6 p7
    generalize hR : (S.D.change (segN (S.seg + 1)) fun _ => tx) = R at *
    have hg := p5 (segN (S.seg + 1))
    rw [if_pos rfl] at hg
    have hgrow : R.2.grow (segN (S.seg + 1)) ⟨(R.2.get (segN (S.seg + 1))).nt, (R.2.get (segN (S.seg + 1))).nx, (R.2.get (segN (S.seg + 1))).nt, (R.2.get (segN (S.seg + 1))).nx⟩ = 0 := by
      unfold Dk.grow wt
      rw [hg]
      have : Fl.zero.sx.size = 0 := rfl
      simp only [this]
      omega
    have hs1 : R.2.syncL [segN (S.seg + 1)] = (R.2.put (segN (S.seg + 1)) ⟨(R.2.get (segN (S.seg + 1))).nt, (R.2.get (segN (S.seg + 1))).nx, (R.2.get (segN (S.seg + 1))).nt, (R.2.get (segN (S.seg + 1))).nx⟩).2 := rfl
    have hxs : ((R.2.get (segN (S.seg + 1))).nx).size ≤ maxLen := by rw [hg]; show tx.size ≤ _; unfold maxLen; omega
    rcases put_spec p2 hszN (f := ⟨(R.2.get (segN (S.seg + 1))).nt, (R.2.get (segN (S.seg + 1))).nx, (R.2.get (segN (S.seg + 1))).nt, (R.2.get (segN (S.seg + 1))).nx⟩) hxs hxs (by rw [hg]; rfl) with hq | ⟨q1, q2, q3, q4, q5, q6, q7⟩
    · exfalso
      unfold Dk.put at hq
      rw [hgrow] at hq
      split at hq
      · rename_i hx; omega
      · cases hq
    · rw [← hs1] at q2 q3 q4 q5 q6 q7
      have q5' : ∀ n', (R.2.syncL [segN (S.seg + 1)]).get n' = if n' = segN (S.seg + 1) then ⟨true, tx, true, tx⟩ else S.D.get n' := fun n' => by
        rw [q5 n']
        split
        · rw [hg]
        · rename_i hh; rw [p5 n', if_neg hh]
      generalize hD2 : R.2.syncL [segN (S.seg + 1)] = D2 at *
      have hnin : ∀ n ∈ ns.map segN, n.size ≤ maxLen ∧ n ≠ segN (S.seg + 1) ∧ (D2.get n).nt = true ∧ (D2.get n).st = true := by
        intro n hn'
        obtain ⟨k, hk, rfl⟩ := List.mem_map.1 hn'
        obtain ⟨k1, k2, k3⟩ := hn k hk
        have hne' : segN k ≠ segN (S.seg + 1) := fun e => by have := segN_inj (by omega) hnx e; omega
        refine ⟨by rw [segN_size (by omega)]; decide, hne', ?_⟩
        rw [q5', if_neg hne']
        exact ⟨k3, by rw [(h.safe _).1]; exact k3⟩
      have hfiles2 : ∀ p ∈ D2.files, ∃ k, 1 ≤ k ∧ k ≤ S.seg + 1 ∧ p.1 = segN k := by
        intro p hp
        rcases q6 p hp with rfl | hp
        · exact ⟨S.seg + 1, by omega, Nat.le_refl _, rfl⟩
        · rcases p6 p hp with rfl | hp
          · exact ⟨S.seg + 1, by omega, Nat.le_refl _, rfl⟩
          · obtain ⟨k, k1, k2, e⟩ := h.files p hp
            exact ⟨k, k1, by omega, e⟩
      have hrm : D2.rmOk (ns.map segN) = true := List.all_eq_true.2 fun n hn' => (hnin n hn').2.2.1
      obtain ⟨r1, r2, r3, r4⟩ := removeL_spec q2 (ns := ns.map segN) fun n hn' => ⟨(hnin n hn').1, (hnin n hn').2.2.2⟩
      generalize hD3 : D2.removeL (ns.map segN) = D3 at *
      have hfiles3 : ∀ p ∈ D3.files, ∃ k, 1 ≤ k ∧ k ≤ S.seg + 1 ∧ p.1 = segN k := by
        intro p hp
        rcases r4 p hp with hp | hp
        · obtain ⟨k, hk, e⟩ := List.mem_map.1 hp
          obtain ⟨k1, k2, _⟩ := hn k hk
          exact ⟨k, k1, by omega, e.symm⟩
        · exact hfiles2 p hp
      obtain ⟨t1, t2, t3, t4⟩ := syncL_spec r1 (ns := ns.map segN) fun n hn' => by
        refine ⟨(hnin n hn').1, ?_⟩
        rw [r3 n, if_pos hn']
        exact ⟨rfl, rfl⟩
      have hl1 : R.2.files.length ≤ 1048576 := by omega
      have hl3 := files_few r1.ok hfiles3
      have hcomp : S.compact L ns = (0, { S with D := D3.syncL (ns.map segN), C := gMap (S.seg + 1) L L.length, seg := S.seg + 1 + 1, size := 0 }) := by
        unfold St.compact
        rw [← htx, hR, if_pos p1, hD2, hD3]
      refine ⟨ns, hns, hne, hnr, by omega, hnx, by omega, by rw [← htx, hR]; exact p2, by rw [← htx, hR]; exact hl1, ?_, ?_⟩
      · rw [← htx, hR, hD2, hD3]
        exact fun _ => ⟨q2, hrm, r1, by omega⟩
      · right
        rw [hcomp]
        have hget : ∀ n', (D3.syncL (ns.map segN)).get n' = Fl.zero ∨ (n' = segN (S.seg + 1) ∧ (D3.syncL (ns.map segN)).get n' = ⟨true, tx, true, tx⟩) ∨ (D3.syncL (ns.map segN)).get n' = S.D.get n' := by
          intro n'
          rw [t3 n']
          by_cases e1 : n' ∈ ns.map segN
          · rw [if_pos e1]; exact .inl rfl
          · rw [if_neg e1, r3 n', if_neg e1, q5' n']
            by_cases e2 : n' = segN (S.seg + 1)
            · rw [if_pos e2]; exact .inr (.inl ⟨e2, rfl⟩)
            · rw [if_neg e2]; exact .inr (.inr rfl)
        have hgx : (D3.syncL (ns.map segN)).get (segN (S.seg + 1)) = ⟨true, tx, true, tx⟩ := by
          have e1 : segN (S.seg + 1) ∉ ns.map segN := fun hm => (hnin _ hm).2.1 rfl
          rw [t3, if_neg e1, r3, if_neg e1, q5', if_pos rfl]
        refine ⟨rfl, ⟨t1, ?_, h.lim, h.clean, by show 1 ≤ S.seg + 1 + 1; omega, by show S.seg + 1 + 1 ≤ _; omega, t1.ok.u0, ?_, fun n' => ?_, fun p hp => ?_, fun n' => ?_, ?_, ⟨h.st.ids, ?_, ?_, h.st.dat, h.st.few⟩, h.small, by have := h.few; omega⟩⟩
        · exact t2.trans (r2.trans (q3.trans (p3.trans h.room)))
        · show 0 = ((D3.syncL (ns.map segN)).get (segN (S.seg + 1 + 1))).nx.size
          rcases hget (segN (S.seg + 1 + 1)) with e | ⟨e, _⟩ | e
          · rw [e]; rfl
          · have := segN_inj (by omega) hnx e; omega
          · rw [e, h.no_file (by omega) (by omega)]; rfl
        · rcases hget n' with e | ⟨_, e⟩ | e
          · show _ ∧ _; rw [e]; exact ⟨rfl, rfl⟩
          · show _ ∧ _; rw [e]; exact ⟨rfl, rfl⟩
          · show _ ∧ _; rw [e]; exact h.safe n'
        · obtain ⟨k, k1, k2, e⟩ := hfiles3 p (t4 p hp)
          exact ⟨k, k1, by show k ≤ S.seg + 1 + 1; omega, e⟩
        · show ((D3.syncL (ns.map segN)).get n').nx.size ≤ _
          rcases hget n' with e | ⟨_, e⟩ | e
          · rw [e]; show 0 ≤ _; omega
          · rw [e]; show tx.size ≤ _; omega
          · rw [e]; have := h.big n'; omega
        · show (D3.syncL (ns.map segN)).files.length ≤ _
          have := files_few t1.ok (K := S.seg + 1) fun p hp => hfiles3 p (t4 p hp)
          omega
        · show (L.map fun x => (x.1 : Int)).Perm ((gMap (S.seg + 1) L L.length).map (·.1))
          rw [gMap_keys _ _ _ (Nat.le_refl _), List.take_length]
          exact (List.reverse_perm _).symm
        · intro x hx
          obtain ⟨i, hi, e⟩ := List.getElem_of_mem hx
          have hxi : L[i]? = some x := by rw [List.getElem?_eq_getElem hi, e]
          have hgd : L.getD i (0, ByteArray.empty) = x := by rw [List.getD_eq_getElem?_getD, hxi]; rfl
          have hm := gMap_mem (S.seg + 1) L hi
          have hpl : gPlc (S.seg + 1) L i = ((x.1 : Int), ⟨((S.seg + 1 : Nat) : Int), ((gText L i).length : Int), ((frec 1 x.1 x.2).size : Int), (frec 1 x.1 x.2).data.toList⟩) := by unfold gPlc; rw [hgd]
          rw [hpl] at hm
          have hnd : ((gMap (S.seg + 1) L L.length).map (·.1)).Nodup := by
            rw [gMap_keys _ _ _ (Nat.le_refl _), List.take_length, (List.reverse_perm _).nodup_iff]
            exact List.pairwise_map.2 ((List.pairwise_map.1 h.st.ids).imp fun {a b} hab he => by have he' : (a.1 : Int) = (b.1 : Int) := he; omega)
          refine ⟨_, (lget_some hnd).2 hm, S.seg + 1, (gText L i).length, rfl, rfl, rfl, rfl, by omega, hnx, ?_⟩
          obtain ⟨g1, g2⟩ := gText_at hxi
          rw [← htx] at g1 g2
          show ((D3.syncL (ns.map segN)).get (segN (S.seg + 1))).nt = true ∧ ((D3.syncL (ns.map segN)).get (segN (S.seg + 1))).nx.extract _ _ = _ ∧ _ ≤ ((D3.syncL (ns.map segN)).get (segN (S.seg + 1))).nx.size ∧ ((D3.syncL (ns.map segN)).get (segN (S.seg + 1))).nx.size ≤ _
          rw [hgx]
          exact ⟨rfl, g1, g2, by show tx.size ≤ _; omega⟩
end Go.Proofs.YtapodcmjggmgmaaGreatDoor
namespace Go.Proofs.YtapodcmjggmgmaaGreatDoor
open Go.RowKit Go.Sort
theorem Inv.mono {S : St} {L : List (Nat × ByteArray)} {B B' : Nat} (h : Inv S L B) (hb : B ≤ B') : Inv S L B' :=
  ⟨h.calm, h.room, h.lim, h.clean, h.seg1, by have := h.segB; omega, h.size, h.szf, h.safe, h.files, fun n => by have := h.big n; omega, by have := h.nf; omega, h.st, h.small, by have := h.few; omega⟩
structure Ks where
  n : Nat
  s : Nat
  d : Nat
  m : Nat
  c : Nat
def Ks.has (K : Ks) (k : Nat) : Prop := k = K.n ∨ k = K.s ∨ k = K.d ∨ k = K.m ∨ k = K.c
def NdIn (w : World) (K : Ks) (L : List (Nat × ByteArray)) (B : Nat) (u : Int) : Prop := ∃ S dr, NdAt w K.n K.s K.d K.m K.c S dr ∧ Inv S L B ∧ S.D.used = u ∧ dr ≤ B
theorem NdAt.chg {w w' : World} {n s d m c : Nat} {S : St} {dr : Nat} {P : Nat → Prop} (h : NdAt w n s d m c S dr) (hC : Chg P w w') (hP : ∀ k, P k → ¬ (k = n ∨ k = s ∨ k = d ∨ k = m ∨ k = c)) : NdAt w' n s d m c S dr := by
  have q : ∀ {x}, (x = n ∨ x = s ∨ x = d ∨ x = m ∨ x = c) → ¬ P x := fun hx hp => hP _ hp hx
  exact ⟨h.nd.chg hC (q (.inl rfl)), ⟨h.st.st.chg hC (q (.inr (.inl rfl))), ⟨h.st.dk.1.chg hC (q (.inr (.inr (.inl rfl)))), h.st.dk.2.chg hC (q (.inr (.inr (.inr (.inl rfl)))))⟩, h.st.ch.chg hC (q (.inr (.inr (.inr (.inr rfl))))), h.st.ne⟩⟩
theorem NdIn.chg {w w' : World} {K : Ks} {L : List (Nat × ByteArray)} {B : Nat} {u : Int} {P : Nat → Prop} (h : NdIn w K L B u) (hC : Chg P w w') (hP : ∀ k, P k → ¬ K.has k) : NdIn w' K L B u := by
  obtain ⟨S, dr, h1, h2⟩ := h
  exact ⟨S, dr, h1.chg hC hP, h2⟩
theorem NdIn.ext {w w' : World} {K : Ks} {L : List (Nat × ByteArray)} {B : Nat} {u : Int} (h : NdIn w K L B u) (hE : Ext w w') : NdIn w' K L B u := h.chg hE (fun _ h => h.elim)
theorem NdIn.mono {w : World} {K : Ks} {L : List (Nat × ByteArray)} {B B' : Nat} {u : Int} (h : NdIn w K L B u) (hb : B ≤ B') : NdIn w K L B' u := by
  obtain ⟨S, dr, h1, h2, h3, h4⟩ := h
  exact ⟨S, dr, h1, h2.mono hb, h3, by omega⟩
theorem NdIn.lt {w : World} {K : Ks} {L : List (Nat × ByteArray)} {B : Nat} {u : Int} (h : NdIn w K L B u) : ∀ k, K.has k → k < w.heap.size := by
  obtain ⟨S, dr, h1, _⟩ := h
  rintro k (rfl | rfl | rfl | rfl | rfl)
  · exact h1.nd.lt
  · exact h1.st.st.lt
  · exact h1.st.dk.1.lt
  · exact h1.st.dk.2.lt
  · exact h1.st.ch.lt
set_option maxRecDepth 100000 in
set_option maxHeartbeats 1000000 in
theorem nopen_any (w : World) (n d m : Nat) (D : Dk) (hA : At w n 41 #[.pointer (some ⟨d, 0, none⟩), .pointer none, .int .i64 0]) (hdk : DkAt w d m D) (hD : D.Calm) (hf : D.files = []) :
    Calls Tryz.prog 41 #[.pointer (some ⟨n, 0, none⟩)] w fun e w' => ∃ s c, e = .returned (.int .i64 0) ∧ w.heap.size ≤ s ∧ w.heap.size ≤ c ∧ Chg (fun k => k = n ∨ k = d) w w' ∧ NdAt w' n s d m c ⟨2000, D, [], 1, 0, false⟩ 0 := by
  have c0 : w.cell? ⟨n, 0, none⟩ = some (.pointer (some ⟨d, 0, none⟩)) := hA.cell 0
  have co : Calls Tryz.prog 37 #[.pointer (some ⟨d, 0, none⟩), .int .i64 2000] w _ := copen_any w d m D hdk hD hf 2000 (by decide)
  have hnd : n ≠ d := hA.ne hdk.1 (by decide)
  go_enter Tryz.func41, Tryz.ntmps41
  go_wp2_with fail
  refine co.mono ?_
  rintro e w1 ⟨s, c, rfl, hs, hc, hC1, hS1⟩
  clear co
  have hA1 := hA.chg hC1 hnd
  have hns : n ≠ s := by have := hA.lt; omega
  have hnc : n ≠ c := by have := hA.lt; omega
  have hnm : n ≠ m := fun e => hdk.2.ne_at hA e.symm
  have f1 := hA1.frozen 1
  have k1 := hA1.cell 1
  have hA2 := hA1.set 1 (.pointer (some ⟨s, 0, none⟩))
  have f2 := hA2.frozen 2
  have k2 := hA2.cell 2
  have hA3 := hA2.set 2 (.int .i64 0)
  have hC2 : Chg (fun k => k = n) w1 ((w1.setCell ⟨n, 1, none⟩ (.pointer (some ⟨s, 0, none⟩))).setCell ⟨n, 2, none⟩ (.int .i64 0)) := ((Chg.refl (fun k => k = n) w1).setCell (p := ⟨n, 1, none⟩) (.inl rfl) _).setCell (p := ⟨n, 2, none⟩) (.inl rfl) _
  simp only [List.getElem?_toArray, List.getElem?_cons_zero, List.getElem?_cons_succ, List.setIfInBounds_toArray, List.set_cons_zero, List.set_cons_succ] at k1 k2 hA3
  go_wp2_with fail
  go_ret
  refine ⟨s, c, rfl, hs, hc, (hC1.mono (fun k _ h => .inr h)).trans hC2 (fun _ _ h => .inl h), hA3, ⟨hS1.st.chg hC2 (fun e => hns e.symm), ⟨hS1.dk.1.chg hC2 (fun e => hnd e.symm), hS1.dk.2.chg hC2 (fun e => hnm e.symm)⟩, hS1.ch.chg hC2 (fun e => hnc e.symm), hS1.ne⟩⟩
set_option maxRecDepth 100000 in
set_option maxHeartbeats 1000000 in
theorem nnew_any (w : World) : Calls Tryz.prog 24 #[.int .i64 300] w fun e w' => ∃ K : Ks, e = .returned (.pointer (some ⟨K.n, 0, none⟩)) ∧ NdIn w' K [] 0 0 ∧ Ext w w' ∧ ∀ k, K.has k → w.heap.size ≤ k := by
  go_enter Tryz.func24, Tryz.ntmps24
  go_wp2_with fail
  refine (new_any 300 w).mono ?_
  rintro e w1 ⟨d, m, rfl, hdk, hE1, hd, hm⟩
  have hA := At.new w1 41 #[.pointer (some ⟨d, 0, none⟩), .pointer none, .int .i64 0]
  have hE2 := (Ext.refl w1).alloc (.cells #[.pointer (some ⟨d, 0, none⟩), .pointer none, .int .i64 0] 41)
  have hs1 := hE1.size
  have hs2 := hE2.size
  have cn := nopen_any _ _ d m (Dk.new 300) hA (hdk.ext hE2) Inv.fresh.calm rfl
  go_wp2_with fail
  refine cn.mono ?_
  rintro e w2 ⟨s, c, rfl, hs, hc, hC, hN⟩
  clear cn
  go_wp2_with fail
  go_ret
  refine ⟨⟨w1.heap.size, s, d, m, c⟩, rfl, ⟨_, 0, hN, Inv.fresh, rfl, by omega⟩, ((hE1.trans hE2).chg_trans hC).mono (fun k hk h => by rcases h with h | h <;> omega), ?_⟩
  intro k hk
  simp only [Ks.has] at hk
  rcases hk with h | h | h | h | h <;> omega
set_option maxRecDepth 100000 in
set_option maxHeartbeats 2000000 in
theorem nput_any (w : World) (K : Ks) (L : List (Nat × ByteArray)) (B : Nat) (u : Int) (h : NdIn w K L B u) (hB : B ≤ 45) (id : Nat) (hi : id < 18446744073709551616) (hid : ∀ x ∈ L, x.1 < id) (data : ByteArray) (hd : data.size ≤ 150) (hT : Tab w) (hg : ¬ K.has 0) :
    Calls Tryz.prog 33 #[.pointer (some ⟨K.n, 0, none⟩), .int .u64 (id : Int), .string data] w fun e w' => Chg K.has w w' ∧
      ((e = .returned (.int .i64 7) ∧ NdIn w' K L B u ∧ 300 - u < (frec 1 id data).size) ∨ (e = .returned (.int .i64 0) ∧ ∃ u', NdIn w' K (L ++ [(id, data)]) (B + 1) u')) := by
  obtain ⟨S, dr, hN, hI, rfl, hdr⟩ := h
  obtain ⟨n, s, d, m, c⟩ := K
  simp only at hN
  simp only [Ks.has, not_or] at hg
  obtain ⟨g1, g2, g3, g4, g5⟩ := hg
  have hfs := frec_size 1 id data
  have hput := hI.put (by omega) hi hid hd
  have hno := lget_not (hI.none hid)
  have hfit := hI.fit (B := B) (by omega) (n := (frec 1 id data).size) (by omega)
  have cu := up_any w n s d m c S dr hN hI.calm.lost
  have ch := chas_any w s d m c S hN.st (id : Int)
  rw [hno] at ch
  have c1 : w.cell? ⟨n, 1, none⟩ = some (.pointer (some ⟨s, 0, none⟩)) := hN.nd.cell 1
  have cp := fun w' (hE : Ext w w') => cput_any w' s d m c S (hN.st.ext hE) id hi data (by omega) hfit hno (hT.ext hE) (by rintro (e | e | e); exact g2 e; exact g3 e; exact g4 e)
  have hsg := hI.segB
  have hs1 := hI.seg1
  have hns := hN.ns
  have hnd := hN.nd'
  have hnm := hN.nm
  have hnc := hN.nc
  have hroom := hI.room
  have hnf := files_few hI.calm.ok hI.files
  go_enter Tryz.func33, Tryz.ntmps33
  go_wp2_with fail
  refine cu.mono ?_
  rintro e w1 ⟨rfl, rfl⟩
  clear cu
  go_wp2_with fail
  refine ch.mono ?_
  rintro e w2 ⟨rfl, hE2⟩
  clear ch
  have cp2 := cp w2 hE2
  clear cp
  have hA2 := hN.nd.ext hE2
  have k1 : w2.cell? ⟨n, 1, none⟩ = some (.pointer (some ⟨s, 0, none⟩)) := hA2.cell 1
  go_wp2_with fail
  refine cp2.mono ?_
  rintro e w3 ⟨rfl, hC3, hS3⟩
  clear cp2
  have hA3 := hA2.chg hC3 (by rintro (e | e | e | e); exact hns e; exact hnd e; exact hnm e; exact hnc e)
  have hC03 := hE2.chg_trans hC3
  have hCK : Chg (fun k => k = n ∨ k = s ∨ k = d ∨ k = m ∨ k = c) w1 w3 := hC03.mono (fun k _ h => .inr h)
  rcases hput with ⟨hp, hr⟩ | ⟨p0, pc, ps, pf, pI, _⟩
  · rw [hp] at hS3 ⊢
    simp only at hS3
    go_wp2_with fail
    refine (after_any w3 n 7 (by decide)).mono ?_
    rintro e w4 ⟨rfl, rfl⟩
    go_wp2_with fail
    go_ret
    exact ⟨hCK, .inl ⟨rfl, ⟨S, dr, ⟨hA3, hS3⟩, hI, rfl, hdr⟩, by omega⟩⟩
  · have k3 : w3.cell? ⟨n, 1, none⟩ = some (.pointer (some ⟨s, 0, none⟩)) := hA3.cell 1
    have cy := csync_any w3 s d m c _ hS3 pc (by omega) (by omega) (by omega)
    rw [p0]
    generalize S.put id data = R at *
    go_wp2_with fail
    refine cy.mono ?_
    rintro e w4 ⟨rfl, hC4, hS4⟩
    clear cy
    go_wp2_with fail
    refine (after_any w4 n 0 (by decide)).mono ?_
    rintro e w5 ⟨rfl, rfl⟩
    go_wp2_with fail
    go_ret
    have hA4 := hA3.chg hC4 (by rintro (e | e | e); exact hns e; exact hnd e; exact hnm e)
    exact ⟨hCK.trans hC4 (fun k _ hk => by rcases hk with h | h | h; exact .inr (.inl h); exact .inr (.inr (.inl h)); exact .inr (.inr (.inr (.inl h)))), .inr ⟨rfl, _, _, dr, ⟨hA4, hS4⟩, pI, rfl, by omega⟩⟩
end Go.Proofs.YtapodcmjggmgmaaGreatDoor
namespace Go.Proofs.YtapodcmjggmgmaaGreatDoor
open Go.RowKit Go.Sort
theorem Inv.ids {S : St} {L : List (Nat × ByteArray)} {B : Nat} (h : Inv S L B) : (L.map fun x => (x.1 : Int)).Pairwise (· < ·) := List.pairwise_map.2 ((List.pairwise_map.1 h.st.ids).imp fun h => by exact_mod_cast h)
set_option maxRecDepth 100000 in
set_option maxHeartbeats 4000000 in
theorem ndrop_any (w : World) (K : Ks) (L : List (Nat × ByteArray)) (B : Nat) (u : Int) (h : NdIn w K L B u) (hB : B ≤ 44) (id : Nat) (hi : id < 18446744073709551616) (hid : id ∈ L.map (·.1)) (hT : Tab w) (hg : ¬ K.has 0) :
    Calls Tryz.prog 31 #[.pointer (some ⟨K.n, 0, none⟩), .int .u64 (id : Int)] w fun e w' => ∃ r c' u' L', e = .returned (.int .i64 r) ∧ Chg K.has w w' ∧ (c' = K.c ∨ w.heap.size ≤ c') ∧ NdIn w' { K with c := c' } L' (B + 2) u' ∧ (L' = L ∨ L' = L.filter fun x => decide (x.1 ≠ id)) := by
  obtain ⟨S, dr, hN, hI, rfl, hdr⟩ := h
  obtain ⟨n, s, d, m, c⟩ := K
  simp only at hN
  have hgK := hg
  simp only [Ks.has, not_or] at hg
  obtain ⟨g1, g2, g3, g4, g5⟩ := hg
  have hdrop := hI.drop (by omega) hid
  have hsome : (lget (id : Int) S.C).isSome = true := by
    obtain ⟨x, hx, e⟩ := List.mem_map.1 hid
    obtain ⟨p, hp, _⟩ := hI.st.has x hx
    rw [← e, hp]; rfl
  have hfs := frec_size 2 id ByteArray.empty
  have hfz : ByteArray.empty.size = 0 := rfl
  have hfit := hI.fit (B := B) (by omega) (n := (frec 2 id ByteArray.empty).size) (by omega)
  have cu := up_any w n s d m c S dr hN hI.calm.lost
  have c1 : w.cell? ⟨n, 1, none⟩ = some (.pointer (some ⟨s, 0, none⟩)) := hN.nd.cell 1
  have cp := cdrop_any w s d m c S hN.st id hi hfit hsome hT (by rintro (e | e | e); exact g2 e; exact g3 e; exact g4 e)
  have hsg := hI.segB
  have hs1 := hI.seg1
  have hns := hN.ns
  have hnd := hN.nd'
  have hnm := hN.nm
  have hnc := hN.nc
  have hnf := files_few hI.calm.ok hI.files
  go_enter Tryz.func31, Tryz.ntmps31
  go_wp2_with fail
  refine cu.mono ?_
  rintro e w1 ⟨rfl, rfl⟩
  clear cu
  go_wp2_with fail
  refine cp.mono ?_
  rintro e w3 ⟨rfl, hC3, hS3⟩
  clear cp
  have hA3 := hN.nd.chg hC3 (by rintro (e | e | e | e); exact hns e; exact hnd e; exact hnm e; exact hnc e)
  have hCK : Chg (fun k => k = n ∨ k = s ∨ k = d ∨ k = m ∨ k = c) w1 w3 := hC3.mono (fun k _ h => .inr h)
  rcases hdrop with hp | ⟨p0, pc, ps, pf, pI, pt, pg⟩
  · rw [hp] at hS3 ⊢
    simp only at hS3
    go_wp2_with fail
    refine (after_any w3 n 7 (by decide)).mono ?_
    rintro e w4 ⟨rfl, rfl⟩
    go_wp2_with fail
    go_ret
    exact ⟨7, c, _, L, rfl, hCK, .inl rfl, ⟨S, dr, ⟨hA3, hS3⟩, hI.mono (by omega), rfl, by omega⟩, .inl rfl⟩
  · have k3 : w3.cell? ⟨n, 1, none⟩ = some (.pointer (some ⟨s, 0, none⟩)) := hA3.cell 1
    have cy := csync_any w3 s d m c _ hS3 pc (by omega) (by omega) (by omega)
    rw [p0]
    generalize S.drop id = R at *
    go_wp2_with fail
    refine cy.mono ?_
    rintro e w4 ⟨rfl, hC4, hS4⟩
    clear cy
    have hA4 := hA3.chg hC4 (by rintro (e | e | e); exact hns e; exact hnd e; exact hnm e)
    have hCK4 : Chg (fun k => k = n ∨ k = s ∨ k = d ∨ k = m ∨ k = c) w1 w4 := hCK.trans hC4 (fun k _ hk => by rcases hk with h | h | h; exact .inr (.inl h); exact .inr (.inr (.inl h)); exact .inr (.inr (.inr (.inl h))))
    obtain ⟨T, hT'⟩ : ∃ T, R.2.sync = T := ⟨_, rfl⟩
    rw [hT'] at hS4 pI pt pg
    clear hT' hA3 hS3 hC3 hCK hfit hsome k3 pc ps pf p0
    have j2 := hA4.cell 2
    have q2 := hA4.frozen 2
    have hA5 := hA4.set 2 (.int .i64 ((dr : Int) + 1))
    have hC5 : Chg (fun k => k = n) w4 (w4.setCell ⟨n, 2, none⟩ (.int .i64 ((dr : Int) + 1))) := (Chg.refl (fun k => k = n) w4).setCell (p := ⟨n, 2, none⟩) (.inl rfl) _
    have hS5 : StAt (w4.setCell ⟨n, 2, none⟩ (.int .i64 ((dr : Int) + 1))) s d m c T := ⟨hS4.st.chg hC5 (fun e => hns e.symm), ⟨hS4.dk.1.chg hC5 (fun e => hnd e.symm), hS4.dk.2.chg hC5 (fun e => hnm e.symm)⟩, hS4.ch.chg hC5 (fun e => hnc e.symm), hS4.ne⟩
    simp only [List.getElem?_toArray, List.getElem?_cons_zero, List.getElem?_cons_succ, List.setIfInBounds_toArray, List.set_cons_zero, List.set_cons_succ] at j2 hA5
    have hCK5 := hCK4.trans hC5 (fun _ _ h => .inl h)
    obtain ⟨L2, hL2⟩ : ∃ L2, (L.filter fun x => decide (x.1 ≠ id)) = L2 := ⟨_, rfl⟩
    rw [hL2] at pI
    have HL2 := Lib.hid hL2
    have hids := pI.ids
    clear hL2
    go_wp2_with fail
    generalize w4.setCell ⟨n, 2, none⟩ (.int .i64 ((dr : Int) + 1)) = W at hA5 hS5 hCK5 ⊢
    clear hA4 hS4 hC4 hC5 hCK4 j2 q2
    have hST : GQ.St (fun _ => False) (fun _ _ => True) [⟨8, 0, fun _ v _ => ∃ A c, v = .slice A L2.length c⟩] := ⟨fun _ _ _ h _ => h, by
      intro gx hx
      rcases List.mem_cons.1 hx with rfl | hx
      · exact fun _ _ _ _ h _ => h
      cases hx⟩
    refine wp_region_phi (Γ := Nat → Value) (sgφ [.val (.pointer (some ⟨n, 0, none⟩)), .val (.pointer (some ⟨n, 0, none⟩)), .val (.pointer (some ⟨n, 2, none⟩)), .val (.int .i64 ((dr : Int) + 1)), .val (.pointer (some ⟨n, 0, none⟩)), .val (.pointer (some ⟨n, 0, none⟩)), .val (.pointer (some ⟨n, 1, none⟩)), .val (.pointer (some ⟨s, 0, none⟩)), .g 0, .val (.int .i64 (L2.length : Int)), .val (.bool (decide ((dr : Int) + 1 ≤ (L2.length : Int))))])
      (GQ W (fun _ => False) 1000 (fun _ _ => True) [⟨8, 0, fun _ v _ => ∃ A c, v = .slice A L2.length c⟩])
      (by kernel_rfl) (by kernel_rfl) (by kernel_rfl) (fun _ => undef) (GQ.start _ _ _ _ _ _ (trivial)) ?steps ?fin
    case steps =>
      show StepsTo _ _ _ _ _ _ 11
      refine ⟨⟨⟨⟨⟨⟨⟨⟨⟨⟨⟨trivial, ?s0⟩, ?s1⟩, ?s2⟩, ?s3⟩, ?s4⟩, ?s5⟩, ?s6⟩, ?s7⟩, ?s8⟩, ?s9⟩, ?s10⟩
      case s0 =>
        refine sg_val (x := .pointer (some ⟨n, 0, none⟩)) rfl rfl rfl (GQ.keep (j := 0) (by decide) rfl) fun γ L v a w st => ?_
        have f0 := st.far 0 (by kernel_rfl)
        simp at f0
        go_simp
      case s1 =>
        refine sg_val (x := .pointer (some ⟨n, 0, none⟩)) rfl rfl rfl (GQ.keep (j := 1) (by decide) rfl) fun γ L v a w st => ?_
        have e0 := st.val 0 39 rfl (by kernel_rfl)
        rw [show v 0 = _ from st.φ 0 (by kernel_rfl)] at e0
        simp at e0
        go_simp
      case s2 =>
        refine sg_val (x := .pointer (some ⟨n, 2, none⟩)) rfl rfl rfl (GQ.keep (j := 2) (by decide) rfl) fun γ L v a w st => ?_
        have e1 := st.val 1 40 rfl (by kernel_rfl)
        rw [show v 1 = _ from st.φ 1 (by kernel_rfl)] at e1
        simp at e1
        go_simp
      case s3 =>
        refine sg_val (x := .int .i64 ((dr : Int) + 1)) rfl rfl rfl (GQ.keep (j := 3) (by decide) rfl) fun γ L v a w st => ?_
        have e2 := st.val 2 41 rfl (by kernel_rfl)
        rw [show v 2 = _ from st.φ 2 (by kernel_rfl)] at e2
        simp at e2
        have hcl := (hA5.ext (st.inv.off (fun _ h => h))).cell 2
        simp at hcl
        go_simp
      case s4 =>
        refine sg_val (x := .pointer (some ⟨n, 0, none⟩)) rfl rfl rfl (GQ.keep (j := 4) (by decide) rfl) fun γ L v a w st => ?_
        have f0 := st.far 0 (by kernel_rfl)
        simp at f0
        go_simp
      case s5 =>
        refine sg_val (x := .pointer (some ⟨n, 0, none⟩)) rfl rfl rfl (GQ.keep (j := 5) (by decide) rfl) fun γ L v a w st => ?_
        have e4 := st.val 4 43 rfl (by kernel_rfl)
        rw [show v 4 = _ from st.φ 4 (by kernel_rfl)] at e4
        simp at e4
        go_simp
      case s6 =>
        refine sg_val (x := .pointer (some ⟨n, 1, none⟩)) rfl rfl rfl (GQ.keep (j := 6) (by decide) rfl) fun γ L v a w st => ?_
        have e5 := st.val 5 44 rfl (by kernel_rfl)
        rw [show v 5 = _ from st.φ 5 (by kernel_rfl)] at e5
        simp at e5
        go_simp
      case s7 =>
        refine sg_val (x := .pointer (some ⟨s, 0, none⟩)) rfl rfl rfl (GQ.keep (j := 7) (by decide) rfl) fun γ L v a w st => ?_
        have e6 := st.val 6 45 rfl (by kernel_rfl)
        rw [show v 6 = _ from st.φ 6 (by kernel_rfl)] at e6
        simp at e6
        have hcl := (hA5.ext (st.inv.off (fun _ h => h))).cell 1
        simp at hcl
        go_simp
      case s8 =>
        refine sg_call (k := 0) (f := 64) rfl rfl rfl (by kernel_rfl) fun γ Lx v a w st => ?_
        have e7 := st.val 7 46 rfl (by kernel_rfl)
        rw [show v 7 = _ from st.φ 7 (by kernel_rfl)] at e7
        simp at e7
        refine ⟨#[.pointer (some ⟨s, 0, none⟩)], by go_simp, ?_⟩
        refine Calls.mono (cids_any w s d m c T (hS5.ext (st.inv.off (fun _ h => h))) (L2.map fun x => (x.1 : Int)) hids pI.st.perm (by simpa using pI.st.few)) ?_
        rintro e w' ⟨sv, rfl, hown, hE⟩
        obtain ⟨gA, gc, hgv⟩ := own_slc hown
        rw [List.length_map] at hgv
        refine ⟨sv, rfl, st.inv.new hST hE (by decide) rfl ?_⟩
        intro gx hx hxj
        rcases List.mem_cons.1 hx with rfl | hx
        · exact ⟨rfl, gA, gc, by simpa using hgv⟩
        cases hx
      case s9 =>
        refine sg_val (x := .int .i64 (L2.length : Int)) rfl rfl rfl (GQ.keep (j := 9) (by decide) rfl) fun γ L v a w st => ?_
        have e8 := st.val 8 47 rfl (by kernel_rfl)
        rw [show v 8 = _ from st.φ 8 (by kernel_rfl)] at e8
        have hg8 := st.inv.gh ⟨8, 0, fun _ v _ => ∃ A c, v = .slice A L2.length c⟩ (by simp) (st.dep 8 (by kernel_rfl))
        obtain ⟨gA, gc, hgv⟩ := hg8
        rw [hgv] at e8
        go_simp
      case s10 =>
        refine sg_val (x := .bool (decide ((dr : Int) + 1 ≤ (L2.length : Int)))) rfl rfl rfl (GQ.keep (j := 10) (by decide) rfl) fun γ L v a w st => ?_
        have e3 := st.val 3 42 rfl (by kernel_rfl)
        rw [show v 3 = _ from st.φ 3 (by kernel_rfl)] at e3
        simp at e3
        have e9 := st.val 9 48 rfl (by kernel_rfl)
        rw [show v 9 = _ from st.φ 9 (by kernel_rfl)] at e9
        simp at e9
        go_simp
    case fin =>
      intro γ Lx v wr hall hG hφ
      have h10 : v 10 = (.bool (decide ((dr : Int) + 1 ≤ (L2.length : Int)))) := hφ 10 (by decide)
      have hE := hG.off (fun _ h => h)
      clear hall hφ hG
      change Exit.then _ _ _ (putAll _ v _ 11) wr
      simp only [putAll, dstOf, Act.put]
      simp only [List.getElem?_toArray, List.getElem?_cons_zero, List.getElem?_cons_succ, Option.bind_some, List.setIfInBounds_toArray, List.set_cons_zero, List.set_cons_succ]
      rw [h10]
      clear h10
      have hA6 := hA5.ext hE
      have hS6 := hS5.ext hE
      have hCK6 := hCK5.ext_trans hE
      clear hA5 hS5 hCK5 hE
      by_cases hle : (dr : Int) + 1 ≤ (L2.length : Int)
      · have hb : decide ((dr : Int) + 1 ≤ (L2.length : Int)) = true := by simpa using hle
        rw [hb]
        go_wp2_with fail
        go_ret
        exact ⟨0, c, _, L2, rfl, hCK6, .inl rfl, ⟨T, dr + 1, ⟨hA6, hS6⟩, pI.mono (by omega), rfl, by omega⟩, .inr HL2.out.symm⟩
      · have hb : decide ((dr : Int) + 1 ≤ (L2.length : Int)) = false := by simpa using hle
        rw [hb]
        have f6 := hA6.frozen 2
        have j6 := hA6.cell 2
        have hA7 := hA6.set 2 (.int .i64 0)
        have hC7 : Chg (fun k => k = n) wr (wr.setCell ⟨n, 2, none⟩ (.int .i64 0)) := (Chg.refl (fun k => k = n) wr).setCell (p := ⟨n, 2, none⟩) (.inl rfl) _
        have hS7 : StAt (wr.setCell ⟨n, 2, none⟩ (.int .i64 0)) s d m c T := ⟨hS6.st.chg hC7 (fun e => hns e.symm), ⟨hS6.dk.1.chg hC7 (fun e => hnd e.symm), hS6.dk.2.chg hC7 (fun e => hnm e.symm)⟩, hS6.ch.chg hC7 (fun e => hnc e.symm), hS6.ne⟩
        have hCK7 := hCK6.trans hC7 (fun _ _ h => .inl h)
        have k7 := hA7.cell 1
        simp only [List.getElem?_toArray, List.getElem?_cons_zero, List.getElem?_cons_succ, List.setIfInBounds_toArray, List.set_cons_zero, List.set_cons_succ] at j6 hA7 k7
        have hT7 := hT.chg hCK7 (fun e => hgK e)
        rw [← pg] at pt
        obtain ⟨ns, hP⟩ := pI.packs (by omega) pt
        go_wp2_with fail
        generalize wr.setCell ⟨n, 2, none⟩ (.int .i64 0) = w7 at hA7 hS7 hCK7 k7 hT7 ⊢
        have cc := compact_any w7 s d m c T hS7 pI.calm pI.clean L2 pI.st ns hP.hns hP.hne hP.hnr hP.hnl pI.seg1 hP.h2 hP.hfl hP.hR2 hP.hfl1 hP.hD2 hT7 (by rintro (e | e | e); exact g2 e; exact g3 e; exact g4 e)
        go_wp2_with fail
        refine cc.mono ?_
        rintro e w8 ⟨rfl, c', hc', hC8, hS8⟩
        clear cc
        have hA8 := hA7.chg hC8 (by rintro (e | e | e); exact hns e; exact hnd e; exact hnm e)
        have hCK8 := hCK7.trans hC8 (fun k _ hk => by rcases hk with h | h | h; exact .inr (.inl h); exact .inr (.inr (.inl h)); exact .inr (.inr (.inr (.inl h))))
        have hc0 : c' = c ∨ w1.heap.size ≤ c' := by
          rcases hc' with h | h
          · exact .inl h
          · exact .inr (by have := hCK7.size; omega)
        rcases hP.out with ho | ⟨ho, hIo⟩
        · rw [ho] at hS8 ⊢
          simp only at hS8
          go_wp2_with fail
          go_ret
          exact ⟨0, c', _, L2, rfl, hCK8, hc0, ⟨T, 0, ⟨hA8, hS8⟩, pI.mono (by omega), rfl, by omega⟩, .inr HL2.out.symm⟩
        · rw [ho]
          go_wp2_with fail
          go_ret
          exact ⟨0, c', _, L2, rfl, hCK8, hc0, ⟨_, 0, ⟨hA8, hS8⟩, hIo.mono (by omega), rfl, by omega⟩, .inr HL2.out.symm⟩
end Go.Proofs.YtapodcmjggmgmaaGreatDoor
namespace Go.Proofs.YtapodcmjggmgmaaGreatDoor
open Go.RowKit Go.Sort
theorem NdIn.lst {w : World} {K : Ks} {L : List (Nat × ByteArray)} {B : Nat} {u : Int} (h : NdIn w K L B u) :
    Calls Tryz.prog 34 #[.pointer (some ⟨K.n, 0, none⟩)] w fun r w' => r = .returned (.bool true) ∧ w' = w := by
  obtain ⟨S, dr, hN, hI, _⟩ := h
  exact up_any w _ _ _ _ _ S dr hN hI.calm.lost
theorem nhasI_any (w : World) (K : Ks) (L : List (Nat × ByteArray)) (B : Nat) (u : Int) (h : NdIn w K L B u) (id : Nat) :
    Calls Tryz.prog 10 #[.pointer (some ⟨K.n, 0, none⟩), .int .u64 (id : Int)] w fun r w' => r = .returned (.bool (decide (id ∈ L.map (·.1)))) ∧ Ext w w' := by
  obtain ⟨S, dr, hN, hI, _⟩ := h
  have hd : decide (id ∈ L.map (·.1)) = (lget (id : Int) S.C).isSome := by
    by_cases hm : id ∈ L.map (·.1)
    · obtain ⟨x, hx, e⟩ := List.mem_map.1 hm
      obtain ⟨p, hp, _⟩ := hI.st.has x hx
      rw [← e, hp]
      exact decide_eq_true (by rw [e]; exact hm)
    · rw [lget_not (fun h => by
        have := hI.st.perm.mem_iff.2 h
        obtain ⟨x, hx, e⟩ := List.mem_map.1 this
        have e' : x.1 = id := by exact_mod_cast e
        exact hm (List.mem_map.2 ⟨x, hx, e'⟩))]
      simpa using hm
  rw [hd]
  exact nhas_any w _ _ _ _ _ S dr hN hI.calm.lost id
theorem NdIn.disk {w : World} {K : Ks} {L : List (Nat × ByteArray)} {B : Nat} {u : Int} (h : NdIn w K L B u) : w.cell? ⟨K.n, 0, none⟩ = some (.pointer (some ⟨K.d, 0, none⟩)) ∧ w.cell? ⟨K.d, 0, none⟩ = some (.int .i64 300) ∧ w.cell? ⟨K.d, 1, none⟩ = some (.int .i64 u) ∧ w.cell? ⟨K.d, 2, none⟩ = some (.bool false) ∧ 0 ≤ u ∧ u ≤ 300 := by
  obtain ⟨S, dr, hN, hI, rfl, _⟩ := h
  have h0 := hI.calm.ok.u0
  have h1 := hI.calm.ok.u1
  rw [hI.room] at h1
  refine ⟨hN.nd.cell 0, ?_, hN.st.dk.1.cell 1, ?_, h0, h1⟩
  · rw [hN.st.dk.1.cell 0]; simp [hI.room]
  · rw [hN.st.dk.1.cell 2]; simp [hI.calm.lost]
set_option maxRecDepth 100000 in
set_option maxHeartbeats 1000000 in
theorem nsure_any (w : World) (K : Ks) (L : List (Nat × ByteArray)) (B : Nat) (u : Int) (h : NdIn w K L B u) (id : Nat) (data : ByteArray) (hx : (id, data) ∈ L) (hT : Tab w) :
    Calls Tryz.prog 12 #[.pointer (some ⟨K.n, 0, none⟩), .int .u64 (id : Int), .int .i64 (data.size : Int), .int .u32 (crc data.data.toList : Nat)] w fun r w' => r = .returned (.bool true) ∧ Ext w w' := by
  obtain ⟨c0, _, _, cl, _, _⟩ := h.disk
  obtain ⟨S, dr, hN, hI, _⟩ := h
  obtain ⟨n, s, d, m, c⟩ := K
  simp only at hN c0 cl
  obtain ⟨p, hp, hH⟩ := hI.st.has _ hx
  obtain ⟨hd1, hd2⟩ := hI.st.dat _ hx
  have hsm := hI.small _ hx
  have hlo := lost_any w d m S.D hN.st.dk
  rw [hI.calm.lost] at hlo
  have cg := cget_any w s d m c S hN.st hI.calm id hd2 p data hd1 hp hH hT
  have c1 : w.cell? ⟨n, 1, none⟩ = some (.pointer (some ⟨s, 0, none⟩)) := hN.nd.cell 1
  have hsz : data.size ≤ maxLen := by unfold maxLen; have : data.size ≤ 150 := hsm; omega
  go_enter Tryz.func12, Tryz.ntmps12
  go_wp2_with fail
  refine hlo.mono ?_
  rintro e w1 ⟨rfl, rfl⟩
  clear hlo
  go_wp2_with fail
  refine cg.mono ?_
  rintro e w2 ⟨rfl, hE2⟩
  clear cg
  have cs := sum_any (w2.alloc (.cells #[.string data] 9)) (.slice (some ⟨w2.heap.size, 0, none⟩) 1 1) [data] (sl_one w2 9 (.string data) 1) (by simp) (by intro s hs; simp at hs; subst hs; exact hsz) ((hT.ext hE2).alloc _)
  simp only [List.flatMap_cons, List.flatMap_nil, List.append_nil] at cs
  generalize crc data.data.toList = x at cs ⊢
  go_wp2_with fail
  refine cs.mono ?_
  rintro e w3 ⟨rfl, rfl⟩
  go_wp2_with fail
  go_ret
  exact ⟨ret_bool (by simp), hE2.alloc _⟩
end Go.Proofs.YtapodcmjggmgmaaGreatDoor
namespace Go.Proofs.YtapodcmjggmgmaaGreatDoor
open Go.RowKit
structure GAS (w00 : World) (x : Nat) (T e : TypeId) (C : Value → Array Value) (v : Value) (base size n m : Nat) (xs new : List Value) (Kp : World → Prop) (jb ja js : Nat) (γ : Nat → Value) (L : Nat → Bool) (w : World) : Prop where
  ext : Ext w00 w
  at_ : At w x T (C (if L js = true then γ 1 else v))
  own : if L ja = true then w.ownsRow base e size (γ 1) (n + m) (xs ++ new) else w.ownsRow base e size v n xs
  sl : L jb = true → L ja = false → Sln w (γ 0) size [new]
  kp : Kp w
section
variable {w00 w w' : World} {x : Nat} {T e : TypeId} {C : Value → Array Value} {v : Value} {base size n m : Nat} {xs new : List Value} {Kp : World → Prop} {jb ja js j : Nat} {γ : Nat → Value} {L : Nat → Bool}
theorem GAS.start (hE : Ext w00 w) (hA : At w x T (C v)) (hO : w.ownsRow base e size v n xs) (hk : Kp w.drew) (γ : Nat → Value) : GAS w00 x T e C v base size n m xs new Kp jb ja js γ (fun _ => false) w.drew :=
  ⟨hE.drew, hA, by simpa using own_chg hO ((Ext.refl w).drew) (fun _ h => h.elim), (fun h => by cases h), hk⟩
theorem GAS.keep (h1 : jb ≠ j) (h2 : ja ≠ j) (h3 : js ≠ j) : ∀ γ L w, GAS w00 x T e C v base size n m xs new Kp jb ja js γ L w → L j = false → GAS w00 x T e C v base size n m xs new Kp jb ja js γ (fun i => i == j || L i) w := by
  intro γ L w h _
  have e1 : (jb == j) = false := by simpa using h1
  have e2 : (ja == j) = false := by simpa using h2
  have e3 : (js == j) = false := by simpa using h3
  exact ⟨h.ext, by simpa [e3] using h.at_, by simpa [e2] using h.own, by simpa [e1, e2] using h.sl, h.kp⟩
theorem GAS.grow (h : GAS w00 x T e C v base size n m xs new Kp jb ja js γ L w) (hk : ∀ w w', Kp w → Ext w w' → Kp w') (hE : Ext w w') : GAS w00 x T e C v base size n m xs new Kp jb ja js γ L w' := by
  refine ⟨h.ext.trans hE, h.at_.ext hE, ?_, fun a b => (h.sl a b).ext hE, hk _ _ h.kp hE⟩
  have := h.own
  split <;> rename_i hl
  · rw [if_pos hl] at this; exact own_chg this hE (fun _ h => h.elim)
  · rw [if_neg hl] at this; exact own_chg this hE (fun _ h => h.elim)
theorem GAS.call (h : GAS w00 x T e C v base size n m xs new Kp jb ja js γ L w) (hk : ∀ w w', Kp w → Ext w w' → Kp w') (hE : Ext w w') (h1 : jb ≠ j) (h2 : ja ≠ j) (h3 : js ≠ j) (hj : L j = false) : GAS w00 x T e C v base size n m xs new Kp jb ja js γ (fun i => i == j || L i) w' :=
  GAS.keep h1 h2 h3 γ L w' (h.grow hk hE) hj
theorem GAS.made (h : GAS w00 x T e C v base size n m xs new Kp jb ja js γ L w) (hk : ∀ w w', Kp w → Ext w w' → Kp w') (hs : new.length = size) (ha : L ja = false) (hjs : L js = false) (h2 : ja ≠ jb) (h3 : js ≠ jb) :
    GAS w00 x T e C v base size n m xs new Kp jb ja js (upd γ 0 (.slice (some ⟨w.heap.size, 0, none⟩) 1 1)) (fun i => i == jb || L i) (w.alloc (.cells new.toArray e)) := by
  have hE := (Ext.refl w).alloc (.cells new.toArray e)
  have hg := h.grow hk hE
  have e2 : (ja == jb) = false := by simpa using h2
  have e3 : (js == jb) = false := by simpa using h3
  have h4 := hg.at_
  rw [hjs] at h4
  have h5 := hg.own
  rw [ha] at h5
  refine ⟨hg.ext, by simpa [e3, hjs] using h4, by simpa [e2, ha] using h5, fun _ _ => ?_, hg.kp⟩
  show Sln _ (.slice (some ⟨w.heap.size, 0, none⟩) 1 1) size [new]
  refine ⟨_, 1, rfl, fun _ => ⟨_, _, rfl, fun i row hi j y hy => ?_⟩⟩
  have hi0 : i = 0 := by have := (List.getElem?_eq_some_iff.1 hi).1; simp at this; omega
  subst hi0
  simp only [List.getElem?_cons_zero, Option.some.injEq] at hi
  subst hi
  have := (At.new w e new.toArray).cell j
  simp only [Nat.zero_mul, Nat.add_zero, Nat.zero_add]
  rw [this]
  simpa using hy
theorem GAS.appended (h : GAS w00 x T e C v base size n m xs new Kp jb ja js γ L w) (hTe : T ≠ e) (hbase : w00.heap.size ≤ base) (hk : ∀ w w', Kp w → w.ownsRow base e size v n xs → Chg (fun k => some k = v.ownBlock) w w' → Kp w') (ha : L ja = false) (hjs : L js = false) (h3 : js ≠ ja) {v' : Value}
    (hO : w'.ownsRow base e size v' (n + m) (xs ++ new)) (hC : Chg (fun k => some k = v.ownBlock) w w') : GAS w00 x T e C v base size n m xs new Kp jb ja js (upd γ 1 v') (fun i => i == ja || L i) w' := by
  have e3 : (js == ja) = false := by simpa using h3
  have h4 := h.at_
  rw [hjs] at h4
  have h5 := h.own
  rw [ha] at h5
  simp only [Bool.false_eq_true, if_false] at h4 h5
  refine ⟨Chg.own_ext h.ext hC h5 hbase, ?_, by simpa [upd] using hO, fun _ hh => by simp at hh, hk _ _ h.kp h5 hC⟩
  simp only [e3, hjs, Bool.or_self, Bool.false_eq_true, if_false]
  refine h4.chg hC fun hx => ?_
  rcases h5.2 with ⟨rfl, _⟩ | ⟨g, cap, cur, rfl, _, hg, _⟩
  · cases hx
  · have hxg : x = g := by simpa [Value.ownBlock] using hx
    subst hxg
    unfold At at h4
    rw [hg] at h4
    injection h4 with h4
    injection h4 with _ h4 _
    exact hTe h4.symm
theorem GAS.stored (h : GAS w00 x T e C v base size n m xs new Kp jb ja js γ L w) (hk : ∀ w w', Kp w → Chg (fun k => k = x) w w' → (∃ cs, At w x T cs) → Kp w') (ha : L ja = true) (hjs : L js = false) (h2 : ja ≠ js) (hx : w00.heap.size ≤ x) (hxb : x < base) {i : Nat} (hC : (C v).setIfInBounds i (γ 1) = C (γ 1)) :
    GAS w00 x T e C v base size n m xs new Kp jb ja js γ (fun i => i == js || L i) (w.setCell ⟨x, i, none⟩ (γ 1)) := by
  have h4 := h.at_
  rw [hjs] at h4
  have h5 := h.own
  rw [ha] at h5
  simp only [Bool.false_eq_true, if_false, if_true] at h4 h5
  have hc : Chg (fun k => k = x) w (w.setCell ⟨x, i, none⟩ (γ 1)) := (Chg.refl (fun k => k = x) w).setCell (p := ⟨x, i, none⟩) (.inl rfl) _
  refine ⟨(h.ext.chg_trans hc).mono (fun k hk' e => by omega), ?_, ?_, fun _ hh => by simp [ha] at hh, hk _ _ h.kp hc ⟨_, h4⟩⟩
  · simp only [beq_self_eq_true, Bool.true_or, if_true]
    rw [← hC]; exact h4.set i _
  · simp only [ha, Bool.or_true, if_true]
    exact own_chg h5 hc (fun k hk' => by omega)
end
theorem own_off {w w' : World} {base : Nat} {e : TypeId} {size : Nat} {v : Value} {n : Nat} {xs : List Value} {S : Nat → Prop} (h : w.ownsRow base e size v n xs) (hc : Chg S w w') (hS : ∀ k, some k = v.ownBlock → ¬ S k) : w'.ownsRow base e size v n xs := by
  obtain ⟨h1, h2⟩ := h
  refine ⟨h1, ?_⟩
  rcases h2 with h2 | ⟨g, cap, cur, rfl, hb, hg, r⟩
  · exact .inl h2
  · exact .inr ⟨g, cap, cur, rfl, hb, (hc.block g (lt_of_block hg) (hS g rfl)).trans hg, r⟩
theorem own_types {w : World} {b1 b2 : Nat} {e1 e2 : TypeId} {s1 s2 n1 n2 : Nat} {v1 v2 : Value} {x1 x2 : List Value} (h : w.ownsRow b1 e1 s1 v1 n1 x1) (h' : w.ownsRow b2 e2 s2 v2 n2 x2) (hne : e1 ≠ e2) : ∀ k, some k = v1.ownBlock → ¬ some k = v2.ownBlock := by
  intro k h1 h2
  rcases h.2 with ⟨rfl, _⟩ | ⟨g, cap, cur, rfl, _, hg, _⟩
  · cases h1
  · rcases h'.2 with ⟨rfl, _⟩ | ⟨g', cap', cur', rfl, _, hg', _⟩
    · cases h2
    · have e : k = g := by simpa [Value.ownBlock] using h1
      have e' : k = g' := by simpa [Value.ownBlock] using h2
      subst e
      subst e'
      rw [hg] at hg'
      injection hg' with hg'
      injection hg' with _ hg' _
      exact hne hg'
theorem own_noat {w : World} {b1 x : Nat} {e1 T : TypeId} {s1 n1 : Nat} {v1 : Value} {x1 : List Value} (h : w.ownsRow b1 e1 s1 v1 n1 x1) (h' : ∃ cs, At w x T cs) (hne : e1 ≠ T) : ∀ k, some k = v1.ownBlock → k ≠ x := by
  rintro k h1 rfl
  obtain ⟨cs, h'⟩ := h'
  rcases h.2 with ⟨rfl, _⟩ | ⟨g, cap, cur, rfl, _, hg, _⟩
  · cases h1
  · have e : k = g := by simpa [Value.ownBlock] using h1
    subst e
    unfold At at h'
    rw [hg] at h'
    injection h' with h'
    injection h' with _ h' _
    exact hne h'
end Go.Proofs.YtapodcmjggmgmaaGreatDoor
