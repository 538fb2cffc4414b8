/-
  Part 14 of what the law leans on.
-/
import Derived.Test.YtapodcmjggmgmaaGreatDoorST11
import Derived.Test.YtapodcmjggmgmaaGreatDoorST12
set_option linter.unusedVariables false
set_option linter.unusedSimpArgs false
set_option linter.unusedSectionVars false
namespace Go.Proofs.YtapodcmjggmgmaaGreatDoor
open Go.RowKit Go.Sort
abbrev Rec := Nat × ByteArray
def rbs (x : Rec) : ByteArray := frec 1 x.1 x.2
def gB (g : List Rec) : ByteArray := g.foldl (fun b x => b ++ rbs x) ByteArray.empty
def fl (b : ByteArray) : Fl := ⟨true, b, true, b⟩
def filesFrom (k : Nat) : List (List Rec) → List (ByteArray × Fl)
  | [] => []
  | g :: r => (segN k, fl (gB g)) :: filesFrom (k + 1) r
def tot : List (List Rec) → Nat
  | [] => 0
  | g :: r => (gB g).size + tot r
def dkT (Ls : List (List Rec)) : Dk := ⟨20000, tot Ls, false, 0, filesFrom 1 Ls⟩
theorem gB_snoc (g : List Rec) (x : Rec) : gB (g ++ [x]) = gB g ++ rbs x := by unfold gB; rw [List.foldl_append]; rfl
theorem filesFrom_snoc : ∀ (k : Nat) (A : List (List Rec)) (g : List Rec), filesFrom k (A ++ [g]) = filesFrom k A ++ [(segN (k + A.length), fl (gB g))]
  | k, [], g => rfl
  | k, a :: A, g => by
    show _ :: filesFrom (k + 1) (A ++ [g]) = _
    rw [filesFrom_snoc (k + 1) A g, show k + 1 + A.length = k + (a :: A).length by simp; omega]
    rfl
theorem tot_snoc : ∀ (A : List (List Rec)) (g : List Rec), tot (A ++ [g]) = tot A + (gB g).size
  | [], g => by simp [tot]
  | a :: A, g => by
    show (gB a).size + tot (A ++ [g]) = _
    rw [tot_snoc A g]; simp only [tot]; omega
theorem segN_lt : ∀ a, a < 20 → ∀ b, b < 20 → a < b → blt (segN a) (segN b) = true := by decide +kernel
theorem filesFrom_lt : ∀ (k : Nat) (A : List (List Rec)) (n : Nat), k + A.length ≤ n → n < 20 → ∀ p ∈ filesFrom k A, blt p.1 (segN n) = true
  | k, [], n, _, _, p, hp => by cases hp
  | k, a :: A, n, h, hn, p, hp => by
    simp only [List.length_cons] at h
    rcases List.mem_cons.1 hp with rfl | hp
    · exact segN_lt k (by omega) n hn (by omega)
    · exact filesFrom_lt (k + 1) A n (by omega) hn p hp
theorem lput_end {n : ByteArray} {f : Fl} : ∀ {L R : List (ByteArray × Fl)}, (∀ p ∈ L, blt p.1 n = true) → lput blt n f (L ++ R) = L ++ lput blt n f R
  | [], R, _ => rfl
  | p :: L, R, h => by
    have h1 := h p (List.mem_cons_self ..)
    have h2 : blt n p.1 = false := by
      cases hb : blt n p.1 with
      | false => rfl
      | true => have := blt_ordd.tr h1 hb; rw [blt_ordd.irr] at this; cases this
    show (if blt n p.1 then _ else if blt p.1 n then p :: lput blt n f (L ++ R) else _) = _
    rw [h2, h1]
    simp only [Bool.false_eq_true, if_false, if_true, List.cons_append]
    rw [lput_end (fun q hq => h q (List.mem_cons_of_mem _ hq))]
theorem lget_end {n : ByteArray} {L R : List (ByteArray × Fl)} (h : ∀ p ∈ L, blt p.1 n = true) : lget n (L ++ R) = lget n R := by
  unfold lget
  rw [List.find?_append, List.find?_eq_none.2 (fun p hp => by
    have h1 := h p hp
    simp only [decide_eq_true_eq]
    intro e
    rw [e, blt_ordd.irr] at h1; cases h1)]
  rfl
theorem blt_irr (n : ByteArray) : blt n n = false := blt_ordd.irr n
def old (n : ByteArray) : Option ByteArray → List (ByteArray × Fl)
  | none => []
  | some b => [(n, fl b)]
theorem put_sync {L : List (ByteArray × Fl)} {n : ByteArray} (hL : ∀ p ∈ L, blt p.1 n = true) (hn : n.data.toList.isEmpty = false) (o : Option ByteArray) (u : Nat) (f : ByteArray) (hf : 0 < f.size) (hu : u + f.size ≤ 20000) :
    (Dk.mk 20000 u false 0 (L ++ old n o)).change n (fun x => x ++ f) = (0, ⟨20000, ((u + f.size : Nat) : Int), false, 0, L ++ [(n, ⟨true, o.getD ByteArray.empty ++ f, o.isSome, o.getD ByteArray.empty⟩)]⟩) ∧
    (Dk.mk 20000 ((u + f.size : Nat) : Int) false 0 (L ++ [(n, ⟨true, o.getD ByteArray.empty ++ f, o.isSome, o.getD ByteArray.empty⟩)])).syncL [n] = ⟨20000, ((u + f.size : Nat) : Int), false, 0, L ++ [(n, fl (o.getD ByteArray.empty ++ f))]⟩ := by
  have hget : (Dk.mk 20000 u false 0 (L ++ old n o)).get n = ⟨o.isSome, o.getD ByteArray.empty, o.isSome, o.getD ByteArray.empty⟩ := by
    unfold Dk.get
    simp only
    rw [lget_end hL]
    cases o with
    | none => rfl
    | some b => simp [old, lget, fl]
  constructor
  · unfold Dk.change
    have he : (Dk.mk 20000 u false 0 (L ++ old n o)).e = 0 := rfl
    have ht : (Dk.mk 20000 u false 0 (L ++ old n o)).tick = Dk.mk 20000 u false 0 (L ++ old n o) := rfl
    rw [if_neg (by rw [he]; decide), if_neg (by rw [hn]; decide), ht, hget]
    have hg : (Dk.mk 20000 u false 0 (L ++ old n o)).grow n { (⟨o.isSome, o.getD ByteArray.empty, o.isSome, o.getD ByteArray.empty⟩ : Fl) with nt := true, nx := o.getD ByteArray.empty ++ f } = f.size := by
      unfold Dk.grow wt
      rw [hget]
      simp only [ByteArray.size_append]
      omega
    unfold Dk.put
    rw [hg, if_neg (by simp only; omega)]
    congr 1
    simp only [lputf, Bool.true_or, if_true]
    have h1 : nuse (u : Int) (f.size : Int) = ((u + f.size : Nat) : Int) := by unfold nuse; rw [if_pos (by omega)]; simp
    rw [h1, lput_end hL]
    congr 1
    cases o with
    | none => rfl
    | some b => simp [old, lput, blt_irr]
  · have hget2 : (Dk.mk 20000 ((u + f.size : Nat) : Int) false 0 (L ++ [(n, ⟨true, o.getD ByteArray.empty ++ f, o.isSome, o.getD ByteArray.empty⟩)])).get n = ⟨true, o.getD ByteArray.empty ++ f, o.isSome, o.getD ByteArray.empty⟩ := by
      unfold Dk.get
      simp only
      rw [lget_end hL]
      simp [lget]
    show Dk.sync1 _ n = _
    unfold Dk.sync1
    rw [hget2]
    have hg : (Dk.mk 20000 ((u + f.size : Nat) : Int) false 0 (L ++ [(n, ⟨true, o.getD ByteArray.empty ++ f, o.isSome, o.getD ByteArray.empty⟩)])).grow n ⟨true, o.getD ByteArray.empty ++ f, true, o.getD ByteArray.empty ++ f⟩ = 0 := by
      unfold Dk.grow wt
      rw [hget2]
      simp only [ByteArray.size_append]
      omega
    unfold Dk.put
    rw [hg, if_neg (by omega)]
    simp only [lputf, Bool.true_or, if_true]
    have h1 : nuse ((u + f.size : Nat) : Int) 0 = ((u + f.size : Nat) : Int) := by unfold nuse; rw [if_neg (by omega)]; omega
    rw [h1, lput_end hL]
    simp [lput, blt_irr, fl]
end Go.Proofs.YtapodcmjggmgmaaGreatDoor
namespace Go.Proofs.YtapodcmjggmgmaaGreatDoor
open Go.RowKit Go.Sort
def applyG (k : Nat) : Nat → List Rec → List (Int × Plc) → List (Int × Plc)
  | _, [], C => C
  | a, x :: r, C => applyG k (a + (rbs x).size) r (((x.1 : Int), ⟨(k : Int), (a : Int), ((rbs x).size : Int), (rbs x).data.toList⟩) :: ldel (x.1 : Int) C)
def applyL (k : Nat) : List (List Rec) → List (Int × Plc) → List (Int × Plc)
  | [], C => C
  | g :: r, C => applyL (k + 1) r (applyG k 0 g C)
def Cof (Ls : List (List Rec)) : List (Int × Plc) := applyL 1 Ls []
theorem applyL_snoc : ∀ (k : Nat) (A : List (List Rec)) (g : List Rec) (C : List (Int × Plc)), applyL k (A ++ [g]) C = applyG (k + A.length) 0 g (applyL k A C)
  | k, [], g, C => rfl
  | k, a :: A, g, C => by
    show applyL (k + 1) (A ++ [g]) _ = _
    rw [applyL_snoc (k + 1) A g, show k + 1 + A.length = k + (a :: A).length by simp; omega]
    rfl
def sizeG : List Rec → Nat
  | [] => 0
  | x :: r => (rbs x).size + sizeG r
theorem foldl_size : ∀ (g : List Rec) (b : ByteArray), (g.foldl (fun b x => b ++ rbs x) b).size = b.size + sizeG g
  | [], b => rfl
  | x :: r, b => by
    show (r.foldl _ (b ++ rbs x)).size = _
    rw [foldl_size r, ByteArray.size_append]; simp only [sizeG]; omega
theorem gB_size (g : List Rec) : (gB g).size = sizeG g := by unfold gB; rw [foldl_size]; simp
theorem applyG_snoc (k : Nat) : ∀ (a : Nat) (g : List Rec) (x : Rec) (C : List (Int × Plc)), applyG k a (g ++ [x]) C = ((x.1 : Int), ⟨(k : Int), ((a + sizeG g : Nat) : Int), ((rbs x).size : Int), (rbs x).data.toList⟩) :: ldel (x.1 : Int) (applyG k a g C)
  | a, [], x, C => rfl
  | a, y :: g, x, C => by
    show applyG k (a + (rbs y).size) (g ++ [x]) _ = _
    rw [applyG_snoc k (a + (rbs y).size) g x]
    show (_, _) :: _ = (_, _) :: _
    rw [show a + (rbs y).size + sizeG g = a + sizeG (y :: g) by simp only [sizeG]; omega]
    rfl
def lastSize (Ls : List (List Rec)) : Nat := match Ls.getLast? with | some g => sizeG g | none => 0
def stO (Ls : List (List Rec)) : St := ⟨2000, dkT Ls, Cof Ls, max 1 Ls.length, lastSize Ls, false⟩
def St.roll (S : St) : St := { S with seg := S.seg + 1, size := 0 }
theorem lastSize_snoc (A : List (List Rec)) (g : List Rec) : lastSize (A ++ [g]) = sizeG g := by unfold lastSize; rw [List.getLast?_concat]
theorem put_gen {L : List (ByteArray × Fl)} {seg : Nat} (hL : ∀ p ∈ L, blt p.1 (segN seg) = true) (hs : seg < 20) (o : Option ByteArray) (u size : Nat) (C : List (Int × Plc)) (x : Rec) (hu : u + (rbs x).size ≤ 20000) (T : St)
    (hT : T = ⟨2000, ⟨20000, u, false, 0, L ++ old (segN seg) o⟩, C, seg, size, false⟩) :
    (T.put x.1 x.2).1 = 0 ∧ (T.put x.1 x.2).2.dirty = true ∧ (T.put x.1 x.2).2.seg = seg ∧ (T.put x.1 x.2).2.D.files.length = L.length + 1 ∧
    (T.put x.1 x.2).2.D = ⟨20000, ((u + (rbs x).size : Nat) : Int), false, 0, L ++ [(segN seg, ⟨true, o.getD ByteArray.empty ++ rbs x, o.isSome, o.getD ByteArray.empty⟩)]⟩ ∧
    (T.put x.1 x.2).2.sync = ⟨2000, ⟨20000, ((u + (rbs x).size : Nat) : Int), false, 0, L ++ [(segN seg, fl (o.getD ByteArray.empty ++ rbs x))]⟩, ((x.1 : Int), ⟨(seg : Int), (size : Int), ((rbs x).size : Int), (rbs x).data.toList⟩) :: ldel (x.1 : Int) C, seg, size + (rbs x).size, false⟩ := by
  have h8 : 8 ≤ (rbs x).size := frec_ge 1 x.1 x.2
  obtain ⟨h1, h2⟩ := put_sync hL (segN_ne seg (by omega)) o u (rbs x) (by omega) hu
  subst hT
  have ha : (St.mk 2000 ⟨20000, u, false, 0, L ++ old (segN seg) o⟩ C seg size false).add1 (rbs x) = (0, ⟨2000, ⟨20000, ((u + (rbs x).size : Nat) : Int), false, 0, L ++ [(segN seg, ⟨true, o.getD ByteArray.empty ++ rbs x, o.isSome, o.getD ByteArray.empty⟩)]⟩, C, seg, size + (rbs x).size, true⟩) := by
    unfold St.add1
    simp only [h1, if_true]
  have hp : (St.mk 2000 ⟨20000, u, false, 0, L ++ old (segN seg) o⟩ C seg size false).plc (rbs x) = ⟨(seg : Int), (size : Int), ((rbs x).size : Int), (rbs x).data.toList⟩ := by
    unfold St.plc
    simp only [h1, if_true]
  have hput : (St.mk 2000 ⟨20000, u, false, 0, L ++ old (segN seg) o⟩ C seg size false).put x.1 x.2 = (0, ⟨2000, ⟨20000, ((u + (rbs x).size : Nat) : Int), false, 0, L ++ [(segN seg, ⟨true, o.getD ByteArray.empty ++ rbs x, o.isSome, o.getD ByteArray.empty⟩)]⟩, ((x.1 : Int), ⟨(seg : Int), (size : Int), ((rbs x).size : Int), (rbs x).data.toList⟩) :: ldel (x.1 : Int) C, seg, size + (rbs x).size, true⟩) := by
    unfold St.put
    rw [show frec 1 x.1 x.2 = rbs x from rfl, ha, hp]
    simp only [if_true]
  rw [hput]
  refine ⟨rfl, rfl, rfl, by simp, rfl, ?_⟩
  unfold St.sync
  simp only [if_true]
  rw [h2]
theorem put_first (x : Rec) (hf : (rbs x).size ≤ 20000) : ((stO []).put x.1 x.2).1 = 0 ∧ ((stO []).put x.1 x.2).2.dirty = true ∧ ((stO []).put x.1 x.2).2.seg = 1 ∧ ((stO []).put x.1 x.2).2.D.files.length = 1 ∧ ((stO []).put x.1 x.2).2.sync = stO [[x]] := by
  obtain ⟨h1, h2, h3, h4, _, h5⟩ := put_gen (L := []) (seg := 1) (fun p hp => by cases hp) (by decide) none 0 0 [] x (by omega) (stO []) rfl
  refine ⟨h1, h2, h3, h4, h5.trans ?_⟩
  unfold stO dkT
  congr 1
  · congr 1
    simp [tot, gB_size, sizeG]
  · simp [lastSize, sizeG]
theorem put_more (A : List (List Rec)) (g : List Rec) (x : Rec) (hA : A.length < 15) (hf : tot (A ++ [g]) + (rbs x).size ≤ 20000) :
    ((stO (A ++ [g])).put x.1 x.2).1 = 0 ∧ ((stO (A ++ [g])).put x.1 x.2).2.dirty = true ∧ ((stO (A ++ [g])).put x.1 x.2).2.seg = A.length + 1 ∧ ((stO (A ++ [g])).put x.1 x.2).2.D.files.length = (filesFrom 1 A).length + 1 ∧ ((stO (A ++ [g])).put x.1 x.2).2.sync = stO (A ++ [g ++ [x]]) := by
  have hlen : max 1 (A ++ [g]).length = A.length + 1 := by simp
  obtain ⟨h1, h2, h3, h4, _, h5⟩ := put_gen (L := filesFrom 1 A) (seg := A.length + 1) (filesFrom_lt 1 A _ (by omega) (by omega)) (by omega) (some (gB g)) (tot (A ++ [g])) (sizeG g) (Cof (A ++ [g])) x hf (stO (A ++ [g])) (by
    unfold stO dkT
    rw [hlen, lastSize_snoc, filesFrom_snoc, Nat.add_comm 1]
    rfl)
  refine ⟨h1, h2, h3, h4, h5.trans ?_⟩
  have hlen2 : max 1 (A ++ [g ++ [x]]).length = A.length + 1 := by simp
  unfold stO dkT
  rw [hlen2, lastSize_snoc, filesFrom_snoc, Nat.add_comm 1]
  congr 1
  · congr 1
    · rw [tot_snoc, tot_snoc, gB_snoc, ByteArray.size_append]; simp only [Nat.add_assoc]
    · rw [gB_snoc]; rfl
  · unfold Cof
    rw [applyL_snoc, applyL_snoc, applyG_snoc, Nat.zero_add, Nat.add_comm 1]
  · rw [← gB_size, ← gB_size, gB_snoc, ByteArray.size_append]
theorem put_roll (A : List (List Rec)) (g : List Rec) (x : Rec) (hA : A.length < 15) (hf : tot (A ++ [g]) + (rbs x).size ≤ 20000) :
    ((stO (A ++ [g])).roll.put x.1 x.2).1 = 0 ∧ ((stO (A ++ [g])).roll.put x.1 x.2).2.dirty = true ∧ ((stO (A ++ [g])).roll.put x.1 x.2).2.seg = A.length + 2 ∧ ((stO (A ++ [g])).roll.put x.1 x.2).2.D.files.length = (filesFrom 1 (A ++ [g])).length + 1 ∧ ((stO (A ++ [g])).roll.put x.1 x.2).2.sync = stO (A ++ [g] ++ [[x]]) := by
  have hlen : max 1 (A ++ [g]).length = A.length + 1 := by simp
  obtain ⟨h1, h2, h3, h4, _, h5⟩ := put_gen (L := filesFrom 1 (A ++ [g])) (seg := A.length + 2) (filesFrom_lt 1 _ _ (by simp; omega) (by omega)) (by omega) none (tot (A ++ [g])) 0 (Cof (A ++ [g])) x hf (stO (A ++ [g])).roll (by
    unfold stO dkT St.roll
    simp only [hlen, old, List.append_nil])
  refine ⟨h1, h2, h3, h4, h5.trans ?_⟩
  have hlen2 : max 1 (A ++ [g] ++ [[x]]).length = A.length + 2 := by simp
  have hl3 : 1 + (A ++ [g]).length = A.length + 2 := by simp; omega
  unfold stO dkT
  rw [hlen2, lastSize_snoc, filesFrom_snoc 1 (A ++ [g]), hl3]
  congr 1
  · congr 1
    rw [tot_snoc (A ++ [g])]; simp [gB_size, sizeG]
  · unfold Cof
    rw [applyL_snoc 1 (A ++ [g]), hl3]
    rfl
  · simp [sizeG]
end Go.Proofs.YtapodcmjggmgmaaGreatDoor
namespace Go.Proofs.YtapodcmjggmgmaaGreatDoor
open Go.RowKit Go.Sort
theorem lget_other (k : Nat) {id : Nat} : ∀ (a : Nat) (g : List Rec) (C : List (Int × Plc)), (∀ y ∈ g, y.1 ≠ id) → lget (id : Int) (applyG k a g C) = lget (id : Int) C
  | a, [], C, _ => rfl
  | a, x :: g, C, h => by
    have hx : (x.1 : Int) ≠ (id : Int) := fun e => h x (List.mem_cons_self ..) (by exact_mod_cast e)
    show lget (id : Int) (applyG k _ g _) = _
    rw [lget_other k _ g _ (fun y hy => h y (List.mem_cons_of_mem _ hy)), lget_cons, if_neg hx, lget_ldel, if_neg (fun e => hx e.symm)]
theorem lget_in (k : Nat) (x : Rec) (post : List Rec) (hp : ∀ y ∈ post, y.1 ≠ x.1) : ∀ (a : Nat) (pre : List Rec) (C : List (Int × Plc)), lget (x.1 : Int) (applyG k a (pre ++ x :: post) C) = some ⟨(k : Int), ((a + sizeG pre : Nat) : Int), ((rbs x).size : Int), (rbs x).data.toList⟩
  | a, [], C => by
    show lget (x.1 : Int) (applyG k _ post _) = _
    rw [lget_other k _ post _ hp, lget_cons, if_pos rfl]
    rfl
  | a, y :: pre, C => by
    show lget (x.1 : Int) (applyG k (a + (rbs y).size) (pre ++ x :: post) _) = _
    rw [lget_in k x post hp]
    rw [show a + (rbs y).size + sizeG pre = a + sizeG (y :: pre) by simp only [sizeG]; omega]
theorem lget_otherL {id : Nat} : ∀ (k : Nat) (Ls : List (List Rec)) (C : List (Int × Plc)), (∀ g ∈ Ls, ∀ y ∈ g, y.1 ≠ id) → lget (id : Int) (applyL k Ls C) = lget (id : Int) C
  | k, [], C, _ => rfl
  | k, g :: r, C, h => by
    show lget (id : Int) (applyL (k + 1) r _) = _
    rw [lget_otherL (k + 1) r _ (fun g' hg => h g' (List.mem_cons_of_mem _ hg)), lget_other k 0 g C (h g (List.mem_cons_self ..))]
theorem applyL_append : ∀ (k : Nat) (A B : List (List Rec)) (C : List (Int × Plc)), applyL k (A ++ B) C = applyL (k + A.length) B (applyL k A C)
  | k, [], B, C => rfl
  | k, a :: A, B, C => by
    show applyL (k + 1) (A ++ B) _ = _
    rw [applyL_append (k + 1) A B, show k + 1 + A.length = k + (a :: A).length by simp; omega]
    rfl
theorem filesFrom_append : ∀ (k : Nat) (A B : List (List Rec)), filesFrom k (A ++ B) = filesFrom k A ++ filesFrom (k + A.length) B
  | k, [], B => rfl
  | k, a :: A, B => by
    show _ :: filesFrom (k + 1) (A ++ B) = _
    rw [filesFrom_append (k + 1) A B, show k + 1 + A.length = k + (a :: A).length by simp; omega]
    rfl
theorem gB_append (g : List Rec) : ∀ b : ByteArray, g.foldl (fun b x => b ++ rbs x) b = b ++ gB g := by
  induction g with
  | nil => intro b; unfold gB; simp
  | cons x g ih =>
    intro b
    unfold gB
    rw [List.foldl_cons, List.foldl_cons, ih, ih (ByteArray.empty ++ rbs x)]
    rw [ByteArray.append_assoc, ← ByteArray.append_assoc]
    simp [ByteArray.append_assoc]
theorem tot_append : ∀ (A B : List (List Rec)), tot (A ++ B) = tot A + tot B
  | [], B => by simp [tot]
  | a :: A, B => by show (gB a).size + tot (A ++ B) = _; rw [tot_append A B]; simp only [tot]; omega
structure GoodL (Ls : List (List Rec)) : Prop where
  len : Ls.length ≤ 15
  tot : tot Ls ≤ 20000
  ids : Ls.flatten.Pairwise fun x y => x.1 < y.1
  small : ∀ x ∈ Ls.flatten, x.2.size ≤ 500 ∧ x.1 < 18446744073709551616
  ne : ∀ g ∈ Ls, g ≠ []
theorem GoodL.at_ {Ls : List (List Rec)} (h : GoodL Ls) {x : Rec} (hx : x ∈ Ls.flatten) : ∃ p, lget (x.1 : Int) (Cof Ls) = some p ∧ Holds (dkT Ls) x.1 p x.2 := by
  obtain ⟨g, hg, hxg⟩ := List.mem_flatten.1 hx
  obtain ⟨A, B, rfl⟩ := List.append_of_mem hg
  obtain ⟨pre, post, rfl⟩ := List.append_of_mem hxg
  have hids := h.ids
  have hlen := h.len
  have htot := h.tot
  rw [List.flatten_append, List.flatten_cons, List.append_assoc] at hids
  obtain ⟨_, h1, _⟩ := List.pairwise_append.1 hids
  obtain ⟨_, h2, _⟩ := List.pairwise_append.1 h1
  rw [List.cons_append] at h2
  have h3 := (List.pairwise_cons.1 h2).1
  have hpost : ∀ y ∈ post, y.1 ≠ x.1 := fun y hy => by have := h3 y (List.mem_append_left _ hy); omega
  have hB : ∀ g ∈ B, ∀ y ∈ g, y.1 ≠ x.1 := fun g hg y hy => by have := h3 y (List.mem_append_right _ (List.mem_flatten.2 ⟨g, hg, hy⟩)); omega
  refine ⟨⟨((A.length + 1 : Nat) : Int), ((sizeG pre : Nat) : Int), ((rbs x).size : Int), (rbs x).data.toList⟩, ?_, ?_⟩
  · unfold Cof
    rw [applyL_append]
    show lget (x.1 : Int) (applyL _ B _) = _
    rw [lget_otherL _ B _ hB, lget_in _ x post hpost, Nat.zero_add, Nat.add_comm 1]
  · rw [List.length_append, List.length_cons] at hlen
    rw [tot_append] at htot
    simp only [Go.Proofs.YtapodcmjggmgmaaGreatDoor.tot] at htot
    have hget : (dkT (A ++ (pre ++ x :: post) :: B)).get (segN (A.length + 1)) = fl (gB (pre ++ x :: post)) := by
      unfold Dk.get dkT
      simp only
      rw [filesFrom_append, lget_end (filesFrom_lt 1 A _ (by omega) (by omega)), Nat.add_comm 1]
      simp [filesFrom, lget]
    have hgb : gB (pre ++ x :: post) = (gB pre ++ rbs x) ++ gB post := by
      show (pre ++ x :: post).foldl _ _ = _
      rw [List.foldl_append, List.foldl_cons, gB_append post]
      rfl
    have hsz : (gB (pre ++ x :: post)).size = sizeG pre + (rbs x).size + sizeG post := by rw [hgb, ByteArray.size_append, ByteArray.size_append, gB_size, gB_size]
    refine ⟨A.length + 1, sizeG pre, rfl, rfl, rfl, rfl, by omega, by omega, by rw [hget]; rfl, ?_, ?_, ?_⟩
    · rw [hget]
      show (gB (pre ++ x :: post)).extract (sizeG pre) (sizeG pre + (rbs x).size) = rbs x
      rw [hgb, extract_left (by rw [ByteArray.size_append, gB_size]; omega), ← gB_size]
      exact extract_right
    · rw [hget]
      show sizeG pre + (rbs x).size ≤ (gB (pre ++ x :: post)).size
      omega
    · rw [hget]
      show (gB (pre ++ x :: post)).size ≤ 1000000
      omega
theorem GoodL.no {Ls : List (List Rec)} {id : Nat} (h : ∀ x ∈ Ls.flatten, x.1 ≠ id) : lget (id : Int) (Cof Ls) = none := by
  unfold Cof
  rw [lget_otherL 1 Ls [] (fun g hg y hy => h y (List.mem_flatten.2 ⟨g, hg, hy⟩))]
  rfl
theorem filesFrom_get : ∀ (k : Nat) (Ls : List (List Rec)) (n : ByteArray) (f : Fl), lget n (filesFrom k Ls) = some f → ∃ g ∈ Ls, f = fl (gB g)
  | k, [], n, f, h => by cases h
  | k, g :: r, n, f, h => by
    rw [filesFrom, lget_cons] at h
    split at h
    · exact ⟨g, List.mem_cons_self .., (Option.some.inj h).symm⟩
    · obtain ⟨g', h1, h2⟩ := filesFrom_get (k + 1) r n f h
      exact ⟨g', List.mem_cons_of_mem _ h1, h2⟩
theorem tot_mem : ∀ {Ls : List (List Rec)} {g : List Rec}, g ∈ Ls → (gB g).size ≤ tot Ls
  | a :: A, g, h => by
    rcases List.mem_cons.1 h with rfl | h
    · simp only [tot]; omega
    · have := tot_mem h; simp only [tot]; omega
theorem dkT_get (Ls : List (List Rec)) (n : ByteArray) : (dkT Ls).get n = Fl.zero ∨ ∃ g ∈ Ls, (dkT Ls).get n = fl (gB g) := by
  unfold Dk.get dkT
  simp only
  cases h : lget n (filesFrom 1 Ls) with
  | none => exact .inl rfl
  | some f => obtain ⟨g, h1, h2⟩ := filesFrom_get 1 Ls n f h; exact .inr ⟨g, h1, h2⟩
theorem filesFrom_mem : ∀ (k : Nat) (Ls : List (List Rec)) (p : ByteArray × Fl), p ∈ filesFrom k Ls → ∃ j, k ≤ j ∧ j < k + Ls.length ∧ p.1 = segN j
  | k, g :: r, p, h => by
    rcases List.mem_cons.1 h with rfl | h
    · exact ⟨k, Nat.le_refl _, by simp, rfl⟩
    · obtain ⟨j, h1, h2, h3⟩ := filesFrom_mem (k + 1) r p h
      exact ⟨j, by omega, by simp only [List.length_cons]; omega, h3⟩
theorem filesFrom_rises : ∀ (k : Nat) (Ls : List (List Rec)), k + Ls.length ≤ 20 → Rises blt (filesFrom k Ls)
  | k, [], _ => List.Pairwise.nil
  | k, g :: r, h => by
    simp only [List.length_cons] at h
    refine List.pairwise_cons.2 ⟨fun p hp => ?_, filesFrom_rises (k + 1) r (by omega)⟩
    obtain ⟨j, h1, h2, h3⟩ := filesFrom_mem (k + 1) r p hp
    rw [h3]
    exact segN_lt k (by omega) j (by omega) (by omega)
theorem dkT_small {Ls : List (List Rec)} (h : GoodL Ls) (n : ByteArray) : ((dkT Ls).get n).nx.size ≤ 20000 ∧ ((dkT Ls).get n).sx.size ≤ 20000 := by
  rcases dkT_get Ls n with e | ⟨g, hg, e⟩
  · rw [e]; exact ⟨by decide, by decide⟩
  · rw [e]
    have h1 := tot_mem hg
    have h2 := h.tot
    exact ⟨by show (gB g).size ≤ _; omega, by show (gB g).size ≤ _; omega⟩
theorem dkT_calm {Ls : List (List Rec)} (h : GoodL Ls) : (dkT Ls).Calm := by
  have hl := h.len
  have ht := h.tot
  refine ⟨⟨by show (0 : Int) ≤ (tot Ls : Int); omega, by show ((tot Ls : Nat) : Int) ≤ 20000; omega, by show (20000 : Int) ≤ _; decide, by show (0 : Int) ≤ 0; decide, by show (0 : Int) ≤ _; decide, filesFrom_rises 1 Ls (by omega), fun p hp => ?_, fun n => ?_⟩, rfl, rfl⟩
  · obtain ⟨j, h1, h2, h3⟩ := filesFrom_mem 1 Ls p hp
    rw [h3, segN_size (by omega)]
    decide
  · have := dkT_small h n
    unfold maxLen
    omega
theorem dkT_crash (Ls : List (List Rec)) (ch : List Int) : (dkT Ls).crash ch = dkT Ls := by
  have hs : ∀ n, ((dkT Ls).get n).safe = true := fun n => by
    rcases dkT_get Ls n with e | ⟨g, _, e⟩ <;> rw [e] <;> simp [Fl.safe, Fl.zero, fl]
  have hc : ∀ ns : List ByteArray, ns.foldl (Dk.crash1 ch) (dkT Ls, 0) = (dkT Ls, 0) := fun ns => by
    induction ns with
    | nil => rfl
    | cons n r ih => rw [List.foldl_cons]; unfold Dk.crash1 at ih ⊢; simp only [hs n, if_true]; exact ih
  unfold Dk.crash Dk.crashL
  rw [hc]
def nameFrom (k : Nat) : List (List Rec) → List Nat
  | [] => []
  | _ :: r => k :: nameFrom (k + 1) r
theorem nameFrom_files : ∀ (k : Nat) (Ls : List (List Rec)), (filesFrom k Ls).map (·.1) = (nameFrom k Ls).map segN
  | k, [] => rfl
  | k, g :: r => by show _ :: _ = _ :: _; rw [nameFrom_files (k + 1) r]
theorem nameFrom_length : ∀ (k : Nat) (Ls : List (List Rec)), (nameFrom k Ls).length = Ls.length
  | k, [] => rfl
  | k, g :: r => by show _ + 1 = _ + 1; rw [nameFrom_length (k + 1) r]
theorem nameFrom_get : ∀ (k : Nat) (Ls : List (List Rec)) (j : Nat), j < Ls.length → (nameFrom k Ls)[j]? = some (k + j)
  | k, g :: r, 0, _ => rfl
  | k, g :: r, j + 1, h => by
    show (nameFrom (k + 1) r)[j]? = _
    rw [nameFrom_get (k + 1) r j (by simpa using h), show k + 1 + j = k + (j + 1) by omega]
theorem dkT_at {Ls : List (List Rec)} (hl : Ls.length ≤ 15) {j : Nat} {g : List Rec} (hg : Ls[j]? = some g) : (dkT Ls).get (segN (1 + j)) = fl (gB g) := by
  have hj := (List.getElem?_eq_some_iff.1 hg).1
  have e : Ls = Ls.take j ++ g :: Ls.drop (j + 1) := by
    rw [List.getElem?_eq_getElem hj] at hg
    rw [← Option.some.inj hg, ← List.drop_eq_getElem_cons hj, List.take_append_drop]
  have hA : (Ls.take j).length = j := by rw [List.length_take]; omega
  rw [e]
  unfold Dk.get dkT
  simp only
  rw [filesFrom_append, hA, lget_end (filesFrom_lt 1 _ _ (by omega) (by omega))]
  simp [filesFrom, lget]
theorem dkT_names {Ls : List (List Rec)} (h : GoodL Ls) : (dkT Ls).names = (nameFrom 1 Ls).map segN := by
  unfold Dk.names
  rw [if_neg (by rw [(dkT_calm h).e]; decide)]
  show (dkT Ls).nameL ((filesFrom 1 Ls).map (·.1)) = _
  rw [nameFrom_files]
  unfold Dk.nameL
  refine List.filter_eq_self.2 fun n hn => ?_
  obtain ⟨k, hk, rfl⟩ := List.mem_map.1 hn
  obtain ⟨j, hj, e⟩ := List.mem_iff_getElem.1 hk
  rw [nameFrom_length] at hj
  have h2 := nameFrom_get 1 Ls j hj
  rw [List.getElem?_eq_getElem (by rw [nameFrom_length]; exact hj), e] at h2
  rw [Option.some.inj h2, dkT_at h.len (List.getElem?_eq_getElem hj)]
  rfl
def layAdd (Ls : List (List Rec)) (x : Rec) : List (List Rec) := match Ls.getLast? with
  | none => [[x]]
  | some g => if sizeG g + (rbs x).size ≤ 2000 then Ls.dropLast ++ [g ++ [x]] else Ls ++ [[x]]
theorem layAdd_nil (x : Rec) : layAdd [] x = [[x]] := rfl
theorem layAdd_snoc (A : List (List Rec)) (g : List Rec) (x : Rec) : layAdd (A ++ [g]) x = if sizeG g + (rbs x).size ≤ 2000 then A ++ [g ++ [x]] else A ++ [g] ++ [[x]] := by
  unfold layAdd; rw [List.getLast?_concat, List.dropLast_concat]
theorem snoc_of (Ls : List (List Rec)) : Ls = [] ∨ ∃ A g, Ls = A ++ [g] := by
  rcases List.eq_nil_or_concat Ls with h | ⟨A, g, h⟩
  · exact .inl h
  · exact .inr ⟨A, g, by rw [h, List.concat_eq_append]⟩
theorem layAdd_flat (Ls : List (List Rec)) (x : Rec) : (layAdd Ls x).flatten = Ls.flatten ++ [x] := by
  rcases snoc_of Ls with rfl | ⟨A, g, rfl⟩
  · rfl
  · rw [layAdd_snoc]; split <;> simp
theorem GoodL.add {Ls : List (List Rec)} (h : GoodL Ls) {x : Rec} (hl : Ls.length ≤ 14) (ht : Go.Proofs.YtapodcmjggmgmaaGreatDoor.tot Ls + (rbs x).size ≤ 20000) (hx : x.2.size ≤ 500 ∧ x.1 < 18446744073709551616) (hi : ∀ y ∈ Ls.flatten, y.1 < x.1) : GoodL (layAdd Ls x) ∧ (layAdd Ls x).length ≤ Ls.length + 1 ∧ Go.Proofs.YtapodcmjggmgmaaGreatDoor.tot (layAdd Ls x) = Go.Proofs.YtapodcmjggmgmaaGreatDoor.tot Ls + (rbs x).size := by
  have h2 : (layAdd Ls x).length ≤ Ls.length + 1 ∧ Go.Proofs.YtapodcmjggmgmaaGreatDoor.tot (layAdd Ls x) = Go.Proofs.YtapodcmjggmgmaaGreatDoor.tot Ls + (rbs x).size ∧ ∀ g ∈ layAdd Ls x, g ≠ [] := by
    rcases snoc_of Ls with rfl | ⟨A, g, rfl⟩
    · refine ⟨by simp [layAdd_nil], by simp [layAdd_nil, Go.Proofs.YtapodcmjggmgmaaGreatDoor.tot, gB_size, sizeG], fun g hg => ?_⟩
      rw [layAdd_nil, List.mem_singleton] at hg
      rw [hg]; simp
    · have hne := h.ne
      rw [layAdd_snoc]
      split
      · refine ⟨by simp, by rw [tot_snoc, tot_snoc, gB_snoc, ByteArray.size_append]; omega, fun g' hg => ?_⟩
        rcases List.mem_append.1 hg with q | q
        · exact hne g' (List.mem_append_left _ q)
        · rw [List.mem_singleton.1 q]; simp
      · refine ⟨by simp, by rw [tot_snoc (A ++ [g])]; simp [gB_size, sizeG], fun g' hg => ?_⟩
        rcases List.mem_append.1 hg with q | q
        · exact hne g' q
        · rw [List.mem_singleton.1 q]; simp
  obtain ⟨h3, h4, h5⟩ := h2
  refine ⟨⟨by omega, by omega, ?_, fun y hy => ?_, h5⟩, h3, h4⟩
  · rw [layAdd_flat]
    refine List.pairwise_append.2 ⟨h.ids, List.pairwise_singleton _ _, fun y hy z hz => ?_⟩
    rw [List.mem_singleton.1 hz]; exact hi y hy
  · rw [layAdd_flat] at hy
    rcases List.mem_append.1 hy with q | q
    · exact h.small y q
    · rw [List.mem_singleton.1 q]; exact hx
theorem GoodL.nil : GoodL [] where
  len := by decide
  tot := by decide
  ids := List.Pairwise.nil
  small x hx := absurd hx List.not_mem_nil
  ne g hg := absurd hg List.not_mem_nil
end Go.Proofs.YtapodcmjggmgmaaGreatDoor
