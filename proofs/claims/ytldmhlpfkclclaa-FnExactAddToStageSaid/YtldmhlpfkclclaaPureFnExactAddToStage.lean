/- What the row of FnExactAddToStage leans on: for every slice of paths and every slice of ints (that fit into memory) the law answers true; no condition. -/
import Derived.Test.YtldmhlpfkclclaaQFnExactAddToStagex13
set_option linter.unusedVariables false
set_option linter.unusedSimpArgs false
namespace Go.Proofs.Ytldmhlpfkclclaa.Pure
open Go.RowKit Go.Proofs.Ytldmhlpfkclclaa.PFnExactAddToStage Go.Proofs.YtldmhlpfkclclaaW.PrintWords Go.Proofs.YtldmhlpfkclclaaW.PrintLast

theorem wsucc {i n : Nat} (h : i < n) (hn : n ≤ 9223372036854775807) : wrap64 ((i : Int) + 1) = ((i + 1 : Nat) : Int) := by unfold wrap64; omega
theorem rd_nat (xs : List Int) (i : Nat) : rd xs (i : Int) = xs.getD i 0 := by unfold rd; rw [Int.toNat_natCast]
theorem rd_get (xs : List Int) (i : Nat) (h : i < xs.length) : rd xs (i : Int) = xs[i] := by
  rw [rd_nat, List.getD_eq_getElem?_getD, List.getElem?_eq_getElem h]; rfl
theorem drop_cons {α : Type} (xs : List α) (i : Nat) (h : i < xs.length) : xs.drop i = xs[i] :: xs.drop (i + 1) := (List.drop_eq_getElem_cons h)
theorem set_take {α : Type} (ys : List α) (i : Nat) (v : α) (h : i < ys.length) : (ys.set i v).take (i + 1) = ys.take i ++ [v] := by
  rw [List.take_succ_eq_append_getElem (by simpa using h)]
  rw [List.take_set, List.set_eq_of_length_le (by simp; omega)]
  simp

/-- The law's path as the program's. -/
def cvP (x : S69) : S50 := ⟨x.f0, x.f1, x.f2, x.f3⟩
theorem rdL_get (xs : List S69) (i : Nat) (h : i < xs.length) : rd_T69 xs (i : Int) = xs[i] := by
  unfold rd_T69; rw [Int.toNat_natCast, List.getD_eq_getElem?_getD, List.getElem?_eq_getElem h]; rfl
theorem rdI_get (xs : List S50) (i : Nat) (h : i < xs.length) : rd_T50 xs (i : Int) = xs[i] := by
  unfold rd_T50; rw [Int.toNat_natCast, List.getD_eq_getElem?_getD, List.getElem?_eq_getElem h]; rfl
theorem toPathS_go (xs : List S69) (hn : xs.length ≤ 9223372036854775807) : ∀ (d k : Nat) (ys : List S50) (i : Nat), ys.length = xs.length → i + d = xs.length → d < k →
    laws_toPathS.l0 k xs ys (i : Int) = some (ys.take i ++ (xs.drop i).map cvP) := by
  intro d
  induction d with
  | zero =>
    intro k ys i hl hi hk
    obtain ⟨k, rfl⟩ : ∃ m, k = m + 1 := ⟨k - 1, by omega⟩
    simp only [laws_toPathS.l0]
    rw [if_neg (by omega), List.take_of_length_le (by omega), List.drop_of_length_le (by omega)]; simp
  | succ d ih =>
    intro k ys i hl hi hk
    obtain ⟨k, rfl⟩ : ∃ m, k = m + 1 := ⟨k - 1, by omega⟩
    simp only [laws_toPathS.l0, laws_toPath.f]
    rw [if_pos (by omega), if_pos (by omega), Option.bind_some, if_pos (by omega), wsucc (show i < xs.length by omega) hn, ih k _ (i + 1) (by simpa using hl) (by omega) (by omega), Int.toNat_natCast, set_take _ _ _ (by omega), rdL_get _ _ (by omega), List.append_assoc, drop_cons xs i (by omega)]
    rfl
theorem toPathS_eq (k : Nat) (l : List S69) (hk : l.length < k) (hn : l.length ≤ 8796093022208) : laws_toPathS.f k l = some (l.map cvP) := by
  unfold laws_toPathS.f
  rw [if_pos (by omega), if_pos (by omega)]
  have := toPathS_go l (by omega) l.length k (List.replicate ((l.length : Int)).toNat z50) 0 (by simp) (by omega) (by omega)
  rw [Int.natCast_zero] at this
  rw [this]; simp
theorem szPathS_eq (l : List S69) (hn : l.length ≤ 8796093022208) : laws_szPathS.f l 1048576 = some (if l.length ≤ 1048576 then 1048576 - (l.length : Int) else -1) := by
  unfold laws_szPathS.f
  have w : wrap64 (1048576 - (l.length : Int)) = 1048576 - l.length := by unfold wrap64; omega
  rw [w]
  by_cases h : l.length ≤ 1048576
  · rw [if_neg (by omega), if_pos h]
  · rw [if_pos (by omega), if_neg h]
theorem eqPath_self (a b c d : Int) : laws_eqPath.f a b c d a b c d = some true := by unfold laws_eqPath.f; simp
theorem eqPathS_go (xs : List S50) (hn : xs.length ≤ 9223372036854775807) : ∀ (d k : Nat) (i : Nat), i + d = xs.length → d < k → laws_eqPathS.l0 k xs xs (i : Int) = some true := by
  intro d
  induction d with
  | zero =>
    intro k i hi hk
    obtain ⟨k, rfl⟩ : ∃ m, k = m + 1 := ⟨k - 1, by omega⟩
    simp only [laws_eqPathS.l0]
    rw [if_neg (by omega)]
  | succ d ih =>
    intro k i hi hk
    obtain ⟨k, rfl⟩ : ∃ m, k = m + 1 := ⟨k - 1, by omega⟩
    simp only [laws_eqPathS.l0]
    rw [if_pos (by omega), if_pos (by omega), if_pos (by omega), eqPath_self, Option.bind_some, if_pos rfl, wsucc (show i < xs.length by omega) hn, ih k (i + 1) (by omega) (by omega)]
theorem eqPathS_self (k : Nat) (l : List S50) (hk : l.length < k) (hn : l.length ≤ 9223372036854775807) : laws_eqPathS.f k l l = some true := by
  unfold laws_eqPathS.f
  rw [if_pos rfl]
  have := eqPathS_go l hn l.length k 0 (by omega) hk
  rw [Int.natCast_zero] at this
  exact this

theorem in1 (a b c : Int) : spec_l1In.f a b c = some (decide (b ≤ a ∧ a ≤ c)) := by
  unfold spec_l1In.f
  by_cases h : a ≥ b
  · rw [if_pos h]; congr 1; simp only [decide_eq_decide]; omega
  · rw [if_neg h]; congr 1; symm; simp only [decide_eq_false_iff_not]; omega

theorem inr (a b c : Int) : impl_InRange.f a b c = some (decide (b ≤ a ∧ a ≤ c)) := by
  unfold impl_InRange.f
  by_cases h : b ≤ a
  · rw [if_pos h]; congr 1; simp only [decide_eq_decide]; omega
  · rw [if_neg h]; congr 1; symm; simp only [decide_eq_false_iff_not]; omega

def isPathV (a b c d : Int) : Bool := decide (1 ≤ a ∧ a ≤ 20) && (decide (1 ≤ b ∧ b ≤ 3) && (decide (0 ≤ c ∧ c ≤ 3) && (decide (0 ≤ d ∧ d ≤ 3) && ((c == d) == (b == 2)))))
theorem sIsPath (a b c d : Int) : spec_IsPath.f a b c d = some (isPathV a b c d) := by
  unfold spec_IsPath.f isPathV
  simp only [in1, Option.bind_some]
  generalize decide (1 ≤ a ∧ a ≤ 20) = p1
  generalize decide (1 ≤ b ∧ b ≤ 3) = p2
  generalize decide (0 ≤ c ∧ c ≤ 3) = p3
  generalize decide (0 ≤ d ∧ d ≤ 3) = p4
  cases p1 <;> cases p2 <;> cases p3 <;> cases p4 <;> rfl
theorem iIsPath (a b c d : Int) : impl_IsPath.f a b c d = some (isPathV a b c d) := by
  unfold impl_IsPath.f isPathV
  simp only [inr, Option.bind_some]
  generalize decide (1 ≤ a ∧ a ≤ 20) = p1
  generalize decide (1 ≤ b ∧ b ≤ 3) = p2
  generalize decide (0 ≤ c ∧ c ≤ 3) = p3
  generalize decide (0 ≤ d ∧ d ≤ 3) = p4
  cases p1 <;> cases p2 <;> cases p3 <;> cases p4 <;> rfl
theorem isPathV_iff (a b c d : Int) : isPathV a b c d = true ↔ (1 ≤ a ∧ a ≤ 20) ∧ (1 ≤ b ∧ b ≤ 3) ∧ (0 ≤ c ∧ c ≤ 3) ∧ (0 ≤ d ∧ d ≤ 3) ∧ (c = d ↔ b = 2) := by
  unfold isPathV
  simp only [Bool.and_eq_true, decide_eq_true_eq, beq_iff_eq]
  have : ((c == d) = (b == 2)) ↔ (c = d ↔ b = 2) := by
    rw [Bool.eq_iff_iff]; simp only [beq_iff_eq]
  rw [this]

def pathV (p : S50) : Bool := isPathV p.f0 p.f1 p.f2 p.f3
/-- The path at i is one, and above the one before it. -/
def okAt (l : List S50) (i : Nat) : Bool := pathV (l.getD i z50) && (decide (i = 0) || decide ((l.getD (i - 1) z50).f0 < (l.getD i z50).f0))
def arFrom (l : List S50) : Nat → Nat → Bool | 0, _ => true | d + 1, i => okAt l i && arFrom l d (i + 1)
def areV (l : List S50) : Bool := decide (l.length ≤ 12) && arFrom l l.length 0
theorem getDI (xs : List S50) (i : Nat) (h : i < xs.length) : xs.getD i z50 = xs[i] := by
  rw [List.getD_eq_getElem?_getD, List.getElem?_eq_getElem h]; rfl
theorem wpred {i : Nat} (h : 0 < i) (hi : i ≤ 9223372036854775807) : wrap64 ((i : Int) - 1) = ((i - 1 : Nat) : Int) := by unfold wrap64; omega
theorem sAre_go (l : List S50) (hn : l.length ≤ 9223372036854775807) : ∀ (d k : Nat) (i : Nat), i + d = l.length → d < k → spec_ArePaths.l0 k l (i : Int) = some (decide (l.length ≤ 12) && arFrom l d i) := by
  intro d
  induction d with
  | zero =>
    intro k i hi hk
    obtain ⟨k, rfl⟩ : ∃ m, k = m + 1 := ⟨k - 1, by omega⟩
    simp only [spec_ArePaths.l0, arFrom]
    rw [if_neg (by omega), Bool.and_true]; congr 1; rw [decide_eq_decide]; omega
  | succ d ih =>
    intro k i hi hk
    obtain ⟨k, rfl⟩ : ∃ m, k = m + 1 := ⟨k - 1, by omega⟩
    simp only [spec_ArePaths.l0, arFrom, okAt]
    rw [if_pos (by omega), if_pos (by omega), sIsPath, Option.bind_some, rdI_get _ _ (by omega), wsucc (show i < l.length by omega) hn, ih k (i + 1) (by omega) (by omega), getDI l i (by omega)]
    have hpv : isPathV (l[i]).f0 (l[i]).f1 (l[i]).f2 (l[i]).f3 = pathV l[i] := rfl
    rw [hpv]
    cases hp : pathV l[i] with
    | false => rw [if_neg (by decide), Bool.false_and, Bool.false_and, Bool.and_false]
    | true =>
      rw [if_pos rfl]
      by_cases h0 : i = 0
      · subst h0
        rw [if_neg (by omega)]; simp
      · rw [if_pos (by omega), wpred (by omega) (by omega), if_pos (by omega), if_pos (by omega), rdI_get _ _ (by omega), getDI l (i - 1) (by omega), decide_eq_false h0, Bool.false_or, Bool.true_and]
        by_cases hc : (l[i - 1]).f0 < (l[i]).f0
        · rw [if_neg (by omega), decide_eq_true hc, Bool.true_and]
        · rw [if_pos (by omega), decide_eq_false hc, Bool.false_and, Bool.and_false]
theorem sAre_eq (k : Nat) (l : List S50) (hk : l.length < k) (hn : l.length ≤ 9223372036854775807) : spec_ArePaths.f k l = some (areV l) := by
  unfold spec_ArePaths.f areV
  have := sAre_go l hn l.length k 0 (by omega) hk
  rw [Int.natCast_zero] at this
  exact this
theorem iAre_go (l : List S50) (hn : l.length ≤ 9223372036854775807) : ∀ (d k : Nat) (i : Nat), i + d = l.length → d < k → impl_ArePaths.l0 k l l (l.length : Int) (i : Int) = some (arFrom l d i) := by
  intro d
  induction d with
  | zero =>
    intro k i hi hk
    obtain ⟨k, rfl⟩ : ∃ m, k = m + 1 := ⟨k - 1, by omega⟩
    simp only [impl_ArePaths.l0, arFrom]
    rw [if_neg (by omega)]
  | succ d ih =>
    intro k i hi hk
    obtain ⟨k, rfl⟩ : ∃ m, k = m + 1 := ⟨k - 1, by omega⟩
    simp only [impl_ArePaths.l0, arFrom, okAt]
    rw [if_pos (by omega), if_pos (by omega), if_pos (by omega), iIsPath, Option.bind_some, rdI_get _ _ (by omega), wsucc (show i < l.length by omega) hn, ih k (i + 1) (by omega) (by omega), getDI l i (by omega)]
    have hpv : isPathV (l[i]).f0 (l[i]).f1 (l[i]).f2 (l[i]).f3 = pathV l[i] := rfl
    rw [hpv]
    cases hp : pathV l[i] with
    | false => rw [if_neg (by decide), Bool.false_and, Bool.false_and]
    | true =>
      rw [if_pos rfl]
      by_cases h0 : i = 0
      · subst h0
        rw [if_neg (by omega)]; simp
      · rw [if_pos (by omega), wpred (by omega) (by omega), if_pos (by omega), if_pos (by omega), rdI_get _ _ (by omega), getDI l (i - 1) (by omega), decide_eq_false h0, Bool.false_or, Bool.true_and]
        by_cases hc : (l[i - 1]).f0 < (l[i]).f0
        · rw [if_neg (by omega), decide_eq_true hc, Bool.true_and]
        · rw [if_pos (by omega), decide_eq_false hc, Bool.false_and]
theorem iAre_eq (k : Nat) (l : List S50) (hk : l.length < k) (hn : l.length ≤ 9223372036854775807) : impl_ArePaths.f k l = some (areV l) := by
  unfold impl_ArePaths.f areV
  have := iAre_go l hn l.length k 0 (by omega) hk
  rw [Int.natCast_zero] at this
  by_cases h : l.length ≤ 12
  · rw [if_neg (by omega), decide_eq_true h, Bool.true_and]; exact this
  · rw [if_pos (by omega), decide_eq_false h, Bool.false_and]
theorem arFrom_iff (l : List S50) : ∀ d i, arFrom l d i = true ↔ ∀ j, i ≤ j → j < i + d → okAt l j = true := by
  intro d
  induction d with
  | zero => intro i; simp only [arFrom, true_iff]; intro j h1 h2; omega
  | succ d ih =>
    intro i
    simp only [arFrom, Bool.and_eq_true, ih]
    constructor
    · rintro ⟨h1, h2⟩ j h3 h4
      rcases Nat.eq_or_lt_of_le h3 with rfl | h5
      · exact h1
      · exact h2 j h5 (by omega)
    · intro h; exact ⟨h i (Nat.le_refl _) (by omega), fun j h3 h4 => h j (by omega) (by omega)⟩

/-- The four numbers are different, from 0 to 7. -/
def ILv (a b c d : Int) : Prop := (0 ≤ a ∧ a ≤ 7) ∧ (0 ≤ b ∧ b ≤ 7) ∧ (0 ≤ c ∧ c ≤ 7) ∧ (0 ≤ d ∧ d ≤ 7) ∧ a ≠ b ∧ a ≠ c ∧ a ≠ d ∧ b ≠ c ∧ b ≠ d ∧ c ≠ d
theorem il_rd (a b c d : Int) : rd [a, b, c, d] 0 = a ∧ rd [a, b, c, d] 1 = b ∧ rd [a, b, c, d] 2 = c ∧ rd [a, b, c, d] 3 = d := ⟨rfl, rfl, rfl, rfl⟩
theorem il_w (i : Int) (h0 : 0 ≤ i) (h1 : i < 4) : wrap64 (i + 1) = i + 1 := by unfold wrap64; omega
theorem il_S (k : Nat) (a b c d : Int) (l : List Int) (i : Int) (h1 : i < 4) : spec_Interleave.l0 (k + 1) a b c d l i = spec_Interleave.l1 k a b c d l i 0 := by
  simp only [spec_Interleave.l0]; rw [if_pos h1]
theorem il_T (k : Nat) (a b c d : Int) (l : List Int) (hl : l.length = 4) (i j : Int) (h0 : 0 ≤ j) (h1 : j < i) (h2 : i < 4) :
    spec_Interleave.l1 (k + 1) a b c d l i j = if rd l i = rd l j then some false else spec_Interleave.l1 k a b c d l i (j + 1) := by
  simp only [spec_Interleave.l1]; rw [if_pos h1, if_pos (by omega), if_pos (by omega), if_pos h0, if_pos (by omega), il_w j h0 (by omega)]
theorem il_E (k : Nat) (a b c d : Int) (l : List Int) (hl : l.length = 4) (i : Int) (h0 : 0 ≤ i) (h2 : i < 4) :
    spec_Interleave.l1 (k + 1) a b c d l i i = if 0 ≤ rd l i ∧ rd l i ≤ 7 then spec_Interleave.l0 k a b c d l (i + 1) else some false := by
  simp only [spec_Interleave.l1]; rw [if_neg (by omega), if_pos (by omega), if_pos (by omega), in1]
  simp only [Option.bind_some, decide_eq_true_eq, il_w i h0 h2]
theorem il_spec_no (a b c d : Int) (h : ¬ ILv a b c d) : spec_Interleave.f 40 a b c d = some false := by
  obtain ⟨r0, r1, r2, r3⟩ := il_rd a b c d
  have hl : [a, b, c, d].length = 4 := rfl
  unfold spec_Interleave.f
  rw [il_S _ _ _ _ _ _ _ (by omega), il_E _ _ _ _ _ _ hl _ (by omega) (by omega), r0]
  split
  · rw [il_S _ _ _ _ _ _ _ (by omega), il_T _ _ _ _ _ _ hl _ _ (by omega) (by omega) (by omega), Int.zero_add, r0, r1]
    split
    · rfl
    · rw [il_E _ _ _ _ _ _ hl _ (by omega) (by omega), r1]
      split
      · rw [il_S _ _ _ _ _ _ _ (by omega), show (1 : Int) + 1 = 2 from rfl, il_T _ _ _ _ _ _ hl _ _ (by omega) (by omega) (by omega), Int.zero_add, r0, r2]
        split
        · rfl
        · rw [il_T _ _ _ _ _ _ hl _ _ (by omega) (by omega) (by omega), show (1 : Int) + 1 = 2 from rfl, r1, r2]
          split
          · rfl
          · rw [il_E _ _ _ _ _ _ hl _ (by omega) (by omega), r2]
            split
            · rw [il_S _ _ _ _ _ _ _ (by omega), show (2 : Int) + 1 = 3 from rfl, il_T _ _ _ _ _ _ hl _ _ (by omega) (by omega) (by omega), Int.zero_add, r0, r3]
              split
              · rfl
              · rw [il_T _ _ _ _ _ _ hl _ _ (by omega) (by omega) (by omega), show (1 : Int) + 1 = 2 from rfl, r1, r3]
                split
                · rfl
                · rw [il_T _ _ _ _ _ _ hl _ _ (by omega) (by omega) (by omega), show (2 : Int) + 1 = 3 from rfl, r2, r3]
                  split
                  · rfl
                  · rw [il_E _ _ _ _ _ _ hl _ (by omega) (by omega), r3]
                    split
                    · exfalso; apply h; unfold ILv; omega
                    · rfl
            · rfl
      · rfl
  · rfl
theorem il_R (k : Nat) (a b c d : Int) (l : List Int) (hl : l.length = 4) (n : Int) (i : Int) (h0 : 0 ≤ i) (h1 : i < n) (h2 : i < 4) :
    impl_Interleave.l0 (k + 1) a b c d l n i = if 0 ≤ rd l i ∧ rd l i ≤ 7 then impl_Interleave.l0 k a b c d l n (i + 1) else some false := by
  simp only [impl_Interleave.l0]; rw [if_pos h1, if_pos h0, if_pos (by omega), inr]
  simp only [Option.bind_some, decide_eq_true_eq, il_w i h0 h2]
theorem il_Rend (k : Nat) (a b c d : Int) (l : List Int) (n : Int) (i : Int) (h1 : ¬ i < n) (h : ¬ (a ≠ b ∧ a ≠ c ∧ a ≠ d ∧ b ≠ c ∧ b ≠ d ∧ c ≠ d)) :
    impl_Interleave.l0 (k + 1) a b c d l n i = some false := by
  simp only [impl_Interleave.l0]; rw [if_neg h1]
  repeat' split
  all_goals first | rfl | (exfalso; apply h; omega)
theorem il_impl_no (a b c d : Int) (h : ¬ ILv a b c d) : impl_Interleave.f 40 a b c d = some false := by
  obtain ⟨r0, r1, r2, r3⟩ := il_rd a b c d
  have hl : [a, b, c, d].length = 4 := rfl
  unfold impl_Interleave.f
  rw [Option.bind_some, hl]
  rw [il_R _ _ _ _ _ _ hl _ _ (by omega) (by omega) (by omega), Int.zero_add, r0]
  split
  · rw [il_R _ _ _ _ _ _ hl _ _ (by omega) (by omega) (by omega), show (1 : Int) + 1 = 2 from rfl, r1]
    split
    · rw [il_R _ _ _ _ _ _ hl _ _ (by omega) (by omega) (by omega), show (2 : Int) + 1 = 3 from rfl, r2]
      split
      · rw [il_R _ _ _ _ _ _ hl _ _ (by omega) (by omega) (by omega), show (3 : Int) + 1 = 4 from rfl, r3]
        split
        · exact il_Rend _ a b c d _ _ _ (by omega) (fun h' => h (by unfold ILv; omega))
        · rfl
      · rfl
    · rfl
  · rfl
/-- What both answer, of numbers from 0 to 7: by running both over all of them. -/
def ilW (a b c d : Int) : Bool := decide ((c - a + 8) % 8 < (b - a + 8) % 8) != decide ((d - a + 8) % 8 < (b - a + 8) % 8)
def ilBoth (a b c d : Fin 8) : Bool :=
  if a ≠ b ∧ a ≠ c ∧ a ≠ d ∧ b ≠ c ∧ b ≠ d ∧ c ≠ d then
    (spec_Interleave.f 40 (a.val : Int) (b.val : Int) (c.val : Int) (d.val : Int) == some (ilW (a.val : Int) (b.val : Int) (c.val : Int) (d.val : Int))) && (impl_Interleave.f 40 (a.val : Int) (b.val : Int) (c.val : Int) (d.val : Int) == some (ilW (a.val : Int) (b.val : Int) (c.val : Int) (d.val : Int)))
  else true
theorem ilBoth_all : ∀ a b c d : Fin 8, ilBoth a b c d = true := by decide +kernel
theorem il_yes (a b c d : Int) (h : ILv a b c d) : spec_Interleave.f 40 a b c d = some (ilW a b c d) ∧ impl_Interleave.f 40 a b c d = some (ilW a b c d) := by
  obtain ⟨⟨a0, a1⟩, ⟨b0, b1⟩, ⟨c0, c1⟩, ⟨d0, d1⟩, h1, h2, h3, h4, h5, h6⟩ := h
  obtain ⟨a, rfl⟩ := Int.eq_ofNat_of_zero_le a0
  obtain ⟨b, rfl⟩ := Int.eq_ofNat_of_zero_le b0
  obtain ⟨c, rfl⟩ := Int.eq_ofNat_of_zero_le c0
  obtain ⟨d, rfl⟩ := Int.eq_ofNat_of_zero_le d0
  have := ilBoth_all ⟨a, by omega⟩ ⟨b, by omega⟩ ⟨c, by omega⟩ ⟨d, by omega⟩
  unfold ilBoth at this
  rw [if_pos (by simp only [ne_eq, Fin.mk.injEq]; omega), Bool.and_eq_true] at this
  exact ⟨eq_of_beq this.1, eq_of_beq this.2⟩
/-- What both come to, whatever the numbers. -/
instance (a b c d : Int) : Decidable (ILv a b c d) := by unfold ILv; infer_instance
def ilV (a b c d : Int) : Bool := decide (ILv a b c d) && ilW a b c d
theorem sIl_eq (k : Nat) (a b c d : Int) (hk : 40 ≤ k) : spec_Interleave.f k a b c d = some (ilV a b c d) := by
  refine at_rounds (fun k => spec_Interleave.mono a b c d k) hk ?_
  unfold ilV
  by_cases h : ILv a b c d
  · rw [(il_yes a b c d h).1, decide_eq_true h, Bool.true_and]
  · rw [il_spec_no a b c d h, decide_eq_false h, Bool.false_and]
theorem iIl_eq (k : Nat) (a b c d : Int) (hk : 40 ≤ k) : impl_Interleave.f k a b c d = some (ilV a b c d) := by
  refine at_rounds (fun k => impl_Interleave.mono a b c d k) hk ?_
  unfold ilV
  by_cases h : ILv a b c d
  · rw [(il_yes a b c d h).2, decide_eq_true h, Bool.true_and]
  · rw [il_impl_no a b c d h, decide_eq_false h, Bool.false_and]

theorem w64 {x : Int} (h0 : -9223372036854775808 ≤ x) (h1 : x ≤ 9223372036854775807) : wrap64 x = x := by
  unfold wrap64; omega

theorem sIn_eq (a : Int) (h0 : 0 ≤ a) (h1 : a ≤ 3) : spec_InPlace.f a = some (2 * a) := by
  unfold spec_InPlace.f
  rw [in1, Option.bind_some, if_pos (by simp; omega), w64 (by omega) (by omega)]
theorem sOut_eq (a : Int) (h0 : 0 ≤ a) (h1 : a ≤ 3) : spec_OutPlace.f a = some (2 * a + 1) := by
  unfold spec_OutPlace.f
  rw [in1, Option.bind_some, if_pos (by simp; omega), w64 (x := 2 * a) (by omega) (by omega), w64 (by omega) (by omega)]
theorem iIn_eq (a : Int) (h0 : 0 ≤ a) (h1 : a ≤ 3) : impl_InPlace.f a = some (2 * a) := by
  unfold impl_InPlace.f
  rw [inr, Option.bind_some, if_pos (by simp; omega), w64 (by omega) (by omega)]
theorem iOut_eq (a : Int) (h0 : 0 ≤ a) (h1 : a ≤ 3) : impl_OutPlace.f a = some (2 * a + 1) := by
  unfold impl_OutPlace.f
  rw [inr, Option.bind_some, if_pos (by simp; omega), w64 (x := 2 * a) (by omega) (by omega), w64 (by omega) (by omega)]

/-- Do paths of these kinds, from there to there, conflict? -/
def cfW (k f t k' f' t' : Int) : Bool :=
  if k = 2 then (if k' = 2 then false else (f' == f || t' == f)) else
  if k' = 2 then (f == f' || t == f') else
  if f = f' then false else if t = t' then true else ilV (2 * f) (2 * t + 1) (2 * f') (2 * t' + 1)
def cfV (a b c d a' b' c' d' : Int) : Bool := isPathV a b c d && (isPathV a' b' c' d' && cfW b c d b' c' d')
theorem il_same (a b d : Int) : ilV a b a d = false := by
  unfold ilV; rw [decide_eq_false (by unfold ILv; omega), Bool.false_and]
theorem sConf_eq (k : Nat) (a b c d a' b' c' d' : Int) (hk : 41 < k) : spec_Conflict.f k a b c d a' b' c' d' = some (cfV a b c d a' b' c' d') := by
  obtain ⟨k, rfl⟩ : ∃ m, k = m + 1 := ⟨k - 1, by omega⟩
  unfold spec_Conflict.f cfV cfW
  simp only [sIsPath, Option.bind_some, spec_Conflict.j0]
  cases h1 : isPathV a b c d with
  | false => simp
  | true =>
    cases h2 : isPathV a' b' c' d' with
    | false => simp
    | true =>
      obtain ⟨_, _, hc, hd, _⟩ := (isPathV_iff a b c d).1 h1
      obtain ⟨_, _, hc', hd', _⟩ := (isPathV_iff a' b' c' d').1 h2
      simp only [if_true, Bool.true_and, Bool.false_eq_true, if_false]
      by_cases hb : b = 2
      · rw [if_pos hb, if_pos hb]
        by_cases hb' : b' = 2
        · rw [if_pos hb', if_pos (by rw [hb']; rfl), if_pos hb]
        · rw [if_neg (by rw [beq_iff_eq]; exact hb'), if_pos hb, if_neg hb']
          by_cases h : c' = c
          · rw [if_pos h, h]; simp
          · rw [if_neg h]; simp [h]
      · rw [if_neg hb, if_neg hb, if_neg hb]
        by_cases hb' : b' = 2
        · rw [if_pos hb', if_pos hb']
          by_cases h : c = c'
          · rw [if_pos h, h]; simp
          · rw [if_neg h]; simp [h]
        · rw [if_neg hb', if_neg hb']
          by_cases h : c = c'
          · rw [if_pos h, if_pos h]
          · rw [if_neg h, if_neg h]
            by_cases h' : d = d'
            · rw [if_pos h', if_pos h']
            · rw [if_neg h', if_neg h', sIn_eq c hc.1 hc.2, sOut_eq d hd.1 hd.2, sIn_eq c' hc'.1 hc'.2, sOut_eq d' hd'.1 hd'.2]
              simp only [Option.bind_some]
              rw [sIl_eq k _ _ _ _ (by omega)]; rfl
theorem iConf_eq (k : Nat) (a b c d a' b' c' d' : Int) (hk : 41 < k) : impl_Conflict.f k a b c d a' b' c' d' = some (cfV a b c d a' b' c' d') := by
  obtain ⟨k, rfl⟩ : ∃ m, k = m + 1 := ⟨k - 1, by omega⟩
  unfold impl_Conflict.f cfV cfW
  simp only [iIsPath, Option.bind_some, impl_Conflict.j0]
  cases h1 : isPathV a b c d with
  | false => simp
  | true =>
    cases h2 : isPathV a' b' c' d' with
    | false => simp
    | true =>
      obtain ⟨_, _, hc, hd, _⟩ := (isPathV_iff a b c d).1 h1
      obtain ⟨_, _, hc', hd', _⟩ := (isPathV_iff a' b' c' d').1 h2
      simp only [if_true, Bool.true_and, Bool.false_eq_true, if_false]
      by_cases hb : b = 2
      · rw [if_pos hb, if_pos hb]
        by_cases hb' : b' = 2
        · rw [if_pos hb', if_pos (by rw [hb']; rfl), if_pos hb]
        · rw [if_neg (by rw [beq_iff_eq]; exact hb'), if_pos hb, if_neg hb']
          by_cases h : c' = c
          · rw [if_pos h, h]; simp
          · rw [if_neg h]; simp [h]
      · rw [if_neg hb, if_neg hb, if_neg hb]
        by_cases hb' : b' = 2
        · rw [if_pos hb', if_pos hb']
          by_cases h : c = c'
          · rw [if_pos h, h]; simp
          · rw [if_neg h]; simp [h]
        · rw [if_neg hb', if_neg hb', iIn_eq c hc.1 hc.2, iOut_eq d hd.1 hd.2, iIn_eq c' hc'.1 hc'.2, iOut_eq d' hd'.1 hd'.2]
          simp only [Option.bind_some]
          rw [iIl_eq k _ _ _ _ (by omega)]
          simp only [Option.bind_some]
          by_cases h : c = c'
          · rw [if_pos h, if_pos h, h, il_same]
          · rw [if_neg h, if_neg h]
            split <;> rfl

/-- Do these two paths conflict? -/
def cfP (p q : S50) : Bool := cfV p.f0 p.f1 p.f2 p.f3 q.f0 q.f1 q.f2 q.f3
def cfAll (k f t k' f' t' : Fin 4) : Bool :=
  if 1 ≤ k.val ∧ 1 ≤ k'.val then cfW (k.val : Int) (f.val : Int) (t.val : Int) (k'.val : Int) (f'.val : Int) (t'.val : Int) == cfW (k'.val : Int) (f'.val : Int) (t'.val : Int) (k.val : Int) (f.val : Int) (t.val : Int) && !(cfW (k.val : Int) (f.val : Int) (t.val : Int) (k.val : Int) (f.val : Int) (t.val : Int)) else true
theorem cfAll_true : ∀ k f t k' f' t' : Fin 4, cfAll k f t k' f' t' = true := by decide +kernel
theorem cfW_sym (k f t k' f' t' : Int) (h : (1 ≤ k ∧ k ≤ 3) ∧ (0 ≤ f ∧ f ≤ 3) ∧ (0 ≤ t ∧ t ≤ 3)) (h' : (1 ≤ k' ∧ k' ≤ 3) ∧ (0 ≤ f' ∧ f' ≤ 3) ∧ (0 ≤ t' ∧ t' ≤ 3)) : cfW k f t k' f' t' = cfW k' f' t' k f t ∧ cfW k f t k f t = false := by
  obtain ⟨k, rfl⟩ := Int.eq_ofNat_of_zero_le (show 0 ≤ k by omega)
  obtain ⟨f, rfl⟩ := Int.eq_ofNat_of_zero_le (show 0 ≤ f by omega)
  obtain ⟨t, rfl⟩ := Int.eq_ofNat_of_zero_le (show 0 ≤ t by omega)
  obtain ⟨k', rfl⟩ := Int.eq_ofNat_of_zero_le (show 0 ≤ k' by omega)
  obtain ⟨f', rfl⟩ := Int.eq_ofNat_of_zero_le (show 0 ≤ f' by omega)
  obtain ⟨t', rfl⟩ := Int.eq_ofNat_of_zero_le (show 0 ≤ t' by omega)
  have := cfAll_true ⟨k, by omega⟩ ⟨f, by omega⟩ ⟨t, by omega⟩ ⟨k', by omega⟩ ⟨f', by omega⟩ ⟨t', by omega⟩
  unfold cfAll at this
  rw [if_pos ⟨by simp only; omega, by simp only; omega⟩, Bool.and_eq_true] at this
  exact ⟨eq_of_beq this.1, by simpa using this.2⟩
theorem cfV_sym (a b c d a' b' c' d' : Int) : cfV a b c d a' b' c' d' = cfV a' b' c' d' a b c d := by
  unfold cfV
  cases h : isPathV a b c d with
  | false => cases isPathV a' b' c' d' <;> rfl
  | true =>
    cases h' : isPathV a' b' c' d' with
    | false => rfl
    | true =>
      obtain ⟨_, hb, hc, hd, _⟩ := (isPathV_iff a b c d).1 h
      obtain ⟨_, hb', hc', hd', _⟩ := (isPathV_iff a' b' c' d').1 h'
      rw [Bool.true_and, Bool.true_and]
      exact (cfW_sym b c d b' c' d' ⟨hb, hc, hd⟩ ⟨hb', hc', hd'⟩).1
theorem cfP_sym (p q : S50) : cfP p q = cfP q p := cfV_sym ..
theorem cfP_irr (p : S50) : cfP p p = false := by
  unfold cfP cfV
  cases h : isPathV p.f0 p.f1 p.f2 p.f3 with
  | false => rfl
  | true =>
    obtain ⟨_, hb, hc, hd, _⟩ := (isPathV_iff _ _ _ _).1 h
    rw [Bool.true_and, Bool.true_and]
    exact (cfW_sym _ _ _ _ _ _ ⟨hb, hc, hd⟩ ⟨hb, hc, hd⟩).2

/-- The place of the first path with this number. -/
def findV (l : List S50) (x : Int) : Int := impl_FindPath.go l x 0
theorem go_bd (l : List S50) (x : Int) : ∀ i : Int, 0 ≤ i → (impl_FindPath.go l x i = -1 ∧ (∀ p ∈ l, p.f0 ≠ x)) ∨ (i ≤ impl_FindPath.go l x i ∧ impl_FindPath.go l x i < i + l.length ∧ (l.getD (impl_FindPath.go l x i - i).toNat z50).f0 = x) := by
  induction l with
  | nil => intro i _; left; exact ⟨rfl, by simp⟩
  | cons p r ih =>
    intro i hi
    simp only [impl_FindPath.go]
    by_cases h : p.f0 = x
    · rw [if_pos h]; right; refine ⟨by omega, by simp only [List.length_cons]; omega, ?_⟩; simp [h]
    · rw [if_neg h]
      rcases ih (i + 1) (by omega) with ⟨h1, h2⟩ | ⟨h1, h2, h3⟩
      · left; refine ⟨h1, ?_⟩
        intro q hq
        rcases List.mem_cons.1 hq with rfl | hq
        · exact h
        · exact h2 q hq
      · right
        refine ⟨by omega, by simp only [List.length_cons]; omega, ?_⟩
        have e : (impl_FindPath.go r x (i + 1) - i).toNat = (impl_FindPath.go r x (i + 1) - (i + 1)).toNat + 1 := by omega
        rw [e]; simpa using h3
theorem findV_bd (l : List S50) (x : Int) (h : 0 ≤ findV l x) : findV l x < l.length ∧ (l.getD (findV l x).toNat z50).f0 = x := by
  rcases go_bd l x 0 (by omega) with ⟨h1, _⟩ | ⟨_, h2, h3⟩
  · unfold findV at h; omega
  · unfold findV; refine ⟨by omega, ?_⟩; simpa using h3
theorem findV_neg (l : List S50) (x : Int) (h : ¬ 0 ≤ findV l x) : ∀ p ∈ l, p.f0 ≠ x := by
  rcases go_bd l x 0 (by omega) with ⟨_, h1⟩ | ⟨h1, _, _⟩
  · exact h1
  · exact absurd h1 h
/-- The path with this number. -/
def pOf (l : List S50) (x : Int) : S50 := l.getD (findV l x).toNat z50
theorem rd_find (l : List S50) (x : Int) (h : 0 ≤ findV l x) : rd_T50 l (findV l x) = pOf l x := rfl
theorem iCfq (k : Nat) (p q : S50) (hk : 41 < k) : impl_Conflict.f k p.f0 p.f1 p.f2 p.f3 q.f0 q.f1 q.f2 q.f3 = some (cfP p q) := iConf_eq k _ _ _ _ _ _ _ _ hk
theorem sCfq (k : Nat) (p q : S50) (hk : 41 < k) : spec_Conflict.f k p.f0 p.f1 p.f2 p.f3 q.f0 q.f1 q.f2 q.f3 = some (cfP p q) := sConf_eq k _ _ _ _ _ _ _ _ hk

/-- Does p conflict with none of the e numbers from j on? -/
def frFrom (l : List S50) (p : S50) (ids : List Int) : Nat → Nat → Bool | 0, _ => true | e + 1, j => !cfP p (pOf l (ids.getD j 0)) && frFrom l p ids e (j + 1)
def tgAt (l : List S50) (ids : List Int) (i : Nat) : Bool := decide (0 ≤ findV l (ids.getD i 0)) && ((decide (i = 0) || decide (ids.getD (i - 1) 0 < ids.getD i 0)) && frFrom l (pOf l (ids.getD i 0)) ids i 0)
def tgFrom (l : List S50) (ids : List Int) : Nat → Nat → Bool | 0, _ => true | d + 1, i => tgAt l ids i && tgFrom l ids d (i + 1)
def togV (l : List S50) (ids : List Int) : Bool := areV l && tgFrom l ids ids.length 0
theorem iTog_go (l : List S50) (ids : List Int) (hl : l.length ≤ 12) (hn : ids.length ≤ 1099511627776) : ∀ (d k i : Nat), i + d = ids.length → d * (ids.length + 4) + l.length + 60 < k → (∀ j, j < i → 0 ≤ findV l (ids.getD j 0)) →
    impl_IsTogether.l0 k l ids ids (ids.length : Int) (i : Int) = some (tgFrom l ids d i) := by
  intro d
  induction d with
  | zero =>
    intro k i hi hk hf
    obtain ⟨k, rfl⟩ : ∃ m, k = m + 1 := ⟨k - 1, by omega⟩
    simp only [impl_IsTogether.l0, tgFrom]
    rw [if_neg (by omega)]
  | succ d ih =>
    intro k i hi hk hf
    rw [Nat.succ_mul] at hk
    obtain ⟨k, rfl⟩ : ∃ m, k = m + 1 + 1 := ⟨k - 2, by omega⟩
    have hg : rd ids (i : Int) = ids.getD i 0 := rd_nat _ _
    have inner : ∀ (e k j : Nat), j + e = i → e + d * (ids.length + 4) + l.length + 61 < k → 0 ≤ findV l (ids.getD i 0) →
        impl_IsTogether.l1 k l ids (findV l (ids.getD i 0)) ids (ids.length : Int) (i : Int) (ids.take i) (i : Int) (j : Int) = some (frFrom l (pOf l (ids.getD i 0)) ids e j && tgFrom l ids d (i + 1)) := by
      intro e
      induction e with
      | zero =>
        intro k j hj hk hfi
        obtain ⟨k, rfl⟩ : ∃ m, k = m + 1 := ⟨k - 1, by omega⟩
        simp only [impl_IsTogether.l1, frFrom]
        rw [if_neg (by omega), Bool.true_and, wsucc (show i < ids.length by omega) (by omega)]
        refine ih k (i + 1) (by omega) (by omega) (fun j hj => ?_)
        rcases Nat.lt_succ_iff_lt_or_eq.1 hj with h | rfl
        · exact hf j h
        · exact hfi
      | succ e ihe =>
        intro k j hj hk hfi
        obtain ⟨k, rfl⟩ : ∃ m, k = m + 1 := ⟨k - 1, by omega⟩
        have hlt : (ids.take i).length = i := by rw [List.length_take]; omega
        obtain ⟨fi, _⟩ := findV_bd l _ hfi
        obtain ⟨fj, _⟩ := findV_bd l _ (hf j (by omega))
        simp only [impl_IsTogether.l1, frFrom, impl_FindPath.f]
        have hr : rd (ids.take i) (j : Int) = ids.getD j 0 := by
          rw [rd_nat, List.getD_eq_getElem?_getD, List.getD_eq_getElem?_getD, List.getElem?_take, if_pos (by omega)]
        rw [if_pos (by omega), if_pos (by omega), if_pos (by omega), if_pos hfi, if_pos fi, Option.bind_some, hr]
        have hfj := hf j (by omega)
        have e1 : impl_FindPath.go l (ids.getD j 0) 0 = findV l (ids.getD j 0) := rfl
        rw [e1, if_pos hfj, if_pos fj, rd_find l _ hfi, rd_find l _ hfj, iCfq k _ _ (by omega), Option.bind_some, wsucc (show j < i by omega) (by omega)]
        cases hc : cfP (pOf l (ids.getD i 0)) (pOf l (ids.getD j 0)) with
        | true => rw [if_pos rfl]; rfl
        | false => rw [if_neg (by decide), ihe k (j + 1) (by omega) (by omega) hfi]; rfl
    simp only [impl_IsTogether.l0, impl_IsTogether.j1, tgFrom, tgAt, impl_FindPath.f]
    rw [if_pos (by omega), if_pos (by omega), if_pos (by omega), Option.bind_some, hg]
    have e1 : impl_FindPath.go l (ids.getD i 0) 0 = findV l (ids.getD i 0) := rfl
    have hti : (ids.take i).length = i := by rw [List.length_take]; omega
    rw [e1, Int.toNat_natCast, hti]
    by_cases hfi : 0 ≤ findV l (ids.getD i 0)
    · rw [if_neg (by omega), decide_eq_true hfi, Bool.true_and]
      have hin := inner i k 0 (by omega) (by omega) hfi
      rw [Int.natCast_zero] at hin
      by_cases h0 : i = 0
      · rw [if_neg (by omega), if_neg (by decide), if_pos (by omega), if_pos (by omega), hin, decide_eq_true h0, Bool.true_or, Bool.true_and]
      · rw [if_pos (by omega), wpred (by omega) (by omega), if_pos (by omega), if_pos (by omega), rd_nat, decide_eq_false h0, Bool.false_or]
        by_cases hc : ids.getD (i - 1) 0 < ids.getD i 0
        · rw [decide_eq_false (by omega), if_neg (by decide), if_pos (by omega), if_pos (by omega), hin, decide_eq_true hc, Bool.true_and]
        · rw [decide_eq_true (by omega), if_pos rfl, decide_eq_false hc]; rfl
    · rw [if_pos (by omega), decide_eq_false hfi]; simp
theorem iTog_eq (k : Nat) (l : List S50) (ids : List Int) (hk : ids.length * (ids.length + 4) + l.length + 60 < k) (hl : l.length ≤ 1099511627776) (hn : ids.length ≤ 1099511627776) : impl_IsTogether.f k l ids = some (togV l ids) := by
  unfold impl_IsTogether.f togV
  rw [iAre_eq k l (by omega) (by omega), Option.bind_some]
  by_cases ha : areV l = true
  · have h12 : l.length ≤ 12 := by unfold areV at ha; rw [Bool.and_eq_true, decide_eq_true_eq] at ha; exact ha.1
    have := iTog_go l ids h12 hn ids.length k 0 (by omega) hk (fun j hj => absurd hj (by omega))
    rw [Int.natCast_zero] at this
    rw [if_pos ha, ha, Bool.true_and]; exact this
  · rw [if_neg ha]; simp only [Bool.not_eq_true] at ha; rw [ha]; rfl

/-- The place before the first number that is not below x. -/
def posV (x : Int) : List Int → Nat | [] => 0 | y :: r => if y < x then posV x r + 1 else 0
def putAt (ids : List Int) (x : Int) (p : Nat) : List Int := if ids[p]? = some x then ids else ids.take p ++ x :: ids.drop p
def putV (ids : List Int) (x : Int) : List Int := putAt ids x (posV x ids)
theorem posV_le (x : Int) : ∀ ids : List Int, posV x ids ≤ ids.length
  | [] => Nat.le_refl _
  | y :: r => by
    have := posV_le x r
    simp only [posV, List.length_cons]
    split <;> omega
theorem putV_length (ids : List Int) (x : Int) : (putV ids x).length ≤ ids.length + 1 := by
  have := posV_le x ids
  unfold putV putAt
  split
  · omega
  · simp; omega
theorem posV_char (x : Int) : ∀ (ids : List Int) (p : Nat), p ≤ ids.length → (∀ a, a < p → ids.getD a 0 < x) → (p < ids.length → ¬ ids.getD p 0 < x) → posV x ids = p
  | [], p, hp, _, _ => by have : p = 0 := by simpa using hp
                          subst this; rfl
  | y :: r, 0, _, _, h2 => by
    have : ¬ y < x := by simpa using h2 (by simp)
    simp only [posV]; rw [if_neg this]
  | y :: r, p + 1, hp, h1, h2 => by
    have h0 : y < x := by simpa using h1 0 (by omega)
    simp only [posV]; rw [if_pos h0, posV_char x r p (by simpa using hp) (fun a ha => by simpa using h1 (a + 1) (by omega)) (fun hlt => by simpa using h2 (by simpa using hlt))]
theorem sPut_go (ids : List Int) (x : Int) (hn : ids.length ≤ 1099511627776) : ∀ (d k i : Nat), i + d = ids.length → d < k → spec_l6Put.l0 k ids x (i : Int) = some (putAt ids x (i + posV x (ids.drop i))) := by
  intro d
  induction d with
  | zero =>
    intro k i hi hk
    obtain ⟨k, rfl⟩ : ∃ m, k = m + 1 := ⟨k - 1, by omega⟩
    simp only [spec_l6Put.l0]
    obtain rfl : i = ids.length := by omega
    have e : ids.drop ids.length = [] := List.drop_of_length_le (Nat.le_refl _)
    rw [if_neg (by omega), Option.bind_some, if_pos (by omega), if_pos (by omega), Int.toNat_natCast, List.take_length, if_pos (by simp; omega), Option.bind_some, Option.bind_some, if_pos (by simp; omega), Option.bind_some, e, if_pos (by simp; omega)]
    simp [posV, putAt]
  | succ d ih =>
    intro k i hi hk
    obtain ⟨k, rfl⟩ : ∃ m, k = m + 1 := ⟨k - 1, by omega⟩
    have hl : (ids.take i).length = i := by rw [List.length_take]; omega
    have hd : (ids.drop i).length = ids.length - i := List.length_drop
    simp only [spec_l6Put.l0]
    rw [if_pos (by omega), if_pos (by omega), rd_get ids i (by omega), Int.toNat_natCast, drop_cons ids i (by omega)]
    simp only [posV]
    by_cases h : ids[i] < x
    · rw [if_pos h, if_pos h, wsucc (show i < ids.length by omega) (by omega), ih k (i + 1) (by omega) (by omega)]
      congr 2; omega
    · have hg : ids[i]? = some ids[i] := List.getElem?_eq_getElem (by omega)
      rw [if_neg h, if_neg h]
      unfold putAt
      show _ = some (if ids[i]? = some x then ids else ids.take i ++ x :: ids.drop i)
      rw [hg]
      by_cases he : ids[i] = x
      · rw [if_pos he, Option.bind_some, if_pos (by simp; omega), if_pos (by rw [he])]; rfl
      · rw [if_neg he, Option.bind_some, if_pos (by omega), if_pos (by simp; omega), Option.bind_some, Option.bind_some, if_pos (by simp; omega), Option.bind_some, ← drop_cons ids i (by omega), if_pos (by simp; omega), if_neg (by simp [he])]
        simp
theorem sPut_eq (k : Nat) (ids : List Int) (x : Int) (hk : ids.length < k) (hn : ids.length ≤ 1099511627776) : spec_l6Put.f k ids x = some (putV ids x) := by
  unfold spec_l6Put.f putV
  have := sPut_go ids x hn ids.length k 0 (by omega) hk
  rw [Int.natCast_zero, List.drop_zero, Nat.zero_add] at this
  exact this
/-- Ascending. -/
def Asc (ids : List Int) : Prop := ∀ a b, a < b → b < ids.length → ids.getD a 0 < ids.getD b 0
theorem tgFrom_at (l : List S50) (ids : List Int) : ∀ (d i : Nat), i + d = ids.length → tgFrom l ids d i = true → ∀ j, i ≤ j → j < ids.length → tgAt l ids j = true := by
  intro d
  induction d with
  | zero => intro i hi _ j h1 h2; omega
  | succ d ih =>
    intro i hi h j h1 h2
    simp only [tgFrom, Bool.and_eq_true] at h
    by_cases he : j = i
    · subst he; exact h.1
    · exact ih (i + 1) (by omega) h.2 j (by omega) h2
theorem togV_asc (l : List S50) (ids : List Int) (h : togV l ids = true) : Asc ids := by
  unfold togV at h
  rw [Bool.and_eq_true] at h
  have hat := tgFrom_at l ids ids.length 0 (by omega) h.2
  have step : ∀ j, 1 ≤ j → j < ids.length → ids.getD (j - 1) 0 < ids.getD j 0 := by
    intro j h1 h2
    have := hat j (by omega) h2
    simp only [tgAt, Bool.and_eq_true, Bool.or_eq_true, decide_eq_true_eq] at this
    rcases this.2.1 with h0 | h0
    · omega
    · exact h0
  intro a b hab hb
  obtain ⟨d, rfl⟩ : ∃ d, b = a + 1 + d := ⟨b - (a + 1), by omega⟩
  induction d with
  | zero => have := step (a + 1) (by omega) (by omega); simpa using this
  | succ d ih =>
    have h1 := ih (by omega) (by omega)
    have h2 := step (a + 1 + (d + 1)) (by omega) hb
    have e : a + 1 + (d + 1) - 1 = a + 1 + d := by omega
    rw [e] at h2
    omega
theorem mid_eq (i j : Nat) (h : i < j) (hj : j ≤ 1099511627776) : wrap64 ((IntKind.u64.wrap (wrap64 ((i : Int) + (j : Int)))) / 2) = (((i + j) / 2 : Nat) : Int) := by
  have e1 : wrap64 ((i : Int) + (j : Int)) = (i : Int) + j := by unfold wrap64; omega
  have e2 : IntKind.u64.wrap ((i : Int) + j) = (i : Int) + j := by
    show ((i : Int) + j) % 18446744073709551616 = _
    omega
  rw [e1, e2]
  unfold wrap64; omega
theorem less_eq (a b : Int) : cmp_Less_int.f a b = some (decide (a < b)) := by
  unfold cmp_Less_int.f cmp_isNaN_int.f
  simp
theorem bs_go (ids : List Int) (x : Int) (ha : Asc ids) (hn : ids.length ≤ 1099511627776) : ∀ (d k i j : Nat), j = i + d → j ≤ ids.length → d < k → (∀ a, a < i → ids.getD a 0 < x) → (∀ b, j ≤ b → b < ids.length → ¬ ids.getD b 0 < x) →
    ∃ q, slices_BinarySearch_int_int.l0 k ids x (ids.length : Int) (i : Int) (j : Int) = some ((posV x ids : Int), q) := by
  intro d
  induction d using Nat.strongRecOn with
  | ind d ih =>
    intro k i j hj hjl hk h1 h2
    obtain ⟨k, rfl⟩ : ∃ m, k = m + 1 := ⟨k - 1, by omega⟩
    simp only [slices_BinarySearch_int_int.l0]
    by_cases hd : i < j
    · have hh : (i + j) / 2 < ids.length := by omega
      have hm := mid_eq i j hd (by omega)
      have hs : wrap64 ((((i + j) / 2 : Nat) : Int) + 1) = (((i + j) / 2 + 1 : Nat) : Int) := by unfold wrap64; omega
      rw [if_pos (by omega), hm, if_pos (by omega), if_pos (by omega), rd_nat, less_eq, Option.bind_some, hs]
      by_cases hx : ids.getD ((i + j) / 2) 0 < x
      · rw [if_pos (decide_eq_true hx)]
        refine ih (j - ((i + j) / 2 + 1)) (by omega) k ((i + j) / 2 + 1) j (by omega) hjl (by omega) (fun a haa => ?_) h2
        by_cases he : a = (i + j) / 2
        · rw [he]; exact hx
        · have := ha a ((i + j) / 2) (by omega) hh; omega
      · rw [if_neg (by rw [decide_eq_false hx]; decide)]
        refine ih ((i + j) / 2 - i) (by omega) k i ((i + j) / 2) (by omega) (by omega) (by omega) h1 (fun b hb hbl => ?_)
        by_cases he : b = (i + j) / 2
        · rw [he]; exact hx
        · have := ha ((i + j) / 2) b (by omega) hbl; omega
    · obtain rfl : i = j := by omega
      have hp : posV x ids = i := posV_char x ids i hjl h1 (fun hlt => h2 i (Nat.le_refl _) hlt)
      rw [if_neg (by omega), hp]
      by_cases hlt : i < ids.length
      · rw [if_pos (by omega), if_pos (by omega), if_pos (by omega)]
        unfold slices_isNaN_int.f
        split
        · exact ⟨_, rfl⟩
        · simp
      · rw [if_neg (by omega)]; exact ⟨_, rfl⟩
theorem mem_pos (ids : List Int) (x : Int) (ha : Asc ids) (hx : ids[posV x ids]? ≠ some x) : x ∉ ids := by
  intro hm
  obtain ⟨i, hi, he⟩ := List.getElem_of_mem hm
  have hg : ids.getD i 0 = x := by rw [List.getD_eq_getElem?_getD, List.getElem?_eq_getElem hi]; exact he
  have hp : posV x ids = i := posV_char x ids i (by omega) (fun a h => by have := ha a i h hi; omega) (fun _ => by omega)
  rw [hp, List.getElem?_eq_getElem hi, he] at hx
  exact hx rfl
theorem put_mem (ids : List Int) (x : Int) (ha : Asc ids) (hx : x ∈ ids) : putV ids x = ids := by
  unfold putV putAt
  rw [if_pos]
  by_cases h : ids[posV x ids]? = some x
  · exact h
  · exact absurd hx (mem_pos ids x ha h)
theorem put_new (ids : List Int) (x : Int) (hx : x ∉ ids) : putV ids x = ids.take (posV x ids) ++ x :: ids.drop (posV x ids) := by
  unfold putV putAt
  rw [if_neg (fun h => hx (List.mem_of_getElem? h))]
theorem ins_eq (k : Nat) (ids : List Int) (x : Int) (ha : Asc ids) (hk : ids.length < k) (hn : ids.length ≤ 1099511627776) (hx : x ∉ ids) : impl_inserted.f k ids x = some (putV ids x) := by
  unfold impl_inserted.f slices_BinarySearch_int_int.f
  obtain ⟨q, h⟩ := bs_go ids x ha hn ids.length k 0 ids.length (by omega) (Nat.le_refl _) hk (fun a h => absurd h (by omega)) (fun b h1 h2 => absurd h2 (by omega))
  rw [Int.natCast_zero] at h
  have := posV_le x ids
  rw [h, Option.bind_some]
  dsimp only
  rw [if_pos ⟨by omega, by omega, by omega⟩, Int.toNat_natCast, put_new ids x hx]

theorem sFind_go (l : List S50) (x : Int) (hn : l.length ≤ 9223372036854775807) : ∀ (d k : Nat) (i : Nat), i + d = l.length → d < k → spec_FindPath.l0 k l x (i : Int) = some (impl_FindPath.go (l.drop i) x i) := by
  intro d
  induction d with
  | zero =>
    intro k i hi hk
    obtain ⟨k, rfl⟩ : ∃ m, k = m + 1 := ⟨k - 1, by omega⟩
    simp only [spec_FindPath.l0]
    rw [if_neg (by omega), List.drop_of_length_le (by omega)]; rfl
  | succ d ih =>
    intro k i hi hk
    obtain ⟨k, rfl⟩ : ∃ m, k = m + 1 := ⟨k - 1, by omega⟩
    simp only [spec_FindPath.l0]
    rw [if_pos (by omega), if_pos (by omega), rdI_get _ _ (by omega), wsucc (show i < l.length by omega) hn, ih k (i + 1) (by omega) (by omega), drop_cons l i (by omega)]
    simp only [impl_FindPath.go, Int.natCast_add, Int.natCast_one]
    split <;> rfl
theorem sFind_eq (k : Nat) (l : List S50) (x : Int) (hk : l.length < k) (hn : l.length ≤ 9223372036854775807) : spec_FindPath.f k l x = some (impl_FindPath.go l x 0) := by
  unfold spec_FindPath.f
  have := sFind_go l x hn l.length k 0 (by omega) hk
  rw [Int.natCast_zero] at this
  exact this

theorem sTog_go (l : List S50) (ids : List Int) (hl : l.length ≤ 1099511627776) (hn : ids.length ≤ 1099511627776) : ∀ (d k i : Nat), i + d = ids.length → d * (ids.length + 4) + l.length + 60 < k → (∀ j, j < i → 0 ≤ findV l (ids.getD j 0)) →
    spec_IsTogether.l0 k l ids (i : Int) = some (tgFrom l ids d i && areV l) := by
  intro d
  induction d with
  | zero =>
    intro k i hi hk hf
    obtain ⟨k, rfl⟩ : ∃ m, k = m + 1 := ⟨k - 1, by omega⟩
    simp only [spec_IsTogether.l0, tgFrom]
    rw [if_neg (by omega), sAre_eq k l (by omega) (by omega), Bool.true_and]; rfl
  | succ d ih =>
    intro k i hi hk hf
    rw [Nat.succ_mul] at hk
    obtain ⟨k, rfl⟩ : ∃ m, k = m + 1 + 1 := ⟨k - 2, by omega⟩
    have hg : rd ids (i : Int) = ids.getD i 0 := rd_nat _ _
    have inner : ∀ (e k j : Nat), j + e = i → e + d * (ids.length + 4) + l.length + 61 < k → 0 ≤ findV l (ids.getD i 0) →
        spec_IsTogether.l1 k l ids (i : Int) (findV l (ids.getD i 0)) (j : Int) = some (frFrom l (pOf l (ids.getD i 0)) ids e j && (tgFrom l ids d (i + 1) && areV l)) := by
      intro e
      induction e with
      | zero =>
        intro k j hj hk hfi
        obtain ⟨k, rfl⟩ : ∃ m, k = m + 1 := ⟨k - 1, by omega⟩
        simp only [spec_IsTogether.l1, frFrom]
        rw [if_neg (by omega), Bool.true_and, wsucc (show i < ids.length by omega) (by omega)]
        refine ih k (i + 1) (by omega) (by omega) (fun j hj => ?_)
        rcases Nat.lt_succ_iff_lt_or_eq.1 hj with h | rfl
        · exact hf j h
        · exact hfi
      | succ e ihe =>
        intro k j hj hk hfi
        obtain ⟨k, rfl⟩ : ∃ m, k = m + 1 := ⟨k - 1, by omega⟩
        obtain ⟨fi, _⟩ := findV_bd l _ hfi
        have hfj := hf j (by omega)
        obtain ⟨fj, _⟩ := findV_bd l _ hfj
        simp only [spec_IsTogether.l1, frFrom]
        have e1 : impl_FindPath.go l (ids.getD j 0) 0 = findV l (ids.getD j 0) := rfl
        rw [if_pos (by omega), if_pos hfi, if_pos fi, if_pos (by omega), if_pos (by omega), rd_nat, sFind_eq k l _ (by omega) (by omega), Option.bind_some, e1, if_pos hfj, if_pos fj, rd_find l _ hfi, rd_find l _ hfj, sCfq k _ _ (by omega), Option.bind_some, wsucc (show j < i by omega) (by omega)]
        cases hc : cfP (pOf l (ids.getD i 0)) (pOf l (ids.getD j 0)) with
        | true => rw [if_pos rfl]; rfl
        | false => rw [if_neg (by decide), ihe k (j + 1) (by omega) (by omega) hfi]; rfl
    simp only [spec_IsTogether.l0, spec_IsTogether.j1, tgFrom, tgAt]
    have e1 : impl_FindPath.go l (ids.getD i 0) 0 = findV l (ids.getD i 0) := rfl
    rw [if_pos (by omega), if_pos (by omega), hg, sFind_eq (k + 1) l _ (by omega) (by omega), Option.bind_some, e1]
    by_cases hfi : 0 ≤ findV l (ids.getD i 0)
    · rw [if_neg (by omega), decide_eq_true hfi, Bool.true_and]
      have hin := inner i k 0 (by omega) (by omega) hfi
      rw [Int.natCast_zero] at hin
      by_cases h0 : i = 0
      · rw [if_neg (by omega), if_neg (by decide), hin, decide_eq_true h0, Bool.true_or, Bool.true_and, Bool.and_assoc]
      · rw [if_pos (by omega), wpred (by omega) (by omega), if_pos (by omega), if_pos (by omega), rd_nat, decide_eq_false h0, Bool.false_or]
        by_cases hc : ids.getD (i - 1) 0 < ids.getD i 0
        · rw [decide_eq_false (by omega), if_neg (by decide), hin, decide_eq_true hc, Bool.true_and, Bool.and_assoc]
        · rw [decide_eq_true (by omega), if_pos rfl, decide_eq_false hc]; rfl
    · rw [if_pos (by omega), decide_eq_false hfi]; simp
theorem sTog_eq (k : Nat) (l : List S50) (ids : List Int) (hk : ids.length * (ids.length + 4) + l.length + 60 < k) (hl : l.length ≤ 1099511627776) (hn : ids.length ≤ 1099511627776) : spec_IsTogether.f k l ids = some (togV l ids) := by
  unfold spec_IsTogether.f togV
  have := sTog_go l ids hl hn ids.length k 0 (by omega) hk (fun j hj => absurd hj (by omega))
  rw [Int.natCast_zero] at this
  rw [this, Bool.and_comm]

theorem index_go (xs : List Int) (n : Int) (hn : xs.length ≤ 9223372036854775807) : ∀ (d k : Nat) (i : Nat), i + d = xs.length → d < k →
    ∃ r, slices_Index_int_int.l0 k xs n (xs.length : Int) (i : Int) = some r ∧ (0 ≤ r ↔ n ∈ xs.drop i) := by
  intro d
  induction d with
  | zero =>
    intro k i hi hk
    obtain ⟨k, rfl⟩ : ∃ m, k = m + 1 := ⟨k - 1, by omega⟩
    simp only [slices_Index_int_int.l0]
    rw [if_neg (by omega), List.drop_of_length_le (by omega)]
    exact ⟨-1, rfl, by simp⟩
  | succ d ih =>
    intro k i hi hk
    obtain ⟨k, rfl⟩ : ∃ m, k = m + 1 := ⟨k - 1, by omega⟩
    simp only [slices_Index_int_int.l0]
    rw [if_pos (by omega), if_pos (by omega), if_pos (by omega), rd_get _ _ (by omega), wsucc (show i < xs.length by omega) hn, drop_cons xs i (by omega)]
    by_cases h : n = xs[i]
    · rw [if_pos h]; exact ⟨_, rfl, by simp only [List.mem_cons, ← h, true_or, iff_true]; omega⟩
    · rw [if_neg h]
      obtain ⟨r, hr, hiff⟩ := ih k (i + 1) (by omega) (by omega)
      exact ⟨r, hr, by rw [hiff]; simp only [List.mem_cons, h, false_or]⟩
theorem contains_eq (k : Nat) (l : List Int) (n : Int) (hk : l.length < k) (hn : l.length ≤ 9223372036854775807) : slices_Contains_int_int.f k l n = some (decide (n ∈ l)) := by
  unfold slices_Contains_int_int.f slices_Index_int_int.f
  obtain ⟨r, hr, hiff⟩ := index_go l n hn l.length k 0 (by omega) hk
  rw [Int.natCast_zero] at hr
  rw [hr, Option.bind_some]
  congr 1
  rw [decide_eq_decide]
  simpa using hiff

theorem put_fuel (n m : Nat) (h : m ≤ n + 1) : m * (m + 4) ≤ (n + 1) * (n + 5) := Nat.mul_le_mul h (by omega)

def stepA (l : List S50) (out : List Int) (p : S50) : List Int := if togV l (putV out p.f0) = true then putV out p.f0 else out
theorem stepA_length (l : List S50) (out : List Int) (p : S50) : (stepA l out p).length ≤ out.length + 1 := by
  have := putV_length out p.f0
  unfold stepA
  split <;> omega
theorem foldA_length (l : List S50) : ∀ (r : List S50) (out : List Int), (r.foldl (stepA l) out).length ≤ out.length + r.length
  | [], out => Nat.le_refl _
  | p :: r, out => by
    have h1 := foldA_length l r (stepA l out p)
    have h2 := stepA_length l out p
    simp only [List.foldl_cons, List.length_cons]
    omega
def addV (l : List S50) (ids : List Int) : List Int := if togV l ids = true then l.foldl (stepA l) ids else ids
theorem addV_length (l : List S50) (ids : List Int) : (addV l ids).length ≤ ids.length + l.length := by
  unfold addV
  split
  · exact foldA_length l l ids
  · omega
theorem fuelN (n N : Nat) (h : n ≤ N) : (n + 1) * (n + 5) ≤ (N + 1) * (N + 5) := Nat.mul_le_mul (by omega) (by omega)
theorem sAdd_go (l : List S50) (ids : List Int) (N : Nat) (hN : N ≤ 1099511627) (hl : l.length ≤ 1048576) (hi0 : ids.length ≤ N) (ht : togV l ids = true) : ∀ (d k i : Nat) (out : List Int), i + d = l.length → out.length + d ≤ N → 2 * d + (N + 1) * (N + 5) + l.length + N + 70 < k →
    spec_AddToStage.l0 k l ids out (i : Int) = some ((l.drop i).foldl (stepA l) out) := by
  intro d
  induction d with
  | zero =>
    intro k i out hi ho hk
    obtain ⟨k, rfl⟩ : ∃ m, k = m + 1 + 1 := ⟨k - 2, by omega⟩
    simp only [spec_AddToStage.l0, spec_AddToStage.j1]
    rw [if_neg (by omega), if_neg (by decide), List.drop_of_length_le (by omega)]; rfl
  | succ d ih =>
    intro k i out hi ho hk
    obtain ⟨k, rfl⟩ : ∃ m, k = m + 1 + 1 := ⟨k - 2, by omega⟩
    have f0 := fuelN ids.length N hi0
    have f00 := put_fuel ids.length ids.length (by omega)
    have f1 := fuelN out.length N (by omega)
    have hp := putV_length out l[i].f0
    have f2 := put_fuel out.length _ hp
    simp only [spec_AddToStage.l0, spec_AddToStage.j1]
    rw [if_pos (by omega), sTog_eq (k + 1) l ids (by omega) (by omega) (by omega), Option.bind_some, if_pos ht, if_pos (by omega), if_pos (by omega), rdI_get l i (by omega), sPut_eq k out _ (by omega) (by omega), Option.bind_some, sTog_eq k l _ (by omega) (by omega) (by omega), Option.bind_some, wsucc (show i < l.length by omega) (by omega), drop_cons l i (by omega), List.foldl_cons]
    have hs := stepA_length l out l[i]
    by_cases h : togV l (putV out l[i].f0) = true
    · have e : stepA l out l[i] = putV out l[i].f0 := by unfold stepA; rw [if_pos h]
      rw [if_pos h, e, ih k (i + 1) _ (by omega) (by omega) (by omega)]
    · have e : stepA l out l[i] = out := by unfold stepA; rw [if_neg h]
      rw [if_neg h, e, ih k (i + 1) _ (by omega) (by omega) (by omega)]
theorem iAdd_go (l : List S50) (N : Nat) (hN : N ≤ 1099511627) (hl : l.length ≤ 1048576) : ∀ (d k i : Nat) (out : List Int), togV l out = true → i + d = l.length → out.length + d ≤ N → d + (N + 1) * (N + 5) + l.length + N + 70 < k →
    impl_AddToStage.l0 k l out l (l.length : Int) (i : Int) = some ((l.drop i).foldl (stepA l) out) := by
  intro d
  induction d with
  | zero =>
    intro k i out ht hi ho hk
    obtain ⟨k, rfl⟩ : ∃ m, k = m + 1 := ⟨k - 1, by omega⟩
    simp only [impl_AddToStage.l0]
    rw [if_neg (by omega), List.drop_of_length_le (by omega)]; rfl
  | succ d ih =>
    intro k i out ht hi ho hk
    obtain ⟨k, rfl⟩ : ∃ m, k = m + 1 := ⟨k - 1, by omega⟩
    have f1 := fuelN out.length N (by omega)
    have hp := putV_length out l[i].f0
    have f2 := put_fuel out.length _ hp
    have ha := togV_asc l out ht
    simp only [impl_AddToStage.l0]
    rw [if_pos (by omega), if_pos (by omega), if_pos (by omega), rdI_get l i (by omega), contains_eq k out _ (by omega) (by omega), Option.bind_some, wsucc (show i < l.length by omega) (by omega), drop_cons l i (by omega), List.foldl_cons]
    by_cases hm : l[i].f0 ∈ out
    · have e : stepA l out l[i] = out := by unfold stepA; rw [put_mem out _ ha hm, if_pos ht]
      rw [if_pos (decide_eq_true hm), e, ih k (i + 1) _ ht (by omega) (by omega) (by omega)]
    · rw [if_neg (by rw [decide_eq_false hm]; decide), ins_eq k out _ ha (by omega) (by omega) hm, Option.bind_some, iTog_eq k l _ (by omega) (by omega) (by omega), Option.bind_some]
      by_cases h : togV l (putV out l[i].f0) = true
      · have e : stepA l out l[i] = putV out l[i].f0 := by unfold stepA; rw [if_pos h]
        rw [if_pos h, e, ih k (i + 1) _ h (by omega) (by omega) (by omega)]
      · have e : stepA l out l[i] = out := by unfold stepA; rw [if_neg h]
        rw [if_neg h, e, ih k (i + 1) _ ht (by omega) (by omega) (by omega)]
theorem sAdd_eq (k : Nat) (l : List S50) (ids : List Int) (hk : (ids.length + l.length + 1) * (ids.length + l.length + 5) + 4 * l.length + ids.length + 71 < k) (hl : l.length ≤ 1048576) (hn : ids.length ≤ 1048576) : spec_AddToStage.f k l ids = some (addV l ids) := by
  unfold spec_AddToStage.f addV
  rw [Option.bind_some, if_pos (by simp; omega), List.nil_append]
  by_cases ht : togV l ids = true
  · have := sAdd_go l ids (ids.length + l.length) (by omega) hl (by omega) ht l.length k 0 ids (by omega) (by omega) (by omega)
    rw [Int.natCast_zero, List.drop_zero] at this
    rw [this, if_pos ht]
  · obtain ⟨k, rfl⟩ : ∃ m, k = m + 1 + 1 := ⟨k - 2, by omega⟩
    have f0 := fuelN ids.length (ids.length + l.length) (by omega)
    have f00 := put_fuel ids.length ids.length (by omega)
    have htf : togV l ids = false := by simpa using ht
    simp only [spec_AddToStage.l0, spec_AddToStage.j1]
    rw [sTog_eq (k + 1) l ids (by omega) (by omega) (by omega), Option.bind_some, htf]; simp
theorem iAdd_eq (k : Nat) (l : List S50) (ids : List Int) (hk : (ids.length + l.length + 1) * (ids.length + l.length + 5) + 4 * l.length + ids.length + 71 < k) (hl : l.length ≤ 1048576) (hn : ids.length ≤ 1048576) : impl_AddToStage.f k l ids = some (addV l ids) := by
  have f0 := fuelN ids.length (ids.length + l.length) (by omega)
  have f00 := put_fuel ids.length ids.length (by omega)
  unfold impl_AddToStage.f addV slices_Clone_int_int.f
  rw [if_pos (by omega), Option.bind_some, iTog_eq k l ids (by omega) (by omega) (by omega), Option.bind_some]
  by_cases ht : togV l ids = true
  · have := iAdd_go l (ids.length + l.length) (by omega) hl l.length k 0 ids ht (by omega) (by omega) (by omega)
    rw [Int.natCast_zero, List.drop_zero] at this
    rw [if_pos ht, this, if_pos ht]
  · rw [if_neg ht, if_neg ht]

theorem markP_go : ∀ (d k : Nat) (xs : List S50) (m : Int) (i : Nat), i + d = xs.length → d < k → 0 ≤ m → m + 4 * d ≤ 9223372036854775807 → xs.length ≤ 1099511627776 → ∃ ys, laws_markPathS.l0 k xs m (i : Int) = some (m + 4 * (d : Int), ys) := by
  intro d
  induction d with
  | zero =>
    intro k xs m i hi hk h0 hm hn
    obtain ⟨k, rfl⟩ : ∃ m, k = m + 1 := ⟨k - 1, by omega⟩
    simp only [laws_markPathS.l0]
    rw [if_neg (by omega)]
    exact ⟨xs, by congr 2; omega⟩
  | succ d ih =>
    intro k xs m i hi hk h0 hm hn
    obtain ⟨k, rfl⟩ : ∃ m, k = m + 1 := ⟨k - 1, by omega⟩
    simp only [laws_markPathS.l0]
    have e : wrap64 ((wrap64 ((wrap64 ((wrap64 (m + 1)) + 1)) + 1)) + 1) = m + 4 := by unfold wrap64; omega
    rw [if_pos (by omega), if_pos (by omega), Option.bind_some, Option.bind_some, Option.bind_some, e, wsucc (show i < xs.length by omega) (by omega)]
    suffices H : ∀ zs : List S50, zs.length = xs.length → ∃ ys, laws_markPathS.l0 k zs (m + 4) ((i + 1 : Nat) : Int) = some (m + 4 * ((d + 1 : Nat) : Int), ys) from H _ (by simp)
    intro zs hz
    obtain ⟨ys, h⟩ := ih k zs (m + 4) (i + 1) (by omega) (by omega) (by omega) (by omega) (by omega)
    exact ⟨ys, by rw [h]; congr 2; omega⟩
theorem markP_eq (k : Nat) (l : List S50) (hk : l.length < k) (hn : l.length ≤ 1099511627776) : ∃ ys, laws_markPathS.f k l 1 = some (1 + 4 * (l.length : Int), ys) := by
  unfold laws_markPathS.f
  have := markP_go l.length k l 1 0 (by omega) hk (by omega) (by omega) hn
  rwa [Int.natCast_zero] at this

theorem toIntS_go (xs : List Int) (hn : xs.length ≤ 9223372036854775807) : ∀ (d k : Nat) (ys : List Int) (i : Nat), ys.length = xs.length → i + d = xs.length → d < k →
    laws_toIntS.l0 k xs ys (i : Int) = some (ys.take i ++ xs.drop i) := by
  intro d
  induction d with
  | zero =>
    intro k ys i hl hi hk
    obtain ⟨k, rfl⟩ : ∃ m, k = m + 1 := ⟨k - 1, by omega⟩
    simp only [laws_toIntS.l0]
    rw [if_neg (by omega), List.take_of_length_le (by omega), List.drop_of_length_le (by omega), List.append_nil]
  | succ d ih =>
    intro k ys i hl hi hk
    obtain ⟨k, rfl⟩ : ∃ m, k = m + 1 := ⟨k - 1, by omega⟩
    simp only [laws_toIntS.l0]
    rw [if_pos (by omega), if_pos (by omega), if_pos (by omega), wsucc (show i < xs.length by omega) hn, ih k _ (i + 1) (by simpa using hl) (by omega) (by omega), Int.toNat_natCast, set_take _ _ _ (by omega), rd_get _ _ (by omega), List.append_assoc, drop_cons xs i (by omega)]
    rfl
theorem toIntS_eq (k : Nat) (l : List Int) (hk : l.length < k) (hn : l.length ≤ 35184372088832) : laws_toIntS.f k l = some l := by
  unfold laws_toIntS.f
  rw [if_pos (by omega), if_pos (by omega)]
  have := toIntS_go l (by omega) l.length k (List.replicate ((l.length : Int)).toNat 0) 0 (by simp) (by omega) (by omega)
  rw [Int.natCast_zero] at this
  rw [this]; simp

theorem laws_eqIntS_go (xs ys : List Int) (hl : xs.length = ys.length) (hn : xs.length ≤ 9223372036854775807) : ∀ (d k : Nat) (i : Nat), i + d = xs.length → d < k →
    laws_eqIntS.l0 k xs ys (i : Int) = some (decide (xs.drop i = ys.drop i)) := by
  intro d
  induction d with
  | zero =>
    intro k i hi hk
    obtain ⟨k, rfl⟩ : ∃ m, k = m + 1 := ⟨k - 1, by omega⟩
    simp only [laws_eqIntS.l0]
    rw [if_neg (by omega), List.drop_of_length_le (by omega), List.drop_of_length_le (by omega)]; rfl
  | succ d ih =>
    intro k i hi hk
    obtain ⟨k, rfl⟩ : ∃ m, k = m + 1 := ⟨k - 1, by omega⟩
    simp only [laws_eqIntS.l0]
    rw [if_pos (by omega), if_pos (by omega), if_pos (by omega), wsucc (show i < xs.length by omega) hn, ih k (i + 1) (by omega) (by omega), rd_get _ _ (by omega), rd_get _ _ (by omega), drop_cons xs i (by omega), drop_cons ys i (by omega)]
    split
    · rename_i h; simp only [List.cons.injEq, h, true_and]
    · rename_i h; simp only [List.cons.injEq, h, false_and, decide_false]
theorem laws_eqIntS_eq (k : Nat) (a b : List Int) (hk : a.length < k) (hn : a.length ≤ 9223372036854775807) : laws_eqIntS.f k a b = some (decide (a = b)) := by
  unfold laws_eqIntS.f
  by_cases h : a.length = b.length
  · rw [if_pos (by omega)]
    have := laws_eqIntS_go a b h hn a.length k 0 (by omega) hk
    rw [Int.natCast_zero] at this
    rw [this]; rfl
  · rw [if_neg (by omega)]; congr 1; symm; rw [decide_eq_false_iff_not]; intro e; exact h (by rw [e])

def markIntL (n : Nat) (m : Int) : List Int := (List.range n).map fun (j : Nat) => m + (j : Int)
theorem markIntS_go (m : Int) (h0 : 0 ≤ m) (n : Nat) (hm : m + n ≤ 9223372036854775807) : ∀ (d k : Nat) (ys : List Int) (i : Nat), ys.length = n → ys.take i = markIntL i m → i + d = n → d < k →
    laws_markIntS.l0 k ys (m + i) (i : Int) = some (m + n, markIntL n m) := by
  intro d
  induction d with
  | zero =>
    intro k ys i hl ht hi hk
    obtain ⟨k, rfl⟩ : ∃ m, k = m + 1 := ⟨k - 1, by omega⟩
    simp only [laws_markIntS.l0]
    obtain rfl : i = n := by omega
    rw [if_neg (by omega), ← ht, List.take_of_length_le (by omega)]
  | succ d ih =>
    intro k ys i hl ht hi hk
    obtain ⟨k, rfl⟩ : ∃ m, k = m + 1 := ⟨k - 1, by omega⟩
    simp only [laws_markIntS.l0]
    rw [if_pos (by omega), if_pos (by omega), wsucc (show i < n by omega) (by omega), Int.toNat_natCast]
    have e : wrap64 (m + (i : Int) + 1) = m + ((i + 1 : Nat) : Int) := by unfold wrap64; omega
    rw [e]
    refine ih k _ (i + 1) (by simpa using hl) ?_ (by omega) (by omega)
    rw [set_take _ _ _ (by omega), ht]; unfold markIntL
    rw [List.range_succ, List.map_append]; rfl
theorem markIntS_eq (k : Nat) (l : List Int) (m : Int) (h0 : 0 ≤ m) (hm : m + l.length ≤ 9223372036854775807) (hk : l.length < k) : laws_markIntS.f k l m = some (m + l.length, markIntL l.length m) := by
  unfold laws_markIntS.f
  have := markIntS_go m h0 l.length hm l.length k l 0 rfl (by simp [markIntL]) (by omega) hk
  rw [Int.natCast_zero, Int.add_zero] at this
  exact this

theorem markIntL_length (n : Nat) (m : Int) : (markIntL n m).length = n := by simp [markIntL]
theorem heldIntS_go (m : Int) (h0 : 0 ≤ m) (n : Nat) (hm : m + n ≤ 9223372036854775807) : ∀ (d k : Nat) (i : Nat), i + d = n → d < k →
    laws_heldIntS.l0 k (markIntL n m) (m + i) (i : Int) = some (m + n) := by
  intro d
  induction d with
  | zero =>
    intro k i hi hk
    obtain ⟨k, rfl⟩ : ∃ m, k = m + 1 := ⟨k - 1, by omega⟩
    simp only [laws_heldIntS.l0]
    obtain rfl : i = n := by omega
    rw [if_neg (by rw [markIntL_length]; omega)]
  | succ d ih =>
    intro k i hi hk
    obtain ⟨k, rfl⟩ : ∃ m, k = m + 1 := ⟨k - 1, by omega⟩
    simp only [laws_heldIntS.l0]
    have hl := markIntL_length n m
    have e : wrap64 (m + (i : Int) + 1) = m + ((i + 1 : Nat) : Int) := by unfold wrap64; omega
    have hr : rd (markIntL n m) (i : Int) = m + (i : Int) := by
      rw [rd_get _ _ (by omega)]; simp [markIntL]
    rw [if_pos (by omega), if_pos (by omega), if_pos hr, wsucc (show i < n by omega) (by omega), e]
    exact ih k (i + 1) (by omega) (by omega)
theorem heldIntS_eq (k n : Nat) (m : Int) (h0 : 0 ≤ m) (hm : m + n ≤ 9223372036854775807) (hk : n < k) : laws_heldIntS.f k (markIntL n m) m = some (m + n) := by
  unfold laws_heldIntS.f
  have := heldIntS_go m h0 n hm n k 0 (by omega) hk
  rw [Int.natCast_zero, Int.add_zero] at this
  exact this

theorem FnExactAddToStage {l : List S69} {m : List Int} (h : l.length * 32 ≤ 140737488351232) (_ : ∀ x ∈ l, (Lit.int .i64 x.f0).wf = true ∧ (Lit.int .i64 x.f1).wf = true ∧ (Lit.int .i64 x.f2).wf = true ∧ (Lit.int .i64 x.f3).wf = true) (_ : m.length * 8 ≤ 140737488351232) (_ : ∀ x ∈ m, (Lit.int .i64 x).wf = true) : ∃ k, laws_FnExactAddToStage.f k l m = some true := by
  obtain ⟨Q, hQ⟩ : ∃ Q, Q = (m.length + l.length + 1) * (m.length + l.length + 5) := ⟨_, rfl⟩
  obtain ⟨B, hB⟩ : ∃ B, B = Q + 4 * l.length + m.length + 72 := ⟨_, rfl⟩
  refine ⟨B + 1, ?_⟩
  unfold laws_FnExactAddToStage.f
  by_cases h0 : (m.length : Int) > 1048576
  · rw [if_pos h0]
  · rw [if_neg h0, szPathS_eq l (by omega), Option.bind_some]
    by_cases h1 : l.length ≤ 1048576
    · have e : (l.map cvP).length = l.length := by simp
      have ha := addV_length (l.map cvP) m
      obtain ⟨ys, hm⟩ := markP_eq (B + 1) (l.map cvP) (by omega) (by omega)
      have s1 := sAdd_eq (B + 1) (l.map cvP) m (by rw [e, ← hQ]; omega) (by omega) (by omega)
      have i1 := iAdd_eq (B + 1) (l.map cvP) m (by rw [e, ← hQ]; omega) (by omega) (by omega)
      have i2 := iAdd_eq B (l.map cvP) m (by rw [e, ← hQ]; omega) (by omega) (by omega)
      rw [if_pos h1, if_neg (by omega)]
      simp only [laws_FnExactAddToStage.j0, toPathS_eq B l (by omega) (by omega), toPathS_eq (B + 1) l (by omega) (by omega), Option.bind_some, toIntS_eq B m (by omega) (by omega), toIntS_eq (B + 1) m (by omega) (by omega), s1, i1, i2, laws_eqIntS_eq B _ (addV (l.map cvP) m) (show (addV (l.map cvP) m).length < B by omega) (by omega), laws_eqIntS_eq (B + 1) _ (addV (l.map cvP) m) (show (addV (l.map cvP) m).length < B + 1 by omega) (by omega), decide_true, if_true, eqPathS_self (B + 1) (l.map cvP) (by omega) (by omega), laws_eqIntS_eq (B + 1) m m (by omega) (by omega), hm, markIntS_eq (B + 1) m (1 + 4 * ((l.map cvP).length : Int)) (by omega) (by omega) (by omega), if_neg (show ¬ 1 + 4 * ((l.map cvP).length : Int) + (m.length : Int) < 0 by omega), Bool.not_true, Bool.false_eq_true, if_false, markIntS_eq B (addV (l.map cvP) m) 1 (by omega) (by omega) (by omega), heldIntS_eq B (addV (l.map cvP) m).length 1 (by omega) (by omega) (by omega), if_neg (show ¬ 1 + ((addV (l.map cvP) m).length : Int) < 0 by omega)]
    · rw [if_neg h1, if_pos (by omega)]

end Go.Proofs.Ytldmhlpfkclclaa.Pure
