/- What the row of FnExactFindPath leans on: for every slice of paths (that fits into memory) and every int the law answers true; no condition. -/
import Derived.Test.YtldmhlpfkclclaaQFnExactFindPathx2
set_option linter.unusedVariables false
set_option linter.unusedSimpArgs false
namespace Go.Proofs.Ytldmhlpfkclclaa.Pure
open Go.RowKit Go.Proofs.Ytldmhlpfkclclaa.PFnExactFindPath Go.Proofs.YtldmhlpfkclclaaW.PrintWords Go.Proofs.YtldmhlpfkclclaaW.PrintLast

theorem wsucc {i n : Nat} (h : i < n) (hn : n ≤ 9223372036854775807) : wrap64 ((i : Int) + 1) = ((i + 1 : Nat) : Int) := by unfold wrap64; omega
theorem rd_nat (xs : List Int) (i : Nat) : rd xs (i : Int) = xs.getD i 0 := by unfold rd; rw [Int.toNat_natCast]
theorem rd_get (xs : List Int) (i : Nat) (h : i < xs.length) : rd xs (i : Int) = xs[i] := by
  rw [rd_nat, List.getD_eq_getElem?_getD, List.getElem?_eq_getElem h]; rfl
theorem drop_cons {α : Type} (xs : List α) (i : Nat) (h : i < xs.length) : xs.drop i = xs[i] :: xs.drop (i + 1) := (List.drop_eq_getElem_cons h)
theorem set_take {α : Type} (ys : List α) (i : Nat) (v : α) (h : i < ys.length) : (ys.set i v).take (i + 1) = ys.take i ++ [v] := by
  rw [List.take_succ_eq_append_getElem (by simpa using h)]
  rw [List.take_set, List.set_eq_of_length_le (by simp; omega)]
  simp

/-- The law's path as the program's. -/
def cvP (x : S69) : S50 := ⟨x.f0, x.f1, x.f2, x.f3⟩
theorem rdL_get (xs : List S69) (i : Nat) (h : i < xs.length) : rd_T69 xs (i : Int) = xs[i] := by
  unfold rd_T69; rw [Int.toNat_natCast, List.getD_eq_getElem?_getD, List.getElem?_eq_getElem h]; rfl
theorem rdI_get (xs : List S50) (i : Nat) (h : i < xs.length) : rd_T50 xs (i : Int) = xs[i] := by
  unfold rd_T50; rw [Int.toNat_natCast, List.getD_eq_getElem?_getD, List.getElem?_eq_getElem h]; rfl
theorem toPathS_go (xs : List S69) (hn : xs.length ≤ 9223372036854775807) : ∀ (d k : Nat) (ys : List S50) (i : Nat), ys.length = xs.length → i + d = xs.length → d < k →
    laws_toPathS.l0 k xs ys (i : Int) = some (ys.take i ++ (xs.drop i).map cvP) := by
  intro d
  induction d with
  | zero =>
    intro k ys i hl hi hk
    obtain ⟨k, rfl⟩ : ∃ m, k = m + 1 := ⟨k - 1, by omega⟩
    simp only [laws_toPathS.l0]
    rw [if_neg (by omega), List.take_of_length_le (by omega), List.drop_of_length_le (by omega)]; simp
  | succ d ih =>
    intro k ys i hl hi hk
    obtain ⟨k, rfl⟩ : ∃ m, k = m + 1 := ⟨k - 1, by omega⟩
    simp only [laws_toPathS.l0, laws_toPath.f]
    rw [if_pos (by omega), if_pos (by omega), Option.bind_some, if_pos (by omega), wsucc (show i < xs.length by omega) hn, ih k _ (i + 1) (by simpa using hl) (by omega) (by omega), Int.toNat_natCast, set_take _ _ _ (by omega), rdL_get _ _ (by omega), List.append_assoc, drop_cons xs i (by omega)]
    rfl
theorem toPathS_eq (k : Nat) (l : List S69) (hk : l.length < k) (hn : l.length ≤ 8796093022208) : laws_toPathS.f k l = some (l.map cvP) := by
  unfold laws_toPathS.f
  rw [if_pos (by omega), if_pos (by omega)]
  have := toPathS_go l (by omega) l.length k (List.replicate ((l.length : Int)).toNat z50) 0 (by simp) (by omega) (by omega)
  rw [Int.natCast_zero] at this
  rw [this]; simp
theorem szPathS_eq (l : List S69) (hn : l.length ≤ 8796093022208) : laws_szPathS.f l 1048576 = some (if l.length ≤ 1048576 then 1048576 - (l.length : Int) else -1) := by
  unfold laws_szPathS.f
  have w : wrap64 (1048576 - (l.length : Int)) = 1048576 - l.length := by unfold wrap64; omega
  rw [w]
  by_cases h : l.length ≤ 1048576
  · rw [if_neg (by omega), if_pos h]
  · rw [if_pos (by omega), if_neg h]
theorem eqPath_self (a b c d : Int) : laws_eqPath.f a b c d a b c d = some true := by unfold laws_eqPath.f; simp
theorem eqPathS_go (xs : List S50) (hn : xs.length ≤ 9223372036854775807) : ∀ (d k : Nat) (i : Nat), i + d = xs.length → d < k → laws_eqPathS.l0 k xs xs (i : Int) = some true := by
  intro d
  induction d with
  | zero =>
    intro k i hi hk
    obtain ⟨k, rfl⟩ : ∃ m, k = m + 1 := ⟨k - 1, by omega⟩
    simp only [laws_eqPathS.l0]
    rw [if_neg (by omega)]
  | succ d ih =>
    intro k i hi hk
    obtain ⟨k, rfl⟩ : ∃ m, k = m + 1 := ⟨k - 1, by omega⟩
    simp only [laws_eqPathS.l0]
    rw [if_pos (by omega), if_pos (by omega), if_pos (by omega), eqPath_self, Option.bind_some, if_pos rfl, wsucc (show i < xs.length by omega) hn, ih k (i + 1) (by omega) (by omega)]
theorem eqPathS_self (k : Nat) (l : List S50) (hk : l.length < k) (hn : l.length ≤ 9223372036854775807) : laws_eqPathS.f k l l = some true := by
  unfold laws_eqPathS.f
  rw [if_pos rfl]
  have := eqPathS_go l hn l.length k 0 (by omega) hk
  rw [Int.natCast_zero] at this
  exact this

theorem sFind_go (l : List S50) (x : Int) (hn : l.length ≤ 9223372036854775807) : ∀ (d k : Nat) (i : Nat), i + d = l.length → d < k → spec_FindPath.l0 k l x (i : Int) = some (impl_FindPath.go (l.drop i) x i) := by
  intro d
  induction d with
  | zero =>
    intro k i hi hk
    obtain ⟨k, rfl⟩ : ∃ m, k = m + 1 := ⟨k - 1, by omega⟩
    simp only [spec_FindPath.l0]
    rw [if_neg (by omega), List.drop_of_length_le (by omega)]; rfl
  | succ d ih =>
    intro k i hi hk
    obtain ⟨k, rfl⟩ : ∃ m, k = m + 1 := ⟨k - 1, by omega⟩
    simp only [spec_FindPath.l0]
    rw [if_pos (by omega), if_pos (by omega), rdI_get _ _ (by omega), wsucc (show i < l.length by omega) hn, ih k (i + 1) (by omega) (by omega), drop_cons l i (by omega)]
    simp only [impl_FindPath.go, Int.natCast_add, Int.natCast_one]
    split <;> rfl
theorem sFind_eq (k : Nat) (l : List S50) (x : Int) (hk : l.length < k) (hn : l.length ≤ 9223372036854775807) : spec_FindPath.f k l x = some (impl_FindPath.go l x 0) := by
  unfold spec_FindPath.f
  have := sFind_go l x hn l.length k 0 (by omega) hk
  rw [Int.natCast_zero] at this
  exact this

theorem FnExactFindPath {l : List S69} {x : Int} (h : l.length * 32 ≤ 140737488351232) (_ : ∀ x ∈ l, (Lit.int .i64 x.f0).wf = true ∧ (Lit.int .i64 x.f1).wf = true ∧ (Lit.int .i64 x.f2).wf = true ∧ (Lit.int .i64 x.f3).wf = true) (_ : (Lit.int .i64 x).wf = true) : ∃ k, laws_FnExactFindPath.f k l x = some true := by
  refine ⟨l.length + 1, ?_⟩
  unfold laws_FnExactFindPath.f
  rw [szPathS_eq l (by omega), Option.bind_some]
  by_cases h1 : l.length ≤ 1048576
  · have e : (l.map cvP).length = l.length := by simp
    rw [if_pos h1, if_neg (by omega)]
    simp only [toPathS_eq (l.length + 1) l (by omega) (by omega), Option.bind_some, sFind_eq (l.length + 1) (l.map cvP) x (by omega) (by omega), impl_FindPath.f, if_true, eqPathS_self (l.length + 1) (l.map cvP) (by omega) (by omega)]
  · rw [if_neg h1, if_pos (by omega)]

end Go.Proofs.Ytldmhlpfkclclaa.Pure
