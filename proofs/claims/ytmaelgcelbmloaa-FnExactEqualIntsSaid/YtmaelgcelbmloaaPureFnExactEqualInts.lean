/- The row of FnExactEqualInts: for every two slices of ints (that fit into memory) the law answers true; no condition. -/
import Derived.Test.YtmaelgcelbmloaaPFnExactEqualIntsx1
import Derived.Test.YtmaelgcelbmloaaWSized
set_option linter.unusedVariables false
set_option linter.unusedSimpArgs false
namespace Go.Proofs.Ytmaelgcelbmloaa.PrintWords
open Go.ChangeShapes Go.WideShapes
/-- The words' own theorem, under the name by which the row asks for it. -/
theorem sized_ints {H : Type} {enc : TypeId × Value → H} {P : Program} {W : World} {base : Nat} {spare : Nat → Bool} {held : Bool} {t e : TypeId} {k : IntKind} {a : Option Addr} {len cap : Nat} {d : DataW H} {ps : List MemPlace} {ts : List TypeId} {ds : List (DataW H)} {j : Nat}
    (hsz : (DataW.weightsEach P ts ds).all (· ≤ reachBytes) = true) (ht : ts[j]? = some t) (hd : ds[j]? = some d) (hu : P.underlying t = some (.slice e)) (he : P.underlying e = some (.int k)) (hc : P.cellsOf e = 1) {B : Nat} (hB : P.bytesOf e = B)
    (h : DataW.Trod enc P W base spare held t (.slice a len cap) d ps) : len * B ≤ 140737488351232 := Go.Proofs.YtmaelgcelbmloaaW.PrintWords.sized_ints hsz ht hd hu he hc hB h
end Go.Proofs.Ytmaelgcelbmloaa.PrintWords

namespace Go.Proofs.Ytmaelgcelbmloaa.Pure
open Go.RowKit Go.Proofs.Ytmaelgcelbmloaa.PFnExactEqualInts Go.Proofs.YtmaelgcelbmloaaW.PrintWords Go.Proofs.YtmaelgcelbmloaaW.PrintLast

theorem wsucc {i n : Nat} (h : i < n) (hn : n ≤ 9223372036854775807) : wrap64 ((i : Int) + 1) = ((i + 1 : Nat) : Int) := by unfold wrap64; omega
theorem rd_nat (xs : List Int) (i : Nat) : rd xs (i : Int) = xs.getD i 0 := by unfold rd; rw [Int.toNat_natCast]
theorem rd_get (xs : List Int) (i : Nat) (h : i < xs.length) : rd xs (i : Int) = xs[i] := by
  rw [rd_nat, List.getD_eq_getElem?_getD, List.getElem?_eq_getElem h]; rfl
theorem drop_cons {α : Type} (xs : List α) (i : Nat) (h : i < xs.length) : xs.drop i = xs[i] :: xs.drop (i + 1) := (List.drop_eq_getElem_cons h)
theorem set_take {α : Type} (ys : List α) (i : Nat) (v : α) (h : i < ys.length) : (ys.set i v).take (i + 1) = ys.take i ++ [v] := by
  rw [List.take_succ_eq_append_getElem (by simpa using h)]
  rw [List.take_set, List.set_eq_of_length_le (by simp; omega)]
  simp

theorem toIntS_go (xs : List Int) (hn : xs.length ≤ 9223372036854775807) : ∀ (d k : Nat) (ys : List Int) (i : Nat), ys.length = xs.length → i + d = xs.length → d < k →
    laws_toIntS.l0 k xs ys (i : Int) = some (ys.take i ++ xs.drop i) := by
  intro d
  induction d with
  | zero =>
    intro k ys i hl hi hk
    obtain ⟨k, rfl⟩ : ∃ m, k = m + 1 := ⟨k - 1, by omega⟩
    simp only [laws_toIntS.l0]
    rw [if_neg (by omega), List.take_of_length_le (by omega), List.drop_of_length_le (by omega), List.append_nil]
  | succ d ih =>
    intro k ys i hl hi hk
    obtain ⟨k, rfl⟩ : ∃ m, k = m + 1 := ⟨k - 1, by omega⟩
    simp only [laws_toIntS.l0]
    rw [if_pos (by omega), if_pos (by omega), if_pos (by omega), wsucc (show i < xs.length by omega) hn, ih k _ (i + 1) (by simpa using hl) (by omega) (by omega), Int.toNat_natCast, set_take _ _ _ (by omega), rd_get _ _ (by omega), List.append_assoc, drop_cons xs i (by omega)]
    rfl
theorem toIntS_eq (k : Nat) (l : List Int) (hk : l.length < k) (hn : l.length ≤ 35184372088832) : laws_toIntS.f k l = some l := by
  unfold laws_toIntS.f
  rw [if_pos (by omega), if_pos (by omega)]
  have := toIntS_go l (by omega) l.length k (List.replicate ((l.length : Int)).toNat 0) 0 (by simp) (by omega) (by omega)
  rw [Int.natCast_zero] at this
  rw [this]; simp

theorem laws_eqIntS_go (xs ys : List Int) (hl : xs.length = ys.length) (hn : xs.length ≤ 9223372036854775807) : ∀ (d k : Nat) (i : Nat), i + d = xs.length → d < k →
    laws_eqIntS.l0 k xs ys (i : Int) = some (decide (xs.drop i = ys.drop i)) := by
  intro d
  induction d with
  | zero =>
    intro k i hi hk
    obtain ⟨k, rfl⟩ : ∃ m, k = m + 1 := ⟨k - 1, by omega⟩
    simp only [laws_eqIntS.l0]
    rw [if_neg (by omega), List.drop_of_length_le (by omega), List.drop_of_length_le (by omega)]; rfl
  | succ d ih =>
    intro k i hi hk
    obtain ⟨k, rfl⟩ : ∃ m, k = m + 1 := ⟨k - 1, by omega⟩
    simp only [laws_eqIntS.l0]
    rw [if_pos (by omega), if_pos (by omega), if_pos (by omega), wsucc (show i < xs.length by omega) hn, ih k (i + 1) (by omega) (by omega), rd_get _ _ (by omega), rd_get _ _ (by omega), drop_cons xs i (by omega), drop_cons ys i (by omega)]
    split
    · rename_i h; simp only [List.cons.injEq, h, true_and]
    · rename_i h; simp only [List.cons.injEq, h, false_and, decide_false]
theorem laws_eqIntS_eq (k : Nat) (a b : List Int) (hk : a.length < k) (hn : a.length ≤ 9223372036854775807) : laws_eqIntS.f k a b = some (decide (a = b)) := by
  unfold laws_eqIntS.f
  by_cases h : a.length = b.length
  · rw [if_pos (by omega)]
    have := laws_eqIntS_go a b h hn a.length k 0 (by omega) hk
    rw [Int.natCast_zero] at this
    rw [this]; rfl
  · rw [if_neg (by omega)]; congr 1; symm; rw [decide_eq_false_iff_not]; intro e; exact h (by rw [e])

theorem spec_EqualInts_go (xs ys : List Int) (hl : xs.length = ys.length) (hn : xs.length ≤ 9223372036854775807) : ∀ (d k : Nat) (i : Nat), i + d = xs.length → d < k →
    spec_EqualInts.l0 k xs ys (i : Int) = some (decide (xs.drop i = ys.drop i)) := by
  intro d
  induction d with
  | zero =>
    intro k i hi hk
    obtain ⟨k, rfl⟩ : ∃ m, k = m + 1 := ⟨k - 1, by omega⟩
    simp only [spec_EqualInts.l0]
    rw [if_neg (by omega), List.drop_of_length_le (by omega), List.drop_of_length_le (by omega)]; rfl
  | succ d ih =>
    intro k i hi hk
    obtain ⟨k, rfl⟩ : ∃ m, k = m + 1 := ⟨k - 1, by omega⟩
    simp only [spec_EqualInts.l0]
    rw [if_pos (by omega), if_pos (by omega), if_pos (by omega), wsucc (show i < xs.length by omega) hn, ih k (i + 1) (by omega) (by omega), rd_get _ _ (by omega), rd_get _ _ (by omega), drop_cons xs i (by omega), drop_cons ys i (by omega)]
    split
    · rename_i h; simp only [List.cons.injEq, h, true_and]
    · rename_i h; simp only [List.cons.injEq, h, false_and, decide_false]
theorem spec_EqualInts_eq (k : Nat) (a b : List Int) (hk : a.length < k) (hn : a.length ≤ 9223372036854775807) : spec_EqualInts.f k a b = some (decide (a = b)) := by
  unfold spec_EqualInts.f
  by_cases h : a.length = b.length
  · rw [if_pos (by omega)]
    have := spec_EqualInts_go a b h hn a.length k 0 (by omega) hk
    rw [Int.natCast_zero] at this
    rw [this]; rfl
  · rw [if_neg (by omega)]; congr 1; symm; rw [decide_eq_false_iff_not]; intro e; exact h (by rw [e])

theorem slicesEqual_go (xs ys : List Int) (hl : xs.length = ys.length) (hn : xs.length ≤ 9223372036854775807) : ∀ (d k : Nat) (i : Nat), i + d = xs.length → d < k →
    slices_Equal_int_int.l0 k xs ys (xs.length : Int) (i : Int) = some (decide (xs.drop i = ys.drop i)) := by
  intro d
  induction d with
  | zero =>
    intro k i hi hk
    obtain ⟨k, rfl⟩ : ∃ m, k = m + 1 := ⟨k - 1, by omega⟩
    simp only [slices_Equal_int_int.l0]
    rw [if_neg (by omega), List.drop_of_length_le (by omega), List.drop_of_length_le (by omega)]; rfl
  | succ d ih =>
    intro k i hi hk
    obtain ⟨k, rfl⟩ : ∃ m, k = m + 1 := ⟨k - 1, by omega⟩
    simp only [slices_Equal_int_int.l0]
    rw [if_pos (by omega), if_pos (by omega), if_pos (by omega), if_pos (by omega), wsucc (show i < xs.length by omega) hn, ih k (i + 1) (by omega) (by omega), rd_get _ _ (by omega), rd_get _ _ (by omega), drop_cons xs i (by omega), drop_cons ys i (by omega)]
    split
    · rename_i h; simp only [List.cons.injEq, h, true_and]
    · rename_i h; simp only [List.cons.injEq, h, false_and, decide_false]
theorem slicesEqual_eq (k : Nat) (a b : List Int) (hk : a.length < k) (hn : a.length ≤ 9223372036854775807) : slices_Equal_int_int.f k a b = some (decide (a = b)) := by
  unfold slices_Equal_int_int.f
  by_cases h : a.length = b.length
  · rw [if_pos (by omega)]
    have := slicesEqual_go a b h hn a.length k 0 (by omega) hk
    rw [Int.natCast_zero] at this
    rw [this]; rfl
  · rw [if_neg (by omega)]; congr 1; symm; rw [decide_eq_false_iff_not]; intro e; exact h (by rw [e])
theorem FnExactEqualInts : laws_FnExactEqualInts.Pure := by
  intro l0 l1 _ _ _ _ _ _
  refine ⟨l0.length + l1.length + 1, ?_⟩
  have h0 : l0.length < l0.length + l1.length + 1 := by omega
  have h1 : l1.length < l0.length + l1.length + 1 := by omega
  unfold laws_FnExactEqualInts.f
  split
  · rfl
  · split
    · rfl
    · simp only [toIntS_eq _ l0 h0 (by omega), toIntS_eq _ l1 h1 (by omega), Option.bind_some, spec_EqualInts_eq _ l0 l1 h0 (by omega), impl_EqualInts.f, slicesEqual_eq _ l0 l1 h0 (by omega), laws_eqIntS_eq _ l0 l0 h0 (by omega), laws_eqIntS_eq _ l1 l1 h1 (by omega), decide_true, if_true, bne_self_eq_false]
      rfl

end Go.Proofs.Ytmaelgcelbmloaa.Pure
