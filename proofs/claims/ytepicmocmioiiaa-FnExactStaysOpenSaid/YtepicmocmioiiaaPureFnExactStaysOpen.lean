/- The row of FnExactStaysOpen: for every two slices of ints (that fit into memory) the law answers true; no condition. -/
import Derived.Test.YtepicmocmioiiaaPFnExactStaysOpenx2
import Derived.Test.YtepicmocmioiiaaWSized
set_option linter.unusedVariables false
set_option linter.unusedSimpArgs false
namespace Go.Proofs.Ytepicmocmioiiaa.PrintWords
open Go.ChangeShapes Go.WideShapes
/-- The words' own theorem, under the name by which the row asks for it. -/
theorem sized_ints {H : Type} {enc : TypeId × Value → H} {P : Program} {W : World} {base : Nat} {spare : Nat → Bool} {held : Bool} {t e : TypeId} {k : IntKind} {a : Option Addr} {len cap : Nat} {d : DataW H} {ps : List MemPlace} {ts : List TypeId} {ds : List (DataW H)} {j : Nat}
    (hsz : (DataW.weightsEach P ts ds).all (· ≤ reachBytes) = true) (ht : ts[j]? = some t) (hd : ds[j]? = some d) (hu : P.underlying t = some (.slice e)) (he : P.underlying e = some (.int k)) (hc : P.cellsOf e = 1) {B : Nat} (hB : P.bytesOf e = B)
    (h : DataW.Trod enc P W base spare held t (.slice a len cap) d ps) : len * B ≤ 140737488351232 := Go.Proofs.YtepicmocmioiiaaW.PrintWords.sized_ints hsz ht hd hu he hc hB h
end Go.Proofs.Ytepicmocmioiiaa.PrintWords

namespace Go.Proofs.Ytepicmocmioiiaa.Pure
open Go.RowKit Go.Proofs.Ytepicmocmioiiaa.PFnExactStaysOpen Go.Proofs.YtepicmocmioiiaaW.PrintWords Go.Proofs.YtepicmocmioiiaaW.PrintLast

theorem wsucc {i n : Nat} (h : i < n) (hn : n ≤ 9223372036854775807) : wrap64 ((i : Int) + 1) = ((i + 1 : Nat) : Int) := by unfold wrap64; omega
theorem rd_nat (xs : List Int) (i : Nat) : rd xs (i : Int) = xs.getD i 0 := by unfold rd; rw [Int.toNat_natCast]
theorem rd_get (xs : List Int) (i : Nat) (h : i < xs.length) : rd xs (i : Int) = xs[i] := by
  rw [rd_nat, List.getD_eq_getElem?_getD, List.getElem?_eq_getElem h]; rfl
theorem drop_cons {α : Type} (xs : List α) (i : Nat) (h : i < xs.length) : xs.drop i = xs[i] :: xs.drop (i + 1) := (List.drop_eq_getElem_cons h)
theorem set_take {α : Type} (ys : List α) (i : Nat) (v : α) (h : i < ys.length) : (ys.set i v).take (i + 1) = ys.take i ++ [v] := by
  rw [List.take_succ_eq_append_getElem (by simpa using h)]
  rw [List.take_set, List.set_eq_of_length_le (by simp; omega)]
  simp

theorem toIntS_go (xs : List Int) (hn : xs.length ≤ 9223372036854775807) : ∀ (d k : Nat) (ys : List Int) (i : Nat), ys.length = xs.length → i + d = xs.length → d < k →
    laws_toIntS.l0 k xs ys (i : Int) = some (ys.take i ++ xs.drop i) := by
  intro d
  induction d with
  | zero =>
    intro k ys i hl hi hk
    obtain ⟨k, rfl⟩ : ∃ m, k = m + 1 := ⟨k - 1, by omega⟩
    simp only [laws_toIntS.l0]
    rw [if_neg (by omega), List.take_of_length_le (by omega), List.drop_of_length_le (by omega), List.append_nil]
  | succ d ih =>
    intro k ys i hl hi hk
    obtain ⟨k, rfl⟩ : ∃ m, k = m + 1 := ⟨k - 1, by omega⟩
    simp only [laws_toIntS.l0]
    rw [if_pos (by omega), if_pos (by omega), if_pos (by omega), wsucc (show i < xs.length by omega) hn, ih k _ (i + 1) (by simpa using hl) (by omega) (by omega), Int.toNat_natCast, set_take _ _ _ (by omega), rd_get _ _ (by omega), List.append_assoc, drop_cons xs i (by omega)]
    rfl
theorem toIntS_eq (k : Nat) (l : List Int) (hk : l.length < k) (hn : l.length ≤ 35184372088832) : laws_toIntS.f k l = some l := by
  unfold laws_toIntS.f
  rw [if_pos (by omega), if_pos (by omega)]
  have := toIntS_go l (by omega) l.length k (List.replicate ((l.length : Int)).toNat 0) 0 (by simp) (by omega) (by omega)
  rw [Int.natCast_zero] at this
  rw [this]; simp

theorem laws_eqIntS_go (xs ys : List Int) (hl : xs.length = ys.length) (hn : xs.length ≤ 9223372036854775807) : ∀ (d k : Nat) (i : Nat), i + d = xs.length → d < k →
    laws_eqIntS.l0 k xs ys (i : Int) = some (decide (xs.drop i = ys.drop i)) := by
  intro d
  induction d with
  | zero =>
    intro k i hi hk
    obtain ⟨k, rfl⟩ : ∃ m, k = m + 1 := ⟨k - 1, by omega⟩
    simp only [laws_eqIntS.l0]
    rw [if_neg (by omega), List.drop_of_length_le (by omega), List.drop_of_length_le (by omega)]; rfl
  | succ d ih =>
    intro k i hi hk
    obtain ⟨k, rfl⟩ : ∃ m, k = m + 1 := ⟨k - 1, by omega⟩
    simp only [laws_eqIntS.l0]
    rw [if_pos (by omega), if_pos (by omega), if_pos (by omega), wsucc (show i < xs.length by omega) hn, ih k (i + 1) (by omega) (by omega), rd_get _ _ (by omega), rd_get _ _ (by omega), drop_cons xs i (by omega), drop_cons ys i (by omega)]
    split
    · rename_i h; simp only [List.cons.injEq, h, true_and]
    · rename_i h; simp only [List.cons.injEq, h, false_and, decide_false]
theorem laws_eqIntS_eq (k : Nat) (a b : List Int) (hk : a.length < k) (hn : a.length ≤ 9223372036854775807) : laws_eqIntS.f k a b = some (decide (a = b)) := by
  unfold laws_eqIntS.f
  by_cases h : a.length = b.length
  · rw [if_pos (by omega)]
    have := laws_eqIntS_go a b h hn a.length k 0 (by omega) hk
    rw [Int.natCast_zero] at this
    rw [this]; rfl
  · rw [if_neg (by omega)]; congr 1; symm; rw [decide_eq_false_iff_not]; intro e; exact h (by rw [e])

def markIntL (n : Nat) (m : Int) : List Int := (List.range n).map fun (j : Nat) => m + (j : Int)
theorem markIntS_go (m : Int) (h0 : 0 ≤ m) (n : Nat) (hm : m + n ≤ 9223372036854775807) : ∀ (d k : Nat) (ys : List Int) (i : Nat), ys.length = n → ys.take i = markIntL i m → i + d = n → d < k →
    laws_markIntS.l0 k ys (m + i) (i : Int) = some (m + n, markIntL n m) := by
  intro d
  induction d with
  | zero =>
    intro k ys i hl ht hi hk
    obtain ⟨k, rfl⟩ : ∃ m, k = m + 1 := ⟨k - 1, by omega⟩
    simp only [laws_markIntS.l0]
    obtain rfl : i = n := by omega
    rw [if_neg (by omega), ← ht, List.take_of_length_le (by omega)]
  | succ d ih =>
    intro k ys i hl ht hi hk
    obtain ⟨k, rfl⟩ : ∃ m, k = m + 1 := ⟨k - 1, by omega⟩
    simp only [laws_markIntS.l0]
    rw [if_pos (by omega), if_pos (by omega), wsucc (show i < n by omega) (by omega), Int.toNat_natCast]
    have e : wrap64 (m + (i : Int) + 1) = m + ((i + 1 : Nat) : Int) := by unfold wrap64; omega
    rw [e]
    refine ih k _ (i + 1) (by simpa using hl) ?_ (by omega) (by omega)
    rw [set_take _ _ _ (by omega), ht]; unfold markIntL
    rw [List.range_succ, List.map_append]; rfl
theorem markIntS_eq (k : Nat) (l : List Int) (m : Int) (h0 : 0 ≤ m) (hm : m + l.length ≤ 9223372036854775807) (hk : l.length < k) : laws_markIntS.f k l m = some (m + l.length, markIntL l.length m) := by
  unfold laws_markIntS.f
  have := markIntS_go m h0 l.length hm l.length k l 0 rfl (by simp [markIntL]) (by omega) hk
  rw [Int.natCast_zero, Int.add_zero] at this
  exact this

theorem markIntL_length (n : Nat) (m : Int) : (markIntL n m).length = n := by simp [markIntL]
theorem heldIntS_go (m : Int) (h0 : 0 ≤ m) (n : Nat) (hm : m + n ≤ 9223372036854775807) : ∀ (d k : Nat) (i : Nat), i + d = n → d < k →
    laws_heldIntS.l0 k (markIntL n m) (m + i) (i : Int) = some (m + n) := by
  intro d
  induction d with
  | zero =>
    intro k i hi hk
    obtain ⟨k, rfl⟩ : ∃ m, k = m + 1 := ⟨k - 1, by omega⟩
    simp only [laws_heldIntS.l0]
    obtain rfl : i = n := by omega
    rw [if_neg (by rw [markIntL_length]; omega)]
  | succ d ih =>
    intro k i hi hk
    obtain ⟨k, rfl⟩ : ∃ m, k = m + 1 := ⟨k - 1, by omega⟩
    simp only [laws_heldIntS.l0]
    have hl := markIntL_length n m
    have e : wrap64 (m + (i : Int) + 1) = m + ((i + 1 : Nat) : Int) := by unfold wrap64; omega
    have hr : rd (markIntL n m) (i : Int) = m + (i : Int) := by
      rw [rd_get _ _ (by omega)]; simp [markIntL]
    rw [if_pos (by omega), if_pos (by omega), if_pos hr, wsucc (show i < n by omega) (by omega), e]
    exact ih k (i + 1) (by omega) (by omega)
theorem heldIntS_eq (k n : Nat) (m : Int) (h0 : 0 ≤ m) (hm : m + n ≤ 9223372036854775807) (hk : n < k) : laws_heldIntS.f k (markIntL n m) m = some (m + n) := by
  unfold laws_heldIntS.f
  have := heldIntS_go m h0 n hm n k 0 (by omega) hk
  rw [Int.natCast_zero, Int.add_zero] at this
  exact this

theorem has_go (xs : List Int) (n : Int) (hn : xs.length ≤ 9223372036854775807) : ∀ (d k : Nat) (i : Nat), i + d = xs.length → d < k → spec_l6Has.l0 k xs n (i : Int) = some (decide (n ∈ xs.drop i)) := by
  intro d
  induction d with
  | zero =>
    intro k i hi hk
    obtain ⟨k, rfl⟩ : ∃ m, k = m + 1 := ⟨k - 1, by omega⟩
    simp only [spec_l6Has.l0]
    rw [if_neg (by omega), List.drop_of_length_le (by omega)]; simp
  | succ d ih =>
    intro k i hi hk
    obtain ⟨k, rfl⟩ : ∃ m, k = m + 1 := ⟨k - 1, by omega⟩
    simp only [spec_l6Has.l0]
    rw [if_pos (by omega), if_pos (by omega), rd_get _ _ (by omega), wsucc (show i < xs.length by omega) hn, ih k (i + 1) (by omega) (by omega), drop_cons xs i (by omega)]
    by_cases h : xs[i] = n
    · rw [if_pos h]; simp only [List.mem_cons, h, true_or, decide_true]
    · rw [if_neg h]; simp only [List.mem_cons, Ne.symm h, false_or]
theorem has_eq (k : Nat) (l : List Int) (n : Int) (hk : l.length < k) (hn : l.length ≤ 9223372036854775807) : spec_l6Has.f k l n = some (decide (n ∈ l)) := by
  unfold spec_l6Has.f
  have := has_go l n hn l.length k 0 (by omega) hk
  rw [Int.natCast_zero] at this
  rw [this]; rfl

theorem index_go (xs : List Int) (n : Int) (hn : xs.length ≤ 9223372036854775807) : ∀ (d k : Nat) (i : Nat), i + d = xs.length → d < k →
    ∃ r, slices_Index_int_int.l0 k xs n (xs.length : Int) (i : Int) = some r ∧ (0 ≤ r ↔ n ∈ xs.drop i) := by
  intro d
  induction d with
  | zero =>
    intro k i hi hk
    obtain ⟨k, rfl⟩ : ∃ m, k = m + 1 := ⟨k - 1, by omega⟩
    simp only [slices_Index_int_int.l0]
    rw [if_neg (by omega), List.drop_of_length_le (by omega)]
    exact ⟨-1, rfl, by simp⟩
  | succ d ih =>
    intro k i hi hk
    obtain ⟨k, rfl⟩ : ∃ m, k = m + 1 := ⟨k - 1, by omega⟩
    simp only [slices_Index_int_int.l0]
    rw [if_pos (by omega), if_pos (by omega), if_pos (by omega), rd_get _ _ (by omega), wsucc (show i < xs.length by omega) hn, drop_cons xs i (by omega)]
    by_cases h : n = xs[i]
    · rw [if_pos h]; exact ⟨_, rfl, by simp only [List.mem_cons, ← h, true_or, iff_true]; omega⟩
    · rw [if_neg h]
      obtain ⟨r, hr, hiff⟩ := ih k (i + 1) (by omega) (by omega)
      exact ⟨r, hr, by rw [hiff]; simp only [List.mem_cons, h, false_or]⟩
theorem contains_eq (k : Nat) (l : List Int) (n : Int) (hk : l.length < k) (hn : l.length ≤ 9223372036854775807) : slices_Contains_int_int.f k l n = some (decide (n ∈ l)) := by
  unfold slices_Contains_int_int.f slices_Index_int_int.f
  obtain ⟨r, hr, hiff⟩ := index_go l n hn l.length k 0 (by omega) hk
  rw [Int.natCast_zero] at hr
  rw [hr, Option.bind_some]
  congr 1
  rw [decide_eq_decide]
  simpa using hiff

theorem sieve_go (xs ys : List Int) (b : Bool) (hn : xs.length ≤ 1099511627776) (hy : ys.length ≤ 1099511627776) : ∀ (d k : Nat) (i : Nat) (out : List Int), i + d = xs.length → d + ys.length + 1 < k → out.length ≤ i →
    impl_sieve.l0 k ys b out xs (xs.length : Int) (i : Int) = some (out ++ (xs.drop i).filter fun x => decide (x ∈ ys) == b) := by
  intro d
  induction d with
  | zero =>
    intro k i out hi hk ho
    obtain ⟨k, rfl⟩ : ∃ m, k = m + 1 := ⟨k - 1, by omega⟩
    simp only [impl_sieve.l0]
    rw [if_neg (by omega), List.drop_of_length_le (by omega)]; simp
  | succ d ih =>
    intro k i out hi hk ho
    obtain ⟨k, rfl⟩ : ∃ m, k = m + 1 := ⟨k - 1, by omega⟩
    simp only [impl_sieve.l0]
    rw [if_pos (by omega), if_pos (by omega), if_pos (by omega), rd_get _ _ (by omega), contains_eq k ys _ (by omega) (by omega), Option.bind_some, wsucc (show i < xs.length by omega) (by omega), drop_cons xs i (by omega), List.filter_cons]
    by_cases h : (decide (xs[i] ∈ ys) == b) = true
    · rw [if_pos h, if_pos h, if_pos (by omega), ih k (i + 1) _ (by omega) (by omega) (by simp; omega), List.append_assoc]; rfl
    · rw [if_neg h, if_neg h, ih k (i + 1) _ (by omega) (by omega) (by omega)]
theorem sieve_eq (k : Nat) (l m : List Int) (b : Bool) (hk : l.length + m.length + 1 < k) (hn : l.length ≤ 1099511627776) (hy : m.length ≤ 1099511627776) : impl_sieve.f k l m b = some (l.filter fun x => decide (x ∈ m) == b) := by
  unfold impl_sieve.f
  have := sieve_go l m b hn hy l.length k 0 [] (by omega) hk (by simp)
  rw [Int.natCast_zero] at this
  rw [this]; rfl

theorem sStaysOpen_go (xs ys : List Int) (hn : xs.length ≤ 1099511627776) (hy : ys.length ≤ 1099511627776) : ∀ (d k : Nat) (i : Nat) (out : List Int), i + d = xs.length → d + ys.length + 1 < k → out.length ≤ i →
    spec_StaysOpen.l0 k xs ys out (i : Int) = some (out ++ (xs.drop i).filter fun x => decide (x ∈ ys) == true) := by
  intro d
  induction d with
  | zero =>
    intro k i out hi hk ho
    obtain ⟨k, rfl⟩ : ∃ m, k = m + 1 := ⟨k - 1, by omega⟩
    simp only [spec_StaysOpen.l0]
    rw [if_neg (by omega), List.drop_of_length_le (by omega)]; simp
  | succ d ih =>
    intro k i out hi hk ho
    obtain ⟨k, rfl⟩ : ∃ m, k = m + 1 := ⟨k - 1, by omega⟩
    simp only [spec_StaysOpen.l0]
    rw [if_pos (by omega), if_pos (by omega), rd_get _ _ (by omega), has_eq k ys _ (by omega) (by omega), Option.bind_some, wsucc (show i < xs.length by omega) (by omega), drop_cons xs i (by omega), List.filter_cons]
    by_cases h : xs[i] ∈ ys
    · rw [if_pos (decide_eq_true h), if_pos (by omega), ih k (i + 1) _ (by omega) (by omega) (by simp; omega), List.append_assoc, if_pos (by simp [h])]; rfl
    · rw [if_neg (by rw [decide_eq_false h]; decide), ih k (i + 1) _ (by omega) (by omega) (by omega), if_neg (by simp [h])]
theorem sStaysOpen_eq (k : Nat) (l m : List Int) (hk : l.length + m.length + 1 < k) (hn : l.length ≤ 1099511627776) (hy : m.length ≤ 1099511627776) : spec_StaysOpen.f k l m = some (l.filter fun x => decide (x ∈ m) == true) := by
  unfold spec_StaysOpen.f
  have := sStaysOpen_go l m hn hy l.length k 0 [] (by omega) hk (by simp)
  rw [Int.natCast_zero] at this
  rw [this]; rfl
theorem iStaysOpen_eq (k : Nat) (l m : List Int) (hk : l.length + m.length + 1 < k) (hn : l.length ≤ 1099511627776) (hy : m.length ≤ 1099511627776) : impl_StaysOpen.f k l m = some (l.filter fun x => decide (x ∈ m) == true) := by
  unfold impl_StaysOpen.f
  rw [sieve_eq k l m true hk hn hy]; rfl

theorem FnExactStaysOpen : laws_FnExactStaysOpen.Pure := by
  intro l m _ _ _ _ _ _
  refine ⟨(l.length + m.length + 10) + 2, ?_⟩
  unfold laws_FnExactStaysOpen.f
  split
  · rfl
  · split
    · rfl
    · skip
      have hR0 : (l.filter fun x => decide (x ∈ m) == true).length ≤ l.length := List.length_filter_le _ _
      have t_l : ∀ k, l.length + m.length + 10 < k → laws_toIntS.f k l = some l := fun k hk => toIntS_eq k l (by omega) (by omega)
      have q_l : ∀ k, l.length + m.length + 10 < k → laws_eqIntS.f k l l = some true := fun k hk => by rw [laws_eqIntS_eq k _ _ (by omega) (by omega)]; simp
      have t_m : ∀ k, l.length + m.length + 10 < k → laws_toIntS.f k m = some m := fun k hk => toIntS_eq k m (by omega) (by omega)
      have q_m : ∀ k, l.length + m.length + 10 < k → laws_eqIntS.f k m m = some true := fun k hk => by rw [laws_eqIntS_eq k _ _ (by omega) (by omega)]; simp
      have m_l : ∀ k, l.length + m.length + 10 < k → laws_markIntS.f k l (1) = some ((1 : Int) + (l.length : Int), markIntL l.length (1)) := fun k hk => markIntS_eq k l (1) (by omega) (by omega) (by omega)
      have m_m : ∀ k, l.length + m.length + 10 < k → laws_markIntS.f k m ((1 : Int) + (l.length : Int)) = some (((1 : Int) + (l.length : Int)) + (m.length : Int), markIntL m.length ((1 : Int) + (l.length : Int))) := fun k hk => markIntS_eq k m ((1 : Int) + (l.length : Int)) (by omega) (by omega) (by omega)
      have b2 : ¬ (((1 : Int) + (l.length : Int)) + (m.length : Int) < 0) := by omega
      have sR : ∀ k, l.length + m.length + 10 < k → spec_StaysOpen.f k l m = some (l.filter fun x => decide (x ∈ m) == true) := fun k hk => sStaysOpen_eq k l m (by omega) (by omega) (by omega)
      have iR : ∀ k, l.length + m.length + 10 < k → impl_StaysOpen.f k l m = some (l.filter fun x => decide (x ∈ m) == true) := fun k hk => iStaysOpen_eq k l m (by omega) (by omega) (by omega)
      have qR : ∀ k, l.length + m.length + 10 < k → laws_eqIntS.f k (l.filter fun x => decide (x ∈ m) == true) (l.filter fun x => decide (x ∈ m) == true) = some true := fun k hk => by rw [laws_eqIntS_eq k _ _ (by omega) (by omega)]; simp
      have mR : ∀ k, l.length + m.length + 10 < k → laws_markIntS.f k (l.filter fun x => decide (x ∈ m) == true) 1 = some ((1 : Int) + ((l.filter fun x => decide (x ∈ m) == true).length : Int), markIntL (l.filter fun x => decide (x ∈ m) == true).length 1) := fun k hk => markIntS_eq k _ 1 (by omega) (by omega) (by omega)
      have hR : ∀ k, l.length + m.length + 10 < k → laws_heldIntS.f k (markIntL (l.filter fun x => decide (x ∈ m) == true).length 1) 1 = some ((1 : Int) + ((l.filter fun x => decide (x ∈ m) == true).length : Int)) := fun k hk => heldIntS_eq k _ 1 (by omega) (by omega) (by omega)
      have b1 : ¬ ((1 : Int) + ((l.filter fun x => decide (x ∈ m) == true).length : Int) < 0) := by omega
      have a1 : l.length + m.length + 10 < (l.length + m.length + 10) + 2 := by omega
      have a2 : l.length + m.length + 10 < (l.length + m.length + 10) + 1 := by omega
      simp only [t_l _ a1, q_l _ a1, t_m _ a1, q_m _ a1, m_l _ a1, m_m _ a1, sR _ a1, iR _ a1, qR _ a1, Option.bind_some, if_true, if_neg b2, laws_FnExactStaysOpen.j0, Bool.not_true, Bool.false_eq_true, if_false, t_l _ a2, t_m _ a2, iR _ a2, qR _ a2, mR _ a2, hR _ a2, if_neg b1]

end Go.Proofs.Ytepicmocmioiiaa.Pure
