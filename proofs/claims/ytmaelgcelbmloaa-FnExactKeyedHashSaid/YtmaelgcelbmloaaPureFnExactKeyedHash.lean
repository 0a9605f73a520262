/- The row of FnExactKeyedHash: for every int and every slice of ints (that fits into memory) the law answers true; no condition. -/
import Derived.Test.YtmaelgcelbmloaaPFnExactKeyedHashx1
import Derived.Test.YtmaelgcelbmloaaWSized
set_option linter.unusedVariables false
set_option linter.unusedSimpArgs false
namespace Go.Proofs.Ytmaelgcelbmloaa.PrintWords
open Go.ChangeShapes Go.WideShapes
/-- The words' own theorem, under the name by which the row asks for it. -/
theorem sized_ints {H : Type} {enc : TypeId × Value → H} {P : Program} {W : World} {base : Nat} {spare : Nat → Bool} {held : Bool} {t e : TypeId} {k : IntKind} {a : Option Addr} {len cap : Nat} {d : DataW H} {ps : List MemPlace} {ts : List TypeId} {ds : List (DataW H)} {j : Nat}
    (hsz : (DataW.weightsEach P ts ds).all (· ≤ reachBytes) = true) (ht : ts[j]? = some t) (hd : ds[j]? = some d) (hu : P.underlying t = some (.slice e)) (he : P.underlying e = some (.int k)) (hc : P.cellsOf e = 1) {B : Nat} (hB : P.bytesOf e = B)
    (h : DataW.Trod enc P W base spare held t (.slice a len cap) d ps) : len * B ≤ 140737488351232 := Go.Proofs.YtmaelgcelbmloaaW.PrintWords.sized_ints hsz ht hd hu he hc hB h
end Go.Proofs.Ytmaelgcelbmloaa.PrintWords

namespace Go.Proofs.Ytmaelgcelbmloaa.Pure
open Go.RowKit Go.Proofs.Ytmaelgcelbmloaa.PFnExactKeyedHash Go.Proofs.YtmaelgcelbmloaaW.PrintWords Go.Proofs.YtmaelgcelbmloaaW.PrintLast

theorem wsucc {i n : Nat} (h : i < n) (hn : n ≤ 9223372036854775807) : wrap64 ((i : Int) + 1) = ((i + 1 : Nat) : Int) := by unfold wrap64; omega
theorem rd_nat (xs : List Int) (i : Nat) : rd xs (i : Int) = xs.getD i 0 := by unfold rd; rw [Int.toNat_natCast]
theorem rd_get (xs : List Int) (i : Nat) (h : i < xs.length) : rd xs (i : Int) = xs[i] := by
  rw [rd_nat, List.getD_eq_getElem?_getD, List.getElem?_eq_getElem h]; rfl
theorem drop_cons {α : Type} (xs : List α) (i : Nat) (h : i < xs.length) : xs.drop i = xs[i] :: xs.drop (i + 1) := (List.drop_eq_getElem_cons h)
theorem set_take {α : Type} (ys : List α) (i : Nat) (v : α) (h : i < ys.length) : (ys.set i v).take (i + 1) = ys.take i ++ [v] := by
  rw [List.take_succ_eq_append_getElem (by simpa using h)]
  rw [List.take_set, List.set_eq_of_length_le (by simp; omega)]
  simp

theorem toIntS_go (xs : List Int) (hn : xs.length ≤ 9223372036854775807) : ∀ (d k : Nat) (ys : List Int) (i : Nat), ys.length = xs.length → i + d = xs.length → d < k →
    laws_toIntS.l0 k xs ys (i : Int) = some (ys.take i ++ xs.drop i) := by
  intro d
  induction d with
  | zero =>
    intro k ys i hl hi hk
    obtain ⟨k, rfl⟩ : ∃ m, k = m + 1 := ⟨k - 1, by omega⟩
    simp only [laws_toIntS.l0]
    rw [if_neg (by omega), List.take_of_length_le (by omega), List.drop_of_length_le (by omega), List.append_nil]
  | succ d ih =>
    intro k ys i hl hi hk
    obtain ⟨k, rfl⟩ : ∃ m, k = m + 1 := ⟨k - 1, by omega⟩
    simp only [laws_toIntS.l0]
    rw [if_pos (by omega), if_pos (by omega), if_pos (by omega), wsucc (show i < xs.length by omega) hn, ih k _ (i + 1) (by simpa using hl) (by omega) (by omega), Int.toNat_natCast, set_take _ _ _ (by omega), rd_get _ _ (by omega), List.append_assoc, drop_cons xs i (by omega)]
    rfl
theorem toIntS_eq (k : Nat) (l : List Int) (hk : l.length < k) (hn : l.length ≤ 35184372088832) : laws_toIntS.f k l = some l := by
  unfold laws_toIntS.f
  rw [if_pos (by omega), if_pos (by omega)]
  have := toIntS_go l (by omega) l.length k (List.replicate ((l.length : Int)).toNat 0) 0 (by simp) (by omega) (by omega)
  rw [Int.natCast_zero] at this
  rw [this]; simp

theorem laws_eqIntS_go (xs ys : List Int) (hl : xs.length = ys.length) (hn : xs.length ≤ 9223372036854775807) : ∀ (d k : Nat) (i : Nat), i + d = xs.length → d < k →
    laws_eqIntS.l0 k xs ys (i : Int) = some (decide (xs.drop i = ys.drop i)) := by
  intro d
  induction d with
  | zero =>
    intro k i hi hk
    obtain ⟨k, rfl⟩ : ∃ m, k = m + 1 := ⟨k - 1, by omega⟩
    simp only [laws_eqIntS.l0]
    rw [if_neg (by omega), List.drop_of_length_le (by omega), List.drop_of_length_le (by omega)]; rfl
  | succ d ih =>
    intro k i hi hk
    obtain ⟨k, rfl⟩ : ∃ m, k = m + 1 := ⟨k - 1, by omega⟩
    simp only [laws_eqIntS.l0]
    rw [if_pos (by omega), if_pos (by omega), if_pos (by omega), wsucc (show i < xs.length by omega) hn, ih k (i + 1) (by omega) (by omega), rd_get _ _ (by omega), rd_get _ _ (by omega), drop_cons xs i (by omega), drop_cons ys i (by omega)]
    split
    · rename_i h; simp only [List.cons.injEq, h, true_and]
    · rename_i h; simp only [List.cons.injEq, h, false_and, decide_false]
theorem laws_eqIntS_eq (k : Nat) (a b : List Int) (hk : a.length < k) (hn : a.length ≤ 9223372036854775807) : laws_eqIntS.f k a b = some (decide (a = b)) := by
  unfold laws_eqIntS.f
  by_cases h : a.length = b.length
  · rw [if_pos (by omega)]
    have := laws_eqIntS_go a b h hn a.length k 0 (by omega) hk
    rw [Int.natCast_zero] at this
    rw [this]; rfl
  · rw [if_neg (by omega)]; congr 1; symm; rw [decide_eq_false_iff_not]; intro e; exact h (by rw [e])

theorem in1 (a b c : Int) : spec_l1In.f a b c = some (decide (b ≤ a ∧ a ≤ c)) := by
  unfold spec_l1In.f
  by_cases h : a ≥ b
  · rw [if_pos h]; congr 1; simp only [decide_eq_decide]; omega
  · rw [if_neg h]; congr 1; symm; simp only [decide_eq_false_iff_not]; omega

theorem inr (a b c : Int) : impl_InRange.f a b c = some (decide (b ≤ a ∧ a ≤ c)) := by
  unfold impl_InRange.f
  by_cases h : b ≤ a
  · rw [if_pos h]; congr 1; simp only [decide_eq_decide]; omega
  · rw [if_neg h]; congr 1; symm; simp only [decide_eq_false_iff_not]; omega

theorem tmod_bd (a b : Int) (hb : 1 ≤ b) : -b < Int.tmod a b ∧ Int.tmod a b < b := by
  have h1 := Int.tmod_lt_of_pos a (show 0 < b by omega)
  have h2 := Int.lt_tmod_of_pos a (show 0 < b by omega)
  exact ⟨h2, h1⟩
theorem w64 {x : Int} (h0 : -9223372036854775808 ≤ x) (h1 : x ≤ 9223372036854775807) : wrap64 x = x := by
  unfold wrap64; omega
/-- What both come to. -/
theorem tmod_fix (a b : Int) (hb : 1 ≤ b) : (Int.tmod (Int.tmod a b + b) b) = a % b ∧ (if Int.tmod a b < 0 then Int.tmod a b + b else Int.tmod a b) = a % b := by
  obtain ⟨h1, h2⟩ := tmod_bd a b hb
  have e1 : (Int.tmod a b) % b = a % b := by
    have := Int.tmod_add_mul_tdiv a b
    conv => rhs; rw [← this]
    rw [Int.add_mul_emod_self_left]
  constructor
  · rw [Int.tmod_eq_emod_of_nonneg (by omega), Int.add_emod_right, e1]
  · split
    · rw [← e1, ← Int.add_emod_right]
      exact (Int.emod_eq_of_lt (by omega) (by omega)).symm
    · rw [← e1]; exact (Int.emod_eq_of_lt (by omega) h2).symm
theorem sMod (a b : Int) : spec_Mod.f a b = some (if 1 ≤ b ∧ b ≤ 1000000000000 then a % b else 0) := by
  unfold spec_Mod.f
  simp only [in1, Option.bind_some, decide_eq_true_eq]
  by_cases h : 1 ≤ b ∧ b ≤ 1000000000000
  · obtain ⟨h1, h2⟩ := tmod_bd a b h.1
    rw [if_pos h, if_pos h, if_neg (by omega), w64 (by omega) (by omega), (tmod_fix a b h.1).1]
  · rw [if_neg h, if_neg h]
theorem iMod (a b : Int) : impl_Mod.f a b = some (if 1 ≤ b ∧ b ≤ 1000000000000 then a % b else 0) := by
  unfold impl_Mod.f
  simp only [inr, Option.bind_some, decide_eq_true_eq]
  by_cases h : 1 ≤ b ∧ b ≤ 1000000000000
  · obtain ⟨h1, h2⟩ := tmod_bd a b h.1
    rw [if_pos h, if_pos h, if_neg (by omega), ← (tmod_fix a b h.1).2]
    split
    · rw [w64 (by omega) (by omega)]
    · rfl
  · rw [if_neg h, if_neg h]

/-- One more value into a hash. -/
def foldV (acc v : Int) : Int := Int.tmod (acc * 1000003 + v % 2147483647 + 13) 2147483647
def hashV (l : List Int) (acc : Int) : Int := l.foldl foldV acc
theorem foldV_bd (acc v : Int) (h0 : 0 ≤ acc) : 0 ≤ foldV acc v ∧ foldV acc v < 2147483647 := by
  unfold foldV
  rw [Int.tmod_eq_emod_of_nonneg (by omega)]; omega
theorem fold_wrap (acc v : Int) (h0 : 0 ≤ acc) (h1 : acc < 2147483647) : Int.tmod (wrap64 (wrap64 (wrap64 (acc * 1000003) + v % 2147483647) + 13)) 2147483647 = foldV acc v := by
  unfold foldV
  rw [w64 (x := acc * 1000003) (by omega) (by omega), w64 (x := acc * 1000003 + v % 2147483647) (by omega) (by omega), w64 (by omega) (by omega)]
theorem sMod_M (v : Int) : spec_Mod.f v 2147483647 = some (v % 2147483647) := by rw [sMod, if_pos (by omega)]
theorem iMod_M (v : Int) : impl_Mod.f v 2147483647 = some (v % 2147483647) := by rw [iMod, if_pos (by omega)]
theorem iFold (acc v : Int) (h0 : 0 ≤ acc) (h1 : acc < 2147483647) : impl_fold.f acc v = some (foldV acc v) := by
  unfold impl_fold.f
  rw [iMod_M, Option.bind_some, fold_wrap acc v h0 h1]
theorem sHash_go (xs : List Int) (hn : xs.length ≤ 9223372036854775807) : ∀ (d k : Nat) (i : Nat) (acc : Int), i + d = xs.length → d < k → 0 ≤ acc → acc < 2147483647 →
    spec_Hash.l0 k xs acc (i : Int) = some (hashV (xs.drop i) acc) := by
  intro d
  induction d with
  | zero =>
    intro k i acc hi hk h0 h1
    obtain ⟨k, rfl⟩ : ∃ m, k = m + 1 := ⟨k - 1, by omega⟩
    simp only [spec_Hash.l0]
    rw [if_neg (by omega), List.drop_of_length_le (by omega)]; rfl
  | succ d ih =>
    intro k i acc hi hk h0 h1
    obtain ⟨k, rfl⟩ : ∃ m, k = m + 1 := ⟨k - 1, by omega⟩
    simp only [spec_Hash.l0]
    obtain ⟨b0, b1⟩ := foldV_bd acc xs[i] h0
    rw [if_pos (by omega), if_pos (by omega), sMod_M, Option.bind_some, fold_wrap acc _ h0 h1, wsucc (show i < xs.length by omega) hn, rd_get _ _ (by omega), ih k (i + 1) _ (by omega) (by omega) b0 b1, drop_cons xs i (by omega)]
    rfl
theorem hashV_bd (l : List Int) : ∀ acc, 0 ≤ acc → acc < 2147483647 → 0 ≤ hashV l acc ∧ hashV l acc < 2147483647 := by
  induction l with
  | nil => intro acc h0 h1; exact ⟨h0, h1⟩
  | cons v l ih => intro acc h0 h1; obtain ⟨b0, b1⟩ := foldV_bd acc v h0; exact ih _ b0 b1
theorem sHash_eq (k : Nat) (l : List Int) (hk : l.length < k) (hn : l.length ≤ 9223372036854775807) : spec_Hash.f k l = some (hashV l 11) := by
  unfold spec_Hash.f
  have := sHash_go l hn l.length k 0 11 (by omega) hk (by omega) (by omega)
  rw [Int.natCast_zero] at this
  rw [this]; rfl

/-- What a keyed hash comes to. -/
def keyedV (key : Int) (l : List Int) : Int := hashV ([key] ++ l ++ [key]) 11
theorem keyedV_bd (key : Int) (l : List Int) : 0 ≤ keyedV key l ∧ keyedV key l < 2147483647 := hashV_bd _ 11 (by omega) (by omega)
theorem iKeyed_go (key : Int) (xs : List Int) (hn : xs.length ≤ 9223372036854775807) : ∀ (d k : Nat) (i : Nat) (acc : Int), i + d = xs.length → d < k → 0 ≤ acc → acc < 2147483647 →
    impl_KeyedHash.l0 k key acc xs (xs.length : Int) (i : Int) = some (foldV (hashV (xs.drop i) acc) key) := by
  intro d
  induction d with
  | zero =>
    intro k i acc hi hk h0 h1
    obtain ⟨k, rfl⟩ : ∃ m, k = m + 1 := ⟨k - 1, by omega⟩
    simp only [impl_KeyedHash.l0]
    rw [if_neg (by omega), List.drop_of_length_le (by omega), iFold acc key h0 h1]; rfl
  | succ d ih =>
    intro k i acc hi hk h0 h1
    obtain ⟨k, rfl⟩ : ∃ m, k = m + 1 := ⟨k - 1, by omega⟩
    simp only [impl_KeyedHash.l0]
    obtain ⟨b0, b1⟩ := foldV_bd acc xs[i] h0
    rw [if_pos (by omega), if_pos (by omega), if_pos (by omega), iFold acc _ h0 h1, Option.bind_some, wsucc (show i < xs.length by omega) hn, rd_get _ _ (by omega), ih k (i + 1) _ (by omega) (by omega) b0 b1, drop_cons xs i (by omega)]
    rfl
theorem iKeyed_eq (k : Nat) (key : Int) (l : List Int) (hk : l.length < k) (hn : l.length ≤ 9223372036854775807) : impl_KeyedHash.f k key l = some (keyedV key l) := by
  unfold impl_KeyedHash.f
  obtain ⟨b0, b1⟩ := foldV_bd 11 key (by omega)
  have := iKeyed_go key l hn l.length k 0 (foldV 11 key) (by omega) hk b0 b1
  rw [Int.natCast_zero] at this
  rw [iFold 11 key (by omega) (by omega), Option.bind_some, this]
  unfold keyedV hashV
  rw [List.foldl_append, List.foldl_append]; rfl

theorem sKeyed_eq (k : Nat) (key : Int) (l : List Int) (hk : l.length + 2 < k) (hn : l.length ≤ 1099511627776) : spec_KeyedHash.f k key l = some (keyedV key l) := by
  unfold spec_KeyedHash.f
  rw [Option.bind_some, if_pos (by simp; omega), Option.bind_some, if_pos (by simp; omega), sHash_eq k _ (by simp; omega) (by simp; omega)]
  rfl

theorem FnExactKeyedHash : laws_FnExactKeyedHash.Pure := by
  intro key l _ _ _ _
  refine ⟨l.length + 3, ?_⟩
  have h0 : l.length < l.length + 3 := by omega
  unfold laws_FnExactKeyedHash.f
  split
  · rfl
  · simp only [toIntS_eq _ l h0 (by omega), Option.bind_some, sKeyed_eq _ key l (show l.length + 2 < l.length + 3 by omega) (by omega), iKeyed_eq _ key l h0 (by omega), laws_eqIntS_eq _ l l h0 (by omega), decide_true, if_true]

end Go.Proofs.Ytmaelgcelbmloaa.Pure
