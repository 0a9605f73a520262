/- The row of FnExactEncodeInts: for every slice of ints (that fits into memory) the law answers true; no condition. -/
import Derived.Laws.BitsLemmas
import Derived.Test.YtepicmocmioiiaaPFnExactEncodeIntsx2
import Derived.Test.YtepicmocmioiiaaWSized
set_option linter.unusedVariables false
set_option linter.unusedSimpArgs false
namespace Go.Proofs.Ytepicmocmioiiaa.PrintWords
open Go.ChangeShapes Go.WideShapes
/-- The words' own theorem, under the name by which the row asks for it. -/
theorem sized_ints {H : Type} {enc : TypeId × Value → H} {P : Program} {W : World} {base : Nat} {spare : Nat → Bool} {held : Bool} {t e : TypeId} {k : IntKind} {a : Option Addr} {len cap : Nat} {d : DataW H} {ps : List MemPlace} {ts : List TypeId} {ds : List (DataW H)} {j : Nat}
    (hsz : (DataW.weightsEach P ts ds).all (· ≤ reachBytes) = true) (ht : ts[j]? = some t) (hd : ds[j]? = some d) (hu : P.underlying t = some (.slice e)) (he : P.underlying e = some (.int k)) (hc : P.cellsOf e = 1) {B : Nat} (hB : P.bytesOf e = B)
    (h : DataW.Trod enc P W base spare held t (.slice a len cap) d ps) : len * B ≤ 140737488351232 := Go.Proofs.YtepicmocmioiiaaW.PrintWords.sized_ints hsz ht hd hu he hc hB h
end Go.Proofs.Ytepicmocmioiiaa.PrintWords

namespace Go.Proofs.Ytepicmocmioiiaa.Pure
open Go.RowKit Go.Proofs.Ytepicmocmioiiaa.PFnExactEncodeInts Go.Proofs.YtepicmocmioiiaaW.PrintWords Go.Proofs.YtepicmocmioiiaaW.PrintLast

theorem wsucc {i n : Nat} (h : i < n) (hn : n ≤ 9223372036854775807) : wrap64 ((i : Int) + 1) = ((i + 1 : Nat) : Int) := by unfold wrap64; omega
theorem rd_nat (xs : List Int) (i : Nat) : rd xs (i : Int) = xs.getD i 0 := by unfold rd; rw [Int.toNat_natCast]
theorem rd_get (xs : List Int) (i : Nat) (h : i < xs.length) : rd xs (i : Int) = xs[i] := by
  rw [rd_nat, List.getD_eq_getElem?_getD, List.getElem?_eq_getElem h]; rfl
theorem drop_cons {α : Type} (xs : List α) (i : Nat) (h : i < xs.length) : xs.drop i = xs[i] :: xs.drop (i + 1) := (List.drop_eq_getElem_cons h)
theorem set_take {α : Type} (ys : List α) (i : Nat) (v : α) (h : i < ys.length) : (ys.set i v).take (i + 1) = ys.take i ++ [v] := by
  rw [List.take_succ_eq_append_getElem (by simpa using h)]
  rw [List.take_set, List.set_eq_of_length_le (by simp; omega)]
  simp

theorem toIntS_go (xs : List Int) (hn : xs.length ≤ 9223372036854775807) : ∀ (d k : Nat) (ys : List Int) (i : Nat), ys.length = xs.length → i + d = xs.length → d < k →
    laws_toIntS.l0 k xs ys (i : Int) = some (ys.take i ++ xs.drop i) := by
  intro d
  induction d with
  | zero =>
    intro k ys i hl hi hk
    obtain ⟨k, rfl⟩ : ∃ m, k = m + 1 := ⟨k - 1, by omega⟩
    simp only [laws_toIntS.l0]
    rw [if_neg (by omega), List.take_of_length_le (by omega), List.drop_of_length_le (by omega), List.append_nil]
  | succ d ih =>
    intro k ys i hl hi hk
    obtain ⟨k, rfl⟩ : ∃ m, k = m + 1 := ⟨k - 1, by omega⟩
    simp only [laws_toIntS.l0]
    rw [if_pos (by omega), if_pos (by omega), if_pos (by omega), wsucc (show i < xs.length by omega) hn, ih k _ (i + 1) (by simpa using hl) (by omega) (by omega), Int.toNat_natCast, set_take _ _ _ (by omega), rd_get _ _ (by omega), List.append_assoc, drop_cons xs i (by omega)]
    rfl
theorem toIntS_eq (k : Nat) (l : List Int) (hk : l.length < k) (hn : l.length ≤ 35184372088832) : laws_toIntS.f k l = some l := by
  unfold laws_toIntS.f
  rw [if_pos (by omega), if_pos (by omega)]
  have := toIntS_go l (by omega) l.length k (List.replicate ((l.length : Int)).toNat 0) 0 (by simp) (by omega) (by omega)
  rw [Int.natCast_zero] at this
  rw [this]; simp

theorem laws_eqIntS_go (xs ys : List Int) (hl : xs.length = ys.length) (hn : xs.length ≤ 9223372036854775807) : ∀ (d k : Nat) (i : Nat), i + d = xs.length → d < k →
    laws_eqIntS.l0 k xs ys (i : Int) = some (decide (xs.drop i = ys.drop i)) := by
  intro d
  induction d with
  | zero =>
    intro k i hi hk
    obtain ⟨k, rfl⟩ : ∃ m, k = m + 1 := ⟨k - 1, by omega⟩
    simp only [laws_eqIntS.l0]
    rw [if_neg (by omega), List.drop_of_length_le (by omega), List.drop_of_length_le (by omega)]; rfl
  | succ d ih =>
    intro k i hi hk
    obtain ⟨k, rfl⟩ : ∃ m, k = m + 1 := ⟨k - 1, by omega⟩
    simp only [laws_eqIntS.l0]
    rw [if_pos (by omega), if_pos (by omega), if_pos (by omega), wsucc (show i < xs.length by omega) hn, ih k (i + 1) (by omega) (by omega), rd_get _ _ (by omega), rd_get _ _ (by omega), drop_cons xs i (by omega), drop_cons ys i (by omega)]
    split
    · rename_i h; simp only [List.cons.injEq, h, true_and]
    · rename_i h; simp only [List.cons.injEq, h, false_and, decide_false]
theorem laws_eqIntS_eq (k : Nat) (a b : List Int) (hk : a.length < k) (hn : a.length ≤ 9223372036854775807) : laws_eqIntS.f k a b = some (decide (a = b)) := by
  unfold laws_eqIntS.f
  by_cases h : a.length = b.length
  · rw [if_pos (by omega)]
    have := laws_eqIntS_go a b h hn a.length k 0 (by omega) hk
    rw [Int.natCast_zero] at this
    rw [this]; rfl
  · rw [if_neg (by omega)]; congr 1; symm; rw [decide_eq_false_iff_not]; intro e; exact h (by rw [e])

def markIntL (n : Nat) (m : Int) : List Int := (List.range n).map fun (j : Nat) => m + (j : Int)
theorem markIntS_go (m : Int) (h0 : 0 ≤ m) (n : Nat) (hm : m + n ≤ 9223372036854775807) : ∀ (d k : Nat) (ys : List Int) (i : Nat), ys.length = n → ys.take i = markIntL i m → i + d = n → d < k →
    laws_markIntS.l0 k ys (m + i) (i : Int) = some (m + n, markIntL n m) := by
  intro d
  induction d with
  | zero =>
    intro k ys i hl ht hi hk
    obtain ⟨k, rfl⟩ : ∃ m, k = m + 1 := ⟨k - 1, by omega⟩
    simp only [laws_markIntS.l0]
    obtain rfl : i = n := by omega
    rw [if_neg (by omega), ← ht, List.take_of_length_le (by omega)]
  | succ d ih =>
    intro k ys i hl ht hi hk
    obtain ⟨k, rfl⟩ : ∃ m, k = m + 1 := ⟨k - 1, by omega⟩
    simp only [laws_markIntS.l0]
    rw [if_pos (by omega), if_pos (by omega), wsucc (show i < n by omega) (by omega), Int.toNat_natCast]
    have e : wrap64 (m + (i : Int) + 1) = m + ((i + 1 : Nat) : Int) := by unfold wrap64; omega
    rw [e]
    refine ih k _ (i + 1) (by simpa using hl) ?_ (by omega) (by omega)
    rw [set_take _ _ _ (by omega), ht]; unfold markIntL
    rw [List.range_succ, List.map_append]; rfl
theorem markIntS_eq (k : Nat) (l : List Int) (m : Int) (h0 : 0 ≤ m) (hm : m + l.length ≤ 9223372036854775807) (hk : l.length < k) : laws_markIntS.f k l m = some (m + l.length, markIntL l.length m) := by
  unfold laws_markIntS.f
  have := markIntS_go m h0 l.length hm l.length k l 0 rfl (by simp [markIntL]) (by omega) hk
  rw [Int.natCast_zero, Int.add_zero] at this
  exact this

theorem laws_eqByteS_go (xs ys : List Int) (hl : xs.length = ys.length) (hn : xs.length ≤ 9223372036854775807) : ∀ (d k : Nat) (i : Nat), i + d = xs.length → d < k →
    laws_eqByteS.l0 k xs ys (i : Int) = some (decide (xs.drop i = ys.drop i)) := by
  intro d
  induction d with
  | zero =>
    intro k i hi hk
    obtain ⟨k, rfl⟩ : ∃ m, k = m + 1 := ⟨k - 1, by omega⟩
    simp only [laws_eqByteS.l0]
    rw [if_neg (by omega), List.drop_of_length_le (by omega), List.drop_of_length_le (by omega)]; rfl
  | succ d ih =>
    intro k i hi hk
    obtain ⟨k, rfl⟩ : ∃ m, k = m + 1 := ⟨k - 1, by omega⟩
    simp only [laws_eqByteS.l0]
    rw [if_pos (by omega), if_pos (by omega), if_pos (by omega), wsucc (show i < xs.length by omega) hn, ih k (i + 1) (by omega) (by omega), rd_get _ _ (by omega), rd_get _ _ (by omega), drop_cons xs i (by omega), drop_cons ys i (by omega)]
    split
    · rename_i h; simp only [List.cons.injEq, h, true_and]
    · rename_i h; simp only [List.cons.injEq, h, false_and, decide_false]
theorem laws_eqByteS_eq (k : Nat) (a b : List Int) (hk : a.length < k) (hn : a.length ≤ 9223372036854775807) : laws_eqByteS.f k a b = some (decide (a = b)) := by
  unfold laws_eqByteS.f
  by_cases h : a.length = b.length
  · rw [if_pos (by omega)]
    have := laws_eqByteS_go a b h hn a.length k 0 (by omega) hk
    rw [Int.natCast_zero] at this
    rw [this]; rfl
  · rw [if_neg (by omega)]; congr 1; symm; rw [decide_eq_false_iff_not]; intro e; exact h (by rw [e])

def markByteL (n : Nat) (m : Int) : List Int := (List.range n).map fun (j : Nat) => (m + (j : Int)) % 256
theorem markByteS_go (m : Int) (h0 : 0 ≤ m) (n : Nat) (hm : m + n ≤ 9223372036854775807) : ∀ (d k : Nat) (ys : List Int) (i : Nat), ys.length = n → ys.take i = markByteL i m → i + d = n → d < k →
    laws_markByteS.l0 k ys (m + i) (i : Int) = some (m + n, markByteL n m) := by
  intro d
  induction d with
  | zero =>
    intro k ys i hl ht hi hk
    obtain ⟨k, rfl⟩ : ∃ m, k = m + 1 := ⟨k - 1, by omega⟩
    simp only [laws_markByteS.l0]
    obtain rfl : i = n := by omega
    rw [if_neg (by omega), ← ht, List.take_of_length_le (by omega)]
  | succ d ih =>
    intro k ys i hl ht hi hk
    obtain ⟨k, rfl⟩ : ∃ m, k = m + 1 := ⟨k - 1, by omega⟩
    simp only [laws_markByteS.l0]
    rw [if_pos (by omega), if_pos (by omega), wsucc (show i < n by omega) (by omega), Int.toNat_natCast]
    have e : wrap64 (m + (i : Int) + 1) = m + ((i + 1 : Nat) : Int) := by unfold wrap64; omega
    rw [e]
    refine ih k _ (i + 1) (by simpa using hl) ?_ (by omega) (by omega)
    rw [set_take _ _ _ (by omega), ht]; unfold markByteL
    rw [List.range_succ, List.map_append]; rfl
theorem markByteS_eq (k : Nat) (l : List Int) (m : Int) (h0 : 0 ≤ m) (hm : m + l.length ≤ 9223372036854775807) (hk : l.length < k) : laws_markByteS.f k l m = some (m + l.length, markByteL l.length m) := by
  unfold laws_markByteS.f
  have := markByteS_go m h0 l.length hm l.length k l 0 rfl (by simp [markByteL]) (by omega) hk
  rw [Int.natCast_zero, Int.add_zero] at this
  exact this

theorem markByteL_length (n : Nat) (m : Int) : (markByteL n m).length = n := by simp [markByteL]
theorem heldByteS_go (m : Int) (h0 : 0 ≤ m) (n : Nat) (hm : m + n ≤ 9223372036854775807) : ∀ (d k : Nat) (i : Nat), i + d = n → d < k →
    laws_heldByteS.l0 k (markByteL n m) (m + i) (i : Int) = some (m + n) := by
  intro d
  induction d with
  | zero =>
    intro k i hi hk
    obtain ⟨k, rfl⟩ : ∃ m, k = m + 1 := ⟨k - 1, by omega⟩
    simp only [laws_heldByteS.l0]
    obtain rfl : i = n := by omega
    rw [if_neg (by rw [markByteL_length]; omega)]
  | succ d ih =>
    intro k i hi hk
    obtain ⟨k, rfl⟩ : ∃ m, k = m + 1 := ⟨k - 1, by omega⟩
    simp only [laws_heldByteS.l0]
    have hl := markByteL_length n m
    have e : wrap64 (m + (i : Int) + 1) = m + ((i + 1 : Nat) : Int) := by unfold wrap64; omega
    have hr : rd (markByteL n m) (i : Int) = (m + (i : Int)) % 256 := by
      rw [rd_get _ _ (by omega)]; simp [markByteL]
    rw [if_pos (by omega), if_pos (by omega), if_pos hr, wsucc (show i < n by omega) (by omega), e]
    exact ih k (i + 1) (by omega) (by omega)
theorem heldByteS_eq (k n : Nat) (m : Int) (h0 : 0 ≤ m) (hm : m + n ≤ 9223372036854775807) (hk : n < k) : laws_heldByteS.f k (markByteL n m) m = some (m + n) := by
  unfold laws_heldByteS.f
  have := heldByteS_go m h0 n hm n k 0 (by omega) hk
  rw [Int.natCast_zero, Int.add_zero] at this
  exact this

theorem in1 (a b c : Int) : spec_l1In.f a b c = some (decide (b ≤ a ∧ a ≤ c)) := by
  unfold spec_l1In.f
  by_cases h : a ≥ b
  · rw [if_pos h]; congr 1; simp only [decide_eq_decide]; omega
  · rw [if_neg h]; congr 1; symm; simp only [decide_eq_false_iff_not]; omega

theorem inr (a b c : Int) : impl_InRange.f a b c = some (decide (b ≤ a ∧ a ≤ c)) := by
  unfold impl_InRange.f
  by_cases h : b ≤ a
  · rw [if_pos h]; congr 1; simp only [decide_eq_decide]; omega
  · rw [if_neg h]; congr 1; symm; simp only [decide_eq_false_iff_not]; omega

theorem wraps_i64 (n : Int) (h0 : 0 ≤ n) (h1 : n < 2 ^ 63) : IntKind.i64.wrap n = n := by rw [IntKind.wrap_i64]; omega
/-- or of low bits with high ones. -/
theorem or_hi (k : IntKind) (j : Nat) (hj : j ≤ k.bits) (hk : ∀ n : Int, 0 ≤ n → n < 2 ^ j → k.wrap n = n) (i : Nat)
    (x y : Int) (hx0 : 0 ≤ x) (hx : x % 2 ^ i = 0) (hx1 : x < 2 ^ j) (hy0 : 0 ≤ y) (hy : y < 2 ^ i) (hy1 : y < 2 ^ j) : Go.bits .or k y x = y + x := by
  have e := bits_join k j hj hk i x y hx0 hx hx1 hy0 hy hy1
  obtain ⟨a, rfl⟩ := Int.eq_ofNat_of_zero_le hx0
  obtain ⟨b, rfl⟩ := Int.eq_ofNat_of_zero_le hy0
  have ha : a < 2 ^ j := by exact_mod_cast hx1
  have hb : b < 2 ^ j := by exact_mod_cast hy1
  rw [(bits_nat k j hj hk a b ha hb).2] at e
  rw [(bits_nat k j hj hk b a hb ha).2, Nat.or_comm, e, Int.add_comm]
theorem and127_i64 (x : Int) (h0 : 0 ≤ x) (h1 : x < 2 ^ 63) : Go.bits .and .i64 x 127 = x % 128 := bits_mask .i64 63 (by decide) wraps_i64 7 (by decide) x h0 h1
theorem and127_u8 (x : Int) (h0 : 0 ≤ x) (h1 : x < 256) : Go.bits .and .u8 x 127 = x % 128 := bits_mask .u8 8 (by decide) wraps_u8 7 (by decide) x h0 h1
theorem or128_i64 (x : Int) (h0 : 0 ≤ x) (h1 : x < 128) : Go.bits .or .i64 x 128 = x + 128 := or_hi .i64 63 (by decide) wraps_i64 7 128 x (by decide) (by decide) (by decide) h0 h1 (by omega)
theorem or128_u8 (x : Int) (h0 : 0 ≤ x) (h1 : x < 128) : Go.bits .or .u8 x 128 = x + 128 := or_hi .u8 8 (by decide) wraps_u8 7 128 x (by decide) (by decide) (by decide) h0 h1 (by omega)

/-- The bytes of a varint: at most d + 1 of them. -/
def uvL : Nat → Int → List Int
  | 0, n => [n]
  | d + 1, n => if n > 127 then (n % 128 + 128) :: uvL d (n / 128) else [n]
def uv (n : Int) : List Int := if 0 ≤ n ∧ n ≤ 1000000000000 then uvL 5 n else []
theorem uvL_length (d : Nat) : ∀ n, (uvL d n).length ≤ d + 1 := by
  induction d with
  | zero => intro n; simp [uvL]
  | succ d ih => intro n; simp only [uvL]; split
                 · have := ih (n / 128); simp only [List.length_cons]; omega
                 · simp
theorem uv_length (n : Int) : (uv n).length ≤ 6 := by
  unfold uv; split
  · exact uvL_length 5 n
  · simp

theorem implApp_go (d : Nat) : ∀ (k : Nat) (n : Int) (b : List Int), d < k → 0 ≤ n → n < 9223372036854775808 → n < 128 * 128 ^ d → b.length + (d + 1) ≤ 140737488355328 →
    impl_AppendUvarint.l0 k n b = some (b ++ uvL d n) := by
  induction d with
  | zero =>
    intro k n b hk h0 hb h1 hl
    obtain ⟨k, rfl⟩ : ∃ m, k = m + 1 := ⟨k - 1, by omega⟩
    simp only [impl_AppendUvarint.l0]
    rw [if_neg (by omega), if_pos (by omega)]
    unfold uvL
    rw [Int.emod_eq_of_lt h0 (by omega)]
  | succ d ih =>
    intro k n b hk h0 hb h1 hl
    obtain ⟨k, rfl⟩ : ∃ m, k = m + 1 := ⟨k - 1, by omega⟩
    simp only [impl_AppendUvarint.l0, uvL]
    by_cases h : n > 127
    · rw [if_pos h, if_pos h, if_pos (by omega)]
      have hp : (128 : Int) ^ (d + 1) = 128 ^ d * 128 := Int.pow_succ ..
      rw [ih k _ _ (by omega) (by omega) (by omega) (by rw [hp] at h1; omega) (by simp only [List.length_append, List.length_cons, List.length_nil]; omega)]
      rw [and127_i64 n h0 (by omega), Int.emod_eq_of_lt (a := n % 128) (b := 256) (by omega) (by omega), or128_u8 _ (by omega) (by omega)]
      rw [List.append_assoc]; rfl
    · rw [if_neg h, if_neg h, if_pos (by omega), Int.emod_eq_of_lt h0 (by omega)]
theorem implApp_eq (k : Nat) (b : List Int) (n : Int) (hk : 5 < k) (hl : b.length + 6 < 140737488355328) : impl_AppendUvarint.f k b n = some (b ++ uv n) := by
  unfold impl_AppendUvarint.f
  rw [Option.bind_some, if_pos (by simp; omega), Option.bind_some, List.nil_append, inr, Option.bind_some]
  unfold uv
  by_cases h : 0 ≤ n ∧ n ≤ 1000000000000
  · rw [if_pos (by rw [decide_eq_true h]), if_pos h, implApp_go 5 k n b hk h.1 (by omega) (by omega) (by omega)]
  · rw [if_neg (by rw [decide_eq_false h]; decide), if_neg h, List.append_nil]

def encL (l : List Int) : List Int := l.flatMap uv
theorem encL_cons (a : Int) (l : List Int) : encL (a :: l) = uv a ++ encL l := by simp [encL]
theorem encL_length (l : List Int) : (encL l).length ≤ 6 * l.length := by
  induction l with
  | nil => simp [encL]
  | cons a l ih =>
    have e : encL (a :: l) = uv a ++ encL l := by simp [encL]
    have := uv_length a
    rw [e, List.length_append, List.length_cons]; omega
theorem iEnc_go (xs : List Int) (hn : xs.length ≤ 1099511627776) : ∀ (d k : Nat) (i : Nat) (out : List Int), i + d = xs.length → d + 5 < k → out.length ≤ 6 * i →
    impl_EncodeInts.l0 k out xs (xs.length : Int) (i : Int) = some (out ++ encL (xs.drop i)) := by
  intro d
  induction d with
  | zero =>
    intro k i out hi hk ho
    obtain ⟨k, rfl⟩ : ∃ m, k = m + 1 := ⟨k - 1, by omega⟩
    simp only [impl_EncodeInts.l0]
    rw [if_neg (by omega), List.drop_of_length_le (by omega)]; simp [encL]
  | succ d ih =>
    intro k i out hi hk ho
    obtain ⟨k, rfl⟩ : ∃ m, k = m + 1 := ⟨k - 1, by omega⟩
    simp only [impl_EncodeInts.l0]
    have hu := uv_length xs[i]
    rw [if_pos (by omega), if_pos (by omega), if_pos (by omega), wsucc (show i < xs.length by omega) (by omega), rd_get _ _ (by omega), implApp_eq k _ _ (by omega) (by omega), Option.bind_some, ih k (i + 1) _ (by omega) (by omega) (by rw [List.length_append]; omega), drop_cons xs i (by omega), List.append_assoc, encL_cons]
theorem iEnc_eq (k : Nat) (l : List Int) (hk : l.length + 5 < k) (hn : l.length ≤ 1099511627776) : impl_EncodeInts.f k l = some (encL l) := by
  unfold impl_EncodeInts.f
  have := iEnc_go l hn l.length k 0 [] (by omega) hk (by simp)
  rw [Int.natCast_zero] at this
  rw [this]; rfl

theorem specApp_go (d : Nat) : ∀ (k : Nat) (n : Int) (b : List Int), d < k → 0 ≤ n → n < 9223372036854775808 → n < 128 * 128 ^ d → b.length + (d + 1) ≤ 140737488355328 →
    spec_AppendUvarint.l0 k n b = some (b ++ uvL d n) := by
  induction d with
  | zero =>
    intro k n b hk h0 hb h1 hl
    obtain ⟨k, rfl⟩ : ∃ m, k = m + 1 := ⟨k - 1, by omega⟩
    simp only [spec_AppendUvarint.l0]
    rw [if_neg (by omega), if_pos (by omega)]
    unfold uvL
    rw [Int.emod_eq_of_lt h0 (by omega)]
  | succ d ih =>
    intro k n b hk h0 hb h1 hl
    obtain ⟨k, rfl⟩ : ∃ m, k = m + 1 := ⟨k - 1, by omega⟩
    simp only [spec_AppendUvarint.l0, uvL]
    by_cases h : n > 127
    · rw [if_pos h, if_pos h, if_pos (by omega)]
      have hp : (128 : Int) ^ (d + 1) = 128 ^ d * 128 := Int.pow_succ ..
      rw [ih k _ _ (by omega) (by omega) (by omega) (by rw [hp] at h1; omega) (by simp only [List.length_append, List.length_cons, List.length_nil]; omega)]
      rw [and127_i64 n h0 (by omega), or128_i64 _ (by omega) (by omega), Int.emod_eq_of_lt (by omega) (by omega)]
      rw [List.append_assoc]; rfl
    · rw [if_neg h, if_neg h, if_pos (by omega), Int.emod_eq_of_lt h0 (by omega)]
theorem specApp_eq (k : Nat) (b : List Int) (n : Int) (hk : 5 < k) (hl : b.length + 6 < 140737488355328) : spec_AppendUvarint.f k b n = some (b ++ uv n) := by
  unfold spec_AppendUvarint.f
  rw [Option.bind_some, if_pos (by simp; omega), Option.bind_some, List.nil_append, in1, Option.bind_some]
  unfold uv
  by_cases h : 0 ≤ n ∧ n ≤ 1000000000000
  · rw [if_pos (by rw [decide_eq_true h]), if_pos h, specApp_go 5 k n b hk h.1 (by omega) (by omega) (by omega)]
  · rw [if_neg (by rw [decide_eq_false h]; decide), if_neg h, List.append_nil]

theorem sEnc_go (xs : List Int) (hn : xs.length ≤ 1099511627776) : ∀ (d k : Nat) (i : Nat) (out : List Int), i + d = xs.length → d + 5 < k → out.length ≤ 6 * i →
    spec_EncodeInts.l0 k xs out (i : Int) = some (out ++ encL (xs.drop i)) := by
  intro d
  induction d with
  | zero =>
    intro k i out hi hk ho
    obtain ⟨k, rfl⟩ : ∃ m, k = m + 1 := ⟨k - 1, by omega⟩
    simp only [spec_EncodeInts.l0]
    rw [if_neg (by omega), List.drop_of_length_le (by omega)]; simp [encL]
  | succ d ih =>
    intro k i out hi hk ho
    obtain ⟨k, rfl⟩ : ∃ m, k = m + 1 := ⟨k - 1, by omega⟩
    simp only [spec_EncodeInts.l0]
    have hu := uv_length xs[i]
    rw [if_pos (by omega), if_pos (by omega), wsucc (show i < xs.length by omega) (by omega), rd_get _ _ (by omega), specApp_eq k _ _ (by omega) (by omega), Option.bind_some, ih k (i + 1) _ (by omega) (by omega) (by rw [List.length_append]; omega), drop_cons xs i (by omega), List.append_assoc, encL_cons]
theorem sEnc_eq (k : Nat) (l : List Int) (hk : l.length + 5 < k) (hn : l.length ≤ 1099511627776) : spec_EncodeInts.f k l = some (encL l) := by
  unfold spec_EncodeInts.f
  have := sEnc_go l hn l.length k 0 [] (by omega) hk (by simp)
  rw [Int.natCast_zero] at this
  rw [this]; rfl

theorem FnExactEncodeInts : laws_FnExactEncodeInts.Pure := by
  intro l _ _ _
  refine ⟨(l.length + 6 * l.length + 10) + 2, ?_⟩
  unfold laws_FnExactEncodeInts.f
  split
  · rfl
  · skip
    have hu := encL_length l
    have t_l : ∀ k, l.length + 6 * l.length + 10 < k → laws_toIntS.f k l = some l := fun k hk => toIntS_eq k l (by omega) (by omega)
    have q_l : ∀ k, l.length + 6 * l.length + 10 < k → laws_eqIntS.f k l l = some true := fun k hk => by rw [laws_eqIntS_eq k _ _ (by omega) (by omega)]; simp
    have m_l : ∀ k, l.length + 6 * l.length + 10 < k → laws_markIntS.f k l (1) = some ((1 : Int) + (l.length : Int), markIntL l.length (1)) := fun k hk => markIntS_eq k l (1) (by omega) (by omega) (by omega)
    have b2 : ¬ ((1 : Int) + (l.length : Int) < 0) := by omega
    have sR : ∀ k, l.length + 6 * l.length + 10 < k → spec_EncodeInts.f k l = some (encL l) := fun k hk => sEnc_eq k l (by omega) (by omega)
    have iR : ∀ k, l.length + 6 * l.length + 10 < k → impl_EncodeInts.f k l = some (encL l) := fun k hk => iEnc_eq k l (by omega) (by omega)
    have qR : ∀ k, l.length + 6 * l.length + 10 < k → laws_eqByteS.f k (encL l) (encL l) = some true := fun k hk => by rw [laws_eqByteS_eq k _ _ (by omega) (by omega)]; simp
    have mR : ∀ k, l.length + 6 * l.length + 10 < k → laws_markByteS.f k (encL l) 1 = some ((1 : Int) + ((encL l).length : Int), markByteL (encL l).length 1) := fun k hk => markByteS_eq k _ 1 (by omega) (by omega) (by omega)
    have hR : ∀ k, l.length + 6 * l.length + 10 < k → laws_heldByteS.f k (markByteL (encL l).length 1) 1 = some ((1 : Int) + ((encL l).length : Int)) := fun k hk => heldByteS_eq k _ 1 (by omega) (by omega) (by omega)
    have b1 : ¬ ((1 : Int) + ((encL l).length : Int) < 0) := by omega
    have a1 : l.length + 6 * l.length + 10 < (l.length + 6 * l.length + 10) + 2 := by omega
    have a2 : l.length + 6 * l.length + 10 < (l.length + 6 * l.length + 10) + 1 := by omega
    simp only [t_l _ a1, q_l _ a1, m_l _ a1, sR _ a1, iR _ a1, qR _ a1, Option.bind_some, if_true, if_neg b2, laws_FnExactEncodeInts.j0, Bool.not_true, Bool.false_eq_true, if_false, t_l _ a2, iR _ a2, qR _ a2, mR _ a2, hR _ a2, if_neg b1]

end Go.Proofs.Ytepicmocmioiiaa.Pure
