/- The row of FnExactDecodeInts: for every slice of bytes (that fits into memory) and every two ints the law answers true; no condition. -/
import Derived.Laws.BitsLemmas
import Derived.Test.YtepicmocmioiiaaPFnExactDecodeIntsx3
import Derived.Test.YtepicmocmioiiaaWSized
set_option linter.unusedVariables false
set_option linter.unusedSimpArgs false
namespace Go.Proofs.Ytepicmocmioiiaa.PrintWords
open Go.ChangeShapes Go.WideShapes
/-- The words' own theorem, under the name by which the row asks for it. -/
theorem sized_ints {H : Type} {enc : TypeId × Value → H} {P : Program} {W : World} {base : Nat} {spare : Nat → Bool} {held : Bool} {t e : TypeId} {k : IntKind} {a : Option Addr} {len cap : Nat} {d : DataW H} {ps : List MemPlace} {ts : List TypeId} {ds : List (DataW H)} {j : Nat}
    (hsz : (DataW.weightsEach P ts ds).all (· ≤ reachBytes) = true) (ht : ts[j]? = some t) (hd : ds[j]? = some d) (hu : P.underlying t = some (.slice e)) (he : P.underlying e = some (.int k)) (hc : P.cellsOf e = 1) {B : Nat} (hB : P.bytesOf e = B)
    (h : DataW.Trod enc P W base spare held t (.slice a len cap) d ps) : len * B ≤ 140737488351232 := Go.Proofs.YtepicmocmioiiaaW.PrintWords.sized_ints hsz ht hd hu he hc hB h
end Go.Proofs.Ytepicmocmioiiaa.PrintWords

namespace Go.Proofs.Ytepicmocmioiiaa.Pure
open Go.RowKit Go.Proofs.Ytepicmocmioiiaa.PFnExactDecodeInts Go.Proofs.YtepicmocmioiiaaW.PrintWords Go.Proofs.YtepicmocmioiiaaW.PrintLast

theorem wsucc {i n : Nat} (h : i < n) (hn : n ≤ 9223372036854775807) : wrap64 ((i : Int) + 1) = ((i + 1 : Nat) : Int) := by unfold wrap64; omega
theorem rd_nat (xs : List Int) (i : Nat) : rd xs (i : Int) = xs.getD i 0 := by unfold rd; rw [Int.toNat_natCast]
theorem rd_get (xs : List Int) (i : Nat) (h : i < xs.length) : rd xs (i : Int) = xs[i] := by
  rw [rd_nat, List.getD_eq_getElem?_getD, List.getElem?_eq_getElem h]; rfl
theorem drop_cons {α : Type} (xs : List α) (i : Nat) (h : i < xs.length) : xs.drop i = xs[i] :: xs.drop (i + 1) := (List.drop_eq_getElem_cons h)
theorem set_take {α : Type} (ys : List α) (i : Nat) (v : α) (h : i < ys.length) : (ys.set i v).take (i + 1) = ys.take i ++ [v] := by
  rw [List.take_succ_eq_append_getElem (by simpa using h)]
  rw [List.take_set, List.set_eq_of_length_le (by simp; omega)]
  simp

theorem toByteS_go (xs : List Int) (hn : xs.length ≤ 9223372036854775807) : ∀ (d k : Nat) (ys : List Int) (i : Nat), ys.length = xs.length → i + d = xs.length → d < k →
    laws_toByteS.l0 k xs ys (i : Int) = some (ys.take i ++ xs.drop i) := by
  intro d
  induction d with
  | zero =>
    intro k ys i hl hi hk
    obtain ⟨k, rfl⟩ : ∃ m, k = m + 1 := ⟨k - 1, by omega⟩
    simp only [laws_toByteS.l0]
    rw [if_neg (by omega), List.take_of_length_le (by omega), List.drop_of_length_le (by omega), List.append_nil]
  | succ d ih =>
    intro k ys i hl hi hk
    obtain ⟨k, rfl⟩ : ∃ m, k = m + 1 := ⟨k - 1, by omega⟩
    simp only [laws_toByteS.l0]
    rw [if_pos (by omega), if_pos (by omega), if_pos (by omega), wsucc (show i < xs.length by omega) hn, ih k _ (i + 1) (by simpa using hl) (by omega) (by omega), Int.toNat_natCast, set_take _ _ _ (by omega), rd_get _ _ (by omega), List.append_assoc, drop_cons xs i (by omega)]
    rfl
theorem toByteS_eq (k : Nat) (l : List Int) (hk : l.length < k) (hn : l.length ≤ 35184372088832) : laws_toByteS.f k l = some l := by
  unfold laws_toByteS.f
  rw [if_pos (by omega), if_pos (by omega)]
  have := toByteS_go l (by omega) l.length k (List.replicate ((l.length : Int)).toNat 0) 0 (by simp) (by omega) (by omega)
  rw [Int.natCast_zero] at this
  rw [this]; simp

theorem laws_eqByteS_go (xs ys : List Int) (hl : xs.length = ys.length) (hn : xs.length ≤ 9223372036854775807) : ∀ (d k : Nat) (i : Nat), i + d = xs.length → d < k →
    laws_eqByteS.l0 k xs ys (i : Int) = some (decide (xs.drop i = ys.drop i)) := by
  intro d
  induction d with
  | zero =>
    intro k i hi hk
    obtain ⟨k, rfl⟩ : ∃ m, k = m + 1 := ⟨k - 1, by omega⟩
    simp only [laws_eqByteS.l0]
    rw [if_neg (by omega), List.drop_of_length_le (by omega), List.drop_of_length_le (by omega)]; rfl
  | succ d ih =>
    intro k i hi hk
    obtain ⟨k, rfl⟩ : ∃ m, k = m + 1 := ⟨k - 1, by omega⟩
    simp only [laws_eqByteS.l0]
    rw [if_pos (by omega), if_pos (by omega), if_pos (by omega), wsucc (show i < xs.length by omega) hn, ih k (i + 1) (by omega) (by omega), rd_get _ _ (by omega), rd_get _ _ (by omega), drop_cons xs i (by omega), drop_cons ys i (by omega)]
    split
    · rename_i h; simp only [List.cons.injEq, h, true_and]
    · rename_i h; simp only [List.cons.injEq, h, false_and, decide_false]
theorem laws_eqByteS_eq (k : Nat) (a b : List Int) (hk : a.length < k) (hn : a.length ≤ 9223372036854775807) : laws_eqByteS.f k a b = some (decide (a = b)) := by
  unfold laws_eqByteS.f
  by_cases h : a.length = b.length
  · rw [if_pos (by omega)]
    have := laws_eqByteS_go a b h hn a.length k 0 (by omega) hk
    rw [Int.natCast_zero] at this
    rw [this]; rfl
  · rw [if_neg (by omega)]; congr 1; symm; rw [decide_eq_false_iff_not]; intro e; exact h (by rw [e])

def markByteL (n : Nat) (m : Int) : List Int := (List.range n).map fun (j : Nat) => (m + (j : Int)) % 256
theorem markByteS_go (m : Int) (h0 : 0 ≤ m) (n : Nat) (hm : m + n ≤ 9223372036854775807) : ∀ (d k : Nat) (ys : List Int) (i : Nat), ys.length = n → ys.take i = markByteL i m → i + d = n → d < k →
    laws_markByteS.l0 k ys (m + i) (i : Int) = some (m + n, markByteL n m) := by
  intro d
  induction d with
  | zero =>
    intro k ys i hl ht hi hk
    obtain ⟨k, rfl⟩ : ∃ m, k = m + 1 := ⟨k - 1, by omega⟩
    simp only [laws_markByteS.l0]
    obtain rfl : i = n := by omega
    rw [if_neg (by omega), ← ht, List.take_of_length_le (by omega)]
  | succ d ih =>
    intro k ys i hl ht hi hk
    obtain ⟨k, rfl⟩ : ∃ m, k = m + 1 := ⟨k - 1, by omega⟩
    simp only [laws_markByteS.l0]
    rw [if_pos (by omega), if_pos (by omega), wsucc (show i < n by omega) (by omega), Int.toNat_natCast]
    have e : wrap64 (m + (i : Int) + 1) = m + ((i + 1 : Nat) : Int) := by unfold wrap64; omega
    rw [e]
    refine ih k _ (i + 1) (by simpa using hl) ?_ (by omega) (by omega)
    rw [set_take _ _ _ (by omega), ht]; unfold markByteL
    rw [List.range_succ, List.map_append]; rfl
theorem markByteS_eq (k : Nat) (l : List Int) (m : Int) (h0 : 0 ≤ m) (hm : m + l.length ≤ 9223372036854775807) (hk : l.length < k) : laws_markByteS.f k l m = some (m + l.length, markByteL l.length m) := by
  unfold laws_markByteS.f
  have := markByteS_go m h0 l.length hm l.length k l 0 rfl (by simp [markByteL]) (by omega) hk
  rw [Int.natCast_zero, Int.add_zero] at this
  exact this

theorem laws_eqIntS_go (xs ys : List Int) (hl : xs.length = ys.length) (hn : xs.length ≤ 9223372036854775807) : ∀ (d k : Nat) (i : Nat), i + d = xs.length → d < k →
    laws_eqIntS.l0 k xs ys (i : Int) = some (decide (xs.drop i = ys.drop i)) := by
  intro d
  induction d with
  | zero =>
    intro k i hi hk
    obtain ⟨k, rfl⟩ : ∃ m, k = m + 1 := ⟨k - 1, by omega⟩
    simp only [laws_eqIntS.l0]
    rw [if_neg (by omega), List.drop_of_length_le (by omega), List.drop_of_length_le (by omega)]; rfl
  | succ d ih =>
    intro k i hi hk
    obtain ⟨k, rfl⟩ : ∃ m, k = m + 1 := ⟨k - 1, by omega⟩
    simp only [laws_eqIntS.l0]
    rw [if_pos (by omega), if_pos (by omega), if_pos (by omega), wsucc (show i < xs.length by omega) hn, ih k (i + 1) (by omega) (by omega), rd_get _ _ (by omega), rd_get _ _ (by omega), drop_cons xs i (by omega), drop_cons ys i (by omega)]
    split
    · rename_i h; simp only [List.cons.injEq, h, true_and]
    · rename_i h; simp only [List.cons.injEq, h, false_and, decide_false]
theorem laws_eqIntS_eq (k : Nat) (a b : List Int) (hk : a.length < k) (hn : a.length ≤ 9223372036854775807) : laws_eqIntS.f k a b = some (decide (a = b)) := by
  unfold laws_eqIntS.f
  by_cases h : a.length = b.length
  · rw [if_pos (by omega)]
    have := laws_eqIntS_go a b h hn a.length k 0 (by omega) hk
    rw [Int.natCast_zero] at this
    rw [this]; rfl
  · rw [if_neg (by omega)]; congr 1; symm; rw [decide_eq_false_iff_not]; intro e; exact h (by rw [e])

def markIntL (n : Nat) (m : Int) : List Int := (List.range n).map fun (j : Nat) => m + (j : Int)
theorem markIntS_go (m : Int) (h0 : 0 ≤ m) (n : Nat) (hm : m + n ≤ 9223372036854775807) : ∀ (d k : Nat) (ys : List Int) (i : Nat), ys.length = n → ys.take i = markIntL i m → i + d = n → d < k →
    laws_markIntS.l0 k ys (m + i) (i : Int) = some (m + n, markIntL n m) := by
  intro d
  induction d with
  | zero =>
    intro k ys i hl ht hi hk
    obtain ⟨k, rfl⟩ : ∃ m, k = m + 1 := ⟨k - 1, by omega⟩
    simp only [laws_markIntS.l0]
    obtain rfl : i = n := by omega
    rw [if_neg (by omega), ← ht, List.take_of_length_le (by omega)]
  | succ d ih =>
    intro k ys i hl ht hi hk
    obtain ⟨k, rfl⟩ : ∃ m, k = m + 1 := ⟨k - 1, by omega⟩
    simp only [laws_markIntS.l0]
    rw [if_pos (by omega), if_pos (by omega), wsucc (show i < n by omega) (by omega), Int.toNat_natCast]
    have e : wrap64 (m + (i : Int) + 1) = m + ((i + 1 : Nat) : Int) := by unfold wrap64; omega
    rw [e]
    refine ih k _ (i + 1) (by simpa using hl) ?_ (by omega) (by omega)
    rw [set_take _ _ _ (by omega), ht]; unfold markIntL
    rw [List.range_succ, List.map_append]; rfl
theorem markIntS_eq (k : Nat) (l : List Int) (m : Int) (h0 : 0 ≤ m) (hm : m + l.length ≤ 9223372036854775807) (hk : l.length < k) : laws_markIntS.f k l m = some (m + l.length, markIntL l.length m) := by
  unfold laws_markIntS.f
  have := markIntS_go m h0 l.length hm l.length k l 0 rfl (by simp [markIntL]) (by omega) hk
  rw [Int.natCast_zero, Int.add_zero] at this
  exact this

theorem markIntL_length (n : Nat) (m : Int) : (markIntL n m).length = n := by simp [markIntL]
theorem heldIntS_go (m : Int) (h0 : 0 ≤ m) (n : Nat) (hm : m + n ≤ 9223372036854775807) : ∀ (d k : Nat) (i : Nat), i + d = n → d < k →
    laws_heldIntS.l0 k (markIntL n m) (m + i) (i : Int) = some (m + n) := by
  intro d
  induction d with
  | zero =>
    intro k i hi hk
    obtain ⟨k, rfl⟩ : ∃ m, k = m + 1 := ⟨k - 1, by omega⟩
    simp only [laws_heldIntS.l0]
    obtain rfl : i = n := by omega
    rw [if_neg (by rw [markIntL_length]; omega)]
  | succ d ih =>
    intro k i hi hk
    obtain ⟨k, rfl⟩ : ∃ m, k = m + 1 := ⟨k - 1, by omega⟩
    simp only [laws_heldIntS.l0]
    have hl := markIntL_length n m
    have e : wrap64 (m + (i : Int) + 1) = m + ((i + 1 : Nat) : Int) := by unfold wrap64; omega
    have hr : rd (markIntL n m) (i : Int) = m + (i : Int) := by
      rw [rd_get _ _ (by omega)]; simp [markIntL]
    rw [if_pos (by omega), if_pos (by omega), if_pos hr, wsucc (show i < n by omega) (by omega), e]
    exact ih k (i + 1) (by omega) (by omega)
theorem heldIntS_eq (k n : Nat) (m : Int) (h0 : 0 ≤ m) (hm : m + n ≤ 9223372036854775807) (hk : n < k) : laws_heldIntS.f k (markIntL n m) m = some (m + n) := by
  unfold laws_heldIntS.f
  have := heldIntS_go m h0 n hm n k 0 (by omega) hk
  rw [Int.natCast_zero, Int.add_zero] at this
  exact this

theorem wraps_i64 (n : Int) (h0 : 0 ≤ n) (h1 : n < 2 ^ 63) : IntKind.i64.wrap n = n := by rw [IntKind.wrap_i64]; omega
/-- or of low bits with high ones. -/
theorem or_hi (k : IntKind) (j : Nat) (hj : j ≤ k.bits) (hk : ∀ n : Int, 0 ≤ n → n < 2 ^ j → k.wrap n = n) (i : Nat)
    (x y : Int) (hx0 : 0 ≤ x) (hx : x % 2 ^ i = 0) (hx1 : x < 2 ^ j) (hy0 : 0 ≤ y) (hy : y < 2 ^ i) (hy1 : y < 2 ^ j) : Go.bits .or k y x = y + x := by
  have e := bits_join k j hj hk i x y hx0 hx hx1 hy0 hy hy1
  obtain ⟨a, rfl⟩ := Int.eq_ofNat_of_zero_le hx0
  obtain ⟨b, rfl⟩ := Int.eq_ofNat_of_zero_le hy0
  have ha : a < 2 ^ j := by exact_mod_cast hx1
  have hb : b < 2 ^ j := by exact_mod_cast hy1
  rw [(bits_nat k j hj hk a b ha hb).2] at e
  rw [(bits_nat k j hj hk b a hb ha).2, Nat.or_comm, e, Int.add_comm]
theorem and127_i64 (x : Int) (h0 : 0 ≤ x) (h1 : x < 2 ^ 63) : Go.bits .and .i64 x 127 = x % 128 := bits_mask .i64 63 (by decide) wraps_i64 7 (by decide) x h0 h1
theorem and127_u8 (x : Int) (h0 : 0 ≤ x) (h1 : x < 256) : Go.bits .and .u8 x 127 = x % 128 := bits_mask .u8 8 (by decide) wraps_u8 7 (by decide) x h0 h1
theorem or128_i64 (x : Int) (h0 : 0 ≤ x) (h1 : x < 128) : Go.bits .or .i64 x 128 = x + 128 := or_hi .i64 63 (by decide) wraps_i64 7 128 x (by decide) (by decide) (by decide) h0 h1 (by omega)
theorem or128_u8 (x : Int) (h0 : 0 ≤ x) (h1 : x < 128) : Go.bits .or .u8 x 128 = x + 128 := or_hi .u8 8 (by decide) wraps_u8 7 128 x (by decide) (by decide) (by decide) h0 h1 (by omega)

theorem u8_wf {x : Int} (h : (Lit.int .u8 x).wf = true) : 0 ≤ x ∧ x < 256 := by
  simp [Lit.wf, IntKind.min, IntKind.max, IntKind.bits, IntKind.signed] at h
  omega
theorem i64_wf {x : Int} (h : (Lit.int .i64 x).wf = true) : -9223372036854775808 ≤ x ∧ x ≤ 9223372036854775807 := by
  simp [Lit.wf, IntKind.min, IntKind.max, IntKind.bits, IntKind.signed] at h
  omega

/-- Reading a varint: d rounds left, j groups read, what they come to. -/
def ruv (b : List Int) (at_ : Int) : Nat → Nat → Int → Int × Int × Bool
  | 0, _, _ => (0, 0, false)
  | d + 1, j, acc =>
    if at_ + j ≥ b.length then (0, 0, false) else
    if rd b (at_ + j) < 128 then
      (if (rd b (at_ + j) = 0 ∧ 0 < j) ∨ acc + rd b (at_ + j) * 2 ^ (7 * j) > 1000000000000 then (0, 0, false) else (acc + rd b (at_ + j) * 2 ^ (7 * j), at_ + j + 1, true))
    else ruv b at_ d (j + 1) (acc + (rd b (at_ + j) - 128) * 2 ^ (7 * j))
def ruvF (b : List Int) (at_ : Int) : Int × Int × Bool := if at_ < 0 ∨ at_ ≥ b.length then (0, 0, false) else ruv b at_ 6 0 0
theorem pow7 (j : Nat) (hj : j ≤ 5) : (0 : Int) < 2 ^ (7 * j) ∧ (2 : Int) ^ (7 * j) ≤ 34359738368 ∧ (2 : Int) ^ (7 * (j + 1)) = 128 * 2 ^ (7 * j) := by
  refine ⟨Int.pow_pos (by decide), ?_, ?_⟩
  · have : (2 : Nat) ^ (7 * j) ≤ 2 ^ 35 := Nat.pow_le_pow_right (by decide) (by omega)
    have h2 : (2 : Int) ^ (7 * j) = ((2 ^ (7 * j) : Nat) : Int) := by simp
    rw [h2]; omega
  · rw [show 7 * (j + 1) = 7 * j + 7 from by omega, Int.pow_add, Int.mul_comm]; rfl
theorem or_shl (acc y : Int) (j : Nat) (hj : j ≤ 5) (h0 : 0 ≤ acc) (h1 : acc < 2 ^ (7 * j)) (y0 : 0 ≤ y) (y1 : y < 128) :
    Go.bits .or .i64 acc (shl .i64 y (7 * (j : Int))) = acc + y * 2 ^ (7 * j) ∧ acc + y * 2 ^ (7 * j) < 2 ^ (7 * (j + 1)) := by
  obtain ⟨p0, p1, p2⟩ := pow7 j hj
  have hm : y * 2 ^ (7 * j) ≤ 127 * 2 ^ (7 * j) := Int.mul_le_mul_of_nonneg_right (by omega) (by omega)
  have hn : 0 ≤ y * 2 ^ (7 * j) := Int.mul_nonneg y0 (by omega)
  have e : shl .i64 y (7 * (j : Int)) = y * 2 ^ (7 * j) := by
    unfold shl
    rw [show (7 * (j : Int)).toNat = 7 * j from by omega, Nat.min_eq_left (show 7 * j ≤ IntKind.i64.bits from Nat.le_trans (show 7 * j ≤ 35 by omega) (by decide))]
    exact wraps_i64 _ hn (by omega)
  rw [e, p2]
  exact ⟨or_hi .i64 63 (by decide) wraps_i64 (7 * j) _ _ hn (Int.mul_emod_left _ _) (by omega) h0 h1 (by omega), by omega⟩
theorem rd_wraps (at_ : Int) (n : Int) (j : Nat) (a0 : 0 ≤ at_) (a1 : at_ < n) (hn : n ≤ 140737488355328) (hj : j ≤ 5) :
    wrap64 (n - (j : Int)) = n - j ∧ wrap64 (at_ + (j : Int)) = at_ + j ∧ wrap64 (7 * (j : Int)) = 7 * j ∧ wrap64 (at_ + (j : Int) + 1) = at_ + j + 1 ∧ wrap64 ((j : Int) + 1) = ((j + 1 : Nat) : Int) := by
  refine ⟨?_, ?_, ?_, ?_, ?_⟩ <;> (unfold wrap64; omega)

def decL (b : List Int) : Nat → Int → List Int → List Int × Int × Bool
  | 0, at_, out => (out, at_, true)
  | d + 1, at_, out => if (ruvF b at_).2.2 = true then decL b d (ruvF b at_).2.1 (out ++ [(ruvF b at_).1]) else ([], 0, false)
def decV (b : List Int) (at_ cnt : Int) : List Int × Int × Bool := if (0 ≤ cnt ∧ cnt ≤ 100) ∧ (0 ≤ at_ ∧ at_ ≤ b.length) then decL b cnt.toNat at_ [] else ([], 0, false)
theorem decL_length (b : List Int) : ∀ d at_ out, (decL b d at_ out).1.length ≤ out.length + d := by
  intro d
  induction d with
  | zero => intro at_ out; simp [decL]
  | succ d ih =>
    intro at_ out
    simp only [decL]
    split
    · have := ih (ruvF b at_).2.1 (out ++ [(ruvF b at_).1]); simp only [List.length_append, List.length_cons, List.length_nil] at this; omega
    · simp
theorem decV_length (b : List Int) (at_ cnt : Int) : (decV b at_ cnt).1.length ≤ 100 := by
  unfold decV
  split
  · have := decL_length b cnt.toNat at_ []; simp only [List.length_nil] at this; omega
  · simp

theorem iRead_go (b : List Int) (hb : ∀ x ∈ b, 0 ≤ x ∧ x < 256) (hn : b.length ≤ 140737488355328) (at_ : Int) (a0 : 0 ≤ at_) (a1 : at_ < b.length) : ∀ (d k j : Nat) (acc : Int), d + j = 6 → d < k → 0 ≤ acc → acc < 2 ^ (7 * j) →
    impl_ReadUvarint.l0 k b at_ acc (j : Int) = some (ruv b at_ d j acc) := by
  intro d
  induction d with
  | zero =>
    intro k j acc hj hk h0 h1
    obtain ⟨k, rfl⟩ : ∃ m, k = m + 1 := ⟨k - 1, by omega⟩
    simp only [impl_ReadUvarint.l0]
    rw [if_neg (by omega)]; rfl
  | succ d ih =>
    intro k j acc hj hk h0 h1
    obtain ⟨k, rfl⟩ : ∃ m, k = m + 1 := ⟨k - 1, by omega⟩
    have hbn : (b.length : Int) ≤ 140737488355328 := by omega
    simp only [impl_ReadUvarint.l0, ruv, (rd_wraps at_ _ j a0 a1 hbn (by omega)).2.1, (rd_wraps at_ _ j a0 a1 hbn (by omega)).2.2.1, (rd_wraps at_ _ j a0 a1 hbn (by omega)).2.2.2.1, (rd_wraps at_ _ j a0 a1 hbn (by omega)).2.2.2.2]
    rw [if_pos (show (j : Int) < 6 by omega)]
    by_cases hl : at_ + (j : Int) ≥ b.length
    · rw [if_pos hl, if_pos hl]
    · rw [if_neg hl, if_neg hl, if_pos (show 0 ≤ at_ + (j : Int) by omega), if_pos (show at_ + (j : Int) < b.length by omega), if_pos (show 0 ≤ 7 * (j : Int) by omega)]
      obtain ⟨i, hi⟩ := Int.eq_ofNat_of_zero_le (show 0 ≤ at_ + (j : Int) by omega)
      have hx : 0 ≤ rd b (at_ + j) ∧ rd b (at_ + j) < 256 := by rw [hi, rd_get _ _ (by omega)]; exact hb _ (List.getElem_mem _)
      generalize rd b (at_ + j) = x at hx ⊢
      have w5 : wrap64 (Go.bits .and .u8 x 127) = x % 128 := by rw [and127_u8 x hx.1 hx.2]; unfold wrap64; omega
      obtain ⟨e, e'⟩ := or_shl acc (x % 128) j (by omega) h0 h1 (by omega) (by omega)
      rw [w5, e]
      by_cases hx1 : x < 128
      · rw [if_pos hx1, if_pos hx1, Int.emod_eq_of_lt hx.1 hx1]
        by_cases hj0 : (j : Int) > 0
        · rw [if_pos hj0]
          by_cases hx0 : x = 0
          · rw [if_pos hx0, if_pos (Or.inl ⟨hx0, by omega⟩)]
          · rw [if_neg hx0]
            split
            · rename_i h; rw [if_pos (Or.inr h)]
            · rename_i h; rw [if_neg (by rintro (h' | h'); exact hx0 h'.1; exact h h')]
        · rw [if_neg hj0]
          split
          · rename_i h; rw [if_pos (Or.inr h)]
          · rename_i h; rw [if_neg (by rintro (h' | h'); exact hj0 (by omega); exact h h')]
      · rw [if_neg hx1, if_neg hx1, show x % 128 = x - 128 from by omega] 
        rw [show x % 128 = x - 128 from by omega] at e e'
        have hp := (pow7 j (by omega)).1
        exact ih k (j + 1) _ (by omega) (by omega) (Int.add_nonneg h0 (Int.mul_nonneg (by omega) (by omega))) e'
theorem iRead_eq (k : Nat) (b : List Int) (hb : ∀ x ∈ b, 0 ≤ x ∧ x < 256) (hn : b.length ≤ 140737488355328) (at_ : Int) (hk : 7 < k) : impl_ReadUvarint.f k b at_ = some (ruvF b at_) := by
  obtain ⟨k, rfl⟩ : ∃ m, k = m + 1 := ⟨k - 1, by omega⟩
  unfold impl_ReadUvarint.f ruvF
  by_cases h : at_ < 0
  · rw [if_pos h, if_pos (Or.inl h)]; simp only [impl_ReadUvarint.j0, if_true]
  · rw [if_neg h]
    by_cases h2 : at_ ≥ b.length
    · rw [if_pos (Or.inr h2)]; simp only [impl_ReadUvarint.j0, decide_eq_true h2, if_true]
    · rw [if_neg (by omega)]; simp only [impl_ReadUvarint.j0, decide_eq_false h2, Bool.false_eq_true, if_false]
      have := iRead_go b hb hn at_ (by omega) (by omega) 6 k 0 0 (by omega) (by omega) (by omega) (by decide)
      rw [Int.natCast_zero] at this
      exact this

theorem inr (a b c : Int) : impl_InRange.f a b c = some (decide (b ≤ a ∧ a ≤ c)) := by
  unfold impl_InRange.f
  by_cases h : b ≤ a
  · rw [if_pos h]; congr 1; simp only [decide_eq_decide]; omega
  · rw [if_neg h]; congr 1; symm; simp only [decide_eq_false_iff_not]; omega

theorem iDec_go (b : List Int) (hb : ∀ x ∈ b, 0 ≤ x ∧ x < 256) (hn : b.length ≤ 140737488355328) (n : Nat) (hn1 : n ≤ 100) : ∀ (d k i : Nat) (at_ : Int) (out : List Int), i + d = n → d + 8 < k → out.length ≤ i →
    impl_DecodeInts.l0 k b at_ out (n : Int) (i : Int) = some (decL b d at_ out) := by
  intro d
  induction d with
  | zero =>
    intro k i at_ out hi hk ho
    obtain ⟨k, rfl⟩ : ∃ m, k = m + 1 := ⟨k - 1, by omega⟩
    simp only [impl_DecodeInts.l0, decL]
    rw [if_neg (by omega)]
  | succ d ih =>
    intro k i at_ out hi hk ho
    obtain ⟨k, rfl⟩ : ∃ m, k = m + 1 := ⟨k - 1, by omega⟩
    simp only [impl_DecodeInts.l0, decL]
    rw [if_pos (by omega), iRead_eq k b hb hn at_ (by omega), Option.bind_some]
    by_cases h : (ruvF b at_).2.2 = true
    · rw [if_pos h, if_pos h, if_pos (by omega), wsucc (show i < n by omega) (by omega)]
      exact ih k (i + 1) _ _ (by omega) (by omega) (by simp; omega)
    · rw [if_neg h, if_neg h]
theorem iDec_eq (k : Nat) (b : List Int) (hb : ∀ x ∈ b, 0 ≤ x ∧ x < 256) (hn : b.length ≤ 140737488355328) (at_ cnt : Int) (hk : 120 < k) : impl_DecodeInts.f k b at_ cnt = some (decV b at_ cnt) := by
  obtain ⟨k, rfl⟩ : ∃ m, k = m + 1 := ⟨k - 1, by omega⟩
  unfold impl_DecodeInts.f decV
  have hj : ∀ x, impl_DecodeInts.j0 (k + 1) b at_ cnt x = if x = true then some ([], 0, false) else impl_DecodeInts.l0 k b at_ [] cnt 0 := fun x => by simp only [impl_DecodeInts.j0]
  rw [inr, Option.bind_some, inr]
  by_cases h1 : 0 ≤ cnt ∧ cnt ≤ 100
  · rw [if_pos (decide_eq_true h1), Option.bind_some, hj]
    by_cases h2 : 0 ≤ at_ ∧ at_ ≤ b.length
    · rw [decide_eq_true h2, if_neg (by decide), if_pos ⟨h1, h2⟩]
      have := iDec_go b hb hn cnt.toNat (by omega) cnt.toNat k 0 at_ [] (by omega) (by omega) (by simp)
      rw [Int.natCast_zero, Int.toNat_of_nonneg h1.1] at this
      exact this
    · rw [decide_eq_false h2, if_pos (by decide), if_neg (fun h => h2 h.2)]
  · rw [if_neg (by rw [decide_eq_false h1]; decide), hj, if_pos rfl, if_neg (fun h => h1 h.1)]

theorem sRead_go (b : List Int) (hb : ∀ x ∈ b, 0 ≤ x ∧ x < 256) (hn : b.length ≤ 140737488355328) (at_ : Int) (a0 : 0 ≤ at_) (a1 : at_ < b.length) : ∀ (d k j : Nat) (acc : Int), d + j = 6 → 2 * d < k → 0 ≤ acc → acc < 2 ^ (7 * j) →
    spec_ReadUvarint.l0 k b at_ acc (j : Int) = some (ruv b at_ d j acc) := by
  intro d
  induction d with
  | zero =>
    intro k j acc hj hk h0 h1
    obtain ⟨k, rfl⟩ : ∃ m, k = m + 1 := ⟨k - 1, by omega⟩
    simp only [spec_ReadUvarint.l0]
    rw [if_neg (by omega)]; rfl
  | succ d ih =>
    intro k j acc hj hk h0 h1
    obtain ⟨k, rfl⟩ : ∃ m, k = m + 1 + 1 := ⟨k - 2, by omega⟩
    have hbn : (b.length : Int) ≤ 140737488355328 := by omega
    simp only [spec_ReadUvarint.l0, spec_ReadUvarint.j1, ruv, (rd_wraps at_ _ j a0 a1 hbn (by omega)).1, (rd_wraps at_ _ j a0 a1 hbn (by omega)).2.1, (rd_wraps at_ _ j a0 a1 hbn (by omega)).2.2.1, (rd_wraps at_ _ j a0 a1 hbn (by omega)).2.2.2.1, (rd_wraps at_ _ j a0 a1 hbn (by omega)).2.2.2.2]
    rw [if_pos (show (j : Int) < 6 by omega), if_neg (show ¬ at_ < 0 by omega)]
    by_cases hl : at_ + (j : Int) ≥ b.length
    · rw [decide_eq_true (show at_ ≥ (b.length : Int) - j by omega), if_pos rfl, if_pos hl]
    · rw [decide_eq_false (show ¬ at_ ≥ (b.length : Int) - j by omega), if_neg (show ¬ (false = true) by decide), if_neg hl, if_pos (show 0 ≤ at_ + (j : Int) by omega), if_pos (show at_ + (j : Int) < b.length by omega), if_pos (show 0 ≤ 7 * (j : Int) by omega)]
      obtain ⟨i, hi⟩ := Int.eq_ofNat_of_zero_le (show 0 ≤ at_ + (j : Int) by omega)
      have hx : 0 ≤ rd b (at_ + j) ∧ rd b (at_ + j) < 256 := by rw [hi, rd_get _ _ (by omega)]; exact hb _ (List.getElem_mem _)
      generalize rd b (at_ + j) = x at hx ⊢
      have w6 : wrap64 x = x := by unfold wrap64; omega
      rw [w6]
      have w5 : Go.bits .and .i64 x 127 = x % 128 := and127_i64 x hx.1 (by omega)
      obtain ⟨e, e'⟩ := or_shl acc (x % 128) j (by omega) h0 h1 (by omega) (by omega)
      rw [w5, e]
      by_cases hx1 : x < 128
      · rw [if_pos hx1, if_pos hx1, Int.emod_eq_of_lt hx.1 hx1]
        by_cases hx0 : x = 0
        · rw [if_pos hx0]
          by_cases hj0 : (j : Int) > 0
          · rw [if_pos hj0, if_pos (Or.inl ⟨hx0, by omega⟩)]
          · rw [if_neg hj0]
            split
            · rename_i h; rw [if_pos (Or.inr h)]
            · rename_i h; rw [if_neg (by rintro (h' | h'); exact hj0 (by omega); exact h h')]
        · rw [if_neg hx0]
          split
          · rename_i h; rw [if_pos (Or.inr h)]
          · rename_i h; rw [if_neg (by rintro (h' | h'); exact hx0 h'.1; exact h h')]
      · rw [if_neg hx1, if_neg hx1, show x % 128 = x - 128 from by omega] 
        rw [show x % 128 = x - 128 from by omega] at e e'
        have hp := (pow7 j (by omega)).1
        exact ih k (j + 1) _ (by omega) (by omega) (Int.add_nonneg h0 (Int.mul_nonneg (by omega) (by omega))) e'
theorem sRead_out (k : Nat) (b : List Int) (at_ : Int) (hn : b.length ≤ 140737488355328) (h : at_ < 0 ∨ at_ ≥ b.length) : spec_ReadUvarint.f (k + 1 + 1) b at_ = some (0, 0, false) := by
  unfold spec_ReadUvarint.f
  have w0 : wrap64 ((b.length : Int) - 0) = b.length := by unfold wrap64; omega
  simp only [spec_ReadUvarint.l0, spec_ReadUvarint.j1, w0]
  rw [if_pos (by omega)]
  by_cases h2 : at_ < 0
  · rw [if_pos h2]; simp only [if_true]
  · rw [if_neg h2, decide_eq_true (show at_ ≥ (b.length : Int) by omega)]; simp only [if_true]
theorem sRead_eq (k : Nat) (b : List Int) (hb : ∀ x ∈ b, 0 ≤ x ∧ x < 256) (hn : b.length ≤ 140737488355328) (at_ : Int) (hk : 14 < k) : spec_ReadUvarint.f k b at_ = some (ruvF b at_) := by
  by_cases h : at_ < 0 ∨ at_ ≥ b.length
  · obtain ⟨k, rfl⟩ : ∃ m, k = m + 1 + 1 := ⟨k - 2, by omega⟩
    rw [sRead_out k b at_ hn h]; unfold ruvF; rw [if_pos h]
  · unfold spec_ReadUvarint.f ruvF
    rw [if_neg h]
    have := sRead_go b hb hn at_ (by omega) (by omega) 6 k 0 0 (by omega) (by omega) (by omega) (by decide)
    rw [Int.natCast_zero] at this
    exact this

theorem in1 (a b c : Int) : spec_l1In.f a b c = some (decide (b ≤ a ∧ a ≤ c)) := by
  unfold spec_l1In.f
  by_cases h : a ≥ b
  · rw [if_pos h]; congr 1; simp only [decide_eq_decide]; omega
  · rw [if_neg h]; congr 1; symm; simp only [decide_eq_false_iff_not]; omega

theorem sDec_go (b : List Int) (hb : ∀ x ∈ b, 0 ≤ x ∧ x < 256) (hn : b.length ≤ 140737488355328) (a0 : Int) (n : Nat) (hn1 : n ≤ 100) : ∀ (d k i : Nat) (at_ : Int) (out : List Int), i + d = n → d + 16 < k → out.length ≤ i →
    spec_DecodeInts.l0 k b at_ (n : Int) out (i : Int) = some (decL b d at_ out) := by
  intro d
  induction d with
  | zero =>
    intro k i at_ out hi hk ho
    obtain ⟨k, rfl⟩ : ∃ m, k = m + 1 := ⟨k - 1, by omega⟩
    simp only [spec_DecodeInts.l0, decL]
    rw [if_neg (by omega)]
  | succ d ih =>
    intro k i at_ out hi hk ho
    obtain ⟨k, rfl⟩ : ∃ m, k = m + 1 := ⟨k - 1, by omega⟩
    simp only [spec_DecodeInts.l0, decL]
    rw [if_pos (by omega), sRead_eq k b hb hn at_ (by omega), Option.bind_some]
    by_cases h : (ruvF b at_).2.2 = true
    · rw [if_pos h, if_pos h, if_pos (by omega), wsucc (show i < n by omega) (by omega)]
      exact ih k (i + 1) _ _ (by omega) (by omega) (by simp; omega)
    · rw [if_neg h, if_neg h]
theorem sDec_eq (k : Nat) (b : List Int) (hb : ∀ x ∈ b, 0 ≤ x ∧ x < 256) (hn : b.length ≤ 140737488355328) (at_ cnt : Int) (hk : 120 < k) : spec_DecodeInts.f k b at_ cnt = some (decV b at_ cnt) := by
  obtain ⟨k, rfl⟩ : ∃ m, k = m + 1 := ⟨k - 1, by omega⟩
  unfold spec_DecodeInts.f decV
  have hj : ∀ x, spec_DecodeInts.j0 (k + 1) b at_ cnt [] x = if x = true then some ([], 0, false) else spec_DecodeInts.l0 k b at_ cnt [] 0 := fun x => by simp only [spec_DecodeInts.j0]
  rw [Option.bind_some, in1, Option.bind_some, in1]
  by_cases h1 : 0 ≤ cnt ∧ cnt ≤ 100
  · rw [if_pos (decide_eq_true h1), Option.bind_some, hj]
    by_cases h2 : 0 ≤ at_ ∧ at_ ≤ b.length
    · rw [decide_eq_true h2, if_neg (by decide), if_pos ⟨h1, h2⟩]
      have := sDec_go b hb hn at_ cnt.toNat (by omega) cnt.toNat k 0 at_ [] (by omega) (by omega) (by simp)
      rw [Int.natCast_zero, Int.toNat_of_nonneg h1.1] at this
      exact this
    · rw [decide_eq_false h2, if_pos (by decide), if_neg (fun h => h2 h.2)]
  · rw [if_neg (by rw [decide_eq_false h1]; decide), hj, if_pos rfl, if_neg (fun h => h1 h.1)]

theorem FnExactDecodeInts : laws_FnExactDecodeInts.Pure := by
  intro l at_ cnt _ _ hw _ _
  refine ⟨(l.length + 200) + 4, ?_⟩
  unfold laws_FnExactDecodeInts.f
  split
  · rfl
  · skip
    have hb : ∀ x ∈ l, 0 ≤ x ∧ x < 256 := fun x hx => u8_wf (hw x hx)
    have hR0 : (decV l at_ cnt).1.length ≤ l.length + 200 := Nat.le_trans (decV_length l at_ cnt) (by omega)
    obtain ⟨R, hRdef⟩ : ∃ R : List Int × Int × Bool, R = decV l at_ cnt := ⟨_, rfl⟩
    have hR1 : R.1.length ≤ l.length + 200 := by rw [hRdef]; exact hR0
    have t : ∀ k, l.length + 200 < k → laws_toByteS.f k l = some l := fun k hk => toByteS_eq k l (by omega) (by omega)
    have q : ∀ k, l.length + 200 < k → laws_eqByteS.f k l l = some true := fun k hk => by rw [laws_eqByteS_eq k _ _ (by omega) (by omega)]; simp
    have m : ∀ k, l.length + 200 < k → laws_markByteS.f k l 1 = some ((1 : Int) + (l.length : Int), markByteL l.length 1) := fun k hk => markByteS_eq k l 1 (by omega) (by omega) (by omega)
    have b2 : ¬ ((1 : Int) + (l.length : Int) < 0) := by omega
    have sR : ∀ k, l.length + 200 < k → spec_DecodeInts.f k l at_ cnt = some R := by rw [hRdef]; exact fun k hk => sDec_eq k l hb (by omega) at_ cnt (by omega)
    have iR : ∀ k, l.length + 200 < k → impl_DecodeInts.f k l at_ cnt = some R := by rw [hRdef]; exact fun k hk => iDec_eq k l hb (by omega) at_ cnt (by omega)
    have qR : ∀ k, l.length + 200 < k → laws_eqIntS.f k R.1 R.1 = some true := fun k hk => by rw [laws_eqIntS_eq k _ _ (by omega) (by omega)]; simp
    have mR : ∀ k, l.length + 200 < k → laws_markIntS.f k R.1 1 = some ((1 : Int) + (R.1.length : Int), markIntL R.1.length 1) := fun k hk => markIntS_eq k _ 1 (by omega) (by omega) (by omega)
    have hR : ∀ k, l.length + 200 < k → laws_heldIntS.f k (markIntL R.1.length 1) 1 = some ((1 : Int) + (R.1.length : Int)) := fun k hk => heldIntS_eq k _ 1 (by omega) (by omega) (by omega)
    have b1 : ¬ ((1 : Int) + (R.1.length : Int) < 0) := by omega
    clear hRdef hR0
    have a4 : l.length + 200 < (l.length + 200) + 4 := by omega
    have a3 : l.length + 200 < (l.length + 200) + 3 := by omega
    have a2 : l.length + 200 < (l.length + 200) + 2 := by omega
    have a1 : l.length + 200 < (l.length + 200) + 1 := by omega
    simp only [t _ a4, sR _ a4, iR _ a4, qR _ a4, t _ a3, q _ a3, m _ a3, qR _ a3, mR _ a2, hR _ a2, t _ a2, iR _ a2, qR _ a2, hR _ a1, Option.bind_some, if_true, if_neg b1, if_neg b2, bne_self_eq_false, Bool.false_eq_true, if_false, laws_FnExactDecodeInts.j0, laws_FnExactDecodeInts.j1, laws_FnExactDecodeInts.j2]

end Go.Proofs.Ytepicmocmioiiaa.Pure
