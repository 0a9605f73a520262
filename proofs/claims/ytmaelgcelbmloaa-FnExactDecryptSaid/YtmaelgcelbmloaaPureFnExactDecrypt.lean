/- The row of FnExactDecrypt: for every int and every slice of bytes (that fits into memory) the law answers true; no condition. -/
import Derived.Test.YtmaelgcelbmloaaQFnExactDecryptx3
import Derived.Test.YtmaelgcelbmloaaWSized
set_option linter.unusedVariables false
set_option linter.unusedSimpArgs false
namespace Go.Proofs.Ytmaelgcelbmloaa.PrintWords
open Go.ChangeShapes Go.WideShapes
/-- The words' own theorem, under the name by which the row asks for it. -/
theorem sized_ints {H : Type} {enc : TypeId × Value → H} {P : Program} {W : World} {base : Nat} {spare : Nat → Bool} {held : Bool} {t e : TypeId} {k : IntKind} {a : Option Addr} {len cap : Nat} {d : DataW H} {ps : List MemPlace} {ts : List TypeId} {ds : List (DataW H)} {j : Nat}
    (hsz : (DataW.weightsEach P ts ds).all (· ≤ reachBytes) = true) (ht : ts[j]? = some t) (hd : ds[j]? = some d) (hu : P.underlying t = some (.slice e)) (he : P.underlying e = some (.int k)) (hc : P.cellsOf e = 1) {B : Nat} (hB : P.bytesOf e = B)
    (h : DataW.Trod enc P W base spare held t (.slice a len cap) d ps) : len * B ≤ 140737488351232 := Go.Proofs.YtmaelgcelbmloaaW.PrintWords.sized_ints hsz ht hd hu he hc hB h
end Go.Proofs.Ytmaelgcelbmloaa.PrintWords

namespace Go.Proofs.Ytmaelgcelbmloaa.Pure
open Go.RowKit Go.Proofs.Ytmaelgcelbmloaa.PFnExactDecrypt Go.Proofs.YtmaelgcelbmloaaW.PrintWords Go.Proofs.YtmaelgcelbmloaaW.PrintLast

theorem wsucc {i n : Nat} (h : i < n) (hn : n ≤ 9223372036854775807) : wrap64 ((i : Int) + 1) = ((i + 1 : Nat) : Int) := by unfold wrap64; omega
theorem rd_nat (xs : List Int) (i : Nat) : rd xs (i : Int) = xs.getD i 0 := by unfold rd; rw [Int.toNat_natCast]
theorem rd_get (xs : List Int) (i : Nat) (h : i < xs.length) : rd xs (i : Int) = xs[i] := by
  rw [rd_nat, List.getD_eq_getElem?_getD, List.getElem?_eq_getElem h]; rfl
theorem drop_cons {α : Type} (xs : List α) (i : Nat) (h : i < xs.length) : xs.drop i = xs[i] :: xs.drop (i + 1) := (List.drop_eq_getElem_cons h)
theorem set_take {α : Type} (ys : List α) (i : Nat) (v : α) (h : i < ys.length) : (ys.set i v).take (i + 1) = ys.take i ++ [v] := by
  rw [List.take_succ_eq_append_getElem (by simpa using h)]
  rw [List.take_set, List.set_eq_of_length_le (by simp; omega)]
  simp

theorem toByteS_go (xs : List Int) (hn : xs.length ≤ 9223372036854775807) : ∀ (d k : Nat) (ys : List Int) (i : Nat), ys.length = xs.length → i + d = xs.length → d < k →
    laws_toByteS.l0 k xs ys (i : Int) = some (ys.take i ++ xs.drop i) := by
  intro d
  induction d with
  | zero =>
    intro k ys i hl hi hk
    obtain ⟨k, rfl⟩ : ∃ m, k = m + 1 := ⟨k - 1, by omega⟩
    simp only [laws_toByteS.l0]
    rw [if_neg (by omega), List.take_of_length_le (by omega), List.drop_of_length_le (by omega), List.append_nil]
  | succ d ih =>
    intro k ys i hl hi hk
    obtain ⟨k, rfl⟩ : ∃ m, k = m + 1 := ⟨k - 1, by omega⟩
    simp only [laws_toByteS.l0]
    rw [if_pos (by omega), if_pos (by omega), if_pos (by omega), wsucc (show i < xs.length by omega) hn, ih k _ (i + 1) (by simpa using hl) (by omega) (by omega), Int.toNat_natCast, set_take _ _ _ (by omega), rd_get _ _ (by omega), List.append_assoc, drop_cons xs i (by omega)]
    rfl
theorem toByteS_eq (k : Nat) (l : List Int) (hk : l.length < k) (hn : l.length ≤ 35184372088832) : laws_toByteS.f k l = some l := by
  unfold laws_toByteS.f
  rw [if_pos (by omega), if_pos (by omega)]
  have := toByteS_go l (by omega) l.length k (List.replicate ((l.length : Int)).toNat 0) 0 (by simp) (by omega) (by omega)
  rw [Int.natCast_zero] at this
  rw [this]; simp

theorem laws_eqByteS_go (xs ys : List Int) (hl : xs.length = ys.length) (hn : xs.length ≤ 9223372036854775807) : ∀ (d k : Nat) (i : Nat), i + d = xs.length → d < k →
    laws_eqByteS.l0 k xs ys (i : Int) = some (decide (xs.drop i = ys.drop i)) := by
  intro d
  induction d with
  | zero =>
    intro k i hi hk
    obtain ⟨k, rfl⟩ : ∃ m, k = m + 1 := ⟨k - 1, by omega⟩
    simp only [laws_eqByteS.l0]
    rw [if_neg (by omega), List.drop_of_length_le (by omega), List.drop_of_length_le (by omega)]; rfl
  | succ d ih =>
    intro k i hi hk
    obtain ⟨k, rfl⟩ : ∃ m, k = m + 1 := ⟨k - 1, by omega⟩
    simp only [laws_eqByteS.l0]
    rw [if_pos (by omega), if_pos (by omega), if_pos (by omega), wsucc (show i < xs.length by omega) hn, ih k (i + 1) (by omega) (by omega), rd_get _ _ (by omega), rd_get _ _ (by omega), drop_cons xs i (by omega), drop_cons ys i (by omega)]
    split
    · rename_i h; simp only [List.cons.injEq, h, true_and]
    · rename_i h; simp only [List.cons.injEq, h, false_and, decide_false]
theorem laws_eqByteS_eq (k : Nat) (a b : List Int) (hk : a.length < k) (hn : a.length ≤ 9223372036854775807) : laws_eqByteS.f k a b = some (decide (a = b)) := by
  unfold laws_eqByteS.f
  by_cases h : a.length = b.length
  · rw [if_pos (by omega)]
    have := laws_eqByteS_go a b h hn a.length k 0 (by omega) hk
    rw [Int.natCast_zero] at this
    rw [this]; rfl
  · rw [if_neg (by omega)]; congr 1; symm; rw [decide_eq_false_iff_not]; intro e; exact h (by rw [e])

def markByteL (n : Nat) (m : Int) : List Int := (List.range n).map fun (j : Nat) => (m + (j : Int)) % 256
theorem markByteS_go (m : Int) (h0 : 0 ≤ m) (n : Nat) (hm : m + n ≤ 9223372036854775807) : ∀ (d k : Nat) (ys : List Int) (i : Nat), ys.length = n → ys.take i = markByteL i m → i + d = n → d < k →
    laws_markByteS.l0 k ys (m + i) (i : Int) = some (m + n, markByteL n m) := by
  intro d
  induction d with
  | zero =>
    intro k ys i hl ht hi hk
    obtain ⟨k, rfl⟩ : ∃ m, k = m + 1 := ⟨k - 1, by omega⟩
    simp only [laws_markByteS.l0]
    obtain rfl : i = n := by omega
    rw [if_neg (by omega), ← ht, List.take_of_length_le (by omega)]
  | succ d ih =>
    intro k ys i hl ht hi hk
    obtain ⟨k, rfl⟩ : ∃ m, k = m + 1 := ⟨k - 1, by omega⟩
    simp only [laws_markByteS.l0]
    rw [if_pos (by omega), if_pos (by omega), wsucc (show i < n by omega) (by omega), Int.toNat_natCast]
    have e : wrap64 (m + (i : Int) + 1) = m + ((i + 1 : Nat) : Int) := by unfold wrap64; omega
    rw [e]
    refine ih k _ (i + 1) (by simpa using hl) ?_ (by omega) (by omega)
    rw [set_take _ _ _ (by omega), ht]; unfold markByteL
    rw [List.range_succ, List.map_append]; rfl
theorem markByteS_eq (k : Nat) (l : List Int) (m : Int) (h0 : 0 ≤ m) (hm : m + l.length ≤ 9223372036854775807) (hk : l.length < k) : laws_markByteS.f k l m = some (m + l.length, markByteL l.length m) := by
  unfold laws_markByteS.f
  have := markByteS_go m h0 l.length hm l.length k l 0 rfl (by simp [markByteL]) (by omega) hk
  rw [Int.natCast_zero, Int.add_zero] at this
  exact this

theorem markByteL_length (n : Nat) (m : Int) : (markByteL n m).length = n := by simp [markByteL]
theorem heldByteS_go (m : Int) (h0 : 0 ≤ m) (n : Nat) (hm : m + n ≤ 9223372036854775807) : ∀ (d k : Nat) (i : Nat), i + d = n → d < k →
    laws_heldByteS.l0 k (markByteL n m) (m + i) (i : Int) = some (m + n) := by
  intro d
  induction d with
  | zero =>
    intro k i hi hk
    obtain ⟨k, rfl⟩ : ∃ m, k = m + 1 := ⟨k - 1, by omega⟩
    simp only [laws_heldByteS.l0]
    obtain rfl : i = n := by omega
    rw [if_neg (by rw [markByteL_length]; omega)]
  | succ d ih =>
    intro k i hi hk
    obtain ⟨k, rfl⟩ : ∃ m, k = m + 1 := ⟨k - 1, by omega⟩
    simp only [laws_heldByteS.l0]
    have hl := markByteL_length n m
    have e : wrap64 (m + (i : Int) + 1) = m + ((i + 1 : Nat) : Int) := by unfold wrap64; omega
    have hr : rd (markByteL n m) (i : Int) = (m + (i : Int)) % 256 := by
      rw [rd_get _ _ (by omega)]; simp [markByteL]
    rw [if_pos (by omega), if_pos (by omega), if_pos hr, wsucc (show i < n by omega) (by omega), e]
    exact ih k (i + 1) (by omega) (by omega)
theorem heldByteS_eq (k n : Nat) (m : Int) (h0 : 0 ≤ m) (hm : m + n ≤ 9223372036854775807) (hk : n < k) : laws_heldByteS.f k (markByteL n m) m = some (m + n) := by
  unfold laws_heldByteS.f
  have := heldByteS_go m h0 n hm n k 0 (by omega) hk
  rw [Int.natCast_zero, Int.add_zero] at this
  exact this

theorem in1 (a b c : Int) : spec_l1In.f a b c = some (decide (b ≤ a ∧ a ≤ c)) := by
  unfold spec_l1In.f
  by_cases h : a ≥ b
  · rw [if_pos h]; congr 1; simp only [decide_eq_decide]; omega
  · rw [if_neg h]; congr 1; symm; simp only [decide_eq_false_iff_not]; omega

theorem inr (a b c : Int) : impl_InRange.f a b c = some (decide (b ≤ a ∧ a ≤ c)) := by
  unfold impl_InRange.f
  by_cases h : b ≤ a
  · rw [if_pos h]; congr 1; simp only [decide_eq_decide]; omega
  · rw [if_neg h]; congr 1; symm; simp only [decide_eq_false_iff_not]; omega

theorem tmod_bd (a b : Int) (hb : 1 ≤ b) : -b < Int.tmod a b ∧ Int.tmod a b < b := by
  have h1 := Int.tmod_lt_of_pos a (show 0 < b by omega)
  have h2 := Int.lt_tmod_of_pos a (show 0 < b by omega)
  exact ⟨h2, h1⟩
theorem w64 {x : Int} (h0 : -9223372036854775808 ≤ x) (h1 : x ≤ 9223372036854775807) : wrap64 x = x := by
  unfold wrap64; omega
/-- What both come to. -/
theorem tmod_fix (a b : Int) (hb : 1 ≤ b) : (Int.tmod (Int.tmod a b + b) b) = a % b ∧ (if Int.tmod a b < 0 then Int.tmod a b + b else Int.tmod a b) = a % b := by
  obtain ⟨h1, h2⟩ := tmod_bd a b hb
  have e1 : (Int.tmod a b) % b = a % b := by
    have := Int.tmod_add_mul_tdiv a b
    conv => rhs; rw [← this]
    rw [Int.add_mul_emod_self_left]
  constructor
  · rw [Int.tmod_eq_emod_of_nonneg (by omega), Int.add_emod_right, e1]
  · split
    · rw [← e1, ← Int.add_emod_right]
      exact (Int.emod_eq_of_lt (by omega) (by omega)).symm
    · rw [← e1]; exact (Int.emod_eq_of_lt (by omega) h2).symm
theorem sMod (a b : Int) : spec_Mod.f a b = some (if 1 ≤ b ∧ b ≤ 1000000000000 then a % b else 0) := by
  unfold spec_Mod.f
  simp only [in1, Option.bind_some, decide_eq_true_eq]
  by_cases h : 1 ≤ b ∧ b ≤ 1000000000000
  · obtain ⟨h1, h2⟩ := tmod_bd a b h.1
    rw [if_pos h, if_pos h, if_neg (by omega), w64 (by omega) (by omega), (tmod_fix a b h.1).1]
  · rw [if_neg h, if_neg h]
theorem iMod (a b : Int) : impl_Mod.f a b = some (if 1 ≤ b ∧ b ≤ 1000000000000 then a % b else 0) := by
  unfold impl_Mod.f
  simp only [inr, Option.bind_some, decide_eq_true_eq]
  by_cases h : 1 ≤ b ∧ b ≤ 1000000000000
  · obtain ⟨h1, h2⟩ := tmod_bd a b h.1
    rw [if_pos h, if_pos h, if_neg (by omega), ← (tmod_fix a b h.1).2]
    split
    · rw [w64 (by omega) (by omega)]
    · rfl
  · rw [if_neg h, if_neg h]

/-- One more value into a hash. -/
def foldV (acc v : Int) : Int := Int.tmod (acc * 1000003 + v % 2147483647 + 13) 2147483647
def hashV (l : List Int) (acc : Int) : Int := l.foldl foldV acc
theorem foldV_bd (acc v : Int) (h0 : 0 ≤ acc) : 0 ≤ foldV acc v ∧ foldV acc v < 2147483647 := by
  unfold foldV
  rw [Int.tmod_eq_emod_of_nonneg (by omega)]; omega
theorem fold_wrap (acc v : Int) (h0 : 0 ≤ acc) (h1 : acc < 2147483647) : Int.tmod (wrap64 (wrap64 (wrap64 (acc * 1000003) + v % 2147483647) + 13)) 2147483647 = foldV acc v := by
  unfold foldV
  rw [w64 (x := acc * 1000003) (by omega) (by omega), w64 (x := acc * 1000003 + v % 2147483647) (by omega) (by omega), w64 (by omega) (by omega)]
theorem sMod_M (v : Int) : spec_Mod.f v 2147483647 = some (v % 2147483647) := by rw [sMod, if_pos (by omega)]
theorem iMod_M (v : Int) : impl_Mod.f v 2147483647 = some (v % 2147483647) := by rw [iMod, if_pos (by omega)]
theorem iFold (acc v : Int) (h0 : 0 ≤ acc) (h1 : acc < 2147483647) : impl_fold.f acc v = some (foldV acc v) := by
  unfold impl_fold.f
  rw [iMod_M, Option.bind_some, fold_wrap acc v h0 h1]
theorem sHash_go (xs : List Int) (hn : xs.length ≤ 9223372036854775807) : ∀ (d k : Nat) (i : Nat) (acc : Int), i + d = xs.length → d < k → 0 ≤ acc → acc < 2147483647 →
    spec_Hash.l0 k xs acc (i : Int) = some (hashV (xs.drop i) acc) := by
  intro d
  induction d with
  | zero =>
    intro k i acc hi hk h0 h1
    obtain ⟨k, rfl⟩ : ∃ m, k = m + 1 := ⟨k - 1, by omega⟩
    simp only [spec_Hash.l0]
    rw [if_neg (by omega), List.drop_of_length_le (by omega)]; rfl
  | succ d ih =>
    intro k i acc hi hk h0 h1
    obtain ⟨k, rfl⟩ : ∃ m, k = m + 1 := ⟨k - 1, by omega⟩
    simp only [spec_Hash.l0]
    obtain ⟨b0, b1⟩ := foldV_bd acc xs[i] h0
    rw [if_pos (by omega), if_pos (by omega), sMod_M, Option.bind_some, fold_wrap acc _ h0 h1, wsucc (show i < xs.length by omega) hn, rd_get _ _ (by omega), ih k (i + 1) _ (by omega) (by omega) b0 b1, drop_cons xs i (by omega)]
    rfl
theorem hashV_bd (l : List Int) : ∀ acc, 0 ≤ acc → acc < 2147483647 → 0 ≤ hashV l acc ∧ hashV l acc < 2147483647 := by
  induction l with
  | nil => intro acc h0 h1; exact ⟨h0, h1⟩
  | cons v l ih => intro acc h0 h1; obtain ⟨b0, b1⟩ := foldV_bd acc v h0; exact ih _ b0 b1
theorem sHash_eq (k : Nat) (l : List Int) (hk : l.length < k) (hn : l.length ≤ 9223372036854775807) : spec_Hash.f k l = some (hashV l 11) := by
  unfold spec_Hash.f
  have := sHash_go l hn l.length k 0 11 (by omega) hk (by omega) (by omega)
  rw [Int.natCast_zero] at this
  rw [this]; rfl

/-- What a keyed hash comes to. -/
def keyedV (key : Int) (l : List Int) : Int := hashV ([key] ++ l ++ [key]) 11
theorem keyedV_bd (key : Int) (l : List Int) : 0 ≤ keyedV key l ∧ keyedV key l < 2147483647 := hashV_bd _ 11 (by omega) (by omega)
theorem iKeyed_go (key : Int) (xs : List Int) (hn : xs.length ≤ 9223372036854775807) : ∀ (d k : Nat) (i : Nat) (acc : Int), i + d = xs.length → d < k → 0 ≤ acc → acc < 2147483647 →
    impl_KeyedHash.l0 k key acc xs (xs.length : Int) (i : Int) = some (foldV (hashV (xs.drop i) acc) key) := by
  intro d
  induction d with
  | zero =>
    intro k i acc hi hk h0 h1
    obtain ⟨k, rfl⟩ : ∃ m, k = m + 1 := ⟨k - 1, by omega⟩
    simp only [impl_KeyedHash.l0]
    rw [if_neg (by omega), List.drop_of_length_le (by omega), iFold acc key h0 h1]; rfl
  | succ d ih =>
    intro k i acc hi hk h0 h1
    obtain ⟨k, rfl⟩ : ∃ m, k = m + 1 := ⟨k - 1, by omega⟩
    simp only [impl_KeyedHash.l0]
    obtain ⟨b0, b1⟩ := foldV_bd acc xs[i] h0
    rw [if_pos (by omega), if_pos (by omega), if_pos (by omega), iFold acc _ h0 h1, Option.bind_some, wsucc (show i < xs.length by omega) hn, rd_get _ _ (by omega), ih k (i + 1) _ (by omega) (by omega) b0 b1, drop_cons xs i (by omega)]
    rfl
theorem iKeyed_eq (k : Nat) (key : Int) (l : List Int) (hk : l.length < k) (hn : l.length ≤ 9223372036854775807) : impl_KeyedHash.f k key l = some (keyedV key l) := by
  unfold impl_KeyedHash.f
  obtain ⟨b0, b1⟩ := foldV_bd 11 key (by omega)
  have := iKeyed_go key l hn l.length k 0 (foldV 11 key) (by omega) hk b0 b1
  rw [Int.natCast_zero] at this
  rw [iFold 11 key (by omega) (by omega), Option.bind_some, this]
  unfold keyedV hashV
  rw [List.foldl_append, List.foldl_append]; rfl

def ciphL (key : Int) (l : List Int) (i : Nat) : List Int := match l with | [] => [] | x :: r => (x - keyedV key [(i : Int)]) % 256 :: ciphL key r (i + 1)
theorem ciphL_length (key : Int) (l : List Int) : ∀ i, (ciphL key l i).length = l.length := by
  induction l with
  | nil => intro i; rfl
  | cons x r ih => intro i; simp only [ciphL, List.length_cons, ih]
theorem iDecrypt_go (key : Int) (xs : List Int) (hn : xs.length ≤ 1099511627776) : ∀ (d k : Nat) (i : Nat) (out : List Int), i + d = xs.length → d + 3 < k → out.length = i →
    impl_Decrypt.l0 k key out xs (xs.length : Int) (i : Int) = some (out ++ ciphL key (xs.drop i) i) := by
  intro d
  induction d with
  | zero =>
    intro k i out hi hk ho
    obtain ⟨k, rfl⟩ : ∃ m, k = m + 1 := ⟨k - 1, by omega⟩
    simp only [impl_Decrypt.l0]
    rw [if_neg (by omega), List.drop_of_length_le (by omega)]; simp [ciphL]
  | succ d ih =>
    intro k i out hi hk ho
    obtain ⟨k, rfl⟩ : ∃ m, k = m + 1 := ⟨k - 1, by omega⟩
    simp only [impl_Decrypt.l0]
    rw [if_pos (by omega), if_pos (by omega), if_pos (by omega), iKeyed_eq k key _ (by simp; omega) (by simp), Option.bind_some, if_pos (by omega), wsucc (show i < xs.length by omega) (by omega), rd_get _ _ (by omega), ih k (i + 1) _ (by omega) (by omega) (by simp [ho]), drop_cons xs i (by omega), List.append_assoc]
    rfl
theorem iDecrypt_eq (k : Nat) (key : Int) (l : List Int) (hk : l.length + 3 < k) (hn : l.length ≤ 1099511627776) : impl_Decrypt.f k key l = some (ciphL key l 0) := by
  unfold impl_Decrypt.f
  have := iDecrypt_go key l hn l.length k 0 [] (by omega) hk rfl
  rw [Int.natCast_zero] at this
  rw [this]; rfl

theorem sKeyed_eq (k : Nat) (key : Int) (l : List Int) (hk : l.length + 2 < k) (hn : l.length ≤ 1099511627776) : spec_KeyedHash.f k key l = some (keyedV key l) := by
  unfold spec_KeyedHash.f
  rw [Option.bind_some, if_pos (by simp; omega), Option.bind_some, if_pos (by simp; omega), sHash_eq k _ (by simp; omega) (by simp; omega)]
  rfl

theorem sMod_256 (v : Int) : spec_Mod.f v 256 = some (v % 256) := by rw [sMod, if_pos (by omega)]
theorem sDecrypt_val (x q : Int) (b0 : 0 ≤ x) (b1 : x < 256) (q0 : 0 ≤ q) (q1 : q < 2147483647) : wrap64 (wrap64 x - Int.tmod q 256) % 256 % 256 = (x - q) % 256 := by
  rw [Int.tmod_eq_emod_of_nonneg q0, w64 (x := x) (by omega) (by omega), w64 (by omega) (by omega)]
  omega

theorem sDecrypt_go (key : Int) (xs : List Int) (hb : ∀ x ∈ xs, 0 ≤ x ∧ x < 256) (hn : xs.length ≤ 1099511627776) : ∀ (d k : Nat) (i : Nat) (out : List Int), i + d = xs.length → d + 5 < k → out.length = i →
    spec_Decrypt.l0 k key xs out (i : Int) = some (out ++ ciphL key (xs.drop i) i) := by
  intro d
  induction d with
  | zero =>
    intro k i out hi hk ho
    obtain ⟨k, rfl⟩ : ∃ m, k = m + 1 := ⟨k - 1, by omega⟩
    simp only [spec_Decrypt.l0]
    rw [if_neg (by omega), List.drop_of_length_le (by omega)]; simp [ciphL]
  | succ d ih =>
    intro k i out hi hk ho
    obtain ⟨k, rfl⟩ : ∃ m, k = m + 1 := ⟨k - 1, by omega⟩
    simp only [spec_Decrypt.l0]
    obtain ⟨b0, b1⟩ := hb xs[i] (List.getElem_mem _)
    obtain ⟨q0, q1⟩ := keyedV_bd key [(i : Int)]
    rw [if_pos (by omega), if_pos (by omega), sKeyed_eq k key _ (by simp; omega) (by simp), Option.bind_some, sMod_256, Option.bind_some, if_pos (by omega), wsucc (show i < xs.length by omega) (by omega), rd_get _ _ (by omega), ih k (i + 1) _ (by omega) (by omega) (by simp [ho]), drop_cons xs i (by omega), List.append_assoc]
    rw [ciphL, sDecrypt_val xs[i] _ b0 b1 q0 q1]
    rfl
theorem sDecrypt_eq (k : Nat) (key : Int) (l : List Int) (hb : ∀ x ∈ l, 0 ≤ x ∧ x < 256) (hk : l.length + 5 < k) (hn : l.length ≤ 1099511627776) : spec_Decrypt.f k key l = some (ciphL key l 0) := by
  unfold spec_Decrypt.f
  have := sDecrypt_go key l hb hn l.length k 0 [] (by omega) hk rfl
  rw [Int.natCast_zero] at this
  rw [this]; rfl

theorem u8_wf {x : Int} (h : (Lit.int .u8 x).wf = true) : 0 ≤ x ∧ x < 256 := by
  simp [Lit.wf, IntKind.min, IntKind.max, IntKind.bits, IntKind.signed] at h
  omega
theorem i64_wf {x : Int} (h : (Lit.int .i64 x).wf = true) : -9223372036854775808 ≤ x ∧ x ≤ 9223372036854775807 := by
  simp [Lit.wf, IntKind.min, IntKind.max, IntKind.bits, IntKind.signed] at h
  omega

theorem FnExactDecrypt : laws_FnExactDecrypt.Pure := by
  intro key l _ _ _ hw
  refine ⟨(l.length + 10) + 2, ?_⟩
  unfold laws_FnExactDecrypt.f
  split
  · rfl
  · skip
    have hb : ∀ x ∈ l, 0 ≤ x ∧ x < 256 := fun x hx => u8_wf (hw x hx)
    have hR0 := ciphL_length key l 0
    have t_l : ∀ k, l.length + 10 < k → laws_toByteS.f k l = some l := fun k hk => toByteS_eq k l (by omega) (by omega)
    have q_l : ∀ k, l.length + 10 < k → laws_eqByteS.f k l l = some true := fun k hk => by rw [laws_eqByteS_eq k _ _ (by omega) (by omega)]; simp
    have m_l : ∀ k, l.length + 10 < k → laws_markByteS.f k l (1) = some ((1 : Int) + (l.length : Int), markByteL l.length (1)) := fun k hk => markByteS_eq k l (1) (by omega) (by omega) (by omega)
    have b2 : ¬ ((1 : Int) + (l.length : Int) < 0) := by omega
    have sR : ∀ k, l.length + 10 < k → spec_Decrypt.f k key l = some (ciphL key l 0) := fun k hk => sDecrypt_eq k key l hb (by omega) (by omega)
    have iR : ∀ k, l.length + 10 < k → impl_Decrypt.f k key l = some (ciphL key l 0) := fun k hk => iDecrypt_eq k key l (by omega) (by omega)
    have qR : ∀ k, l.length + 10 < k → laws_eqByteS.f k (ciphL key l 0) (ciphL key l 0) = some true := fun k hk => by rw [laws_eqByteS_eq k _ _ (by omega) (by omega)]; simp
    have mR : ∀ k, l.length + 10 < k → laws_markByteS.f k (ciphL key l 0) 1 = some ((1 : Int) + ((ciphL key l 0).length : Int), markByteL (ciphL key l 0).length 1) := fun k hk => markByteS_eq k _ 1 (by omega) (by omega) (by omega)
    have hR : ∀ k, l.length + 10 < k → laws_heldByteS.f k (markByteL (ciphL key l 0).length 1) 1 = some ((1 : Int) + ((ciphL key l 0).length : Int)) := fun k hk => heldByteS_eq k _ 1 (by omega) (by omega) (by omega)
    have b1 : ¬ ((1 : Int) + ((ciphL key l 0).length : Int) < 0) := by omega
    have a1 : l.length + 10 < (l.length + 10) + 2 := by omega
    have a2 : l.length + 10 < (l.length + 10) + 1 := by omega
    simp only [t_l _ a1, q_l _ a1, m_l _ a1, sR _ a1, iR _ a1, qR _ a1, Option.bind_some, if_true, if_neg b2, laws_FnExactDecrypt.j0, Bool.not_true, Bool.false_eq_true, if_false, t_l _ a2, iR _ a2, qR _ a2, mR _ a2, hR _ a2, if_neg b1]

end Go.Proofs.Ytmaelgcelbmloaa.Pure
