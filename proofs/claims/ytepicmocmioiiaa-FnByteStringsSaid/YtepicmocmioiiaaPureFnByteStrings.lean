/- The row of FnByteStrings: for every slice of bytes (that fits into memory) the law answers true; no condition. -/
import Derived.Laws.BitsLemmas
import Derived.Test.YtepicmocmioiiaaQFnByteStringsx3
import Derived.Test.YtepicmocmioiiaaWSized
set_option linter.unusedVariables false
set_option linter.unusedSimpArgs false
namespace Go.Proofs.Ytepicmocmioiiaa.PrintWords
open Go.ChangeShapes Go.WideShapes
/-- The words' own theorem, under the name by which the row asks for it. -/
theorem sized_ints {H : Type} {enc : TypeId × Value → H} {P : Program} {W : World} {base : Nat} {spare : Nat → Bool} {held : Bool} {t e : TypeId} {k : IntKind} {a : Option Addr} {len cap : Nat} {d : DataW H} {ps : List MemPlace} {ts : List TypeId} {ds : List (DataW H)} {j : Nat}
    (hsz : (DataW.weightsEach P ts ds).all (· ≤ reachBytes) = true) (ht : ts[j]? = some t) (hd : ds[j]? = some d) (hu : P.underlying t = some (.slice e)) (he : P.underlying e = some (.int k)) (hc : P.cellsOf e = 1) {B : Nat} (hB : P.bytesOf e = B)
    (h : DataW.Trod enc P W base spare held t (.slice a len cap) d ps) : len * B ≤ 140737488351232 := Go.Proofs.YtepicmocmioiiaaW.PrintWords.sized_ints hsz ht hd hu he hc hB h
end Go.Proofs.Ytepicmocmioiiaa.PrintWords

namespace Go.Proofs.Ytepicmocmioiiaa.Pure
open Go.RowKit Go.Proofs.Ytepicmocmioiiaa.PFnByteStrings Go.Proofs.YtepicmocmioiiaaW.PrintWords Go.Proofs.YtepicmocmioiiaaW.PrintLast

theorem u8_wf {x : Int} (h : (Lit.int .u8 x).wf = true) : 0 ≤ x ∧ x < 256 := by
  simp [Lit.wf, IntKind.min, IntKind.max, IntKind.bits, IntKind.signed] at h
  omega
theorem i64_wf {x : Int} (h : (Lit.int .i64 x).wf = true) : -9223372036854775808 ≤ x ∧ x ≤ 9223372036854775807 := by
  simp [Lit.wf, IntKind.min, IntKind.max, IntKind.bits, IntKind.signed] at h
  omega

theorem wsucc {i n : Nat} (h : i < n) (hn : n ≤ 9223372036854775807) : wrap64 ((i : Int) + 1) = ((i + 1 : Nat) : Int) := by unfold wrap64; omega
theorem rd_nat (xs : List Int) (i : Nat) : rd xs (i : Int) = xs.getD i 0 := by unfold rd; rw [Int.toNat_natCast]
theorem rd_get (xs : List Int) (i : Nat) (h : i < xs.length) : rd xs (i : Int) = xs[i] := by
  rw [rd_nat, List.getD_eq_getElem?_getD, List.getElem?_eq_getElem h]; rfl
theorem drop_cons {α : Type} (xs : List α) (i : Nat) (h : i < xs.length) : xs.drop i = xs[i] :: xs.drop (i + 1) := (List.drop_eq_getElem_cons h)
theorem set_take {α : Type} (ys : List α) (i : Nat) (v : α) (h : i < ys.length) : (ys.set i v).take (i + 1) = ys.take i ++ [v] := by
  rw [List.take_succ_eq_append_getElem (by simpa using h)]
  rw [List.take_set, List.set_eq_of_length_le (by simp; omega)]
  simp

theorem w64 {x : Int} (h0 : -9223372036854775808 ≤ x) (h1 : x ≤ 9223372036854775807) : wrap64 x = x := by
  unfold wrap64; omega

/-! The cursor over a draw's bytes: whatever it yields, it yields. -/
theorem and255 (y : Int) : 0 ≤ Go.bits .and .i64 y 255 ∧ Go.bits .and .i64 y 255 ≤ 255 := by
  have e : Go.bits .and .i64 y 255 = IntKind.i64.wrap ((BitVec.ofInt 64 y &&& BitVec.ofInt 64 255).toNat : Int) := rfl
  have h : (BitVec.ofInt 64 y &&& BitVec.ofInt 64 255).toNat ≤ 255 := by
    rw [BitVec.toNat_and]
    exact Nat.le_trans Nat.and_le_right (by decide)
  rw [e, IntKind.wrap_i64]
  omega
structure CurOk (b : List Int) (i : Int) : Prop where
  bytes : ∀ x ∈ b, 0 ≤ x ∧ x < 256
  short : b.length ≤ 1048576
  low : 0 ≤ i
  high : i ≤ b.length
theorem new_go (l : List Int) (hn : l.length ≤ 1048576) : ∀ (d : Nat) (i : Nat) (h : Int), i + d = l.length → ∃ h', ∀ k, d < k → spec_l1New.l0 k l h (i : Int) = some (l, 0, h') := by
  intro d
  induction d with
  | zero =>
    intro i h hi
    refine ⟨h, fun k hk => ?_⟩
    obtain ⟨k, rfl⟩ : ∃ m, k = m + 1 := ⟨k - 1, by omega⟩
    simp only [spec_l1New.l0]
    rw [if_neg (by omega)]
  | succ d ih =>
    intro i h hi
    by_cases h4 : (i : Int) < 4000
    · obtain ⟨h', hh⟩ := ih (i + 1) (Go.bits .and .i64 (wrap64 ((wrap64 ((wrap64 (h * 137)) + (wrap64 (rd l i)))) + 11)) 1073741823) (by omega)
      refine ⟨h', fun k hk => ?_⟩
      obtain ⟨k, rfl⟩ : ∃ m, k = m + 1 := ⟨k - 1, by omega⟩
      simp only [spec_l1New.l0]
      rw [if_pos (by omega), if_pos h4, if_pos (by omega), wsucc (show i < l.length by omega) (by omega)]
      exact hh k (by omega)
    · refine ⟨h, fun k hk => ?_⟩
      obtain ⟨k, rfl⟩ : ∃ m, k = m + 1 := ⟨k - 1, by omega⟩
      simp only [spec_l1New.l0]
      rw [if_pos (by omega), if_neg h4]
theorem new_is (l : List Int) (hb : ∀ x ∈ l, 0 ≤ x ∧ x < 256) (hn : l.length ≤ 1048576) : ∃ h, (∀ k, l.length < k → spec_l1New.f k l = some (l, 0, h)) ∧ CurOk l 0 := by
  obtain ⟨h, hh⟩ := new_go l hn l.length 0 (wrap64 (193017 + (l.length : Int))) (by omega)
  refine ⟨h, fun k hk => ?_, ⟨hb, hn, by omega, by omega⟩⟩
  unfold spec_l1New.f
  have := hh k hk
  rw [Int.natCast_zero] at this
  exact this
theorem byte_is (b : List Int) (i h : Int) (c : CurOk b i) : ∃ x i' h', spec_l1Byte.f b i h = some (x, i', h') ∧ 0 ≤ x ∧ x ≤ 255 ∧ CurOk b i' := by
  unfold spec_l1Byte.f
  have := c.low; have := c.high; have := c.short
  by_cases hl : i < (b.length : Int)
  · rw [if_pos hl, if_pos c.low]
    refine ⟨_, _, _, rfl, (and255 _).1, (and255 _).2, ⟨c.bytes, c.short, ?_, ?_⟩⟩
    · rw [w64 (by omega) (by omega)]; omega
    · rw [w64 (by omega) (by omega)]; omega
  · rw [if_neg hl]
    exact ⟨_, _, _, rfl, (and255 _).1, (and255 _).2, c⟩

theorem below_is (b : List Int) (i h n : Int) (c : CurOk b i) (hn : n ≤ 1000000000) : ∃ x i' h', spec_l1Below.f b i h n = some (x, i', h') ∧ 0 ≤ x ∧ (1 ≤ n → x < n) ∧ (n ≤ 0 → x = 0) ∧ CurOk b i' := by
  unfold spec_l1Below.f
  by_cases h0 : n ≤ 0
  · rw [if_pos h0]; exact ⟨0, i, h, rfl, by omega, fun h => by omega, fun _ => rfl, c⟩
  · rw [if_neg h0]
    by_cases h1 : n ≤ 256
    · obtain ⟨x, i', h', e, x0, x1, c'⟩ := byte_is b i h c
      rw [if_pos h1, e, Option.bind_some, if_neg (by omega)]
      refine ⟨_, _, _, rfl, ?_, fun _ => ?_, fun h => by omega, c'⟩
      · dsimp only; rw [Int.tmod_eq_emod_of_nonneg x0]; exact Int.emod_nonneg _ (by omega)
      · dsimp only; rw [Int.tmod_eq_emod_of_nonneg x0]; exact Int.emod_lt_of_pos _ (by omega)
    · obtain ⟨x, i1, h1', e1, x0, x1, c1⟩ := byte_is b i h c
      obtain ⟨y, i2, h2', e2, y0, y1, c2⟩ := byte_is b i1 h1' c1
      obtain ⟨z, i3, h3', e3, z0, z1, c3⟩ := byte_is b i2 h2' c2
      rw [if_neg h1, e1, Option.bind_some, e2, Option.bind_some, e3, Option.bind_some, if_neg (by omega)]
      have ew : wrap64 (wrap64 (wrap64 (x * 65536) + wrap64 (y * 256)) + z) = x * 65536 + y * 256 + z := by
        rw [w64 (x := x * 65536) (by omega) (by omega), w64 (x := y * 256) (by omega) (by omega), w64 (x := x * 65536 + y * 256) (by omega) (by omega), w64 (by omega) (by omega)]
      refine ⟨_, _, _, rfl, ?_, fun _ => ?_, fun h => by omega, c3⟩
      · dsimp only; rw [ew, Int.tmod_eq_emod_of_nonneg (by omega)]; exact Int.emod_nonneg _ (by omega)
      · dsimp only; rw [ew, Int.tmod_eq_emod_of_nonneg (by omega)]; exact Int.emod_lt_of_pos _ (by omega)

theorem bytes_go (b : List Int) (n : Nat) (hn : n ≤ 1000000) : ∀ (d : Nat) (i h : Int) (j : Nat) (out : List Int), j + d = n → out.length = j → (∀ x ∈ out, 0 ≤ x ∧ x < 256) → CurOk b i →
    ∃ r i' h', (∀ k, d < k → spec_l1Bytes.l0 k (n : Int) out (j : Int) b i h = some (r, i', h')) ∧ r.length = n ∧ (∀ x ∈ r, 0 ≤ x ∧ x < 256) ∧ CurOk b i' := by
  intro d
  induction d with
  | zero =>
    intro i h j out hj ho hb c
    refine ⟨out, i, h, fun k hk => ?_, by omega, hb, c⟩
    obtain ⟨k, rfl⟩ : ∃ m, k = m + 1 := ⟨k - 1, by omega⟩
    simp only [spec_l1Bytes.l0]
    rw [if_neg (by omega)]
  | succ d ih =>
    intro i h j out hj ho hb c
    obtain ⟨x, i1, h1, e, x0, x1, c1⟩ := byte_is b i h c
    obtain ⟨r, i', h', hr, hl, hb', c'⟩ := ih i1 h1 (j + 1) (out ++ [x % 256]) (by omega) (by simp [ho]) (by
      intro y hy
      rcases List.mem_append.1 hy with hy | hy
      · exact hb y hy
      · simp only [List.mem_singleton] at hy; omega) c1
    refine ⟨r, i', h', fun k hk => ?_, hl, hb', c'⟩
    obtain ⟨k, rfl⟩ : ∃ m, k = m + 1 := ⟨k - 1, by omega⟩
    simp only [spec_l1Bytes.l0]
    rw [if_pos (by omega), e, Option.bind_some, if_pos (by omega), wsucc (show j < n by omega) (by omega)]
    exact hr k (by omega)
theorem bytes_is (b : List Int) (i h : Int) (n : Nat) (hn : n ≤ 1000000) (c : CurOk b i) : ∃ r i' h', (∀ k, n < k → spec_l1Bytes.f k b i h (n : Int) = some (r, i', h')) ∧ r.length = n ∧ (∀ x ∈ r, 0 ≤ x ∧ x < 256) ∧ CurOk b i' := by
  obtain ⟨r, i', h', hr, hl, hb, c'⟩ := bytes_go b n hn n i h 0 [] (by omega) rfl (by simp) c
  refine ⟨r, i', h', fun k hk => ?_, hl, hb, c'⟩
  unfold spec_l1Bytes.f
  have := hr k hk
  rw [Int.natCast_zero] at this
  exact this

theorem laws_sameBytes_go (xs ys : List Int) (hl : xs.length = ys.length) (hn : xs.length ≤ 9223372036854775807) : ∀ (d k : Nat) (i : Nat), i + d = xs.length → d < k →
    laws_sameBytes.l0 k xs ys (i : Int) = some (decide (xs.drop i = ys.drop i)) := by
  intro d
  induction d with
  | zero =>
    intro k i hi hk
    obtain ⟨k, rfl⟩ : ∃ m, k = m + 1 := ⟨k - 1, by omega⟩
    simp only [laws_sameBytes.l0]
    rw [if_neg (by omega), List.drop_of_length_le (by omega), List.drop_of_length_le (by omega)]; rfl
  | succ d ih =>
    intro k i hi hk
    obtain ⟨k, rfl⟩ : ∃ m, k = m + 1 := ⟨k - 1, by omega⟩
    simp only [laws_sameBytes.l0]
    rw [if_pos (by omega), if_pos (by omega), if_pos (by omega), wsucc (show i < xs.length by omega) hn, ih k (i + 1) (by omega) (by omega), rd_get _ _ (by omega), rd_get _ _ (by omega), drop_cons xs i (by omega), drop_cons ys i (by omega)]
    split
    · rename_i h; simp only [List.cons.injEq, h, true_and]
    · rename_i h; simp only [List.cons.injEq, h, false_and, decide_false]
theorem laws_sameBytes_eq (k : Nat) (a b : List Int) (hk : a.length < k) (hn : a.length ≤ 9223372036854775807) : laws_sameBytes.f k a b = some (decide (a = b)) := by
  unfold laws_sameBytes.f
  by_cases h : a.length = b.length
  · rw [if_pos (by omega)]
    have := laws_sameBytes_go a b h hn a.length k 0 (by omega) hk
    rw [Int.natCast_zero] at this
    rw [this]; rfl
  · rw [if_neg (by omega)]; congr 1; symm; rw [decide_eq_false_iff_not]; intro e; exact h (by rw [e])

theorem laws_sameInts_go (xs ys : List Int) (hl : xs.length = ys.length) (hn : xs.length ≤ 9223372036854775807) : ∀ (d k : Nat) (i : Nat), i + d = xs.length → d < k →
    laws_sameInts.l0 k xs ys (i : Int) = some (decide (xs.drop i = ys.drop i)) := by
  intro d
  induction d with
  | zero =>
    intro k i hi hk
    obtain ⟨k, rfl⟩ : ∃ m, k = m + 1 := ⟨k - 1, by omega⟩
    simp only [laws_sameInts.l0]
    rw [if_neg (by omega), List.drop_of_length_le (by omega), List.drop_of_length_le (by omega)]; rfl
  | succ d ih =>
    intro k i hi hk
    obtain ⟨k, rfl⟩ : ∃ m, k = m + 1 := ⟨k - 1, by omega⟩
    simp only [laws_sameInts.l0]
    rw [if_pos (by omega), if_pos (by omega), if_pos (by omega), wsucc (show i < xs.length by omega) hn, ih k (i + 1) (by omega) (by omega), rd_get _ _ (by omega), rd_get _ _ (by omega), drop_cons xs i (by omega), drop_cons ys i (by omega)]
    split
    · rename_i h; simp only [List.cons.injEq, h, true_and]
    · rename_i h; simp only [List.cons.injEq, h, false_and, decide_false]
theorem laws_sameInts_eq (k : Nat) (a b : List Int) (hk : a.length < k) (hn : a.length ≤ 9223372036854775807) : laws_sameInts.f k a b = some (decide (a = b)) := by
  unfold laws_sameInts.f
  by_cases h : a.length = b.length
  · rw [if_pos (by omega)]
    have := laws_sameInts_go a b h hn a.length k 0 (by omega) hk
    rw [Int.natCast_zero] at this
    rw [this]; rfl
  · rw [if_neg (by omega)]; congr 1; symm; rw [decide_eq_false_iff_not]; intro e; exact h (by rw [e])

theorem wraps_i64 (n : Int) (h0 : 0 ≤ n) (h1 : n < 2 ^ 63) : IntKind.i64.wrap n = n := by rw [IntKind.wrap_i64]; omega
/-- or of low bits with high ones. -/
theorem or_hi (k : IntKind) (j : Nat) (hj : j ≤ k.bits) (hk : ∀ n : Int, 0 ≤ n → n < 2 ^ j → k.wrap n = n) (i : Nat)
    (x y : Int) (hx0 : 0 ≤ x) (hx : x % 2 ^ i = 0) (hx1 : x < 2 ^ j) (hy0 : 0 ≤ y) (hy : y < 2 ^ i) (hy1 : y < 2 ^ j) : Go.bits .or k y x = y + x := by
  have e := bits_join k j hj hk i x y hx0 hx hx1 hy0 hy hy1
  obtain ⟨a, rfl⟩ := Int.eq_ofNat_of_zero_le hx0
  obtain ⟨b, rfl⟩ := Int.eq_ofNat_of_zero_le hy0
  have ha : a < 2 ^ j := by exact_mod_cast hx1
  have hb : b < 2 ^ j := by exact_mod_cast hy1
  rw [(bits_nat k j hj hk a b ha hb).2] at e
  rw [(bits_nat k j hj hk b a hb ha).2, Nat.or_comm, e, Int.add_comm]
theorem and127_i64 (x : Int) (h0 : 0 ≤ x) (h1 : x < 2 ^ 63) : Go.bits .and .i64 x 127 = x % 128 := bits_mask .i64 63 (by decide) wraps_i64 7 (by decide) x h0 h1
theorem and127_u8 (x : Int) (h0 : 0 ≤ x) (h1 : x < 256) : Go.bits .and .u8 x 127 = x % 128 := bits_mask .u8 8 (by decide) wraps_u8 7 (by decide) x h0 h1
theorem or128_i64 (x : Int) (h0 : 0 ≤ x) (h1 : x < 128) : Go.bits .or .i64 x 128 = x + 128 := or_hi .i64 63 (by decide) wraps_i64 7 128 x (by decide) (by decide) (by decide) h0 h1 (by omega)
theorem or128_u8 (x : Int) (h0 : 0 ≤ x) (h1 : x < 128) : Go.bits .or .u8 x 128 = x + 128 := or_hi .u8 8 (by decide) wraps_u8 7 128 x (by decide) (by decide) (by decide) h0 h1 (by omega)

/-- The bytes of a varint: at most d + 1 of them. -/
def uvL : Nat → Int → List Int
  | 0, n => [n]
  | d + 1, n => if n > 127 then (n % 128 + 128) :: uvL d (n / 128) else [n]
def uv (n : Int) : List Int := if 0 ≤ n ∧ n ≤ 1000000000000 then uvL 5 n else []
theorem uvL_length (d : Nat) : ∀ n, (uvL d n).length ≤ d + 1 := by
  induction d with
  | zero => intro n; simp [uvL]
  | succ d ih => intro n; simp only [uvL]; split
                 · have := ih (n / 128); simp only [List.length_cons]; omega
                 · simp
theorem uv_length (n : Int) : (uv n).length ≤ 6 := by
  unfold uv; split
  · exact uvL_length 5 n
  · simp

theorem inr (a b c : Int) : impl_InRange.f a b c = some (decide (b ≤ a ∧ a ≤ c)) := by
  unfold impl_InRange.f
  by_cases h : b ≤ a
  · rw [if_pos h]; congr 1; simp only [decide_eq_decide]; omega
  · rw [if_neg h]; congr 1; symm; simp only [decide_eq_false_iff_not]; omega

theorem implApp_go (d : Nat) : ∀ (k : Nat) (n : Int) (b : List Int), d < k → 0 ≤ n → n < 9223372036854775808 → n < 128 * 128 ^ d → b.length + (d + 1) ≤ 140737488355328 →
    impl_AppendUvarint.l0 k n b = some (b ++ uvL d n) := by
  induction d with
  | zero =>
    intro k n b hk h0 hb h1 hl
    obtain ⟨k, rfl⟩ : ∃ m, k = m + 1 := ⟨k - 1, by omega⟩
    simp only [impl_AppendUvarint.l0]
    rw [if_neg (by omega), if_pos (by omega)]
    unfold uvL
    rw [Int.emod_eq_of_lt h0 (by omega)]
  | succ d ih =>
    intro k n b hk h0 hb h1 hl
    obtain ⟨k, rfl⟩ : ∃ m, k = m + 1 := ⟨k - 1, by omega⟩
    simp only [impl_AppendUvarint.l0, uvL]
    by_cases h : n > 127
    · rw [if_pos h, if_pos h, if_pos (by omega)]
      have hp : (128 : Int) ^ (d + 1) = 128 ^ d * 128 := Int.pow_succ ..
      rw [ih k _ _ (by omega) (by omega) (by omega) (by rw [hp] at h1; omega) (by simp only [List.length_append, List.length_cons, List.length_nil]; omega)]
      rw [and127_i64 n h0 (by omega), Int.emod_eq_of_lt (a := n % 128) (b := 256) (by omega) (by omega), or128_u8 _ (by omega) (by omega)]
      rw [List.append_assoc]; rfl
    · rw [if_neg h, if_neg h, if_pos (by omega), Int.emod_eq_of_lt h0 (by omega)]
theorem implApp_eq (k : Nat) (b : List Int) (n : Int) (hk : 5 < k) (hl : b.length + 6 < 140737488355328) : impl_AppendUvarint.f k b n = some (b ++ uv n) := by
  unfold impl_AppendUvarint.f
  rw [Option.bind_some, if_pos (by simp; omega), Option.bind_some, List.nil_append, inr, Option.bind_some]
  unfold uv
  by_cases h : 0 ≤ n ∧ n ≤ 1000000000000
  · rw [if_pos (by rw [decide_eq_true h]), if_pos h, implApp_go 5 k n b hk h.1 (by omega) (by omega) (by omega)]
  · rw [if_neg (by rw [decide_eq_false h]; decide), if_neg h, List.append_nil]

theorem implAppB_eq (k : Nat) (b d : List Int) (hk : 5 < k) (hl : b.length + d.length + 6 < 140737488355328) : impl_AppendBytes.f k b d = some (b ++ uv d.length ++ d) := by
  unfold impl_AppendBytes.f
  have hu := uv_length (d.length : Int)
  rw [implApp_eq k b _ hk (by omega), Option.bind_some, if_pos (by rw [List.length_append]; omega)]

def encL (l : List Int) : List Int := l.flatMap uv
theorem encL_cons (a : Int) (l : List Int) : encL (a :: l) = uv a ++ encL l := by simp [encL]
theorem encL_length (l : List Int) : (encL l).length ≤ 6 * l.length := by
  induction l with
  | nil => simp [encL]
  | cons a l ih =>
    have e : encL (a :: l) = uv a ++ encL l := by simp [encL]
    have := uv_length a
    rw [e, List.length_append, List.length_cons]; omega
theorem iEnc_go (xs : List Int) (hn : xs.length ≤ 1099511627776) : ∀ (d k : Nat) (i : Nat) (out : List Int), i + d = xs.length → d + 5 < k → out.length ≤ 6 * i →
    impl_EncodeInts.l0 k out xs (xs.length : Int) (i : Int) = some (out ++ encL (xs.drop i)) := by
  intro d
  induction d with
  | zero =>
    intro k i out hi hk ho
    obtain ⟨k, rfl⟩ : ∃ m, k = m + 1 := ⟨k - 1, by omega⟩
    simp only [impl_EncodeInts.l0]
    rw [if_neg (by omega), List.drop_of_length_le (by omega)]; simp [encL]
  | succ d ih =>
    intro k i out hi hk ho
    obtain ⟨k, rfl⟩ : ∃ m, k = m + 1 := ⟨k - 1, by omega⟩
    simp only [impl_EncodeInts.l0]
    have hu := uv_length xs[i]
    rw [if_pos (by omega), if_pos (by omega), if_pos (by omega), wsucc (show i < xs.length by omega) (by omega), rd_get _ _ (by omega), implApp_eq k _ _ (by omega) (by omega), Option.bind_some, ih k (i + 1) _ (by omega) (by omega) (by rw [List.length_append]; omega), drop_cons xs i (by omega), List.append_assoc, encL_cons]
theorem iEnc_eq (k : Nat) (l : List Int) (hk : l.length + 5 < k) (hn : l.length ≤ 1099511627776) : impl_EncodeInts.f k l = some (encL l) := by
  unfold impl_EncodeInts.f
  have := iEnc_go l hn l.length k 0 [] (by omega) hk (by simp)
  rw [Int.natCast_zero] at this
  rw [this]; rfl

/-- Reading a varint: d rounds left, j groups read, what they come to. -/
def ruv (b : List Int) (at_ : Int) : Nat → Nat → Int → Int × Int × Bool
  | 0, _, _ => (0, 0, false)
  | d + 1, j, acc =>
    if at_ + j ≥ b.length then (0, 0, false) else
    if rd b (at_ + j) < 128 then
      (if (rd b (at_ + j) = 0 ∧ 0 < j) ∨ acc + rd b (at_ + j) * 2 ^ (7 * j) > 1000000000000 then (0, 0, false) else (acc + rd b (at_ + j) * 2 ^ (7 * j), at_ + j + 1, true))
    else ruv b at_ d (j + 1) (acc + (rd b (at_ + j) - 128) * 2 ^ (7 * j))
def ruvF (b : List Int) (at_ : Int) : Int × Int × Bool := if at_ < 0 ∨ at_ ≥ b.length then (0, 0, false) else ruv b at_ 6 0 0
theorem pow7 (j : Nat) (hj : j ≤ 5) : (0 : Int) < 2 ^ (7 * j) ∧ (2 : Int) ^ (7 * j) ≤ 34359738368 ∧ (2 : Int) ^ (7 * (j + 1)) = 128 * 2 ^ (7 * j) := by
  refine ⟨Int.pow_pos (by decide), ?_, ?_⟩
  · have : (2 : Nat) ^ (7 * j) ≤ 2 ^ 35 := Nat.pow_le_pow_right (by decide) (by omega)
    have h2 : (2 : Int) ^ (7 * j) = ((2 ^ (7 * j) : Nat) : Int) := by simp
    rw [h2]; omega
  · rw [show 7 * (j + 1) = 7 * j + 7 from by omega, Int.pow_add, Int.mul_comm]; rfl
theorem or_shl (acc y : Int) (j : Nat) (hj : j ≤ 5) (h0 : 0 ≤ acc) (h1 : acc < 2 ^ (7 * j)) (y0 : 0 ≤ y) (y1 : y < 128) :
    Go.bits .or .i64 acc (shl .i64 y (7 * (j : Int))) = acc + y * 2 ^ (7 * j) ∧ acc + y * 2 ^ (7 * j) < 2 ^ (7 * (j + 1)) := by
  obtain ⟨p0, p1, p2⟩ := pow7 j hj
  have hm : y * 2 ^ (7 * j) ≤ 127 * 2 ^ (7 * j) := Int.mul_le_mul_of_nonneg_right (by omega) (by omega)
  have hn : 0 ≤ y * 2 ^ (7 * j) := Int.mul_nonneg y0 (by omega)
  have e : shl .i64 y (7 * (j : Int)) = y * 2 ^ (7 * j) := by
    unfold shl
    rw [show (7 * (j : Int)).toNat = 7 * j from by omega, Nat.min_eq_left (show 7 * j ≤ IntKind.i64.bits from Nat.le_trans (show 7 * j ≤ 35 by omega) (by decide))]
    exact wraps_i64 _ hn (by omega)
  rw [e, p2]
  exact ⟨or_hi .i64 63 (by decide) wraps_i64 (7 * j) _ _ hn (Int.mul_emod_left _ _) (by omega) h0 h1 (by omega), by omega⟩
theorem rd_wraps (at_ : Int) (n : Int) (j : Nat) (a0 : 0 ≤ at_) (a1 : at_ < n) (hn : n ≤ 140737488355328) (hj : j ≤ 5) :
    wrap64 (n - (j : Int)) = n - j ∧ wrap64 (at_ + (j : Int)) = at_ + j ∧ wrap64 (7 * (j : Int)) = 7 * j ∧ wrap64 (at_ + (j : Int) + 1) = at_ + j + 1 ∧ wrap64 ((j : Int) + 1) = ((j + 1 : Nat) : Int) := by
  refine ⟨?_, ?_, ?_, ?_, ?_⟩ <;> (unfold wrap64; omega)

theorem ruv_ok (b : List Int) (hb : ∀ x ∈ b, 0 ≤ x ∧ x < 256) (at_ : Int) (a0 : 0 ≤ at_) : ∀ (d j : Nat) (acc : Int), 0 ≤ acc → (ruv b at_ d j acc).2.2 = true →
    0 ≤ (ruv b at_ d j acc).1 ∧ (ruv b at_ d j acc).1 ≤ 1000000000000 ∧ at_ + j < (ruv b at_ d j acc).2.1 ∧ (ruv b at_ d j acc).2.1 ≤ b.length := by
  intro d
  induction d with
  | zero => intro j acc _ h; simp [ruv] at h
  | succ d ih =>
    intro j acc h0 h
    simp only [ruv] at h ⊢
    by_cases hl : at_ + (j : Int) ≥ b.length
    · rw [if_pos hl] at h; simp at h
    · rw [if_neg hl] at h ⊢
      obtain ⟨i, hi⟩ := Int.eq_ofNat_of_zero_le (show 0 ≤ at_ + (j : Int) by omega)
      have hx : 0 ≤ rd b (at_ + j) ∧ rd b (at_ + j) < 256 := by rw [hi, rd_get _ _ (by omega)]; exact hb _ (List.getElem_mem _)
      generalize rd b (at_ + j) = x at hx h ⊢
      have hp : (0 : Int) < 2 ^ (7 * j) := Int.pow_pos (by decide)
      generalize (2 : Int) ^ (7 * j) = p at hp h ⊢
      by_cases hx1 : x < 128
      · rw [if_pos hx1] at h ⊢
        by_cases hc : (x = 0 ∧ 0 < j) ∨ acc + x * p > 1000000000000
        · rw [if_pos hc] at h; simp at h
        · rw [if_neg hc]
          have := Int.mul_nonneg hx.1 (Int.le_of_lt hp)
          dsimp only
          refine ⟨by omega, ?_, by omega, by omega⟩
          exact Int.not_lt.1 fun h' => hc (Or.inr h')
      · rw [if_neg hx1] at h ⊢
        have hacc : 0 ≤ acc + (x - 128) * p := Int.add_nonneg h0 (Int.mul_nonneg (by omega) (Int.le_of_lt hp))
        have := ih (j + 1) _ hacc h
        omega
theorem ruvF_ok (b : List Int) (hb : ∀ x ∈ b, 0 ≤ x ∧ x < 256) (at_ : Int) (h : (ruvF b at_).2.2 = true) :
    0 ≤ (ruvF b at_).1 ∧ (ruvF b at_).1 ≤ 1000000000000 ∧ 0 ≤ at_ ∧ at_ < (ruvF b at_).2.1 ∧ (ruvF b at_).2.1 ≤ b.length := by
  unfold ruvF at h ⊢
  by_cases hc : at_ < 0 ∨ at_ ≥ b.length
  · rw [if_pos hc] at h; simp at h
  · rw [if_neg hc] at h ⊢
    have := ruv_ok b hb at_ (by omega) 6 0 0 (by omega) h
    omega

theorem iRead_go (b : List Int) (hb : ∀ x ∈ b, 0 ≤ x ∧ x < 256) (hn : b.length ≤ 140737488355328) (at_ : Int) (a0 : 0 ≤ at_) (a1 : at_ < b.length) : ∀ (d k j : Nat) (acc : Int), d + j = 6 → d < k → 0 ≤ acc → acc < 2 ^ (7 * j) →
    impl_ReadUvarint.l0 k b at_ acc (j : Int) = some (ruv b at_ d j acc) := by
  intro d
  induction d with
  | zero =>
    intro k j acc hj hk h0 h1
    obtain ⟨k, rfl⟩ : ∃ m, k = m + 1 := ⟨k - 1, by omega⟩
    simp only [impl_ReadUvarint.l0]
    rw [if_neg (by omega)]; rfl
  | succ d ih =>
    intro k j acc hj hk h0 h1
    obtain ⟨k, rfl⟩ : ∃ m, k = m + 1 := ⟨k - 1, by omega⟩
    have hbn : (b.length : Int) ≤ 140737488355328 := by omega
    simp only [impl_ReadUvarint.l0, ruv, (rd_wraps at_ _ j a0 a1 hbn (by omega)).2.1, (rd_wraps at_ _ j a0 a1 hbn (by omega)).2.2.1, (rd_wraps at_ _ j a0 a1 hbn (by omega)).2.2.2.1, (rd_wraps at_ _ j a0 a1 hbn (by omega)).2.2.2.2]
    rw [if_pos (show (j : Int) < 6 by omega)]
    by_cases hl : at_ + (j : Int) ≥ b.length
    · rw [if_pos hl, if_pos hl]
    · rw [if_neg hl, if_neg hl, if_pos (show 0 ≤ at_ + (j : Int) by omega), if_pos (show at_ + (j : Int) < b.length by omega), if_pos (show 0 ≤ 7 * (j : Int) by omega)]
      obtain ⟨i, hi⟩ := Int.eq_ofNat_of_zero_le (show 0 ≤ at_ + (j : Int) by omega)
      have hx : 0 ≤ rd b (at_ + j) ∧ rd b (at_ + j) < 256 := by rw [hi, rd_get _ _ (by omega)]; exact hb _ (List.getElem_mem _)
      generalize rd b (at_ + j) = x at hx ⊢
      have w5 : wrap64 (Go.bits .and .u8 x 127) = x % 128 := by rw [and127_u8 x hx.1 hx.2]; unfold wrap64; omega
      obtain ⟨e, e'⟩ := or_shl acc (x % 128) j (by omega) h0 h1 (by omega) (by omega)
      rw [w5, e]
      by_cases hx1 : x < 128
      · rw [if_pos hx1, if_pos hx1, Int.emod_eq_of_lt hx.1 hx1]
        by_cases hj0 : (j : Int) > 0
        · rw [if_pos hj0]
          by_cases hx0 : x = 0
          · rw [if_pos hx0, if_pos (Or.inl ⟨hx0, by omega⟩)]
          · rw [if_neg hx0]
            split
            · rename_i h; rw [if_pos (Or.inr h)]
            · rename_i h; rw [if_neg (by rintro (h' | h'); exact hx0 h'.1; exact h h')]
        · rw [if_neg hj0]
          split
          · rename_i h; rw [if_pos (Or.inr h)]
          · rename_i h; rw [if_neg (by rintro (h' | h'); exact hj0 (by omega); exact h h')]
      · rw [if_neg hx1, if_neg hx1, show x % 128 = x - 128 from by omega] 
        rw [show x % 128 = x - 128 from by omega] at e e'
        have hp := (pow7 j (by omega)).1
        exact ih k (j + 1) _ (by omega) (by omega) (Int.add_nonneg h0 (Int.mul_nonneg (by omega) (by omega))) e'
theorem iRead_eq (k : Nat) (b : List Int) (hb : ∀ x ∈ b, 0 ≤ x ∧ x < 256) (hn : b.length ≤ 140737488355328) (at_ : Int) (hk : 7 < k) : impl_ReadUvarint.f k b at_ = some (ruvF b at_) := by
  obtain ⟨k, rfl⟩ : ∃ m, k = m + 1 := ⟨k - 1, by omega⟩
  unfold impl_ReadUvarint.f ruvF
  by_cases h : at_ < 0
  · rw [if_pos h, if_pos (Or.inl h)]; simp only [impl_ReadUvarint.j0, if_true]
  · rw [if_neg h]
    by_cases h2 : at_ ≥ b.length
    · rw [if_pos (Or.inr h2)]; simp only [impl_ReadUvarint.j0, decide_eq_true h2, if_true]
    · rw [if_neg (by omega)]; simp only [impl_ReadUvarint.j0, decide_eq_false h2, Bool.false_eq_true, if_false]
      have := iRead_go b hb hn at_ (by omega) (by omega) 6 k 0 0 (by omega) (by omega) (by omega) (by decide)
      rw [Int.natCast_zero] at this
      exact this

def rbV (b : List Int) (at_ most : Int) : List Int × Int × Bool :=
  if (ruvF b at_).2.2 = true then
    (if (ruvF b at_).1 > most then ([], 0, false) else if (ruvF b at_).1 > b.length - (ruvF b at_).2.1 then ([], 0, false) else
      ((b.take ((ruvF b at_).2.1 + (ruvF b at_).1).toNat).drop ((ruvF b at_).2.1).toNat, (ruvF b at_).2.1 + (ruvF b at_).1, true))
  else ([], 0, false)
theorem rbV_length (b : List Int) (at_ most : Int) : (rbV b at_ most).1.length ≤ b.length := by
  unfold rbV
  split
  · split
    · simp
    · split
      · simp
      · simp only [List.length_drop, List.length_take]; omega
  · simp
theorem iRB_eq (k : Nat) (b : List Int) (hb : ∀ x ∈ b, 0 ≤ x ∧ x < 256) (hn : b.length ≤ 1099511627776) (at_ most : Int) (hk : 7 < k) : impl_ReadBytes.f k b at_ most = some (rbV b at_ most) := by
  unfold impl_ReadBytes.f rbV
  rw [iRead_eq k b hb (by omega) at_ hk, Option.bind_some]
  have ho := ruvF_ok b hb at_
  generalize ruvF b at_ = r at ho ⊢
  by_cases h : r.2.2 = true
  · obtain ⟨h0, h1, h2, h3, h4⟩ := ho h
    rw [if_pos h, if_pos h]
    by_cases hm : r.1 > most
    · rw [if_pos hm, if_pos hm]
    · have w1 : wrap64 ((b.length : Int) - r.2.1) = b.length - r.2.1 := by unfold wrap64; omega
      have w2 : wrap64 (r.2.1 + r.1) = r.2.1 + r.1 := by unfold wrap64; omega
      rw [if_neg hm, if_neg hm, w1]
      by_cases hl : r.1 > b.length - r.2.1
      · rw [if_pos hl, if_pos hl]
      · rw [if_neg hl, if_neg hl, Option.bind_some, w2, if_pos (show 0 ≤ r.2.1 by omega), if_pos (show r.2.1 ≤ r.2.1 + r.1 by omega), if_pos (show r.2.1 + r.1 ≤ b.length by omega), if_pos (by simp only [List.length_nil, List.length_drop, List.length_take]; omega), List.nil_append]
  · rw [if_neg h, if_neg h]

def decL (b : List Int) : Nat → Int → List Int → List Int × Int × Bool
  | 0, at_, out => (out, at_, true)
  | d + 1, at_, out => if (ruvF b at_).2.2 = true then decL b d (ruvF b at_).2.1 (out ++ [(ruvF b at_).1]) else ([], 0, false)
def decV (b : List Int) (at_ cnt : Int) : List Int × Int × Bool := if (0 ≤ cnt ∧ cnt ≤ 100) ∧ (0 ≤ at_ ∧ at_ ≤ b.length) then decL b cnt.toNat at_ [] else ([], 0, false)
theorem decL_length (b : List Int) : ∀ d at_ out, (decL b d at_ out).1.length ≤ out.length + d := by
  intro d
  induction d with
  | zero => intro at_ out; simp [decL]
  | succ d ih =>
    intro at_ out
    simp only [decL]
    split
    · have := ih (ruvF b at_).2.1 (out ++ [(ruvF b at_).1]); simp only [List.length_append, List.length_cons, List.length_nil] at this; omega
    · simp
theorem decV_length (b : List Int) (at_ cnt : Int) : (decV b at_ cnt).1.length ≤ 100 := by
  unfold decV
  split
  · have := decL_length b cnt.toNat at_ []; simp only [List.length_nil] at this; omega
  · simp

theorem iDec_go (b : List Int) (hb : ∀ x ∈ b, 0 ≤ x ∧ x < 256) (hn : b.length ≤ 140737488355328) (n : Nat) (hn1 : n ≤ 100) : ∀ (d k i : Nat) (at_ : Int) (out : List Int), i + d = n → d + 8 < k → out.length ≤ i →
    impl_DecodeInts.l0 k b at_ out (n : Int) (i : Int) = some (decL b d at_ out) := by
  intro d
  induction d with
  | zero =>
    intro k i at_ out hi hk ho
    obtain ⟨k, rfl⟩ : ∃ m, k = m + 1 := ⟨k - 1, by omega⟩
    simp only [impl_DecodeInts.l0, decL]
    rw [if_neg (by omega)]
  | succ d ih =>
    intro k i at_ out hi hk ho
    obtain ⟨k, rfl⟩ : ∃ m, k = m + 1 := ⟨k - 1, by omega⟩
    simp only [impl_DecodeInts.l0, decL]
    rw [if_pos (by omega), iRead_eq k b hb hn at_ (by omega), Option.bind_some]
    by_cases h : (ruvF b at_).2.2 = true
    · rw [if_pos h, if_pos h, if_pos (by omega), wsucc (show i < n by omega) (by omega)]
      exact ih k (i + 1) _ _ (by omega) (by omega) (by simp; omega)
    · rw [if_neg h, if_neg h]
theorem iDec_eq (k : Nat) (b : List Int) (hb : ∀ x ∈ b, 0 ≤ x ∧ x < 256) (hn : b.length ≤ 140737488355328) (at_ cnt : Int) (hk : 120 < k) : impl_DecodeInts.f k b at_ cnt = some (decV b at_ cnt) := by
  obtain ⟨k, rfl⟩ : ∃ m, k = m + 1 := ⟨k - 1, by omega⟩
  unfold impl_DecodeInts.f decV
  have hj : ∀ x, impl_DecodeInts.j0 (k + 1) b at_ cnt x = if x = true then some ([], 0, false) else impl_DecodeInts.l0 k b at_ [] cnt 0 := fun x => by simp only [impl_DecodeInts.j0]
  rw [inr, Option.bind_some, inr]
  by_cases h1 : 0 ≤ cnt ∧ cnt ≤ 100
  · rw [if_pos (decide_eq_true h1), Option.bind_some, hj]
    by_cases h2 : 0 ≤ at_ ∧ at_ ≤ b.length
    · rw [decide_eq_true h2, if_neg (by decide), if_pos ⟨h1, h2⟩]
      have := iDec_go b hb hn cnt.toNat (by omega) cnt.toNat k 0 at_ [] (by omega) (by omega) (by simp)
      rw [Int.natCast_zero, Int.toNat_of_nonneg h1.1] at this
      exact this
    · rw [decide_eq_false h2, if_pos (by decide), if_neg (fun h => h2 h.2)]
  · rw [if_neg (by rw [decide_eq_false h1]; decide), hj, if_pos rfl, if_neg (fun h => h1 h.1)]

theorem uvL_bytes (d : Nat) : ∀ n : Int, 0 ≤ n → n < 128 * 128 ^ d → ∀ x ∈ uvL d n, 0 ≤ x ∧ x < 256 := by
  induction d with
  | zero => intro n h0 h1 x hx; simp [uvL] at hx; omega
  | succ d ih =>
    intro n h0 h1 x hx
    have hp : (128 : Int) ^ (d + 1) = 128 ^ d * 128 := Int.pow_succ ..
    simp only [uvL] at hx
    by_cases hn : n > 127
    · rw [if_pos hn] at hx
      rcases List.mem_cons.1 hx with h | h
      · omega
      · exact ih (n / 128) (by omega) (by rw [hp] at h1; omega) x h
    · rw [if_neg hn] at hx; simp at hx; omega
theorem uv_bytes (n : Int) : ∀ x ∈ uv n, 0 ≤ x ∧ x < 256 := by
  intro x hx
  unfold uv at hx
  split at hx
  · exact uvL_bytes 5 n (by omega) (by omega) x hx
  · simp at hx
theorem app_bytes {a b : List Int} (ha : ∀ x ∈ a, 0 ≤ x ∧ x < 256) (hb : ∀ x ∈ b, 0 ≤ x ∧ x < 256) : ∀ x ∈ a ++ b, 0 ≤ x ∧ x < 256 := by
  intro x hx
  rcases List.mem_append.1 hx with h | h
  · exact ha x h
  · exact hb x h

theorem p7succ (j : Nat) : (2 : Int) ^ (7 * (j + 1)) = 128 * 2 ^ (7 * j) := by
  rw [show 7 * (j + 1) = 7 * j + 7 from by omega, Int.pow_add, Int.mul_comm]; rfl
theorem rd_mid (b c : List Int) (x : Int) (r : List Int) (n : Nat) (h : b.length = n) : rd (b ++ (x :: r) ++ c) (n : Int) = x := by
  rw [rd_get _ _ (by simp; omega)]
  subst h
  simp
/-- Reading what was written. -/
theorem ruv_uv (c : List Int) (at_ : Nat) : ∀ (d e j : Nat) (acc n : Int) (b : List Int), d + 1 ≤ e → b.length = at_ + j → 0 ≤ acc → 0 ≤ n → n < 128 * 128 ^ d → (n ≠ 0 ∨ j = 0) → acc + n * 2 ^ (7 * j) ≤ 1000000000000 →
    ruv (b ++ uvL d n ++ c) (at_ : Int) e j acc = (acc + n * 2 ^ (7 * j), (at_ : Int) + j + (uvL d n).length, true) := by
  intro d
  induction d with
  | zero =>
    intro e j acc n b he hb h0 n0 n1 hj ht
    obtain ⟨e, rfl⟩ : ∃ m, e = m + 1 := ⟨e - 1, by omega⟩
    rw [show uvL 0 n = [n] from rfl]
    simp only [ruv]
    have hr : rd (b ++ [n] ++ c) ((at_ : Int) + (j : Int)) = n := by
      have := rd_mid b c n [] (at_ + j) hb
      rw [Int.natCast_add] at this
      exact this
    rw [hr, if_neg (by simp; omega), if_pos (show n < 128 by omega), if_neg (by rintro (h | h); omega; exact absurd ht (Int.not_le.2 h))]
    simp
  | succ d ih =>
    intro e j acc n b he hb h0 n0 n1 hj ht
    obtain ⟨e, rfl⟩ : ∃ m, e = m + 1 := ⟨e - 1, by omega⟩
    by_cases hn : n > 127
    · have e1 : uvL (d + 1) n = (n % 128 + 128) :: uvL d (n / 128) := by simp only [uvL]; rw [if_pos hn]
      have hp : (128 : Int) ^ (d + 1) = 128 ^ d * 128 := Int.pow_succ ..
      rw [e1]
      simp only [ruv]
      have hr : rd (b ++ (n % 128 + 128) :: uvL d (n / 128) ++ c) ((at_ : Int) + (j : Int)) = n % 128 + 128 := by
        have := rd_mid b c (n % 128 + 128) (uvL d (n / 128)) (at_ + j) hb
        rw [Int.natCast_add] at this
        exact this
      have hp2 : (0 : Int) < 2 ^ (7 * j) := Int.pow_pos (by decide)
      have hsum : (acc + (n % 128) * 2 ^ (7 * j)) + (n / 128) * 2 ^ (7 * (j + 1)) = acc + n * 2 ^ (7 * j) := by
        rw [p7succ, ← Int.mul_assoc, Int.add_assoc, ← Int.add_mul]
        congr 2; omega
      have hacc : 0 ≤ acc + (n % 128) * 2 ^ (7 * j) := Int.add_nonneg h0 (Int.mul_nonneg (by omega) (by omega))
      rw [hr, if_neg (by simp; omega), if_neg (show ¬ (n % 128 + 128 < 128) by omega), show n % 128 + 128 - 128 = n % 128 from by omega]
      have := ih e (j + 1) (acc + (n % 128) * 2 ^ (7 * j)) (n / 128) (b ++ [n % 128 + 128]) (by omega) (by simp; omega) hacc (by omega) (by rw [hp] at n1; omega) (Or.inl (by omega)) (by rw [hsum]; exact ht)
      rw [hsum] at this
      rw [show b ++ (n % 128 + 128) :: uvL d (n / 128) ++ c = b ++ [n % 128 + 128] ++ uvL d (n / 128) ++ c from by simp, this]
      simp only [List.length_cons, Prod.mk.injEq, true_and, and_true]; omega
    · have e1 : uvL (d + 1) n = [n] := by simp only [uvL]; rw [if_neg hn]
      rw [e1]
      simp only [ruv]
      have hr : rd (b ++ [n] ++ c) ((at_ : Int) + (j : Int)) = n := by
        have := rd_mid b c n [] (at_ + j) hb
        rw [Int.natCast_add] at this
        exact this
      rw [hr, if_neg (by simp; omega), if_pos (show n < 128 by omega), if_neg (by rintro (h | h); omega; exact absurd ht (Int.not_le.2 h))]
      simp
theorem uv_pos (n : Int) (h : 0 ≤ n ∧ n ≤ 1000000000000) : uv n = uvL 5 n := by unfold uv; rw [if_pos h]
theorem uvL_pos (d : Nat) (n : Int) : 1 ≤ (uvL d n).length := by
  cases d with
  | zero => simp [uvL]
  | succ d => simp only [uvL]; split <;> simp
theorem ruvF_uv (b c : List Int) (n : Int) (h : 0 ≤ n ∧ n ≤ 1000000000000) : ruvF (b ++ uv n ++ c) (b.length : Int) = (n, (b.length : Int) + (uv n).length, true) := by
  rw [uv_pos n h]
  have hl := uvL_pos 5 n
  unfold ruvF
  rw [if_neg (by simp only [List.length_append]; omega)]
  have := ruv_uv c b.length 5 6 0 0 n b (by omega) (by omega) (by omega) h.1 (by omega) (Or.inr rfl) (by simp; omega)
  rw [this]
  simp

theorem at_is (l : List Int) (hb : ∀ x ∈ l, 0 ≤ x ∧ x < 256) (hn : l.length ≤ 1048576) (i : Int) (h0 : 0 ≤ i) (h1 : i ≤ 10000000) : ∃ x, laws_at.f l i = some x ∧ 0 ≤ x ∧ x ≤ 255 := by
  unfold laws_at.f
  by_cases h : i < l.length
  · obtain ⟨j, rfl⟩ := Int.eq_ofNat_of_zero_le h0
    obtain ⟨x0, x1⟩ := hb _ (List.getElem_mem (show j < l.length by omega))
    rw [if_pos h, if_pos h0, rd_get _ _ (by omega)]
    exact ⟨_, rfl, by rw [w64 (by omega) (by omega)]; omega, by rw [w64 (by omega) (by omega)]; omega⟩
  · rw [if_neg h]
    refine ⟨_, rfl, ?_⟩
    rw [w64 (x := i * 31) (by omega) (by omega), w64 (x := (l.length : Int) * 7) (by omega) (by omega), w64 (by omega) (by omega), Int.tmod_eq_emod_of_nonneg (by omega)]
    omega

theorem enc_bytes (l : List Int) : ∀ x ∈ encL l, 0 ≤ x ∧ x < 256 := by
  induction l with
  | nil => simp [encL]
  | cons a l ih => rw [encL_cons]; exact app_bytes (uv_bytes a) ih
theorem dec_enc (l : List Int) (hr : ∀ x ∈ l, 0 ≤ x ∧ x ≤ 1000000000000) : ∀ (pre out : List Int), decL (pre ++ encL l) l.length (pre.length : Int) out = (out ++ l, ((pre ++ encL l).length : Int), true) := by
  induction l with
  | nil => intro pre out; simp [decL, encL]
  | cons a l ih =>
    intro pre out
    have h := ruvF_uv pre (encL l) a (hr a (List.mem_cons_self ..))
    rw [encL_cons, ← List.append_assoc]
    simp only [List.length_cons, decL]
    rw [h]
    dsimp only
    rw [if_pos rfl]
    have := ih (fun x hx => hr x (List.mem_cons_of_mem _ hx)) (pre ++ uv a) (out ++ [a])
    rw [List.length_append, Int.natCast_add] at this
    rw [this]; simp
theorem dec_enc_more (l : List Int) (hr : ∀ x ∈ l, 0 ≤ x ∧ x ≤ 1000000000000) : ∀ (pre out : List Int), decL (pre ++ encL l) (l.length + 1) (pre.length : Int) out = ([], 0, false) := by
  induction l with
  | nil =>
    intro pre out
    have h : ruvF (pre ++ encL []) (pre.length : Int) = (0, 0, false) := by unfold ruvF; rw [if_pos (Or.inr (by simp [encL]))]
    simp only [List.length_nil, decL]
    rw [h]; rfl
  | cons a l ih =>
    intro pre out
    have h := ruvF_uv pre (encL l) a (hr a (List.mem_cons_self ..))
    rw [encL_cons, ← List.append_assoc]
    rw [show (a :: l).length + 1 = (l.length + 1) + 1 from rfl, decL, h]
    dsimp only
    rw [if_pos rfl]
    have := ih (fun x hx => hr x (List.mem_cons_of_mem _ hx)) (pre ++ uv a) (out ++ [a])
    rw [List.length_append, Int.natCast_add] at this
    exact this
theorem tail_law (l : List Int) (hb : ∀ x ∈ l, 0 ≤ x ∧ x < 256) (hn : l.length ≤ 1048576) (q : Int) (hq : laws_at.f l 0 = some q) (q0 : 0 ≤ q) : ∀ (d k i : Nat) (out : List Int), (i : Int) + d = Int.tmod q 6 → d + 200 < k → out.length = i → (∀ x ∈ out, 0 ≤ x ∧ x ≤ 1000000000000) →
    laws_FnByteStrings.l0 k l out (i : Int) = some true := by
  have hq6 : Int.tmod q 6 ≤ 5 := by rw [Int.tmod_eq_emod_of_nonneg q0]; omega
  intro d
  induction d with
  | zero =>
    intro k i out hi hk ho hr
    obtain ⟨k, rfl⟩ : ∃ m, k = m + 1 := ⟨k - 1, by omega⟩
    simp only [laws_FnByteStrings.l0]
    have hel := encL_length out
    have hd1 : decV (encL out) 0 (out.length : Int) = (out, ((encL out).length : Int), true) := by
      unfold decV
      rw [if_pos ⟨⟨by omega, by omega⟩, ⟨by omega, by omega⟩⟩, Int.toNat_natCast]
      have := dec_enc out hr [] []
      simpa using this
    have hd2 : decV (encL out) 0 ((out.length : Int) + 1) = ([], 0, false) := by
      unfold decV
      rw [if_pos ⟨⟨by omega, by omega⟩, ⟨by omega, by omega⟩⟩, show ((out.length : Int) + 1).toNat = out.length + 1 from by omega]
      have := dec_enc_more out hr [] []
      simpa using this
    rw [hq, Option.bind_some, if_neg (by omega), iEnc_eq k out (by omega) (by omega), Option.bind_some, iDec_eq k (encL out) (enc_bytes out) (by omega) 0 _ (by omega), Option.bind_some, hd1,
      show wrap64 ((out.length : Int) + 1) = (out.length : Int) + 1 from by unfold wrap64; omega, iDec_eq k (encL out) (enc_bytes out) (by omega) 0 _ (by omega), Option.bind_some, hd2]
    dsimp only
    rw [if_pos rfl, laws_sameInts_eq k _ _ (by omega) (by omega), Option.bind_some, if_pos (by simp), if_pos rfl]; rfl
  | succ d ih =>
    intro k i out hi hk ho hr
    obtain ⟨k, rfl⟩ : ∃ m, k = m + 1 := ⟨k - 1, by omega⟩
    simp only [laws_FnByteStrings.l0]
    rw [show wrap64 ((i : Int) + 1) = ((i + 1 : Nat) : Int) from by unfold wrap64; omega, show wrap64 ((i : Int) + 2) = (i : Int) + 2 from by unfold wrap64; omega, show wrap64 ((i : Int) + 3) = (i : Int) + 3 from by unfold wrap64; omega]
    obtain ⟨x, ex, x0, x1⟩ := at_is l hb hn ((i + 1 : Nat) : Int) (by omega) (by omega)
    obtain ⟨y, ey, y0, y1⟩ := at_is l hb hn ((i : Int) + 2) (by omega) (by omega)
    obtain ⟨z, ez, z0, z1⟩ := at_is l hb hn ((i : Int) + 3) (by omega) (by omega)
    rw [hq, Option.bind_some, if_pos (by omega), ex, Option.bind_some, ey, Option.bind_some, ez, Option.bind_some, if_pos (by omega)]
    have p0 := Int.mul_nonneg x0 y0
    have p1 : x * y ≤ 255 * 255 := Int.mul_le_mul x1 y1 y0 (by omega)
    have r0 := Int.mul_nonneg p0 z0
    have r1 : x * y * z ≤ 255 * 255 * 255 := Int.mul_le_mul p1 z1 z0 (by omega)
    refine ih k (i + 1) _ (by omega) (by omega) (by simp [ho]) ?_
    intro w hw
    rcases List.mem_append.1 hw with hw | hw
    · exact hr w hw
    · simp only [List.mem_singleton] at hw
      rw [w64 (x := x * y) (by omega) (by omega), w64 (by omega) (by omega)] at hw
      omega
theorem FnByteStrings : laws_FnByteStrings.Pure := by
  intro l _ _ hw
  have hb : ∀ x ∈ l, 0 ≤ x ∧ x < 256 := fun x hx => u8_wf (hw x hx)
  by_cases hl : l.length ≤ 1048576
  · obtain ⟨h, e0, c0⟩ := new_is l hb hl
    obtain ⟨n, i1, h1, e1, n0, n1, _, c1⟩ := below_is l 0 h 3 c0 (by omega)
    obtain ⟨n, rfl⟩ := Int.eq_ofNat_of_zero_le n0
    have := n1 (by omega)
    obtain ⟨p, i2, h2, e2, hp, hpb, c2⟩ := bytes_is l i1 h1 n (by omega) c1
    obtain ⟨m, i3, h3, e3, m0, m1, _, c3⟩ := below_is l i2 h2 6 c2 (by omega)
    obtain ⟨m, rfl⟩ := Int.eq_ofNat_of_zero_le m0
    have := m1 (by omega)
    obtain ⟨s, i4, h4, e4, hs, hsb, c4⟩ := bytes_is l i3 h3 m (by omega) c3
    obtain ⟨q, hq, q0, q1⟩ := at_is l hb hl 0 (by omega) (by omega)
    refine ⟨l.length + 300 + 1, ?_⟩
    have d : spec_DrawAppendBytes.f (l.length + 300 + 1) l = some (p, s) := by
      unfold spec_DrawAppendBytes.f
      rw [e0 _ (by omega), Option.bind_some]
      dsimp only
      rw [e1, Option.bind_some]
      dsimp only
      rw [e2 _ (by omega), Option.bind_some]
      dsimp only
      rw [e3, Option.bind_some]
      dsimp only
      rw [e4 _ (by omega)]; rfl
    have hu := uv_length (s.length : Int)
    have hx : ∀ x ∈ p ++ uv s.length ++ s, 0 ≤ x ∧ x < 256 := app_bytes (app_bytes hpb (uv_bytes _)) hsb
    have hxl : (p ++ uv s.length ++ s).length = p.length + (uv s.length).length + s.length := by simp [Nat.add_assoc]
    have hf := ruvF_uv p s (s.length : Int) ⟨by omega, by omega⟩
    have r1 : rbV (p ++ uv s.length ++ s) (p.length : Int) (s.length : Int) = (s, ((p ++ uv s.length ++ s).length : Int), true) := by
      unfold rbV
      rw [hf]
      dsimp only
      rw [if_pos rfl, if_neg (by omega), if_neg (by omega), hxl]
      refine Prod.ext ?_ (Prod.ext (by dsimp only; omega) rfl)
      dsimp only
      rw [List.take_of_length_le (by omega), show ((p.length : Int) + ((uv (s.length : Int)).length : Int)).toNat = (p ++ uv s.length).length from by rw [List.length_append]; omega]
      simp
    have r2 : rbV (p ++ uv s.length ++ s) (p.length : Int) ((s.length : Int) - 1) = ([], 0, false) := by
      unfold rbV
      rw [hf]
      dsimp only
      rw [if_pos rfl, if_pos (by omega)]
    unfold laws_FnByteStrings.f laws_big.f
    rw [Option.bind_some, if_neg (by simp; omega), d, Option.bind_some]
    dsimp only
    rw [implAppB_eq _ p s (by omega) (by omega), Option.bind_some, iRB_eq _ _ hx (by omega) _ _ (by omega), Option.bind_some, r1,
      show wrap64 ((s.length : Int) - 1) = (s.length : Int) - 1 from by unfold wrap64; omega, iRB_eq _ _ hx (by omega) _ _ (by omega), Option.bind_some, r2]
    dsimp only
    rw [if_pos rfl, laws_sameBytes_eq _ _ _ (by omega) (by omega), Option.bind_some, if_pos (by simp), if_pos rfl]
    simp only [laws_FnByteStrings.j0, Bool.false_eq_true, if_false]
    have ht := tail_law l hb hl q hq q0 (Int.tmod q 6).toNat (l.length + 300) 0 [] (by rw [Int.tmod_eq_emod_of_nonneg q0]; omega) (by rw [Int.tmod_eq_emod_of_nonneg q0]; omega) rfl (by simp)
    rw [Int.natCast_zero] at ht
    exact ht
  · refine ⟨1, ?_⟩
    unfold laws_FnByteStrings.f laws_big.f
    rw [Option.bind_some, if_pos (by simp; omega)]

end Go.Proofs.Ytepicmocmioiiaa.Pure
