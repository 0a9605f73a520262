/- The row of FnVarints: for every slice of bytes (that fits into memory) the law answers true; no condition. -/
import Derived.Laws.BitsLemmas
import Derived.Test.YtepicmocmioiiaaQFnVarintsx4
import Derived.Test.YtepicmocmioiiaaWSized
set_option linter.unusedVariables false
set_option linter.unusedSimpArgs false
namespace Go.Proofs.Ytepicmocmioiiaa.PrintWords
open Go.ChangeShapes Go.WideShapes
/-- The words' own theorem, under the name by which the row asks for it. -/
theorem sized_ints {H : Type} {enc : TypeId × Value → H} {P : Program} {W : World} {base : Nat} {spare : Nat → Bool} {held : Bool} {t e : TypeId} {k : IntKind} {a : Option Addr} {len cap : Nat} {d : DataW H} {ps : List MemPlace} {ts : List TypeId} {ds : List (DataW H)} {j : Nat}
    (hsz : (DataW.weightsEach P ts ds).all (· ≤ reachBytes) = true) (ht : ts[j]? = some t) (hd : ds[j]? = some d) (hu : P.underlying t = some (.slice e)) (he : P.underlying e = some (.int k)) (hc : P.cellsOf e = 1) {B : Nat} (hB : P.bytesOf e = B)
    (h : DataW.Trod enc P W base spare held t (.slice a len cap) d ps) : len * B ≤ 140737488351232 := Go.Proofs.YtepicmocmioiiaaW.PrintWords.sized_ints hsz ht hd hu he hc hB h
end Go.Proofs.Ytepicmocmioiiaa.PrintWords

namespace Go.Proofs.Ytepicmocmioiiaa.Pure
open Go.RowKit Go.Proofs.Ytepicmocmioiiaa.PFnVarints Go.Proofs.YtepicmocmioiiaaW.PrintWords Go.Proofs.YtepicmocmioiiaaW.PrintLast

theorem u8_wf {x : Int} (h : (Lit.int .u8 x).wf = true) : 0 ≤ x ∧ x < 256 := by
  simp [Lit.wf, IntKind.min, IntKind.max, IntKind.bits, IntKind.signed] at h
  omega
theorem i64_wf {x : Int} (h : (Lit.int .i64 x).wf = true) : -9223372036854775808 ≤ x ∧ x ≤ 9223372036854775807 := by
  simp [Lit.wf, IntKind.min, IntKind.max, IntKind.bits, IntKind.signed] at h
  omega

theorem wsucc {i n : Nat} (h : i < n) (hn : n ≤ 9223372036854775807) : wrap64 ((i : Int) + 1) = ((i + 1 : Nat) : Int) := by unfold wrap64; omega
theorem rd_nat (xs : List Int) (i : Nat) : rd xs (i : Int) = xs.getD i 0 := by unfold rd; rw [Int.toNat_natCast]
theorem rd_get (xs : List Int) (i : Nat) (h : i < xs.length) : rd xs (i : Int) = xs[i] := by
  rw [rd_nat, List.getD_eq_getElem?_getD, List.getElem?_eq_getElem h]; rfl
theorem drop_cons {α : Type} (xs : List α) (i : Nat) (h : i < xs.length) : xs.drop i = xs[i] :: xs.drop (i + 1) := (List.drop_eq_getElem_cons h)
theorem set_take {α : Type} (ys : List α) (i : Nat) (v : α) (h : i < ys.length) : (ys.set i v).take (i + 1) = ys.take i ++ [v] := by
  rw [List.take_succ_eq_append_getElem (by simpa using h)]
  rw [List.take_set, List.set_eq_of_length_le (by simp; omega)]
  simp

theorem w64 {x : Int} (h0 : -9223372036854775808 ≤ x) (h1 : x ≤ 9223372036854775807) : wrap64 x = x := by
  unfold wrap64; omega

/-! The cursor over a draw's bytes: whatever it yields, it yields. -/
theorem and255 (y : Int) : 0 ≤ Go.bits .and .i64 y 255 ∧ Go.bits .and .i64 y 255 ≤ 255 := by
  have e : Go.bits .and .i64 y 255 = IntKind.i64.wrap ((BitVec.ofInt 64 y &&& BitVec.ofInt 64 255).toNat : Int) := rfl
  have h : (BitVec.ofInt 64 y &&& BitVec.ofInt 64 255).toNat ≤ 255 := by
    rw [BitVec.toNat_and]
    exact Nat.le_trans Nat.and_le_right (by decide)
  rw [e, IntKind.wrap_i64]
  omega
structure CurOk (b : List Int) (i : Int) : Prop where
  bytes : ∀ x ∈ b, 0 ≤ x ∧ x < 256
  short : b.length ≤ 1048576
  low : 0 ≤ i
  high : i ≤ b.length
theorem new_go (l : List Int) (hn : l.length ≤ 1048576) : ∀ (d : Nat) (i : Nat) (h : Int), i + d = l.length → ∃ h', ∀ k, d < k → spec_l1New.l0 k l h (i : Int) = some (l, 0, h') := by
  intro d
  induction d with
  | zero =>
    intro i h hi
    refine ⟨h, fun k hk => ?_⟩
    obtain ⟨k, rfl⟩ : ∃ m, k = m + 1 := ⟨k - 1, by omega⟩
    simp only [spec_l1New.l0]
    rw [if_neg (by omega)]
  | succ d ih =>
    intro i h hi
    by_cases h4 : (i : Int) < 4000
    · obtain ⟨h', hh⟩ := ih (i + 1) (Go.bits .and .i64 (wrap64 ((wrap64 ((wrap64 (h * 137)) + (wrap64 (rd l i)))) + 11)) 1073741823) (by omega)
      refine ⟨h', fun k hk => ?_⟩
      obtain ⟨k, rfl⟩ : ∃ m, k = m + 1 := ⟨k - 1, by omega⟩
      simp only [spec_l1New.l0]
      rw [if_pos (by omega), if_pos h4, if_pos (by omega), wsucc (show i < l.length by omega) (by omega)]
      exact hh k (by omega)
    · refine ⟨h, fun k hk => ?_⟩
      obtain ⟨k, rfl⟩ : ∃ m, k = m + 1 := ⟨k - 1, by omega⟩
      simp only [spec_l1New.l0]
      rw [if_pos (by omega), if_neg h4]
theorem new_is (l : List Int) (hb : ∀ x ∈ l, 0 ≤ x ∧ x < 256) (hn : l.length ≤ 1048576) : ∃ h, (∀ k, l.length < k → spec_l1New.f k l = some (l, 0, h)) ∧ CurOk l 0 := by
  obtain ⟨h, hh⟩ := new_go l hn l.length 0 (wrap64 (193017 + (l.length : Int))) (by omega)
  refine ⟨h, fun k hk => ?_, ⟨hb, hn, by omega, by omega⟩⟩
  unfold spec_l1New.f
  have := hh k hk
  rw [Int.natCast_zero] at this
  exact this
theorem byte_is (b : List Int) (i h : Int) (c : CurOk b i) : ∃ x i' h', spec_l1Byte.f b i h = some (x, i', h') ∧ 0 ≤ x ∧ x ≤ 255 ∧ CurOk b i' := by
  unfold spec_l1Byte.f
  have := c.low; have := c.high; have := c.short
  by_cases hl : i < (b.length : Int)
  · rw [if_pos hl, if_pos c.low]
    refine ⟨_, _, _, rfl, (and255 _).1, (and255 _).2, ⟨c.bytes, c.short, ?_, ?_⟩⟩
    · rw [w64 (by omega) (by omega)]; omega
    · rw [w64 (by omega) (by omega)]; omega
  · rw [if_neg hl]
    exact ⟨_, _, _, rfl, (and255 _).1, (and255 _).2, c⟩

theorem below_is (b : List Int) (i h n : Int) (c : CurOk b i) (hn : n ≤ 1000000000) : ∃ x i' h', spec_l1Below.f b i h n = some (x, i', h') ∧ 0 ≤ x ∧ (1 ≤ n → x < n) ∧ (n ≤ 0 → x = 0) ∧ CurOk b i' := by
  unfold spec_l1Below.f
  by_cases h0 : n ≤ 0
  · rw [if_pos h0]; exact ⟨0, i, h, rfl, by omega, fun h => by omega, fun _ => rfl, c⟩
  · rw [if_neg h0]
    by_cases h1 : n ≤ 256
    · obtain ⟨x, i', h', e, x0, x1, c'⟩ := byte_is b i h c
      rw [if_pos h1, e, Option.bind_some, if_neg (by omega)]
      refine ⟨_, _, _, rfl, ?_, fun _ => ?_, fun h => by omega, c'⟩
      · dsimp only; rw [Int.tmod_eq_emod_of_nonneg x0]; exact Int.emod_nonneg _ (by omega)
      · dsimp only; rw [Int.tmod_eq_emod_of_nonneg x0]; exact Int.emod_lt_of_pos _ (by omega)
    · obtain ⟨x, i1, h1', e1, x0, x1, c1⟩ := byte_is b i h c
      obtain ⟨y, i2, h2', e2, y0, y1, c2⟩ := byte_is b i1 h1' c1
      obtain ⟨z, i3, h3', e3, z0, z1, c3⟩ := byte_is b i2 h2' c2
      rw [if_neg h1, e1, Option.bind_some, e2, Option.bind_some, e3, Option.bind_some, if_neg (by omega)]
      have ew : wrap64 (wrap64 (wrap64 (x * 65536) + wrap64 (y * 256)) + z) = x * 65536 + y * 256 + z := by
        rw [w64 (x := x * 65536) (by omega) (by omega), w64 (x := y * 256) (by omega) (by omega), w64 (x := x * 65536 + y * 256) (by omega) (by omega), w64 (by omega) (by omega)]
      refine ⟨_, _, _, rfl, ?_, fun _ => ?_, fun h => by omega, c3⟩
      · dsimp only; rw [ew, Int.tmod_eq_emod_of_nonneg (by omega)]; exact Int.emod_nonneg _ (by omega)
      · dsimp only; rw [ew, Int.tmod_eq_emod_of_nonneg (by omega)]; exact Int.emod_lt_of_pos _ (by omega)

theorem once_is (b : List Int) (i h n : Int) (c : CurOk b i) (hn : n ≤ 1000000000) : ∃ x i' h', spec_l1Once.f b i h n = some (x, i', h') ∧ CurOk b i' := by
  obtain ⟨x, i', h', e, _, _, _, c'⟩ := below_is b i h n c hn
  unfold spec_l1Once.f
  rw [e, Option.bind_some]
  exact ⟨_, _, _, rfl, c'⟩

theorem pick_is (b : List Int) (i h : Int) (l : List Int) (hl : 1 ≤ l.length) (hl2 : l.length ≤ 1000000000) (c : CurOk b i) : ∃ x i' h', spec_l1Int.f b i h l = some (x, i', h') ∧ x ∈ l ∧ CurOk b i' := by
  obtain ⟨x, i', h', e, x0, x1, _, c'⟩ := below_is b i h l.length c (by omega)
  have := x1 (by omega)
  unfold spec_l1Int.f
  rw [e, Option.bind_some]
  dsimp only
  rw [if_pos x0, if_pos this]
  obtain ⟨j, rfl⟩ := Int.eq_ofNat_of_zero_le x0
  refine ⟨_, _, _, rfl, ?_, c'⟩
  rw [rd_get _ _ (by omega)]; exact List.getElem_mem _

theorem num_is (b : List Int) (i h : Int) (c : CurOk b i) : ∃ x i' h', spec_l1Num.f b i h = some (x, i', h') ∧ 0 ≤ x ∧ x ≤ 1000000000000 ∧ CurOk b i' := by
  unfold spec_l1Num.f
  obtain ⟨q, i1, h1, e1, q0, q1, _, c1⟩ := below_is b i h 4 c (by omega)
  rw [e1, Option.bind_some]
  dsimp only
  by_cases a0 : q = 0
  · obtain ⟨x, i2, h2, e2, x0, x1, _, c2⟩ := below_is b i1 h1 2000 c1 (by omega)
    rw [if_pos a0, e2, Option.bind_some]
    have := x1 (by omega)
    exact ⟨_, _, _, rfl, x0, by dsimp only; omega, c2⟩
  · rw [if_neg a0]
    by_cases a1 : q = 1
    · obtain ⟨x, i2, h2, e2, hx, c2⟩ := pick_is b i1 h1 [0, 1, 127, 128, 2147483646, 2147483647, 1000000000000] (by simp) (by simp) c1
      rw [if_pos a1, e2, Option.bind_some]
      refine ⟨_, _, _, rfl, ?_, ?_, c2⟩ <;> (simp only [List.mem_cons, List.not_mem_nil, or_false] at hx; dsimp only; omega)
    · rw [if_neg a1]
      by_cases a2 : q = 2
      · obtain ⟨x, i2, h2, e2, x0, x1, _, c2⟩ := below_is b i1 h1 1000000 c1 (by omega)
        obtain ⟨y, i3, h3, e3, y0, y1, _, c3⟩ := below_is b i2 h2 1000000 c2 (by omega)
        rw [if_pos a2, e2, Option.bind_some, e3, Option.bind_some]
        have p0 := Int.mul_nonneg x0 y0
        have p1 : x * y ≤ 1000000 * 1000000 := Int.mul_le_mul (by omega) (by omega) y0 (by omega)
        refine ⟨_, _, _, rfl, ?_, ?_, c3⟩ <;> (dsimp only; rw [w64 (by omega) (by omega)]; omega)
      · obtain ⟨x, i2, h2, e2, x0, x1, _, c2⟩ := below_is b i1 h1 20 c1 (by omega)
        rw [if_neg a2, e2, Option.bind_some]
        have := x1 (by omega)
        exact ⟨_, _, _, rfl, x0, by dsimp only; omega, c2⟩

theorem odd_is (b : List Int) (i h : Int) (c : CurOk b i) : ∃ x i' h', spec_l1Odd.f b i h = some (x, i', h') ∧ -9223372036854775808 ≤ x ∧ x ≤ 9223372036854775807 ∧ CurOk b i' := by
  unfold spec_l1Odd.f
  obtain ⟨x, i2, h2, e2, hx, c2⟩ := pick_is b i h [(-1), 0, 1, 2, 255, 256, 65535, 2147483647, 2147483648, 4294967295, 4294967296, (-2147483648), 9223372036854775807, (-9223372036854775808)] (by simp) (by simp) c
  rw [e2, Option.bind_some]
  refine ⟨_, _, _, rfl, ?_, ?_, c2⟩ <;> (simp only [List.mem_cons, List.not_mem_nil, or_false] at hx; dsimp only; omega)
theorem raw_is (b : List Int) (i h : Int) (c : CurOk b i) : ∃ x i' h', spec_l1Raw.f b i h = some (x, i', h') ∧ -9223372036854775808 ≤ x ∧ x ≤ 9223372036854775807 ∧ CurOk b i' := by
  unfold spec_l1Raw.f
  obtain ⟨q, i1, h1, e1, c1⟩ := once_is b i h 2 c (by omega)
  rw [e1, Option.bind_some]
  dsimp only
  cases q with
  | true =>
    obtain ⟨x, i2, h2, e2, x0, x1, c2⟩ := odd_is b i1 h1 c1
    rw [if_pos rfl, e2, Option.bind_some]
    exact ⟨_, _, _, rfl, x0, x1, c2⟩
  | false =>
    obtain ⟨x, i2, h2, e2, hx, c2⟩ := pick_is b i1 h1 [(-1), 1000000000000, 1000000000001] (by simp) (by simp) c1
    rw [if_neg (by decide), e2, Option.bind_some]
    refine ⟨_, _, _, rfl, ?_, ?_, c2⟩ <;> (simp only [List.mem_cons, List.not_mem_nil, or_false] at hx; dsimp only; omega)
theorem one_is (b : List Int) (i h : Int) (c : CurOk b i) : ∃ x i' h', spec_l1One.f b i h = some (x, i', h') ∧ -9223372036854775808 ≤ x ∧ x ≤ 9223372036854775807 ∧ CurOk b i' := by
  unfold spec_l1One.f
  obtain ⟨q, i1, h1, e1, c1⟩ := once_is b i h 6 c (by omega)
  rw [e1, Option.bind_some]
  dsimp only
  cases q with
  | true =>
    obtain ⟨x, i2, h2, e2, x0, x1, c2⟩ := raw_is b i1 h1 c1
    rw [if_pos rfl, e2, Option.bind_some]
    exact ⟨_, _, _, rfl, x0, x1, c2⟩
  | false =>
    obtain ⟨x, i2, h2, e2, x0, x1, c2⟩ := num_is b i1 h1 c1
    rw [if_neg (by decide), e2, Option.bind_some]
    exact ⟨_, _, _, rfl, by dsimp only; omega, by dsimp only; omega, c2⟩

theorem bytes_go (b : List Int) (n : Nat) (hn : n ≤ 1000000) : ∀ (d : Nat) (i h : Int) (j : Nat) (out : List Int), j + d = n → out.length = j → (∀ x ∈ out, 0 ≤ x ∧ x < 256) → CurOk b i →
    ∃ r i' h', (∀ k, d < k → spec_l1Bytes.l0 k (n : Int) out (j : Int) b i h = some (r, i', h')) ∧ r.length = n ∧ (∀ x ∈ r, 0 ≤ x ∧ x < 256) ∧ CurOk b i' := by
  intro d
  induction d with
  | zero =>
    intro i h j out hj ho hb c
    refine ⟨out, i, h, fun k hk => ?_, by omega, hb, c⟩
    obtain ⟨k, rfl⟩ : ∃ m, k = m + 1 := ⟨k - 1, by omega⟩
    simp only [spec_l1Bytes.l0]
    rw [if_neg (by omega)]
  | succ d ih =>
    intro i h j out hj ho hb c
    obtain ⟨x, i1, h1, e, x0, x1, c1⟩ := byte_is b i h c
    obtain ⟨r, i', h', hr, hl, hb', c'⟩ := ih i1 h1 (j + 1) (out ++ [x % 256]) (by omega) (by simp [ho]) (by
      intro y hy
      rcases List.mem_append.1 hy with hy | hy
      · exact hb y hy
      · simp only [List.mem_singleton] at hy; omega) c1
    refine ⟨r, i', h', fun k hk => ?_, hl, hb', c'⟩
    obtain ⟨k, rfl⟩ : ∃ m, k = m + 1 := ⟨k - 1, by omega⟩
    simp only [spec_l1Bytes.l0]
    rw [if_pos (by omega), e, Option.bind_some, if_pos (by omega), wsucc (show j < n by omega) (by omega)]
    exact hr k (by omega)
theorem bytes_is (b : List Int) (i h : Int) (n : Nat) (hn : n ≤ 1000000) (c : CurOk b i) : ∃ r i' h', (∀ k, n < k → spec_l1Bytes.f k b i h (n : Int) = some (r, i', h')) ∧ r.length = n ∧ (∀ x ∈ r, 0 ≤ x ∧ x < 256) ∧ CurOk b i' := by
  obtain ⟨r, i', h', hr, hl, hb, c'⟩ := bytes_go b n hn n i h 0 [] (by omega) rfl (by simp) c
  refine ⟨r, i', h', fun k hk => ?_, hl, hb, c'⟩
  unfold spec_l1Bytes.f
  have := hr k hk
  rw [Int.natCast_zero] at this
  exact this

theorem laws_sameBytes_go (xs ys : List Int) (hl : xs.length = ys.length) (hn : xs.length ≤ 9223372036854775807) : ∀ (d k : Nat) (i : Nat), i + d = xs.length → d < k →
    laws_sameBytes.l0 k xs ys (i : Int) = some (decide (xs.drop i = ys.drop i)) := by
  intro d
  induction d with
  | zero =>
    intro k i hi hk
    obtain ⟨k, rfl⟩ : ∃ m, k = m + 1 := ⟨k - 1, by omega⟩
    simp only [laws_sameBytes.l0]
    rw [if_neg (by omega), List.drop_of_length_le (by omega), List.drop_of_length_le (by omega)]; rfl
  | succ d ih =>
    intro k i hi hk
    obtain ⟨k, rfl⟩ : ∃ m, k = m + 1 := ⟨k - 1, by omega⟩
    simp only [laws_sameBytes.l0]
    rw [if_pos (by omega), if_pos (by omega), if_pos (by omega), wsucc (show i < xs.length by omega) hn, ih k (i + 1) (by omega) (by omega), rd_get _ _ (by omega), rd_get _ _ (by omega), drop_cons xs i (by omega), drop_cons ys i (by omega)]
    split
    · rename_i h; simp only [List.cons.injEq, h, true_and]
    · rename_i h; simp only [List.cons.injEq, h, false_and, decide_false]
theorem laws_sameBytes_eq (k : Nat) (a b : List Int) (hk : a.length < k) (hn : a.length ≤ 9223372036854775807) : laws_sameBytes.f k a b = some (decide (a = b)) := by
  unfold laws_sameBytes.f
  by_cases h : a.length = b.length
  · rw [if_pos (by omega)]
    have := laws_sameBytes_go a b h hn a.length k 0 (by omega) hk
    rw [Int.natCast_zero] at this
    rw [this]; rfl
  · rw [if_neg (by omega)]; congr 1; symm; rw [decide_eq_false_iff_not]; intro e; exact h (by rw [e])

theorem in1 (a b c : Int) : spec_l1In.f a b c = some (decide (b ≤ a ∧ a ≤ c)) := by
  unfold spec_l1In.f
  by_cases h : a ≥ b
  · rw [if_pos h]; congr 1; simp only [decide_eq_decide]; omega
  · rw [if_neg h]; congr 1; symm; simp only [decide_eq_false_iff_not]; omega

theorem inr (a b c : Int) : impl_InRange.f a b c = some (decide (b ≤ a ∧ a ≤ c)) := by
  unfold impl_InRange.f
  by_cases h : b ≤ a
  · rw [if_pos h]; congr 1; simp only [decide_eq_decide]; omega
  · rw [if_neg h]; congr 1; symm; simp only [decide_eq_false_iff_not]; omega

theorem wraps_i64 (n : Int) (h0 : 0 ≤ n) (h1 : n < 2 ^ 63) : IntKind.i64.wrap n = n := by rw [IntKind.wrap_i64]; omega
/-- or of low bits with high ones. -/
theorem or_hi (k : IntKind) (j : Nat) (hj : j ≤ k.bits) (hk : ∀ n : Int, 0 ≤ n → n < 2 ^ j → k.wrap n = n) (i : Nat)
    (x y : Int) (hx0 : 0 ≤ x) (hx : x % 2 ^ i = 0) (hx1 : x < 2 ^ j) (hy0 : 0 ≤ y) (hy : y < 2 ^ i) (hy1 : y < 2 ^ j) : Go.bits .or k y x = y + x := by
  have e := bits_join k j hj hk i x y hx0 hx hx1 hy0 hy hy1
  obtain ⟨a, rfl⟩ := Int.eq_ofNat_of_zero_le hx0
  obtain ⟨b, rfl⟩ := Int.eq_ofNat_of_zero_le hy0
  have ha : a < 2 ^ j := by exact_mod_cast hx1
  have hb : b < 2 ^ j := by exact_mod_cast hy1
  rw [(bits_nat k j hj hk a b ha hb).2] at e
  rw [(bits_nat k j hj hk b a hb ha).2, Nat.or_comm, e, Int.add_comm]
theorem and127_i64 (x : Int) (h0 : 0 ≤ x) (h1 : x < 2 ^ 63) : Go.bits .and .i64 x 127 = x % 128 := bits_mask .i64 63 (by decide) wraps_i64 7 (by decide) x h0 h1
theorem and127_u8 (x : Int) (h0 : 0 ≤ x) (h1 : x < 256) : Go.bits .and .u8 x 127 = x % 128 := bits_mask .u8 8 (by decide) wraps_u8 7 (by decide) x h0 h1
theorem or128_i64 (x : Int) (h0 : 0 ≤ x) (h1 : x < 128) : Go.bits .or .i64 x 128 = x + 128 := or_hi .i64 63 (by decide) wraps_i64 7 128 x (by decide) (by decide) (by decide) h0 h1 (by omega)
theorem or128_u8 (x : Int) (h0 : 0 ≤ x) (h1 : x < 128) : Go.bits .or .u8 x 128 = x + 128 := or_hi .u8 8 (by decide) wraps_u8 7 128 x (by decide) (by decide) (by decide) h0 h1 (by omega)

/-- The bytes of a varint: at most d + 1 of them. -/
def uvL : Nat → Int → List Int
  | 0, n => [n]
  | d + 1, n => if n > 127 then (n % 128 + 128) :: uvL d (n / 128) else [n]
def uv (n : Int) : List Int := if 0 ≤ n ∧ n ≤ 1000000000000 then uvL 5 n else []
theorem uvL_length (d : Nat) : ∀ n, (uvL d n).length ≤ d + 1 := by
  induction d with
  | zero => intro n; simp [uvL]
  | succ d ih => intro n; simp only [uvL]; split
                 · have := ih (n / 128); simp only [List.length_cons]; omega
                 · simp
theorem uv_length (n : Int) : (uv n).length ≤ 6 := by
  unfold uv; split
  · exact uvL_length 5 n
  · simp

theorem implApp_go (d : Nat) : ∀ (k : Nat) (n : Int) (b : List Int), d < k → 0 ≤ n → n < 9223372036854775808 → n < 128 * 128 ^ d → b.length + (d + 1) ≤ 140737488355328 →
    impl_AppendUvarint.l0 k n b = some (b ++ uvL d n) := by
  induction d with
  | zero =>
    intro k n b hk h0 hb h1 hl
    obtain ⟨k, rfl⟩ : ∃ m, k = m + 1 := ⟨k - 1, by omega⟩
    simp only [impl_AppendUvarint.l0]
    rw [if_neg (by omega), if_pos (by omega)]
    unfold uvL
    rw [Int.emod_eq_of_lt h0 (by omega)]
  | succ d ih =>
    intro k n b hk h0 hb h1 hl
    obtain ⟨k, rfl⟩ : ∃ m, k = m + 1 := ⟨k - 1, by omega⟩
    simp only [impl_AppendUvarint.l0, uvL]
    by_cases h : n > 127
    · rw [if_pos h, if_pos h, if_pos (by omega)]
      have hp : (128 : Int) ^ (d + 1) = 128 ^ d * 128 := Int.pow_succ ..
      rw [ih k _ _ (by omega) (by omega) (by omega) (by rw [hp] at h1; omega) (by simp only [List.length_append, List.length_cons, List.length_nil]; omega)]
      rw [and127_i64 n h0 (by omega), Int.emod_eq_of_lt (a := n % 128) (b := 256) (by omega) (by omega), or128_u8 _ (by omega) (by omega)]
      rw [List.append_assoc]; rfl
    · rw [if_neg h, if_neg h, if_pos (by omega), Int.emod_eq_of_lt h0 (by omega)]
theorem implApp_eq (k : Nat) (b : List Int) (n : Int) (hk : 5 < k) (hl : b.length + 6 < 140737488355328) : impl_AppendUvarint.f k b n = some (b ++ uv n) := by
  unfold impl_AppendUvarint.f
  rw [Option.bind_some, if_pos (by simp; omega), Option.bind_some, List.nil_append, inr, Option.bind_some]
  unfold uv
  by_cases h : 0 ≤ n ∧ n ≤ 1000000000000
  · rw [if_pos (by rw [decide_eq_true h]), if_pos h, implApp_go 5 k n b hk h.1 (by omega) (by omega) (by omega)]
  · rw [if_neg (by rw [decide_eq_false h]; decide), if_neg h, List.append_nil]

theorem specApp_go (d : Nat) : ∀ (k : Nat) (n : Int) (b : List Int), d < k → 0 ≤ n → n < 9223372036854775808 → n < 128 * 128 ^ d → b.length + (d + 1) ≤ 140737488355328 →
    spec_AppendUvarint.l0 k n b = some (b ++ uvL d n) := by
  induction d with
  | zero =>
    intro k n b hk h0 hb h1 hl
    obtain ⟨k, rfl⟩ : ∃ m, k = m + 1 := ⟨k - 1, by omega⟩
    simp only [spec_AppendUvarint.l0]
    rw [if_neg (by omega), if_pos (by omega)]
    unfold uvL
    rw [Int.emod_eq_of_lt h0 (by omega)]
  | succ d ih =>
    intro k n b hk h0 hb h1 hl
    obtain ⟨k, rfl⟩ : ∃ m, k = m + 1 := ⟨k - 1, by omega⟩
    simp only [spec_AppendUvarint.l0, uvL]
    by_cases h : n > 127
    · rw [if_pos h, if_pos h, if_pos (by omega)]
      have hp : (128 : Int) ^ (d + 1) = 128 ^ d * 128 := Int.pow_succ ..
      rw [ih k _ _ (by omega) (by omega) (by omega) (by rw [hp] at h1; omega) (by simp only [List.length_append, List.length_cons, List.length_nil]; omega)]
      rw [and127_i64 n h0 (by omega), or128_i64 _ (by omega) (by omega), Int.emod_eq_of_lt (by omega) (by omega)]
      rw [List.append_assoc]; rfl
    · rw [if_neg h, if_neg h, if_pos (by omega), Int.emod_eq_of_lt h0 (by omega)]
theorem specApp_eq (k : Nat) (b : List Int) (n : Int) (hk : 5 < k) (hl : b.length + 6 < 140737488355328) : spec_AppendUvarint.f k b n = some (b ++ uv n) := by
  unfold spec_AppendUvarint.f
  rw [Option.bind_some, if_pos (by simp; omega), Option.bind_some, List.nil_append, in1, Option.bind_some]
  unfold uv
  by_cases h : 0 ≤ n ∧ n ≤ 1000000000000
  · rw [if_pos (by rw [decide_eq_true h]), if_pos h, specApp_go 5 k n b hk h.1 (by omega) (by omega) (by omega)]
  · rw [if_neg (by rw [decide_eq_false h]; decide), if_neg h, List.append_nil]

theorem uvL_bytes (d : Nat) : ∀ n : Int, 0 ≤ n → n < 128 * 128 ^ d → ∀ x ∈ uvL d n, 0 ≤ x ∧ x < 256 := by
  induction d with
  | zero => intro n h0 h1 x hx; simp [uvL] at hx; omega
  | succ d ih =>
    intro n h0 h1 x hx
    have hp : (128 : Int) ^ (d + 1) = 128 ^ d * 128 := Int.pow_succ ..
    simp only [uvL] at hx
    by_cases hn : n > 127
    · rw [if_pos hn] at hx
      rcases List.mem_cons.1 hx with h | h
      · omega
      · exact ih (n / 128) (by omega) (by rw [hp] at h1; omega) x h
    · rw [if_neg hn] at hx; simp at hx; omega
theorem uv_bytes (n : Int) : ∀ x ∈ uv n, 0 ≤ x ∧ x < 256 := by
  intro x hx
  unfold uv at hx
  split at hx
  · exact uvL_bytes 5 n (by omega) (by omega) x hx
  · simp at hx
theorem app_bytes {a b : List Int} (ha : ∀ x ∈ a, 0 ≤ x ∧ x < 256) (hb : ∀ x ∈ b, 0 ≤ x ∧ x < 256) : ∀ x ∈ a ++ b, 0 ≤ x ∧ x < 256 := by
  intro x hx
  rcases List.mem_append.1 hx with h | h
  · exact ha x h
  · exact hb x h

/-- Reading a varint: d rounds left, j groups read, what they come to. -/
def ruv (b : List Int) (at_ : Int) : Nat → Nat → Int → Int × Int × Bool
  | 0, _, _ => (0, 0, false)
  | d + 1, j, acc =>
    if at_ + j ≥ b.length then (0, 0, false) else
    if rd b (at_ + j) < 128 then
      (if (rd b (at_ + j) = 0 ∧ 0 < j) ∨ acc + rd b (at_ + j) * 2 ^ (7 * j) > 1000000000000 then (0, 0, false) else (acc + rd b (at_ + j) * 2 ^ (7 * j), at_ + j + 1, true))
    else ruv b at_ d (j + 1) (acc + (rd b (at_ + j) - 128) * 2 ^ (7 * j))
def ruvF (b : List Int) (at_ : Int) : Int × Int × Bool := if at_ < 0 ∨ at_ ≥ b.length then (0, 0, false) else ruv b at_ 6 0 0
theorem pow7 (j : Nat) (hj : j ≤ 5) : (0 : Int) < 2 ^ (7 * j) ∧ (2 : Int) ^ (7 * j) ≤ 34359738368 ∧ (2 : Int) ^ (7 * (j + 1)) = 128 * 2 ^ (7 * j) := by
  refine ⟨Int.pow_pos (by decide), ?_, ?_⟩
  · have : (2 : Nat) ^ (7 * j) ≤ 2 ^ 35 := Nat.pow_le_pow_right (by decide) (by omega)
    have h2 : (2 : Int) ^ (7 * j) = ((2 ^ (7 * j) : Nat) : Int) := by simp
    rw [h2]; omega
  · rw [show 7 * (j + 1) = 7 * j + 7 from by omega, Int.pow_add, Int.mul_comm]; rfl
theorem or_shl (acc y : Int) (j : Nat) (hj : j ≤ 5) (h0 : 0 ≤ acc) (h1 : acc < 2 ^ (7 * j)) (y0 : 0 ≤ y) (y1 : y < 128) :
    Go.bits .or .i64 acc (shl .i64 y (7 * (j : Int))) = acc + y * 2 ^ (7 * j) ∧ acc + y * 2 ^ (7 * j) < 2 ^ (7 * (j + 1)) := by
  obtain ⟨p0, p1, p2⟩ := pow7 j hj
  have hm : y * 2 ^ (7 * j) ≤ 127 * 2 ^ (7 * j) := Int.mul_le_mul_of_nonneg_right (by omega) (by omega)
  have hn : 0 ≤ y * 2 ^ (7 * j) := Int.mul_nonneg y0 (by omega)
  have e : shl .i64 y (7 * (j : Int)) = y * 2 ^ (7 * j) := by
    unfold shl
    rw [show (7 * (j : Int)).toNat = 7 * j from by omega, Nat.min_eq_left (show 7 * j ≤ IntKind.i64.bits from Nat.le_trans (show 7 * j ≤ 35 by omega) (by decide))]
    exact wraps_i64 _ hn (by omega)
  rw [e, p2]
  exact ⟨or_hi .i64 63 (by decide) wraps_i64 (7 * j) _ _ hn (Int.mul_emod_left _ _) (by omega) h0 h1 (by omega), by omega⟩
theorem rd_wraps (at_ : Int) (n : Int) (j : Nat) (a0 : 0 ≤ at_) (a1 : at_ < n) (hn : n ≤ 140737488355328) (hj : j ≤ 5) :
    wrap64 (n - (j : Int)) = n - j ∧ wrap64 (at_ + (j : Int)) = at_ + j ∧ wrap64 (7 * (j : Int)) = 7 * j ∧ wrap64 (at_ + (j : Int) + 1) = at_ + j + 1 ∧ wrap64 ((j : Int) + 1) = ((j + 1 : Nat) : Int) := by
  refine ⟨?_, ?_, ?_, ?_, ?_⟩ <;> (unfold wrap64; omega)

theorem iRead_go (b : List Int) (hb : ∀ x ∈ b, 0 ≤ x ∧ x < 256) (hn : b.length ≤ 140737488355328) (at_ : Int) (a0 : 0 ≤ at_) (a1 : at_ < b.length) : ∀ (d k j : Nat) (acc : Int), d + j = 6 → d < k → 0 ≤ acc → acc < 2 ^ (7 * j) →
    impl_ReadUvarint.l0 k b at_ acc (j : Int) = some (ruv b at_ d j acc) := by
  intro d
  induction d with
  | zero =>
    intro k j acc hj hk h0 h1
    obtain ⟨k, rfl⟩ : ∃ m, k = m + 1 := ⟨k - 1, by omega⟩
    simp only [impl_ReadUvarint.l0]
    rw [if_neg (by omega)]; rfl
  | succ d ih =>
    intro k j acc hj hk h0 h1
    obtain ⟨k, rfl⟩ : ∃ m, k = m + 1 := ⟨k - 1, by omega⟩
    have hbn : (b.length : Int) ≤ 140737488355328 := by omega
    simp only [impl_ReadUvarint.l0, ruv, (rd_wraps at_ _ j a0 a1 hbn (by omega)).2.1, (rd_wraps at_ _ j a0 a1 hbn (by omega)).2.2.1, (rd_wraps at_ _ j a0 a1 hbn (by omega)).2.2.2.1, (rd_wraps at_ _ j a0 a1 hbn (by omega)).2.2.2.2]
    rw [if_pos (show (j : Int) < 6 by omega)]
    by_cases hl : at_ + (j : Int) ≥ b.length
    · rw [if_pos hl, if_pos hl]
    · rw [if_neg hl, if_neg hl, if_pos (show 0 ≤ at_ + (j : Int) by omega), if_pos (show at_ + (j : Int) < b.length by omega), if_pos (show 0 ≤ 7 * (j : Int) by omega)]
      obtain ⟨i, hi⟩ := Int.eq_ofNat_of_zero_le (show 0 ≤ at_ + (j : Int) by omega)
      have hx : 0 ≤ rd b (at_ + j) ∧ rd b (at_ + j) < 256 := by rw [hi, rd_get _ _ (by omega)]; exact hb _ (List.getElem_mem _)
      generalize rd b (at_ + j) = x at hx ⊢
      have w5 : wrap64 (Go.bits .and .u8 x 127) = x % 128 := by rw [and127_u8 x hx.1 hx.2]; unfold wrap64; omega
      obtain ⟨e, e'⟩ := or_shl acc (x % 128) j (by omega) h0 h1 (by omega) (by omega)
      rw [w5, e]
      by_cases hx1 : x < 128
      · rw [if_pos hx1, if_pos hx1, Int.emod_eq_of_lt hx.1 hx1]
        by_cases hj0 : (j : Int) > 0
        · rw [if_pos hj0]
          by_cases hx0 : x = 0
          · rw [if_pos hx0, if_pos (Or.inl ⟨hx0, by omega⟩)]
          · rw [if_neg hx0]
            split
            · rename_i h; rw [if_pos (Or.inr h)]
            · rename_i h; rw [if_neg (by rintro (h' | h'); exact hx0 h'.1; exact h h')]
        · rw [if_neg hj0]
          split
          · rename_i h; rw [if_pos (Or.inr h)]
          · rename_i h; rw [if_neg (by rintro (h' | h'); exact hj0 (by omega); exact h h')]
      · rw [if_neg hx1, if_neg hx1, show x % 128 = x - 128 from by omega] 
        rw [show x % 128 = x - 128 from by omega] at e e'
        have hp := (pow7 j (by omega)).1
        exact ih k (j + 1) _ (by omega) (by omega) (Int.add_nonneg h0 (Int.mul_nonneg (by omega) (by omega))) e'
theorem iRead_eq (k : Nat) (b : List Int) (hb : ∀ x ∈ b, 0 ≤ x ∧ x < 256) (hn : b.length ≤ 140737488355328) (at_ : Int) (hk : 7 < k) : impl_ReadUvarint.f k b at_ = some (ruvF b at_) := by
  obtain ⟨k, rfl⟩ : ∃ m, k = m + 1 := ⟨k - 1, by omega⟩
  unfold impl_ReadUvarint.f ruvF
  by_cases h : at_ < 0
  · rw [if_pos h, if_pos (Or.inl h)]; simp only [impl_ReadUvarint.j0, if_true]
  · rw [if_neg h]
    by_cases h2 : at_ ≥ b.length
    · rw [if_pos (Or.inr h2)]; simp only [impl_ReadUvarint.j0, decide_eq_true h2, if_true]
    · rw [if_neg (by omega)]; simp only [impl_ReadUvarint.j0, decide_eq_false h2, Bool.false_eq_true, if_false]
      have := iRead_go b hb hn at_ (by omega) (by omega) 6 k 0 0 (by omega) (by omega) (by omega) (by decide)
      rw [Int.natCast_zero] at this
      exact this

theorem sRead_go (b : List Int) (hb : ∀ x ∈ b, 0 ≤ x ∧ x < 256) (hn : b.length ≤ 140737488355328) (at_ : Int) (a0 : 0 ≤ at_) (a1 : at_ < b.length) : ∀ (d k j : Nat) (acc : Int), d + j = 6 → 2 * d < k → 0 ≤ acc → acc < 2 ^ (7 * j) →
    spec_ReadUvarint.l0 k b at_ acc (j : Int) = some (ruv b at_ d j acc) := by
  intro d
  induction d with
  | zero =>
    intro k j acc hj hk h0 h1
    obtain ⟨k, rfl⟩ : ∃ m, k = m + 1 := ⟨k - 1, by omega⟩
    simp only [spec_ReadUvarint.l0]
    rw [if_neg (by omega)]; rfl
  | succ d ih =>
    intro k j acc hj hk h0 h1
    obtain ⟨k, rfl⟩ : ∃ m, k = m + 1 + 1 := ⟨k - 2, by omega⟩
    have hbn : (b.length : Int) ≤ 140737488355328 := by omega
    simp only [spec_ReadUvarint.l0, spec_ReadUvarint.j1, ruv, (rd_wraps at_ _ j a0 a1 hbn (by omega)).1, (rd_wraps at_ _ j a0 a1 hbn (by omega)).2.1, (rd_wraps at_ _ j a0 a1 hbn (by omega)).2.2.1, (rd_wraps at_ _ j a0 a1 hbn (by omega)).2.2.2.1, (rd_wraps at_ _ j a0 a1 hbn (by omega)).2.2.2.2]
    rw [if_pos (show (j : Int) < 6 by omega), if_neg (show ¬ at_ < 0 by omega)]
    by_cases hl : at_ + (j : Int) ≥ b.length
    · rw [decide_eq_true (show at_ ≥ (b.length : Int) - j by omega), if_pos rfl, if_pos hl]
    · rw [decide_eq_false (show ¬ at_ ≥ (b.length : Int) - j by omega), if_neg (show ¬ (false = true) by decide), if_neg hl, if_pos (show 0 ≤ at_ + (j : Int) by omega), if_pos (show at_ + (j : Int) < b.length by omega), if_pos (show 0 ≤ 7 * (j : Int) by omega)]
      obtain ⟨i, hi⟩ := Int.eq_ofNat_of_zero_le (show 0 ≤ at_ + (j : Int) by omega)
      have hx : 0 ≤ rd b (at_ + j) ∧ rd b (at_ + j) < 256 := by rw [hi, rd_get _ _ (by omega)]; exact hb _ (List.getElem_mem _)
      generalize rd b (at_ + j) = x at hx ⊢
      have w6 : wrap64 x = x := by unfold wrap64; omega
      rw [w6]
      have w5 : Go.bits .and .i64 x 127 = x % 128 := and127_i64 x hx.1 (by omega)
      obtain ⟨e, e'⟩ := or_shl acc (x % 128) j (by omega) h0 h1 (by omega) (by omega)
      rw [w5, e]
      by_cases hx1 : x < 128
      · rw [if_pos hx1, if_pos hx1, Int.emod_eq_of_lt hx.1 hx1]
        by_cases hx0 : x = 0
        · rw [if_pos hx0]
          by_cases hj0 : (j : Int) > 0
          · rw [if_pos hj0, if_pos (Or.inl ⟨hx0, by omega⟩)]
          · rw [if_neg hj0]
            split
            · rename_i h; rw [if_pos (Or.inr h)]
            · rename_i h; rw [if_neg (by rintro (h' | h'); exact hj0 (by omega); exact h h')]
        · rw [if_neg hx0]
          split
          · rename_i h; rw [if_pos (Or.inr h)]
          · rename_i h; rw [if_neg (by rintro (h' | h'); exact hx0 h'.1; exact h h')]
      · rw [if_neg hx1, if_neg hx1, show x % 128 = x - 128 from by omega] 
        rw [show x % 128 = x - 128 from by omega] at e e'
        have hp := (pow7 j (by omega)).1
        exact ih k (j + 1) _ (by omega) (by omega) (Int.add_nonneg h0 (Int.mul_nonneg (by omega) (by omega))) e'
theorem sRead_out (k : Nat) (b : List Int) (at_ : Int) (hn : b.length ≤ 140737488355328) (h : at_ < 0 ∨ at_ ≥ b.length) : spec_ReadUvarint.f (k + 1 + 1) b at_ = some (0, 0, false) := by
  unfold spec_ReadUvarint.f
  have w0 : wrap64 ((b.length : Int) - 0) = b.length := by unfold wrap64; omega
  simp only [spec_ReadUvarint.l0, spec_ReadUvarint.j1, w0]
  rw [if_pos (by omega)]
  by_cases h2 : at_ < 0
  · rw [if_pos h2]; simp only [if_true]
  · rw [if_neg h2, decide_eq_true (show at_ ≥ (b.length : Int) by omega)]; simp only [if_true]
theorem sRead_eq (k : Nat) (b : List Int) (hb : ∀ x ∈ b, 0 ≤ x ∧ x < 256) (hn : b.length ≤ 140737488355328) (at_ : Int) (hk : 14 < k) : spec_ReadUvarint.f k b at_ = some (ruvF b at_) := by
  by_cases h : at_ < 0 ∨ at_ ≥ b.length
  · obtain ⟨k, rfl⟩ : ∃ m, k = m + 1 + 1 := ⟨k - 2, by omega⟩
    rw [sRead_out k b at_ hn h]; unfold ruvF; rw [if_pos h]
  · unfold spec_ReadUvarint.f ruvF
    rw [if_neg h]
    have := sRead_go b hb hn at_ (by omega) (by omega) 6 k 0 0 (by omega) (by omega) (by omega) (by decide)
    rw [Int.natCast_zero] at this
    exact this

theorem p7succ (j : Nat) : (2 : Int) ^ (7 * (j + 1)) = 128 * 2 ^ (7 * j) := by
  rw [show 7 * (j + 1) = 7 * j + 7 from by omega, Int.pow_add, Int.mul_comm]; rfl
theorem rd_mid (b c : List Int) (x : Int) (r : List Int) (n : Nat) (h : b.length = n) : rd (b ++ (x :: r) ++ c) (n : Int) = x := by
  rw [rd_get _ _ (by simp; omega)]
  subst h
  simp
/-- Reading what was written. -/
theorem ruv_uv (c : List Int) (at_ : Nat) : ∀ (d e j : Nat) (acc n : Int) (b : List Int), d + 1 ≤ e → b.length = at_ + j → 0 ≤ acc → 0 ≤ n → n < 128 * 128 ^ d → (n ≠ 0 ∨ j = 0) → acc + n * 2 ^ (7 * j) ≤ 1000000000000 →
    ruv (b ++ uvL d n ++ c) (at_ : Int) e j acc = (acc + n * 2 ^ (7 * j), (at_ : Int) + j + (uvL d n).length, true) := by
  intro d
  induction d with
  | zero =>
    intro e j acc n b he hb h0 n0 n1 hj ht
    obtain ⟨e, rfl⟩ : ∃ m, e = m + 1 := ⟨e - 1, by omega⟩
    rw [show uvL 0 n = [n] from rfl]
    simp only [ruv]
    have hr : rd (b ++ [n] ++ c) ((at_ : Int) + (j : Int)) = n := by
      have := rd_mid b c n [] (at_ + j) hb
      rw [Int.natCast_add] at this
      exact this
    rw [hr, if_neg (by simp; omega), if_pos (show n < 128 by omega), if_neg (by rintro (h | h); omega; exact absurd ht (Int.not_le.2 h))]
    simp
  | succ d ih =>
    intro e j acc n b he hb h0 n0 n1 hj ht
    obtain ⟨e, rfl⟩ : ∃ m, e = m + 1 := ⟨e - 1, by omega⟩
    by_cases hn : n > 127
    · have e1 : uvL (d + 1) n = (n % 128 + 128) :: uvL d (n / 128) := by simp only [uvL]; rw [if_pos hn]
      have hp : (128 : Int) ^ (d + 1) = 128 ^ d * 128 := Int.pow_succ ..
      rw [e1]
      simp only [ruv]
      have hr : rd (b ++ (n % 128 + 128) :: uvL d (n / 128) ++ c) ((at_ : Int) + (j : Int)) = n % 128 + 128 := by
        have := rd_mid b c (n % 128 + 128) (uvL d (n / 128)) (at_ + j) hb
        rw [Int.natCast_add] at this
        exact this
      have hp2 : (0 : Int) < 2 ^ (7 * j) := Int.pow_pos (by decide)
      have hsum : (acc + (n % 128) * 2 ^ (7 * j)) + (n / 128) * 2 ^ (7 * (j + 1)) = acc + n * 2 ^ (7 * j) := by
        rw [p7succ, ← Int.mul_assoc, Int.add_assoc, ← Int.add_mul]
        congr 2; omega
      have hacc : 0 ≤ acc + (n % 128) * 2 ^ (7 * j) := Int.add_nonneg h0 (Int.mul_nonneg (by omega) (by omega))
      rw [hr, if_neg (by simp; omega), if_neg (show ¬ (n % 128 + 128 < 128) by omega), show n % 128 + 128 - 128 = n % 128 from by omega]
      have := ih e (j + 1) (acc + (n % 128) * 2 ^ (7 * j)) (n / 128) (b ++ [n % 128 + 128]) (by omega) (by simp; omega) hacc (by omega) (by rw [hp] at n1; omega) (Or.inl (by omega)) (by rw [hsum]; exact ht)
      rw [hsum] at this
      rw [show b ++ (n % 128 + 128) :: uvL d (n / 128) ++ c = b ++ [n % 128 + 128] ++ uvL d (n / 128) ++ c from by simp, this]
      simp only [List.length_cons, Prod.mk.injEq, true_and, and_true]; omega
    · have e1 : uvL (d + 1) n = [n] := by simp only [uvL]; rw [if_neg hn]
      rw [e1]
      simp only [ruv]
      have hr : rd (b ++ [n] ++ c) ((at_ : Int) + (j : Int)) = n := by
        have := rd_mid b c n [] (at_ + j) hb
        rw [Int.natCast_add] at this
        exact this
      rw [hr, if_neg (by simp; omega), if_pos (show n < 128 by omega), if_neg (by rintro (h | h); omega; exact absurd ht (Int.not_le.2 h))]
      simp
theorem uv_pos (n : Int) (h : 0 ≤ n ∧ n ≤ 1000000000000) : uv n = uvL 5 n := by unfold uv; rw [if_pos h]
theorem uvL_pos (d : Nat) (n : Int) : 1 ≤ (uvL d n).length := by
  cases d with
  | zero => simp [uvL]
  | succ d => simp only [uvL]; split <;> simp
theorem ruvF_uv (b c : List Int) (n : Int) (h : 0 ≤ n ∧ n ≤ 1000000000000) : ruvF (b ++ uv n ++ c) (b.length : Int) = (n, (b.length : Int) + (uv n).length, true) := by
  rw [uv_pos n h]
  have hl := uvL_pos 5 n
  unfold ruvF
  rw [if_neg (by simp only [List.length_append]; omega)]
  have := ruv_uv c b.length 5 6 0 0 n b (by omega) (by omega) (by omega) h.1 (by omega) (Or.inr rfl) (by simp; omega)
  rw [this]
  simp

/-- What was read is what would be written. -/
theorem uv_ruv (b : List Int) (hb : ∀ x ∈ b, 0 ≤ x ∧ x < 256) (at_ : Nat) : ∀ (d j : Nat) (acc m after : Int), ruv b (at_ : Int) (d + 1) j acc = (m, after, true) → 0 ≤ acc →
    ∃ n : Int, m = acc + n * 2 ^ (7 * j) ∧ 0 ≤ n ∧ (n ≠ 0 ∨ j = 0) ∧ (at_ : Int) + j < after ∧ after ≤ b.length ∧ uvL d n = (b.take after.toNat).drop (at_ + j) := by
  intro d
  induction d with
  | zero =>
    intro j acc m after h h0
    simp only [ruv] at h
    by_cases hl : (at_ : Int) + (j : Int) ≥ b.length
    · rw [if_pos hl] at h; simp at h
    · rw [if_neg hl] at h
      have hx : rd b ((at_ : Int) + (j : Int)) = b[at_ + j]'(by omega) := by
        have := rd_get b (at_ + j) (by omega); rw [Int.natCast_add] at this; exact this
      obtain ⟨x0, x1⟩ := hb _ (List.getElem_mem (show at_ + j < b.length by omega))
      rw [hx] at h
      generalize hxx : b[at_ + j]'(by omega) = x at h x0 x1
      by_cases h1 : x < 128
      · rw [if_pos h1] at h
        by_cases hc : (x = 0 ∧ 0 < j) ∨ acc + x * 2 ^ (7 * j) > 1000000000000
        · rw [if_pos hc] at h; simp at h
        · rw [if_neg hc] at h
          simp only [Prod.mk.injEq, and_true] at h
          obtain ⟨rfl, rfl⟩ := h
          refine ⟨x, rfl, x0, ?_, by omega, by omega, ?_⟩
          · by_cases hx0 : x = 0
            · right; have : ¬ (x = 0 ∧ 0 < j) := fun h => hc (Or.inl h); omega
            · left; exact hx0
          · have : ((at_ : Int) + (j : Int) + 1).toNat = at_ + j + 1 := by omega
            rw [this, List.take_succ_eq_append_getElem (by omega), List.drop_append_of_le_length (by simp; omega), List.drop_of_length_le (by simp; omega), hxx]
            rfl
      · rw [if_neg h1] at h; simp at h
  | succ d ih =>
    intro j acc m after h h0
    rw [ruv] at h
    by_cases hl : (at_ : Int) + (j : Int) ≥ b.length
    · rw [if_pos hl] at h; simp at h
    · rw [if_neg hl] at h
      have hx : rd b ((at_ : Int) + (j : Int)) = b[at_ + j]'(by omega) := by
        have := rd_get b (at_ + j) (by omega); rw [Int.natCast_add] at this; exact this
      obtain ⟨x0, x1⟩ := hb _ (List.getElem_mem (show at_ + j < b.length by omega))
      rw [hx] at h
      generalize hxx : b[at_ + j]'(by omega) = x at h x0 x1
      by_cases h1 : x < 128
      · rw [if_pos h1] at h
        by_cases hc : (x = 0 ∧ 0 < j) ∨ acc + x * 2 ^ (7 * j) > 1000000000000
        · rw [if_pos hc] at h; simp at h
        · rw [if_neg hc] at h
          simp only [Prod.mk.injEq, and_true] at h
          obtain ⟨rfl, rfl⟩ := h
          refine ⟨x, rfl, x0, ?_, by omega, by omega, ?_⟩
          · by_cases hx0 : x = 0
            · right; have : ¬ (x = 0 ∧ 0 < j) := fun h => hc (Or.inl h); omega
            · left; exact hx0
          · have : ((at_ : Int) + (j : Int) + 1).toNat = at_ + j + 1 := by omega
            rw [this, List.take_succ_eq_append_getElem (by omega), List.drop_append_of_le_length (by simp; omega), List.drop_of_length_le (by simp; omega), hxx]
            simp only [uvL]; rw [if_neg (by omega)]; rfl
      · rw [if_neg h1] at h
        have hp2 : (0 : Int) < 2 ^ (7 * j) := Int.pow_pos (by decide)
        obtain ⟨n, hm, n0, hn, ha, ha2, hu⟩ := ih (j + 1) _ m after h (Int.add_nonneg h0 (Int.mul_nonneg (by omega) (by omega)))
        have hn0 : n ≠ 0 := by rcases hn with h | h; exact h; omega
        refine ⟨(x - 128) + 128 * n, ?_, by omega, Or.inl (by omega), by omega, ha2, ?_⟩
        · rw [hm, p7succ, ← Int.mul_assoc, Int.add_assoc, ← Int.add_mul, Int.mul_comm n 128]
        · simp only [uvL]
          rw [if_pos (by omega), show (x - 128 + 128 * n) % 128 = x - 128 from by omega, show (x - 128 + 128 * n) / 128 = n from by omega, hu]
          have hlt : at_ + j < (b.take after.toNat).length := by simp; omega
          rw [List.drop_eq_getElem_cons hlt]
          congr 1
          · rw [List.getElem_take, hxx]; omega
theorem uv_of_read (b : List Int) (hb : ∀ x ∈ b, 0 ≤ x ∧ x < 256) (at_ m after : Int) (h : ruvF b at_ = (m, after, true)) : uv m = (b.take after.toNat).drop at_.toNat ∧ 0 ≤ at_ ∧ at_ < after ∧ after ≤ b.length := by
  have hm : m ≤ 1000000000000 ∧ 0 ≤ at_ := by
    unfold ruvF at h
    by_cases hc : at_ < 0 ∨ at_ ≥ b.length
    · rw [if_pos hc] at h; simp at h
    · rw [if_neg hc] at h
      have : ∀ d j acc, ruv b at_ d j acc = (m, after, true) → m ≤ 1000000000000 := by
        intro d
        induction d with
        | zero => intro j acc h; simp [ruv] at h
        | succ d ih =>
          intro j acc h
          simp only [ruv] at h
          split at h
          · simp at h
          · split at h
            · split at h
              · simp at h
              · rename_i hh
                simp only [Prod.mk.injEq, and_true] at h
                rw [← h.1]
                exact Int.not_lt.1 fun h' => hh (Or.inr h')
            · exact ih _ _ h
      exact ⟨this _ _ _ h, by omega⟩
  unfold ruvF at h
  rw [if_neg (by
    intro hc; rw [if_pos hc] at h; simp at h)] at h
  obtain ⟨at_, rfl⟩ := Int.eq_ofNat_of_zero_le hm.2
  obtain ⟨n, e, n0, _, ha, ha2, hu⟩ := uv_ruv b hb at_ 5 0 0 m after h (by omega)
  have : m = n := by rw [e]; simp
  subst this
  rw [uv_pos m ⟨n0, hm.1⟩, hu]
  exact ⟨by simp, by omega, by omega, ha2⟩

theorem drawRU_go (b : List Int) : ∀ (n : Nat) (out : List Int) (i h : Int), n ≤ 8 → out.length + n ≤ 8 → (∀ x ∈ out, 0 ≤ x ∧ x < 256) → CurOk b i →
    ∃ y o, (∀ k, n < k → spec_DrawReadUvarint.l0 k out (n : Int) b i h = some (y, o)) ∧ y.length ≤ 8 ∧ (∀ x ∈ y, 0 ≤ x ∧ x < 256) := by
  intro n
  induction n with
  | zero =>
    intro out i h _ ho hb c
    obtain ⟨x, i1, h1, e, _, _, _, _⟩ := below_is b i h 4 c (by omega)
    refine ⟨out, wrap64 (x - 1), fun k hk => ?_, by omega, hb⟩
    obtain ⟨k, rfl⟩ : ∃ m, k = m + 1 := ⟨k - 1, by omega⟩
    simp only [spec_DrawReadUvarint.l0]
    rw [if_neg (by omega), e, Option.bind_some]
  | succ n ih =>
    intro out i h hn ho hb c
    obtain ⟨x, i1, h1, e, hx, c1⟩ := pick_is b i h [128, 255, 0, 1, 127] (by simp) (by simp) c
    obtain ⟨y, o, hy, hl, hb'⟩ := ih (out ++ [x % 256]) i1 h1 (by omega) (by simp; omega) (app_bytes hb (by intro z hz; simp only [List.mem_singleton] at hz; omega)) c1
    refine ⟨y, o, fun k hk => ?_, hl, hb'⟩
    obtain ⟨k, rfl⟩ : ∃ m, k = m + 1 := ⟨k - 1, by omega⟩
    simp only [spec_DrawReadUvarint.l0]
    rw [if_pos (by omega), e, Option.bind_some, if_pos (by omega), show wrap64 (((n + 1 : Nat) : Int) - 1) = (n : Int) from by unfold wrap64; omega]
    exact hy k (by omega)
theorem drawRU (l : List Int) (hb : ∀ x ∈ l, 0 ≤ x ∧ x < 256) (hn : l.length ≤ 1048576) : ∃ y o, (∀ k, l.length + 20 < k → spec_DrawReadUvarint.f k l = some (y, o)) ∧ y.length ≤ 8 ∧ (∀ x ∈ y, 0 ≤ x ∧ x < 256) := by
  obtain ⟨h, e0, c0⟩ := new_is l hb hn
  obtain ⟨q, i1, h1, e1, c1⟩ := once_is l 0 h 2 c0 (by omega)
  cases q with
  | true =>
    obtain ⟨p, i2, h2, e2, hp, hpb, c2⟩ := bytes_is l i1 h1 1 (by omega) c1
    obtain ⟨x, i3, h3, e3, _, _, c3⟩ := num_is l i2 h2 c2
    have hu := uv_length x
    refine ⟨p ++ uv x, 1, fun k hk => ?_, by rw [List.length_append]; omega, app_bytes hpb (uv_bytes x)⟩
    unfold spec_DrawReadUvarint.f
    have e2' := e2 k (by omega)
    rw [Int.natCast_one] at e2'
    rw [e0 k (by omega), Option.bind_some]
    dsimp only
    rw [e1, Option.bind_some, if_pos rfl]
    dsimp only
    rw [e2', Option.bind_some]
    dsimp only
    rw [e3, Option.bind_some]
    dsimp only
    rw [specApp_eq k p x (by omega) (by omega)]
    rfl
  | false =>
    obtain ⟨n, i2, h2, e2, n0, n1, _, c2⟩ := below_is l i1 h1 8 c1 (by omega)
    obtain ⟨n, rfl⟩ := Int.eq_ofNat_of_zero_le n0
    have := n1 (by omega)
    obtain ⟨y, o, hy, hl, hyb⟩ := drawRU_go l n [] i2 h2 (by omega) (by simp; omega) (by simp) c2
    refine ⟨y, o, fun k hk => ?_, hl, hyb⟩
    unfold spec_DrawReadUvarint.f
    rw [e0 k (by omega), Option.bind_some]
    dsimp only
    rw [e1, Option.bind_some]
    dsimp only
    rw [if_neg (by decide)]
    rw [e2, Option.bind_some]
    dsimp only
    exact hy k (by omega)
theorem varints_j1 (l : List Int) (hb : ∀ x ∈ l, 0 ≤ x ∧ x < 256) (hn : l.length ≤ 1048576) (k : Nat) (hk : l.length + 30 < k) : laws_FnVarints.j1 (k + 1) l = some true := by
  obtain ⟨y, o, ey, hl, hyb⟩ := drawRU l hb hn
  simp only [laws_FnVarints.j1]
  rw [ey k (by omega), Option.bind_some]
  dsimp only
  rw [iRead_eq k y hyb (by omega) o (by omega), Option.bind_some, sRead_eq k y hyb (by omega) o (by omega), Option.bind_some]
  obtain ⟨m, after, ok, hr⟩ : ∃ m after ok, ruvF y o = (m, after, ok) := ⟨_, _, _, rfl⟩
  rw [hr]
  dsimp only
  cases ok with
  | true =>
    obtain ⟨hu, o0, o1, o2⟩ := uv_of_read y hyb o m after hr
    have := uv_length m
    rw [if_pos rfl, if_pos o0, if_pos o2, if_pos o1, implApp_eq k [] m (by omega) (by simp), Option.bind_some, if_pos o0, if_pos (by omega), List.nil_append, ← hu, laws_sameBytes_eq k _ _ (by omega) (by omega)]
    simp
  | false =>
    have hz : m = 0 ∧ after = 0 := by
      unfold ruvF at hr
      split at hr
      · simp only [Prod.mk.injEq] at hr; exact ⟨hr.1.symm, hr.2.1.symm⟩
      · have : ∀ d j acc, ruv y o d j acc = (m, after, false) → m = 0 ∧ after = 0 := by
          intro d
          induction d with
          | zero => intro j acc h; simp only [ruv, Prod.mk.injEq] at h; exact ⟨h.1.symm, h.2.1.symm⟩
          | succ d ih =>
            intro j acc h
            simp only [ruv] at h
            split at h
            · simp only [Prod.mk.injEq] at h; exact ⟨h.1.symm, h.2.1.symm⟩
            · split at h
              · split at h
                · simp only [Prod.mk.injEq] at h; exact ⟨h.1.symm, h.2.1.symm⟩
                · simp at h
              · exact ih _ _ h
        exact this _ _ _ hr
    rw [if_neg (by decide), if_pos hz.1, if_pos hz.2]; rfl
theorem FnVarints : laws_FnVarints.Pure := by
  intro l _ _ hw
  have hb : ∀ x ∈ l, 0 ≤ x ∧ x < 256 := fun x hx => u8_wf (hw x hx)
  by_cases hl : l.length ≤ 1048576
  · obtain ⟨h, e0, c0⟩ := new_is l hb hl
    obtain ⟨n, i1, h1, e1, n0, n1, _, c1⟩ := below_is l 0 h 3 c0 (by omega)
    obtain ⟨n, rfl⟩ := Int.eq_ofNat_of_zero_le n0
    have := n1 (by omega)
    obtain ⟨p, i2, h2, e2, hp, hpb, c2⟩ := bytes_is l i1 h1 n (by omega) c1
    obtain ⟨x, i3, h3, e3, x0, x1, c3⟩ := one_is l i2 h2 c2
    refine ⟨l.length + 31 + 1 + 1, ?_⟩
    have d : spec_DrawAppendUvarint.f (l.length + 31 + 1 + 1) l = some (p, x) := by
      unfold spec_DrawAppendUvarint.f
      rw [e0 _ (by omega), Option.bind_some]
      dsimp only
      rw [e1, Option.bind_some]
      dsimp only
      rw [e2 _ (by omega), Option.bind_some]
      dsimp only
      rw [e3]; rfl
    have hu := uv_length x
    have hj1 := varints_j1 l hb hl (l.length + 31) (by omega)
    unfold laws_FnVarints.f laws_big.f
    rw [Option.bind_some, if_neg (by simp; omega), d, Option.bind_some]
    dsimp only
    rw [implApp_eq _ p x (by omega) (by omega), Option.bind_some, iRead_eq _ _ (app_bytes hpb (uv_bytes x)) (by rw [List.length_append]; omega) _ (by omega), Option.bind_some]
    have hj : ∀ a b c d e f g, laws_FnVarints.j0 (l.length + 31 + 1 + 1) a b c d e f g true = if g = true then some false else ((laws_sameBytes.f (l.length + 31 + 1) d b).bind fun t => if t = true then laws_FnVarints.j1 (l.length + 31 + 1) a else some false) := by
      intro a b c d e f g; simp only [laws_FnVarints.j0, if_true]
    have hjf : ∀ a b c d e f g, laws_FnVarints.j0 (l.length + 31 + 1 + 1) a b c d e f g false = if g = true then (if e = c then (if f = (d.length : Int) then laws_FnVarints.j1 (l.length + 31 + 1) a else some false) else some false) else some false := by
      intro a b c d e f g; simp only [laws_FnVarints.j0, Bool.false_eq_true, if_false]
    by_cases hr : 0 ≤ x ∧ x ≤ 1000000000000
    · have hf := ruvF_uv p [] x hr
      rw [List.append_nil] at hf
      rw [if_neg (by omega), decide_eq_false (show ¬ x > 1000000000000 by omega), hjf, hf]
      dsimp only
      rw [if_pos rfl, if_pos rfl, if_pos (by simp), hj1]
    · have hun : uv x = [] := by unfold uv; rw [if_neg hr]
      have hf : ruvF (p ++ uv x) (p.length : Int) = (0, 0, false) := by
        rw [hun, List.append_nil]; unfold ruvF; rw [if_pos (Or.inr (by omega))]
      have hend : laws_FnVarints.j0 (l.length + 31 + 1 + 1) l p x (p ++ uv x) 0 0 false true = some true := by
        rw [hj, if_neg (by decide), hun, List.append_nil, laws_sameBytes_eq _ p p (by omega) (by omega), Option.bind_some, if_pos (by simp), hj1]
      rw [hf]
      dsimp only
      by_cases hx : x < 0
      · rw [if_pos hx]; exact hend
      · rw [if_neg hx, decide_eq_true (show x > 1000000000000 by omega)]; exact hend
  · refine ⟨1, ?_⟩
    unfold laws_FnVarints.f laws_big.f
    rw [Option.bind_some, if_pos (by simp; omega)]

end Go.Proofs.Ytepicmocmioiiaa.Pure
