/- The row of FnCipher: for every slice of bytes (that fits into memory) the law answers true; no condition. -/
import Derived.Laws.BitsLemmas
import Derived.Test.YtepicmocmioiiaaQFnCipherx2
import Derived.Test.YtepicmocmioiiaaWSized
set_option linter.unusedVariables false
set_option linter.unusedSimpArgs false
namespace Go.Proofs.Ytepicmocmioiiaa.PrintWords
open Go.ChangeShapes Go.WideShapes
/-- The words' own theorem, under the name by which the row asks for it. -/
theorem sized_ints {H : Type} {enc : TypeId × Value → H} {P : Program} {W : World} {base : Nat} {spare : Nat → Bool} {held : Bool} {t e : TypeId} {k : IntKind} {a : Option Addr} {len cap : Nat} {d : DataW H} {ps : List MemPlace} {ts : List TypeId} {ds : List (DataW H)} {j : Nat}
    (hsz : (DataW.weightsEach P ts ds).all (· ≤ reachBytes) = true) (ht : ts[j]? = some t) (hd : ds[j]? = some d) (hu : P.underlying t = some (.slice e)) (he : P.underlying e = some (.int k)) (hc : P.cellsOf e = 1) {B : Nat} (hB : P.bytesOf e = B)
    (h : DataW.Trod enc P W base spare held t (.slice a len cap) d ps) : len * B ≤ 140737488351232 := Go.Proofs.YtepicmocmioiiaaW.PrintWords.sized_ints hsz ht hd hu he hc hB h
end Go.Proofs.Ytepicmocmioiiaa.PrintWords

namespace Go.Proofs.Ytepicmocmioiiaa.Pure
open Go.RowKit Go.Proofs.Ytepicmocmioiiaa.PFnCipher Go.Proofs.YtepicmocmioiiaaW.PrintWords Go.Proofs.YtepicmocmioiiaaW.PrintLast

theorem u8_wf {x : Int} (h : (Lit.int .u8 x).wf = true) : 0 ≤ x ∧ x < 256 := by
  simp [Lit.wf, IntKind.min, IntKind.max, IntKind.bits, IntKind.signed] at h
  omega
theorem i64_wf {x : Int} (h : (Lit.int .i64 x).wf = true) : -9223372036854775808 ≤ x ∧ x ≤ 9223372036854775807 := by
  simp [Lit.wf, IntKind.min, IntKind.max, IntKind.bits, IntKind.signed] at h
  omega

theorem wsucc {i n : Nat} (h : i < n) (hn : n ≤ 9223372036854775807) : wrap64 ((i : Int) + 1) = ((i + 1 : Nat) : Int) := by unfold wrap64; omega
theorem rd_nat (xs : List Int) (i : Nat) : rd xs (i : Int) = xs.getD i 0 := by unfold rd; rw [Int.toNat_natCast]
theorem rd_get (xs : List Int) (i : Nat) (h : i < xs.length) : rd xs (i : Int) = xs[i] := by
  rw [rd_nat, List.getD_eq_getElem?_getD, List.getElem?_eq_getElem h]; rfl
theorem drop_cons {α : Type} (xs : List α) (i : Nat) (h : i < xs.length) : xs.drop i = xs[i] :: xs.drop (i + 1) := (List.drop_eq_getElem_cons h)
theorem set_take {α : Type} (ys : List α) (i : Nat) (v : α) (h : i < ys.length) : (ys.set i v).take (i + 1) = ys.take i ++ [v] := by
  rw [List.take_succ_eq_append_getElem (by simpa using h)]
  rw [List.take_set, List.set_eq_of_length_le (by simp; omega)]
  simp

theorem w64 {x : Int} (h0 : -9223372036854775808 ≤ x) (h1 : x ≤ 9223372036854775807) : wrap64 x = x := by
  unfold wrap64; omega

/-! The cursor over a draw's bytes: whatever it yields, it yields. -/
theorem and255 (y : Int) : 0 ≤ Go.bits .and .i64 y 255 ∧ Go.bits .and .i64 y 255 ≤ 255 := by
  have e : Go.bits .and .i64 y 255 = IntKind.i64.wrap ((BitVec.ofInt 64 y &&& BitVec.ofInt 64 255).toNat : Int) := rfl
  have h : (BitVec.ofInt 64 y &&& BitVec.ofInt 64 255).toNat ≤ 255 := by
    rw [BitVec.toNat_and]
    exact Nat.le_trans Nat.and_le_right (by decide)
  rw [e, IntKind.wrap_i64]
  omega
structure CurOk (b : List Int) (i : Int) : Prop where
  bytes : ∀ x ∈ b, 0 ≤ x ∧ x < 256
  short : b.length ≤ 1048576
  low : 0 ≤ i
  high : i ≤ b.length
theorem new_go (l : List Int) (hn : l.length ≤ 1048576) : ∀ (d : Nat) (i : Nat) (h : Int), i + d = l.length → ∃ h', ∀ k, d < k → spec_l1New.l0 k l h (i : Int) = some (l, 0, h') := by
  intro d
  induction d with
  | zero =>
    intro i h hi
    refine ⟨h, fun k hk => ?_⟩
    obtain ⟨k, rfl⟩ : ∃ m, k = m + 1 := ⟨k - 1, by omega⟩
    simp only [spec_l1New.l0]
    rw [if_neg (by omega)]
  | succ d ih =>
    intro i h hi
    by_cases h4 : (i : Int) < 4000
    · obtain ⟨h', hh⟩ := ih (i + 1) (Go.bits .and .i64 (wrap64 ((wrap64 ((wrap64 (h * 137)) + (wrap64 (rd l i)))) + 11)) 1073741823) (by omega)
      refine ⟨h', fun k hk => ?_⟩
      obtain ⟨k, rfl⟩ : ∃ m, k = m + 1 := ⟨k - 1, by omega⟩
      simp only [spec_l1New.l0]
      rw [if_pos (by omega), if_pos h4, if_pos (by omega), wsucc (show i < l.length by omega) (by omega)]
      exact hh k (by omega)
    · refine ⟨h, fun k hk => ?_⟩
      obtain ⟨k, rfl⟩ : ∃ m, k = m + 1 := ⟨k - 1, by omega⟩
      simp only [spec_l1New.l0]
      rw [if_pos (by omega), if_neg h4]
theorem new_is (l : List Int) (hb : ∀ x ∈ l, 0 ≤ x ∧ x < 256) (hn : l.length ≤ 1048576) : ∃ h, (∀ k, l.length < k → spec_l1New.f k l = some (l, 0, h)) ∧ CurOk l 0 := by
  obtain ⟨h, hh⟩ := new_go l hn l.length 0 (wrap64 (193017 + (l.length : Int))) (by omega)
  refine ⟨h, fun k hk => ?_, ⟨hb, hn, by omega, by omega⟩⟩
  unfold spec_l1New.f
  have := hh k hk
  rw [Int.natCast_zero] at this
  exact this
theorem byte_is (b : List Int) (i h : Int) (c : CurOk b i) : ∃ x i' h', spec_l1Byte.f b i h = some (x, i', h') ∧ 0 ≤ x ∧ x ≤ 255 ∧ CurOk b i' := by
  unfold spec_l1Byte.f
  have := c.low; have := c.high; have := c.short
  by_cases hl : i < (b.length : Int)
  · rw [if_pos hl, if_pos c.low]
    refine ⟨_, _, _, rfl, (and255 _).1, (and255 _).2, ⟨c.bytes, c.short, ?_, ?_⟩⟩
    · rw [w64 (by omega) (by omega)]; omega
    · rw [w64 (by omega) (by omega)]; omega
  · rw [if_neg hl]
    exact ⟨_, _, _, rfl, (and255 _).1, (and255 _).2, c⟩

theorem below_is (b : List Int) (i h n : Int) (c : CurOk b i) (hn : n ≤ 1000000000) : ∃ x i' h', spec_l1Below.f b i h n = some (x, i', h') ∧ 0 ≤ x ∧ (1 ≤ n → x < n) ∧ (n ≤ 0 → x = 0) ∧ CurOk b i' := by
  unfold spec_l1Below.f
  by_cases h0 : n ≤ 0
  · rw [if_pos h0]; exact ⟨0, i, h, rfl, by omega, fun h => by omega, fun _ => rfl, c⟩
  · rw [if_neg h0]
    by_cases h1 : n ≤ 256
    · obtain ⟨x, i', h', e, x0, x1, c'⟩ := byte_is b i h c
      rw [if_pos h1, e, Option.bind_some, if_neg (by omega)]
      refine ⟨_, _, _, rfl, ?_, fun _ => ?_, fun h => by omega, c'⟩
      · dsimp only; rw [Int.tmod_eq_emod_of_nonneg x0]; exact Int.emod_nonneg _ (by omega)
      · dsimp only; rw [Int.tmod_eq_emod_of_nonneg x0]; exact Int.emod_lt_of_pos _ (by omega)
    · obtain ⟨x, i1, h1', e1, x0, x1, c1⟩ := byte_is b i h c
      obtain ⟨y, i2, h2', e2, y0, y1, c2⟩ := byte_is b i1 h1' c1
      obtain ⟨z, i3, h3', e3, z0, z1, c3⟩ := byte_is b i2 h2' c2
      rw [if_neg h1, e1, Option.bind_some, e2, Option.bind_some, e3, Option.bind_some, if_neg (by omega)]
      have ew : wrap64 (wrap64 (wrap64 (x * 65536) + wrap64 (y * 256)) + z) = x * 65536 + y * 256 + z := by
        rw [w64 (x := x * 65536) (by omega) (by omega), w64 (x := y * 256) (by omega) (by omega), w64 (x := x * 65536 + y * 256) (by omega) (by omega), w64 (by omega) (by omega)]
      refine ⟨_, _, _, rfl, ?_, fun _ => ?_, fun h => by omega, c3⟩
      · dsimp only; rw [ew, Int.tmod_eq_emod_of_nonneg (by omega)]; exact Int.emod_nonneg _ (by omega)
      · dsimp only; rw [ew, Int.tmod_eq_emod_of_nonneg (by omega)]; exact Int.emod_lt_of_pos _ (by omega)

theorem once_is (b : List Int) (i h n : Int) (c : CurOk b i) (hn : n ≤ 1000000000) : ∃ x i' h', spec_l1Once.f b i h n = some (x, i', h') ∧ CurOk b i' := by
  obtain ⟨x, i', h', e, _, _, _, c'⟩ := below_is b i h n c hn
  unfold spec_l1Once.f
  rw [e, Option.bind_some]
  exact ⟨_, _, _, rfl, c'⟩

theorem pick_is (b : List Int) (i h : Int) (l : List Int) (hl : 1 ≤ l.length) (hl2 : l.length ≤ 1000000000) (c : CurOk b i) : ∃ x i' h', spec_l1Int.f b i h l = some (x, i', h') ∧ x ∈ l ∧ CurOk b i' := by
  obtain ⟨x, i', h', e, x0, x1, _, c'⟩ := below_is b i h l.length c (by omega)
  have := x1 (by omega)
  unfold spec_l1Int.f
  rw [e, Option.bind_some]
  dsimp only
  rw [if_pos x0, if_pos this]
  obtain ⟨j, rfl⟩ := Int.eq_ofNat_of_zero_le x0
  refine ⟨_, _, _, rfl, ?_, c'⟩
  rw [rd_get _ _ (by omega)]; exact List.getElem_mem _

theorem word_is (b : List Int) (i h : Int) (c : CurOk b i) : ∃ x i' h', spec_l3Word.f b i h = some (x, i', h') ∧ -1 ≤ x ∧ x ≤ 2147483648 ∧ CurOk b i' := by
  unfold spec_l3Word.f
  obtain ⟨q, i1, h1, e1, c1⟩ := once_is b i h 10 c (by omega)
  rw [e1, Option.bind_some]
  dsimp only
  cases q with
  | true =>
    obtain ⟨x, i2, h2, e2, hx, c2⟩ := pick_is b i1 h1 [-1, 2147483647, 2147483648] (by simp) (by simp) c1
    rw [if_pos rfl, e2, Option.bind_some]
    refine ⟨_, _, _, rfl, ?_, ?_, c2⟩ <;> (simp only [List.mem_cons, List.not_mem_nil, or_false] at hx; dsimp only; omega)
  | false =>
    obtain ⟨q2, i2, h2, e2, c2⟩ := once_is b i1 h1 4 c1 (by omega)
    rw [if_neg (by decide), e2, Option.bind_some]
    dsimp only
    cases q2 with
    | true =>
      obtain ⟨x, i3, h3, e3, hx, c3⟩ := pick_is b i2 h2 [0, 1, 2147483646] (by simp) (by simp) c2
      rw [if_pos rfl, e3, Option.bind_some]
      refine ⟨_, _, _, rfl, ?_, ?_, c3⟩ <;> (simp only [List.mem_cons, List.not_mem_nil, or_false] at hx; dsimp only; omega)
    | false =>
      obtain ⟨x, i3, h3, e3, x0, x1, _, c3⟩ := below_is b i2 h2 1000000 c2 (by omega)
      obtain ⟨y, i4, h4, e4, y0, y1, _, c4⟩ := below_is b i3 h3 2000 c3 (by omega)
      rw [if_neg (by decide), e3, Option.bind_some, e4, Option.bind_some]
      have p0 := Int.mul_nonneg x0 y0
      have p1 : x * y ≤ 1000000 * 2000 := Int.mul_le_mul (by omega) (by omega) y0 (by omega)
      refine ⟨_, _, _, rfl, ?_, ?_, c4⟩ <;> (dsimp only; rw [w64 (by omega) (by omega)]; omega)

theorem bytes_go (b : List Int) (n : Nat) (hn : n ≤ 1000000) : ∀ (d : Nat) (i h : Int) (j : Nat) (out : List Int), j + d = n → out.length = j → (∀ x ∈ out, 0 ≤ x ∧ x < 256) → CurOk b i →
    ∃ r i' h', (∀ k, d < k → spec_l1Bytes.l0 k (n : Int) out (j : Int) b i h = some (r, i', h')) ∧ r.length = n ∧ (∀ x ∈ r, 0 ≤ x ∧ x < 256) ∧ CurOk b i' := by
  intro d
  induction d with
  | zero =>
    intro i h j out hj ho hb c
    refine ⟨out, i, h, fun k hk => ?_, by omega, hb, c⟩
    obtain ⟨k, rfl⟩ : ∃ m, k = m + 1 := ⟨k - 1, by omega⟩
    simp only [spec_l1Bytes.l0]
    rw [if_neg (by omega)]
  | succ d ih =>
    intro i h j out hj ho hb c
    obtain ⟨x, i1, h1, e, x0, x1, c1⟩ := byte_is b i h c
    obtain ⟨r, i', h', hr, hl, hb', c'⟩ := ih i1 h1 (j + 1) (out ++ [x % 256]) (by omega) (by simp [ho]) (by
      intro y hy
      rcases List.mem_append.1 hy with hy | hy
      · exact hb y hy
      · simp only [List.mem_singleton] at hy; omega) c1
    refine ⟨r, i', h', fun k hk => ?_, hl, hb', c'⟩
    obtain ⟨k, rfl⟩ : ∃ m, k = m + 1 := ⟨k - 1, by omega⟩
    simp only [spec_l1Bytes.l0]
    rw [if_pos (by omega), e, Option.bind_some, if_pos (by omega), wsucc (show j < n by omega) (by omega)]
    exact hr k (by omega)
theorem bytes_is (b : List Int) (i h : Int) (n : Nat) (hn : n ≤ 1000000) (c : CurOk b i) : ∃ r i' h', (∀ k, n < k → spec_l1Bytes.f k b i h (n : Int) = some (r, i', h')) ∧ r.length = n ∧ (∀ x ∈ r, 0 ≤ x ∧ x < 256) ∧ CurOk b i' := by
  obtain ⟨r, i', h', hr, hl, hb, c'⟩ := bytes_go b n hn n i h 0 [] (by omega) rfl (by simp) c
  refine ⟨r, i', h', fun k hk => ?_, hl, hb, c'⟩
  unfold spec_l1Bytes.f
  have := hr k hk
  rw [Int.natCast_zero] at this
  exact this

theorem laws_sameBytes_go (xs ys : List Int) (hl : xs.length = ys.length) (hn : xs.length ≤ 9223372036854775807) : ∀ (d k : Nat) (i : Nat), i + d = xs.length → d < k →
    laws_sameBytes.l0 k xs ys (i : Int) = some (decide (xs.drop i = ys.drop i)) := by
  intro d
  induction d with
  | zero =>
    intro k i hi hk
    obtain ⟨k, rfl⟩ : ∃ m, k = m + 1 := ⟨k - 1, by omega⟩
    simp only [laws_sameBytes.l0]
    rw [if_neg (by omega), List.drop_of_length_le (by omega), List.drop_of_length_le (by omega)]; rfl
  | succ d ih =>
    intro k i hi hk
    obtain ⟨k, rfl⟩ : ∃ m, k = m + 1 := ⟨k - 1, by omega⟩
    simp only [laws_sameBytes.l0]
    rw [if_pos (by omega), if_pos (by omega), if_pos (by omega), wsucc (show i < xs.length by omega) hn, ih k (i + 1) (by omega) (by omega), rd_get _ _ (by omega), rd_get _ _ (by omega), drop_cons xs i (by omega), drop_cons ys i (by omega)]
    split
    · rename_i h; simp only [List.cons.injEq, h, true_and]
    · rename_i h; simp only [List.cons.injEq, h, false_and, decide_false]
theorem laws_sameBytes_eq (k : Nat) (a b : List Int) (hk : a.length < k) (hn : a.length ≤ 9223372036854775807) : laws_sameBytes.f k a b = some (decide (a = b)) := by
  unfold laws_sameBytes.f
  by_cases h : a.length = b.length
  · rw [if_pos (by omega)]
    have := laws_sameBytes_go a b h hn a.length k 0 (by omega) hk
    rw [Int.natCast_zero] at this
    rw [this]; rfl
  · rw [if_neg (by omega)]; congr 1; symm; rw [decide_eq_false_iff_not]; intro e; exact h (by rw [e])

theorem tmod_bd (a b : Int) (hb : 1 ≤ b) : -b < Int.tmod a b ∧ Int.tmod a b < b := by
  have h1 := Int.tmod_lt_of_pos a (show 0 < b by omega)
  have h2 := Int.lt_tmod_of_pos a (show 0 < b by omega)
  exact ⟨h2, h1⟩
/-- What both come to. -/
theorem tmod_fix (a b : Int) (hb : 1 ≤ b) : (Int.tmod (Int.tmod a b + b) b) = a % b ∧ (if Int.tmod a b < 0 then Int.tmod a b + b else Int.tmod a b) = a % b := by
  obtain ⟨h1, h2⟩ := tmod_bd a b hb
  have e1 : (Int.tmod a b) % b = a % b := by
    have := Int.tmod_add_mul_tdiv a b
    conv => rhs; rw [← this]
    rw [Int.add_mul_emod_self_left]
  constructor
  · rw [Int.tmod_eq_emod_of_nonneg (by omega), Int.add_emod_right, e1]
  · split
    · rw [← e1, ← Int.add_emod_right]
      exact (Int.emod_eq_of_lt (by omega) (by omega)).symm
    · rw [← e1]; exact (Int.emod_eq_of_lt (by omega) h2).symm

/-- One more value into a hash. -/
def foldV (acc v : Int) : Int := Int.tmod (acc * 1000003 + v % 2147483647 + 13) 2147483647
def hashV (l : List Int) (acc : Int) : Int := l.foldl foldV acc
theorem foldV_bd (acc v : Int) (h0 : 0 ≤ acc) : 0 ≤ foldV acc v ∧ foldV acc v < 2147483647 := by
  unfold foldV
  rw [Int.tmod_eq_emod_of_nonneg (by omega)]; omega
theorem fold_wrap (acc v : Int) (h0 : 0 ≤ acc) (h1 : acc < 2147483647) : Int.tmod (wrap64 (wrap64 (wrap64 (acc * 1000003) + v % 2147483647) + 13)) 2147483647 = foldV acc v := by
  unfold foldV
  rw [w64 (x := acc * 1000003) (by omega) (by omega), w64 (x := acc * 1000003 + v % 2147483647) (by omega) (by omega), w64 (by omega) (by omega)]
theorem hashV_bd (l : List Int) : ∀ acc, 0 ≤ acc → acc < 2147483647 → 0 ≤ hashV l acc ∧ hashV l acc < 2147483647 := by
  induction l with
  | nil => intro acc h0 h1; exact ⟨h0, h1⟩
  | cons v l ih => intro acc h0 h1; obtain ⟨b0, b1⟩ := foldV_bd acc v h0; exact ih _ b0 b1

theorem inr (a b c : Int) : impl_InRange.f a b c = some (decide (b ≤ a ∧ a ≤ c)) := by
  unfold impl_InRange.f
  by_cases h : b ≤ a
  · rw [if_pos h]; congr 1; simp only [decide_eq_decide]; omega
  · rw [if_neg h]; congr 1; symm; simp only [decide_eq_false_iff_not]; omega

theorem iMod (a b : Int) : impl_Mod.f a b = some (if 1 ≤ b ∧ b ≤ 1000000000000 then a % b else 0) := by
  unfold impl_Mod.f
  simp only [inr, Option.bind_some, decide_eq_true_eq]
  by_cases h : 1 ≤ b ∧ b ≤ 1000000000000
  · obtain ⟨h1, h2⟩ := tmod_bd a b h.1
    rw [if_pos h, if_pos h, if_neg (by omega), ← (tmod_fix a b h.1).2]
    split
    · rw [w64 (by omega) (by omega)]
    · rfl
  · rw [if_neg h, if_neg h]

theorem iMod_M (v : Int) : impl_Mod.f v 2147483647 = some (v % 2147483647) := by rw [iMod, if_pos (by omega)]
theorem iFold (acc v : Int) (h0 : 0 ≤ acc) (h1 : acc < 2147483647) : impl_fold.f acc v = some (foldV acc v) := by
  unfold impl_fold.f
  rw [iMod_M, Option.bind_some, fold_wrap acc v h0 h1]

/-- What a keyed hash comes to. -/
def keyedV (key : Int) (l : List Int) : Int := hashV ([key] ++ l ++ [key]) 11
theorem keyedV_bd (key : Int) (l : List Int) : 0 ≤ keyedV key l ∧ keyedV key l < 2147483647 := hashV_bd _ 11 (by omega) (by omega)
theorem iKeyed_go (key : Int) (xs : List Int) (hn : xs.length ≤ 9223372036854775807) : ∀ (d k : Nat) (i : Nat) (acc : Int), i + d = xs.length → d < k → 0 ≤ acc → acc < 2147483647 →
    impl_KeyedHash.l0 k key acc xs (xs.length : Int) (i : Int) = some (foldV (hashV (xs.drop i) acc) key) := by
  intro d
  induction d with
  | zero =>
    intro k i acc hi hk h0 h1
    obtain ⟨k, rfl⟩ : ∃ m, k = m + 1 := ⟨k - 1, by omega⟩
    simp only [impl_KeyedHash.l0]
    rw [if_neg (by omega), List.drop_of_length_le (by omega), iFold acc key h0 h1]; rfl
  | succ d ih =>
    intro k i acc hi hk h0 h1
    obtain ⟨k, rfl⟩ : ∃ m, k = m + 1 := ⟨k - 1, by omega⟩
    simp only [impl_KeyedHash.l0]
    obtain ⟨b0, b1⟩ := foldV_bd acc xs[i] h0
    rw [if_pos (by omega), if_pos (by omega), if_pos (by omega), iFold acc _ h0 h1, Option.bind_some, wsucc (show i < xs.length by omega) hn, rd_get _ _ (by omega), ih k (i + 1) _ (by omega) (by omega) b0 b1, drop_cons xs i (by omega)]
    rfl
theorem iKeyed_eq (k : Nat) (key : Int) (l : List Int) (hk : l.length < k) (hn : l.length ≤ 9223372036854775807) : impl_KeyedHash.f k key l = some (keyedV key l) := by
  unfold impl_KeyedHash.f
  obtain ⟨b0, b1⟩ := foldV_bd 11 key (by omega)
  have := iKeyed_go key l hn l.length k 0 (foldV 11 key) (by omega) hk b0 b1
  rw [Int.natCast_zero] at this
  rw [iFold 11 key (by omega) (by omega), Option.bind_some, this]
  unfold keyedV hashV
  rw [List.foldl_append, List.foldl_append]; rfl

def ciphE (key : Int) (l : List Int) (i : Nat) : List Int := match l with | [] => [] | x :: r => (x + keyedV key [(i : Int)]) % 256 :: ciphE key r (i + 1)
theorem ciphE_length (key : Int) (l : List Int) : ∀ i, (ciphE key l i).length = l.length := by
  induction l with
  | nil => intro i; rfl
  | cons x r ih => intro i; simp only [ciphE, List.length_cons, ih]
theorem iEncrypt_go (key : Int) (xs : List Int) (hn : xs.length ≤ 1099511627776) : ∀ (d k : Nat) (i : Nat) (out : List Int), i + d = xs.length → d + 3 < k → out.length = i →
    impl_Encrypt.l0 k key out xs (xs.length : Int) (i : Int) = some (out ++ ciphE key (xs.drop i) i) := by
  intro d
  induction d with
  | zero =>
    intro k i out hi hk ho
    obtain ⟨k, rfl⟩ : ∃ m, k = m + 1 := ⟨k - 1, by omega⟩
    simp only [impl_Encrypt.l0]
    rw [if_neg (by omega), List.drop_of_length_le (by omega)]; simp [ciphE]
  | succ d ih =>
    intro k i out hi hk ho
    obtain ⟨k, rfl⟩ : ∃ m, k = m + 1 := ⟨k - 1, by omega⟩
    simp only [impl_Encrypt.l0]
    rw [if_pos (by omega), if_pos (by omega), if_pos (by omega), iKeyed_eq k key _ (by simp; omega) (by simp), Option.bind_some, if_pos (by omega), wsucc (show i < xs.length by omega) (by omega), rd_get _ _ (by omega), ih k (i + 1) _ (by omega) (by omega) (by simp [ho]), drop_cons xs i (by omega), List.append_assoc]
    rfl
theorem iEncrypt_eq (k : Nat) (key : Int) (l : List Int) (hk : l.length + 3 < k) (hn : l.length ≤ 1099511627776) : impl_Encrypt.f k key l = some (ciphE key l 0) := by
  unfold impl_Encrypt.f
  have := iEncrypt_go key l hn l.length k 0 [] (by omega) hk rfl
  rw [Int.natCast_zero] at this
  rw [this]; rfl

def ciphD (key : Int) (l : List Int) (i : Nat) : List Int := match l with | [] => [] | x :: r => (x - keyedV key [(i : Int)]) % 256 :: ciphD key r (i + 1)
theorem ciphD_length (key : Int) (l : List Int) : ∀ i, (ciphD key l i).length = l.length := by
  induction l with
  | nil => intro i; rfl
  | cons x r ih => intro i; simp only [ciphD, List.length_cons, ih]
theorem iDecrypt_go (key : Int) (xs : List Int) (hn : xs.length ≤ 1099511627776) : ∀ (d k : Nat) (i : Nat) (out : List Int), i + d = xs.length → d + 3 < k → out.length = i →
    impl_Decrypt.l0 k key out xs (xs.length : Int) (i : Int) = some (out ++ ciphD key (xs.drop i) i) := by
  intro d
  induction d with
  | zero =>
    intro k i out hi hk ho
    obtain ⟨k, rfl⟩ : ∃ m, k = m + 1 := ⟨k - 1, by omega⟩
    simp only [impl_Decrypt.l0]
    rw [if_neg (by omega), List.drop_of_length_le (by omega)]; simp [ciphD]
  | succ d ih =>
    intro k i out hi hk ho
    obtain ⟨k, rfl⟩ : ∃ m, k = m + 1 := ⟨k - 1, by omega⟩
    simp only [impl_Decrypt.l0]
    rw [if_pos (by omega), if_pos (by omega), if_pos (by omega), iKeyed_eq k key _ (by simp; omega) (by simp), Option.bind_some, if_pos (by omega), wsucc (show i < xs.length by omega) (by omega), rd_get _ _ (by omega), ih k (i + 1) _ (by omega) (by omega) (by simp [ho]), drop_cons xs i (by omega), List.append_assoc]
    rfl
theorem iDecrypt_eq (k : Nat) (key : Int) (l : List Int) (hk : l.length + 3 < k) (hn : l.length ≤ 1099511627776) : impl_Decrypt.f k key l = some (ciphD key l 0) := by
  unfold impl_Decrypt.f
  have := iDecrypt_go key l hn l.length k 0 [] (by omega) hk rfl
  rw [Int.natCast_zero] at this
  rw [this]; rfl

theorem ciph_DE (key : Int) (l : List Int) (hb : ∀ x ∈ l, 0 ≤ x ∧ x < 256) : ∀ i, ciphD key (ciphE key l i) i = l := by
  induction l with
  | nil => intro i; rfl
  | cons x r ih =>
    intro i
    simp only [ciphE, ciphD]
    rw [ih (fun y hy => hb y (List.mem_cons_of_mem _ hy))]
    obtain ⟨x0, x1⟩ := hb x (List.mem_cons_self ..)
    congr 1
    rw [Int.emod_sub_emod, Int.add_sub_cancel]; omega
theorem ciph_ED (key : Int) (l : List Int) (hb : ∀ x ∈ l, 0 ≤ x ∧ x < 256) : ∀ i, ciphE key (ciphD key l i) i = l := by
  induction l with
  | nil => intro i; rfl
  | cons x r ih =>
    intro i
    simp only [ciphE, ciphD]
    rw [ih (fun y hy => hb y (List.mem_cons_of_mem _ hy))]
    obtain ⟨x0, x1⟩ := hb x (List.mem_cons_self ..)
    congr 1
    rw [Int.emod_add_emod, Int.sub_add_cancel]; omega
theorem FnCipher : laws_FnCipher.Pure := by
  intro l _ _ hw
  have hb : ∀ x ∈ l, 0 ≤ x ∧ x < 256 := fun x hx => u8_wf (hw x hx)
  by_cases hl : l.length ≤ 1048576
  · obtain ⟨h, e0, c0⟩ := new_is l hb hl
    obtain ⟨key, i1, h1, e1, _, _, c1⟩ := word_is l 0 h c0
    obtain ⟨n, i2, h2, e2, n0, n1, _, c2⟩ := below_is l i1 h1 8 c1 (by omega)
    obtain ⟨n, rfl⟩ := Int.eq_ofNat_of_zero_le n0
    have := n1 (by omega)
    obtain ⟨p, i3, h3, e3, hp, hpb, c3⟩ := bytes_is l i2 h2 n (by omega) c2
    refine ⟨l.length + 30, ?_⟩
    have d : spec_DrawEncrypt.f (l.length + 30) l = some (key, p) := by
      unfold spec_DrawEncrypt.f
      rw [e0 _ (by omega), Option.bind_some, e1, Option.bind_some, e2, Option.bind_some, e3 _ (by omega)]; rfl
    unfold laws_FnCipher.f laws_big.f
    rw [Option.bind_some, if_neg (by simp; omega), d, Option.bind_some]
    dsimp only
    have l1 := ciphE_length key p 0
    have l2 := ciphD_length key p 0
    have l3 := ciphD_length key (ciphE key p 0) 0
    have l4 := ciphE_length key (ciphD key p 0) 0
    rw [iEncrypt_eq _ key p (by omega) (by omega), Option.bind_some, iDecrypt_eq _ key _ (by omega) (by omega), Option.bind_some, laws_sameBytes_eq _ _ _ (by omega) (by omega), Option.bind_some,
      if_pos (decide_eq_true (ciph_DE key p hpb 0)), iDecrypt_eq _ key p (by omega) (by omega), Option.bind_some, iEncrypt_eq _ key _ (by omega) (by omega), Option.bind_some, laws_sameBytes_eq _ _ _ (by omega) (by omega), Option.bind_some, if_pos (decide_eq_true (ciph_ED key p hpb 0)), Option.bind_some, l1]
    simp
  · refine ⟨1, ?_⟩
    unfold laws_FnCipher.f laws_big.f
    rw [Option.bind_some, if_pos (by simp; omega)]

end Go.Proofs.Ytepicmocmioiiaa.Pure
