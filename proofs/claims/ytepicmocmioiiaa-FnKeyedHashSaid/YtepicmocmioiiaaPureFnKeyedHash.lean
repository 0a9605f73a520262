/- The row of FnKeyedHash: for every slice of bytes (that fits into memory) the law answers true; no condition. -/
import Derived.Laws.BitsLemmas
import Derived.Test.YtepicmocmioiiaaQFnKeyedHashx3
import Derived.Test.YtepicmocmioiiaaWSized
set_option linter.unusedVariables false
set_option linter.unusedSimpArgs false
namespace Go.Proofs.Ytepicmocmioiiaa.PrintWords
open Go.ChangeShapes Go.WideShapes
/-- The words' own theorem, under the name by which the row asks for it. -/
theorem sized_ints {H : Type} {enc : TypeId × Value → H} {P : Program} {W : World} {base : Nat} {spare : Nat → Bool} {held : Bool} {t e : TypeId} {k : IntKind} {a : Option Addr} {len cap : Nat} {d : DataW H} {ps : List MemPlace} {ts : List TypeId} {ds : List (DataW H)} {j : Nat}
    (hsz : (DataW.weightsEach P ts ds).all (· ≤ reachBytes) = true) (ht : ts[j]? = some t) (hd : ds[j]? = some d) (hu : P.underlying t = some (.slice e)) (he : P.underlying e = some (.int k)) (hc : P.cellsOf e = 1) {B : Nat} (hB : P.bytesOf e = B)
    (h : DataW.Trod enc P W base spare held t (.slice a len cap) d ps) : len * B ≤ 140737488351232 := Go.Proofs.YtepicmocmioiiaaW.PrintWords.sized_ints hsz ht hd hu he hc hB h
end Go.Proofs.Ytepicmocmioiiaa.PrintWords

namespace Go.Proofs.Ytepicmocmioiiaa.Pure
open Go.RowKit Go.Proofs.Ytepicmocmioiiaa.PFnKeyedHash Go.Proofs.YtepicmocmioiiaaW.PrintWords Go.Proofs.YtepicmocmioiiaaW.PrintLast

theorem u8_wf {x : Int} (h : (Lit.int .u8 x).wf = true) : 0 ≤ x ∧ x < 256 := by
  simp [Lit.wf, IntKind.min, IntKind.max, IntKind.bits, IntKind.signed] at h
  omega
theorem i64_wf {x : Int} (h : (Lit.int .i64 x).wf = true) : -9223372036854775808 ≤ x ∧ x ≤ 9223372036854775807 := by
  simp [Lit.wf, IntKind.min, IntKind.max, IntKind.bits, IntKind.signed] at h
  omega

theorem wsucc {i n : Nat} (h : i < n) (hn : n ≤ 9223372036854775807) : wrap64 ((i : Int) + 1) = ((i + 1 : Nat) : Int) := by unfold wrap64; omega
theorem rd_nat (xs : List Int) (i : Nat) : rd xs (i : Int) = xs.getD i 0 := by unfold rd; rw [Int.toNat_natCast]
theorem rd_get (xs : List Int) (i : Nat) (h : i < xs.length) : rd xs (i : Int) = xs[i] := by
  rw [rd_nat, List.getD_eq_getElem?_getD, List.getElem?_eq_getElem h]; rfl
theorem drop_cons {α : Type} (xs : List α) (i : Nat) (h : i < xs.length) : xs.drop i = xs[i] :: xs.drop (i + 1) := (List.drop_eq_getElem_cons h)
theorem set_take {α : Type} (ys : List α) (i : Nat) (v : α) (h : i < ys.length) : (ys.set i v).take (i + 1) = ys.take i ++ [v] := by
  rw [List.take_succ_eq_append_getElem (by simpa using h)]
  rw [List.take_set, List.set_eq_of_length_le (by simp; omega)]
  simp

theorem w64 {x : Int} (h0 : -9223372036854775808 ≤ x) (h1 : x ≤ 9223372036854775807) : wrap64 x = x := by
  unfold wrap64; omega

/-! The cursor over a draw's bytes: whatever it yields, it yields. -/
theorem and255 (y : Int) : 0 ≤ Go.bits .and .i64 y 255 ∧ Go.bits .and .i64 y 255 ≤ 255 := by
  have e : Go.bits .and .i64 y 255 = IntKind.i64.wrap ((BitVec.ofInt 64 y &&& BitVec.ofInt 64 255).toNat : Int) := rfl
  have h : (BitVec.ofInt 64 y &&& BitVec.ofInt 64 255).toNat ≤ 255 := by
    rw [BitVec.toNat_and]
    exact Nat.le_trans Nat.and_le_right (by decide)
  rw [e, IntKind.wrap_i64]
  omega
structure CurOk (b : List Int) (i : Int) : Prop where
  bytes : ∀ x ∈ b, 0 ≤ x ∧ x < 256
  short : b.length ≤ 1048576
  low : 0 ≤ i
  high : i ≤ b.length
theorem new_go (l : List Int) (hn : l.length ≤ 1048576) : ∀ (d : Nat) (i : Nat) (h : Int), i + d = l.length → ∃ h', ∀ k, d < k → spec_l1New.l0 k l h (i : Int) = some (l, 0, h') := by
  intro d
  induction d with
  | zero =>
    intro i h hi
    refine ⟨h, fun k hk => ?_⟩
    obtain ⟨k, rfl⟩ : ∃ m, k = m + 1 := ⟨k - 1, by omega⟩
    simp only [spec_l1New.l0]
    rw [if_neg (by omega)]
  | succ d ih =>
    intro i h hi
    by_cases h4 : (i : Int) < 4000
    · obtain ⟨h', hh⟩ := ih (i + 1) (Go.bits .and .i64 (wrap64 ((wrap64 ((wrap64 (h * 137)) + (wrap64 (rd l i)))) + 11)) 1073741823) (by omega)
      refine ⟨h', fun k hk => ?_⟩
      obtain ⟨k, rfl⟩ : ∃ m, k = m + 1 := ⟨k - 1, by omega⟩
      simp only [spec_l1New.l0]
      rw [if_pos (by omega), if_pos h4, if_pos (by omega), wsucc (show i < l.length by omega) (by omega)]
      exact hh k (by omega)
    · refine ⟨h, fun k hk => ?_⟩
      obtain ⟨k, rfl⟩ : ∃ m, k = m + 1 := ⟨k - 1, by omega⟩
      simp only [spec_l1New.l0]
      rw [if_pos (by omega), if_neg h4]
theorem new_is (l : List Int) (hb : ∀ x ∈ l, 0 ≤ x ∧ x < 256) (hn : l.length ≤ 1048576) : ∃ h, (∀ k, l.length < k → spec_l1New.f k l = some (l, 0, h)) ∧ CurOk l 0 := by
  obtain ⟨h, hh⟩ := new_go l hn l.length 0 (wrap64 (193017 + (l.length : Int))) (by omega)
  refine ⟨h, fun k hk => ?_, ⟨hb, hn, by omega, by omega⟩⟩
  unfold spec_l1New.f
  have := hh k hk
  rw [Int.natCast_zero] at this
  exact this
theorem byte_is (b : List Int) (i h : Int) (c : CurOk b i) : ∃ x i' h', spec_l1Byte.f b i h = some (x, i', h') ∧ 0 ≤ x ∧ x ≤ 255 ∧ CurOk b i' := by
  unfold spec_l1Byte.f
  have := c.low; have := c.high; have := c.short
  by_cases hl : i < (b.length : Int)
  · rw [if_pos hl, if_pos c.low]
    refine ⟨_, _, _, rfl, (and255 _).1, (and255 _).2, ⟨c.bytes, c.short, ?_, ?_⟩⟩
    · rw [w64 (by omega) (by omega)]; omega
    · rw [w64 (by omega) (by omega)]; omega
  · rw [if_neg hl]
    exact ⟨_, _, _, rfl, (and255 _).1, (and255 _).2, c⟩

theorem below_is (b : List Int) (i h n : Int) (c : CurOk b i) (hn : n ≤ 1000000000) : ∃ x i' h', spec_l1Below.f b i h n = some (x, i', h') ∧ 0 ≤ x ∧ (1 ≤ n → x < n) ∧ (n ≤ 0 → x = 0) ∧ CurOk b i' := by
  unfold spec_l1Below.f
  by_cases h0 : n ≤ 0
  · rw [if_pos h0]; exact ⟨0, i, h, rfl, by omega, fun h => by omega, fun _ => rfl, c⟩
  · rw [if_neg h0]
    by_cases h1 : n ≤ 256
    · obtain ⟨x, i', h', e, x0, x1, c'⟩ := byte_is b i h c
      rw [if_pos h1, e, Option.bind_some, if_neg (by omega)]
      refine ⟨_, _, _, rfl, ?_, fun _ => ?_, fun h => by omega, c'⟩
      · dsimp only; rw [Int.tmod_eq_emod_of_nonneg x0]; exact Int.emod_nonneg _ (by omega)
      · dsimp only; rw [Int.tmod_eq_emod_of_nonneg x0]; exact Int.emod_lt_of_pos _ (by omega)
    · obtain ⟨x, i1, h1', e1, x0, x1, c1⟩ := byte_is b i h c
      obtain ⟨y, i2, h2', e2, y0, y1, c2⟩ := byte_is b i1 h1' c1
      obtain ⟨z, i3, h3', e3, z0, z1, c3⟩ := byte_is b i2 h2' c2
      rw [if_neg h1, e1, Option.bind_some, e2, Option.bind_some, e3, Option.bind_some, if_neg (by omega)]
      have ew : wrap64 (wrap64 (wrap64 (x * 65536) + wrap64 (y * 256)) + z) = x * 65536 + y * 256 + z := by
        rw [w64 (x := x * 65536) (by omega) (by omega), w64 (x := y * 256) (by omega) (by omega), w64 (x := x * 65536 + y * 256) (by omega) (by omega), w64 (by omega) (by omega)]
      refine ⟨_, _, _, rfl, ?_, fun _ => ?_, fun h => by omega, c3⟩
      · dsimp only; rw [ew, Int.tmod_eq_emod_of_nonneg (by omega)]; exact Int.emod_nonneg _ (by omega)
      · dsimp only; rw [ew, Int.tmod_eq_emod_of_nonneg (by omega)]; exact Int.emod_lt_of_pos _ (by omega)

theorem once_is (b : List Int) (i h n : Int) (c : CurOk b i) (hn : n ≤ 1000000000) : ∃ x i' h', spec_l1Once.f b i h n = some (x, i', h') ∧ CurOk b i' := by
  obtain ⟨x, i', h', e, _, _, _, c'⟩ := below_is b i h n c hn
  unfold spec_l1Once.f
  rw [e, Option.bind_some]
  exact ⟨_, _, _, rfl, c'⟩

theorem pick_is (b : List Int) (i h : Int) (l : List Int) (hl : 1 ≤ l.length) (hl2 : l.length ≤ 1000000000) (c : CurOk b i) : ∃ x i' h', spec_l1Int.f b i h l = some (x, i', h') ∧ x ∈ l ∧ CurOk b i' := by
  obtain ⟨x, i', h', e, x0, x1, _, c'⟩ := below_is b i h l.length c (by omega)
  have := x1 (by omega)
  unfold spec_l1Int.f
  rw [e, Option.bind_some]
  dsimp only
  rw [if_pos x0, if_pos this]
  obtain ⟨j, rfl⟩ := Int.eq_ofNat_of_zero_le x0
  refine ⟨_, _, _, rfl, ?_, c'⟩
  rw [rd_get _ _ (by omega)]; exact List.getElem_mem _

theorem word_is (b : List Int) (i h : Int) (c : CurOk b i) : ∃ x i' h', spec_l3Word.f b i h = some (x, i', h') ∧ -1 ≤ x ∧ x ≤ 2147483648 ∧ CurOk b i' := by
  unfold spec_l3Word.f
  obtain ⟨q, i1, h1, e1, c1⟩ := once_is b i h 10 c (by omega)
  rw [e1, Option.bind_some]
  dsimp only
  cases q with
  | true =>
    obtain ⟨x, i2, h2, e2, hx, c2⟩ := pick_is b i1 h1 [-1, 2147483647, 2147483648] (by simp) (by simp) c1
    rw [if_pos rfl, e2, Option.bind_some]
    refine ⟨_, _, _, rfl, ?_, ?_, c2⟩ <;> (simp only [List.mem_cons, List.not_mem_nil, or_false] at hx; dsimp only; omega)
  | false =>
    obtain ⟨q2, i2, h2, e2, c2⟩ := once_is b i1 h1 4 c1 (by omega)
    rw [if_neg (by decide), e2, Option.bind_some]
    dsimp only
    cases q2 with
    | true =>
      obtain ⟨x, i3, h3, e3, hx, c3⟩ := pick_is b i2 h2 [0, 1, 2147483646] (by simp) (by simp) c2
      rw [if_pos rfl, e3, Option.bind_some]
      refine ⟨_, _, _, rfl, ?_, ?_, c3⟩ <;> (simp only [List.mem_cons, List.not_mem_nil, or_false] at hx; dsimp only; omega)
    | false =>
      obtain ⟨x, i3, h3, e3, x0, x1, _, c3⟩ := below_is b i2 h2 1000000 c2 (by omega)
      obtain ⟨y, i4, h4, e4, y0, y1, _, c4⟩ := below_is b i3 h3 2000 c3 (by omega)
      rw [if_neg (by decide), e3, Option.bind_some, e4, Option.bind_some]
      have p0 := Int.mul_nonneg x0 y0
      have p1 : x * y ≤ 1000000 * 2000 := Int.mul_le_mul (by omega) (by omega) y0 (by omega)
      refine ⟨_, _, _, rfl, ?_, ?_, c4⟩ <;> (dsimp only; rw [w64 (by omega) (by omega)]; omega)

theorem at_is (l : List Int) (hb : ∀ x ∈ l, 0 ≤ x ∧ x < 256) (hn : l.length ≤ 1048576) (i : Int) (h0 : 0 ≤ i) (h1 : i ≤ 10000000) : ∃ x, laws_at.f l i = some x ∧ 0 ≤ x ∧ x ≤ 255 := by
  unfold laws_at.f
  by_cases h : i < l.length
  · obtain ⟨j, rfl⟩ := Int.eq_ofNat_of_zero_le h0
    obtain ⟨x0, x1⟩ := hb _ (List.getElem_mem (show j < l.length by omega))
    rw [if_pos h, if_pos h0, rd_get _ _ (by omega)]
    exact ⟨_, rfl, by rw [w64 (by omega) (by omega)]; omega, by rw [w64 (by omega) (by omega)]; omega⟩
  · rw [if_neg h]
    refine ⟨_, rfl, ?_⟩
    rw [w64 (x := i * 31) (by omega) (by omega), w64 (x := (l.length : Int) * 7) (by omega) (by omega), w64 (by omega) (by omega), Int.tmod_eq_emod_of_nonneg (by omega)]
    omega

theorem iB2I_go (xs : List Int) (hb : ∀ x ∈ xs, 0 ≤ x ∧ x < 256) (hn : xs.length ≤ 17592186044000) : ∀ (d k : Nat) (i : Nat) (out : List Int), i + d = xs.length → d < k → out.length + d < 17592186044416 →
    impl_BytesToInts.l0 k out xs (xs.length : Int) (i : Int) = some (out ++ xs.drop i) := by
  intro d
  induction d with
  | zero =>
    intro k i out hi hk ho
    obtain ⟨k, rfl⟩ : ∃ m, k = m + 1 := ⟨k - 1, by omega⟩
    simp only [impl_BytesToInts.l0]
    rw [if_neg (by omega), List.drop_of_length_le (by omega), List.append_nil]
  | succ d ih =>
    intro k i out hi hk ho
    obtain ⟨k, rfl⟩ : ∃ m, k = m + 1 := ⟨k - 1, by omega⟩
    simp only [impl_BytesToInts.l0]
    obtain ⟨b0, b1⟩ := hb xs[i] (List.getElem_mem _)
    rw [if_pos (by omega), if_pos (by omega), if_pos (by omega), if_pos (by omega), wsucc (show i < xs.length by omega) (by omega), rd_get _ _ (by omega), ih k (i + 1) _ (by omega) (by omega) (by simp; omega), drop_cons xs i (by omega), show wrap64 xs[i] = xs[i] from by unfold wrap64; omega, List.append_assoc]
    rfl
theorem iB2I_eq (k : Nat) (l : List Int) (hb : ∀ x ∈ l, 0 ≤ x ∧ x < 256) (hk : l.length < k) (hn : l.length ≤ 17592186044000) : impl_BytesToInts.f k l = some ((l.length : Int) :: l) := by
  unfold impl_BytesToInts.f
  have := iB2I_go l hb hn l.length k 0 [(l.length : Int)] (by omega) hk (by simp; omega)
  rw [Int.natCast_zero] at this
  rw [this]; rfl

theorem tmod_bd (a b : Int) (hb : 1 ≤ b) : -b < Int.tmod a b ∧ Int.tmod a b < b := by
  have h1 := Int.tmod_lt_of_pos a (show 0 < b by omega)
  have h2 := Int.lt_tmod_of_pos a (show 0 < b by omega)
  exact ⟨h2, h1⟩
/-- What both come to. -/
theorem tmod_fix (a b : Int) (hb : 1 ≤ b) : (Int.tmod (Int.tmod a b + b) b) = a % b ∧ (if Int.tmod a b < 0 then Int.tmod a b + b else Int.tmod a b) = a % b := by
  obtain ⟨h1, h2⟩ := tmod_bd a b hb
  have e1 : (Int.tmod a b) % b = a % b := by
    have := Int.tmod_add_mul_tdiv a b
    conv => rhs; rw [← this]
    rw [Int.add_mul_emod_self_left]
  constructor
  · rw [Int.tmod_eq_emod_of_nonneg (by omega), Int.add_emod_right, e1]
  · split
    · rw [← e1, ← Int.add_emod_right]
      exact (Int.emod_eq_of_lt (by omega) (by omega)).symm
    · rw [← e1]; exact (Int.emod_eq_of_lt (by omega) h2).symm

/-- One more value into a hash. -/
def foldV (acc v : Int) : Int := Int.tmod (acc * 1000003 + v % 2147483647 + 13) 2147483647
def hashV (l : List Int) (acc : Int) : Int := l.foldl foldV acc
theorem foldV_bd (acc v : Int) (h0 : 0 ≤ acc) : 0 ≤ foldV acc v ∧ foldV acc v < 2147483647 := by
  unfold foldV
  rw [Int.tmod_eq_emod_of_nonneg (by omega)]; omega
theorem fold_wrap (acc v : Int) (h0 : 0 ≤ acc) (h1 : acc < 2147483647) : Int.tmod (wrap64 (wrap64 (wrap64 (acc * 1000003) + v % 2147483647) + 13)) 2147483647 = foldV acc v := by
  unfold foldV
  rw [w64 (x := acc * 1000003) (by omega) (by omega), w64 (x := acc * 1000003 + v % 2147483647) (by omega) (by omega), w64 (by omega) (by omega)]
theorem hashV_bd (l : List Int) : ∀ acc, 0 ≤ acc → acc < 2147483647 → 0 ≤ hashV l acc ∧ hashV l acc < 2147483647 := by
  induction l with
  | nil => intro acc h0 h1; exact ⟨h0, h1⟩
  | cons v l ih => intro acc h0 h1; obtain ⟨b0, b1⟩ := foldV_bd acc v h0; exact ih _ b0 b1

theorem inr (a b c : Int) : impl_InRange.f a b c = some (decide (b ≤ a ∧ a ≤ c)) := by
  unfold impl_InRange.f
  by_cases h : b ≤ a
  · rw [if_pos h]; congr 1; simp only [decide_eq_decide]; omega
  · rw [if_neg h]; congr 1; symm; simp only [decide_eq_false_iff_not]; omega

theorem iMod (a b : Int) : impl_Mod.f a b = some (if 1 ≤ b ∧ b ≤ 1000000000000 then a % b else 0) := by
  unfold impl_Mod.f
  simp only [inr, Option.bind_some, decide_eq_true_eq]
  by_cases h : 1 ≤ b ∧ b ≤ 1000000000000
  · obtain ⟨h1, h2⟩ := tmod_bd a b h.1
    rw [if_pos h, if_pos h, if_neg (by omega), ← (tmod_fix a b h.1).2]
    split
    · rw [w64 (by omega) (by omega)]
    · rfl
  · rw [if_neg h, if_neg h]

theorem iMod_M (v : Int) : impl_Mod.f v 2147483647 = some (v % 2147483647) := by rw [iMod, if_pos (by omega)]
theorem iFold (acc v : Int) (h0 : 0 ≤ acc) (h1 : acc < 2147483647) : impl_fold.f acc v = some (foldV acc v) := by
  unfold impl_fold.f
  rw [iMod_M, Option.bind_some, fold_wrap acc v h0 h1]

/-- What a keyed hash comes to. -/
def keyedV (key : Int) (l : List Int) : Int := hashV ([key] ++ l ++ [key]) 11
theorem keyedV_bd (key : Int) (l : List Int) : 0 ≤ keyedV key l ∧ keyedV key l < 2147483647 := hashV_bd _ 11 (by omega) (by omega)
theorem iKeyed_go (key : Int) (xs : List Int) (hn : xs.length ≤ 9223372036854775807) : ∀ (d k : Nat) (i : Nat) (acc : Int), i + d = xs.length → d < k → 0 ≤ acc → acc < 2147483647 →
    impl_KeyedHash.l0 k key acc xs (xs.length : Int) (i : Int) = some (foldV (hashV (xs.drop i) acc) key) := by
  intro d
  induction d with
  | zero =>
    intro k i acc hi hk h0 h1
    obtain ⟨k, rfl⟩ : ∃ m, k = m + 1 := ⟨k - 1, by omega⟩
    simp only [impl_KeyedHash.l0]
    rw [if_neg (by omega), List.drop_of_length_le (by omega), iFold acc key h0 h1]; rfl
  | succ d ih =>
    intro k i acc hi hk h0 h1
    obtain ⟨k, rfl⟩ : ∃ m, k = m + 1 := ⟨k - 1, by omega⟩
    simp only [impl_KeyedHash.l0]
    obtain ⟨b0, b1⟩ := foldV_bd acc xs[i] h0
    rw [if_pos (by omega), if_pos (by omega), if_pos (by omega), iFold acc _ h0 h1, Option.bind_some, wsucc (show i < xs.length by omega) hn, rd_get _ _ (by omega), ih k (i + 1) _ (by omega) (by omega) b0 b1, drop_cons xs i (by omega)]
    rfl
theorem iKeyed_eq (k : Nat) (key : Int) (l : List Int) (hk : l.length < k) (hn : l.length ≤ 9223372036854775807) : impl_KeyedHash.f k key l = some (keyedV key l) := by
  unfold impl_KeyedHash.f
  obtain ⟨b0, b1⟩ := foldV_bd 11 key (by omega)
  have := iKeyed_go key l hn l.length k 0 (foldV 11 key) (by omega) hk b0 b1
  rw [Int.natCast_zero] at this
  rw [iFold 11 key (by omega) (by omega), Option.bind_some, this]
  unfold keyedV hashV
  rw [List.foldl_append, List.foldl_append]; rfl

theorem bytesOf_bd (s : ByteArray) : ∀ x ∈ bytesOf s, 0 ≤ x ∧ x < 256 := by
  intro x hx
  unfold bytesOf at hx
  obtain ⟨b, _, rfl⟩ := List.mem_map.1 hx
  have := b.toNat_lt
  omega
def drvV (key : Int) (s : ByteArray) : Int := if keyedV key (((bytesOf s).length : Int) :: bytesOf s) = 0 then 1 else keyedV key (((bytesOf s).length : Int) :: bytesOf s)
theorem drvV_bd (key : Int) (s : ByteArray) : 1 ≤ drvV key s ∧ drvV key s < 2147483647 := by
  have := keyedV_bd key (((bytesOf s).length : Int) :: bytesOf s)
  unfold drvV
  split <;> omega
theorem iDrv_eq (k : Nat) (key : Int) (s : ByteArray) (hk : s.size + 1 < k) (hn : s.size ≤ 1099511627776) : impl_DeriveFromString.f k key s = some (drvV key s) := by
  have hl := bytesOf_length s
  unfold impl_DeriveFromString.f drvV
  rw [if_pos (by omega), iB2I_eq _ _ (bytesOf_bd s) (by omega) (by omega), Option.bind_some, iKeyed_eq _ key _ (by simp only [List.length_cons]; omega) (by simp only [List.length_cons]; omega), Option.bind_some]
  split <;> rfl

theorem iHash_go (xs : List Int) (hn : xs.length ≤ 9223372036854775807) : ∀ (d k : Nat) (i : Nat) (acc : Int), i + d = xs.length → d < k → 0 ≤ acc → acc < 2147483647 →
    impl_Hash.l0 k acc xs (xs.length : Int) (i : Int) = some (hashV (xs.drop i) acc) := by
  intro d
  induction d with
  | zero =>
    intro k i acc hi hk h0 h1
    obtain ⟨k, rfl⟩ : ∃ m, k = m + 1 := ⟨k - 1, by omega⟩
    simp only [impl_Hash.l0]
    rw [if_neg (by omega), List.drop_of_length_le (by omega)]; rfl
  | succ d ih =>
    intro k i acc hi hk h0 h1
    obtain ⟨k, rfl⟩ : ∃ m, k = m + 1 := ⟨k - 1, by omega⟩
    simp only [impl_Hash.l0]
    obtain ⟨b0, b1⟩ := foldV_bd acc xs[i] h0
    rw [if_pos (by omega), if_pos (by omega), if_pos (by omega), iFold acc _ h0 h1, Option.bind_some, wsucc (show i < xs.length by omega) hn, rd_get _ _ (by omega), ih k (i + 1) _ (by omega) (by omega) b0 b1, drop_cons xs i (by omega)]
    rfl
theorem iHash_eq (k : Nat) (l : List Int) (hk : l.length < k) (hn : l.length ≤ 9223372036854775807) : impl_Hash.f k l = some (hashV l 11) := by
  unfold impl_Hash.f
  have := iHash_go l hn l.length k 0 11 (by omega) hk (by omega) (by omega)
  rw [Int.natCast_zero] at this
  rw [this]; rfl

theorem in1 (a b c : Int) : spec_l1In.f a b c = some (decide (b ≤ a ∧ a ≤ c)) := by
  unfold spec_l1In.f
  by_cases h : a ≥ b
  · rw [if_pos h]; congr 1; simp only [decide_eq_decide]; omega
  · rw [if_neg h]; congr 1; symm; simp only [decide_eq_false_iff_not]; omega

theorem sMod (a b : Int) : spec_Mod.f a b = some (if 1 ≤ b ∧ b ≤ 1000000000000 then a % b else 0) := by
  unfold spec_Mod.f
  simp only [in1, Option.bind_some, decide_eq_true_eq]
  by_cases h : 1 ≤ b ∧ b ≤ 1000000000000
  · obtain ⟨h1, h2⟩ := tmod_bd a b h.1
    rw [if_pos h, if_pos h, if_neg (by omega), w64 (by omega) (by omega), (tmod_fix a b h.1).1]
  · rw [if_neg h, if_neg h]

theorem words_go (b : List Int) : ∀ (n : Nat) (i h : Int) (out : List Int), n ≤ 1000 → out.length + n < 17592186044416 → CurOk b i → ∃ ws i' h', (∀ k, n < k → spec_l3Words.l0 k out (n : Int) b i h = some (out ++ ws, i', h')) ∧ ws.length = n ∧ (∀ x ∈ ws, -1 ≤ x ∧ x ≤ 2147483648) ∧ CurOk b i' := by
  intro n
  induction n with
  | zero =>
    intro i h out _ _ c
    refine ⟨[], i, h, fun k hk => ?_, rfl, by simp, c⟩
    obtain ⟨k, rfl⟩ : ∃ m, k = m + 1 := ⟨k - 1, by omega⟩
    simp only [spec_l3Words.l0]
    rw [if_neg (by omega), List.append_nil]
  | succ n ih =>
    intro i h out hn ho c
    obtain ⟨x, i1, h1, e1, x0, x1, c1⟩ := word_is b i h c
    obtain ⟨ws, i2, h2, e2, l2, b2, c2⟩ := ih i1 h1 (out ++ [x]) (by omega) (by simp; omega) c1
    refine ⟨x :: ws, i2, h2, fun k hk => ?_, by simp [l2], ?_, c2⟩
    · obtain ⟨k, rfl⟩ : ∃ m, k = m + 1 := ⟨k - 1, by omega⟩
      simp only [spec_l3Words.l0]
      rw [if_pos (by omega), e1, Option.bind_some]
      dsimp only
      have w : wrap64 (((n + 1 : Nat) : Int) - 1) = (n : Int) := by unfold wrap64; omega
      rw [if_pos (by omega), w, e2 k (by omega), List.append_assoc]; rfl
    · intro y hy
      rcases List.mem_cons.1 hy with rfl | hy
      · exact ⟨x0, x1⟩
      · exact b2 y hy
theorem words_is (b : List Int) (i h : Int) (c : CurOk b i) : ∃ ws i' h', (∀ k, 5 < k → spec_l3Words.f k b i h = some (ws, i', h')) ∧ ws.length ≤ 4 ∧ (∀ x ∈ ws, -1 ≤ x ∧ x ≤ 2147483648) ∧ CurOk b i' := by
  obtain ⟨n, i1, h1, e1, n0, n1, _, c1⟩ := below_is b i h 5 c (by omega)
  have := n1 (by omega)
  obtain ⟨n, rfl⟩ := Int.eq_ofNat_of_zero_le n0
  obtain ⟨ws, i2, h2, e2, l2, b2, c2⟩ := words_go b n i1 h1 [] (by omega) (by simp; omega) c1
  refine ⟨ws, i2, h2, fun k hk => ?_, by omega, b2, c2⟩
  unfold spec_l3Words.f
  rw [e1, Option.bind_some]
  dsimp only
  rw [e2 k (by omega)]; rfl
theorem str_is (b : List Int) (i h : Int) (l : List ByteArray) (hl : 1 ≤ l.length) (hl2 : l.length ≤ 1000000000) (c : CurOk b i) : ∃ x i' h', spec_l1Str.f b i h l = some (x, i', h') ∧ x ∈ l := by
  obtain ⟨x, i', h', e, x0, x1, _, c'⟩ := below_is b i h l.length c (by omega)
  have := x1 (by omega)
  unfold spec_l1Str.f
  rw [e, Option.bind_some]
  dsimp only
  rw [if_pos x0, if_pos this]
  obtain ⟨j, rfl⟩ := Int.eq_ofNat_of_zero_le x0
  refine ⟨_, _, _, rfl, ?_⟩
  unfold rdOf
  rw [Int.toNat_natCast, List.getD_eq_getElem?_getD, List.getElem?_eq_getElem (by omega)]; exact List.getElem_mem _
theorem lin_zero (d q : Int) (h : d * 1000003 = 2147483647 * q) (h0 : -2147483647 < d) (h1 : d < 2147483647) : d = 0 := by omega
theorem lin2 (a b w q : Int) (hq : a * 1000003 + w + 13 - (b * 1000003 + w + 13) = 2147483647 * q) : (a - b) * 1000003 = 2147483647 * q := by
  rw [Int.sub_mul]; omega
theorem emod_inj (x y : Int) (h : x % 2147483647 = y % 2147483647) : ∃ q, x - y = 2147483647 * q := Int.dvd_of_emod_eq_zero (Int.emod_eq_emod_iff_emod_sub_eq_zero.mp h)
theorem foldV_inj (a b v : Int) (ha : 0 ≤ a ∧ a < 2147483647) (hb : 0 ≤ b ∧ b < 2147483647) (h : foldV a v = foldV b v) : a = b := by
  unfold foldV at h
  have hv0 : 0 ≤ v % 2147483647 := Int.emod_nonneg _ (by decide)
  generalize v % 2147483647 = w at h hv0
  rw [Int.tmod_eq_emod_of_nonneg (by omega), Int.tmod_eq_emod_of_nonneg (by omega)] at h
  obtain ⟨q, hq⟩ := emod_inj _ _ h
  have h3 := lin2 a b w q hq
  have h4 := lin_zero (a - b) q h3 (by clear h3 hq h; omega) (by clear h3 hq h; omega)
  clear h3 hq h
  omega
theorem foldV_inj2 (a v w : Int) (ha : 0 ≤ a ∧ a < 2147483647) (h : foldV a v = foldV a w) : v % 2147483647 = w % 2147483647 := by
  unfold foldV at h
  have hv0 : 0 ≤ v % 2147483647 := Int.emod_nonneg _ (by decide)
  have hv1 : v % 2147483647 < 2147483647 := Int.emod_lt_of_pos _ (by decide)
  have hw0 : 0 ≤ w % 2147483647 := Int.emod_nonneg _ (by decide)
  have hw1 : w % 2147483647 < 2147483647 := Int.emod_lt_of_pos _ (by decide)
  have hx : 0 ≤ a * 1000003 := by omega
  generalize v % 2147483647 = x at h hv0 hv1
  generalize w % 2147483647 = y at h hw0 hw1
  generalize a * 1000003 = z at h hx
  rw [Int.tmod_eq_emod_of_nonneg (by omega), Int.tmod_eq_emod_of_nonneg (by omega)] at h
  have h2 := Int.emod_eq_emod_iff_emod_sub_eq_zero.mp h
  obtain ⟨q, hq⟩ := Int.dvd_of_emod_eq_zero h2
  omega
theorem hashV_inj (l : List Int) : ∀ (a b : Int), (0 ≤ a ∧ a < 2147483647) → (0 ≤ b ∧ b < 2147483647) → hashV l a = hashV l b → a = b := by
  induction l with
  | nil => intro a b _ _ h; exact h
  | cons x r ih =>
    intro a b ha hb h
    exact foldV_inj a b x ha hb (ih _ _ (foldV_bd a x ha.1) (foldV_bd b x hb.1) h)
theorem hashV_set (l : List Int) : ∀ (i : Nat) (v a : Int) (hi : i < l.length), v % 2147483647 ≠ l[i] % 2147483647 → (0 ≤ a ∧ a < 2147483647) → hashV (l.set i v) a ≠ hashV l a := by
  induction l with
  | nil => intro i v a hi; simp at hi
  | cons x r ih =>
    intro i v a hi hv ha h
    cases i with
    | zero => exact hv (foldV_inj2 a v x ha (hashV_inj r _ _ (foldV_bd a v ha.1) (foldV_bd a x ha.1) h))
    | succ i => exact ih i v (foldV a x) (by simpa using hi) (by simpa using hv) (foldV_bd a x ha.1) h
theorem hashV_append (x y : List Int) (a : Int) : hashV (x ++ y) a = hashV y (hashV x a) := by unfold hashV; rw [List.foldl_append]
theorem keyedV_set (key : Int) (ws : List Int) (i : Nat) (v : Int) (hi : i < ws.length) (hv : v % 2147483647 ≠ ws[i] % 2147483647) : keyedV key (ws.set i v) ≠ keyedV key ws := by
  intro h
  unfold keyedV at h
  rw [hashV_append, hashV_append, hashV_append, hashV_append] at h
  have b0 : 0 ≤ hashV [key] 11 ∧ hashV [key] 11 < 2147483647 := hashV_bd _ 11 (by omega) (by omega)
  have h2 := hashV_inj [key] _ _ (hashV_bd _ _ b0.1 b0.2) (hashV_bd _ _ b0.1 b0.2) h
  exact hashV_set ws i v _ hi hv b0 h2
theorem FnKeyedHash : laws_FnKeyedHash.Pure := by
  intro l _ _ hw
  have hb : ∀ x ∈ l, 0 ≤ x ∧ x < 256 := fun x hx => u8_wf (hw x hx)
  by_cases hl : l.length ≤ 1048576
  · obtain ⟨h, e0, c0⟩ := new_is l hb hl
    obtain ⟨key, i1, h1, e1, _, _, c1⟩ := word_is l 0 h c0
    obtain ⟨ws, i2, h2, e2, lw, bw, c2⟩ := words_is l i1 h1 c1
    obtain ⟨s, i3, h3, e3, ms⟩ := str_is l i1 h1 [(⟨#[]⟩ : ByteArray), (⟨#[97]⟩ : ByteArray), (⟨#[98]⟩ : ByteArray), (⟨#[97, 98]⟩ : ByteArray), (⟨#[110, 101, 119, 115]⟩ : ByteArray), (⟨#[120]⟩ : ByteArray)] (by simp) (by simp) c1
    obtain ⟨a0, ea0, a00, a01⟩ := at_is l hb hl 0 (by omega) (by omega)
    obtain ⟨a1, ea1, a10, a11⟩ := at_is l hb hl 1 (by omega) (by omega)
    have hs : s.size ≤ 4 := by
      simp only [List.mem_cons, List.not_mem_nil, or_false] at ms
      rcases ms with rfl | rfl | rfl | rfl | rfl | rfl <;> decide
    obtain ⟨B, hB⟩ : ∃ B, B = l.length + 30 := ⟨_, rfl⟩
    refine ⟨B + 1, ?_⟩
    have dK : spec_DrawKeyedHash.f (B + 1) l = some (key, ws) := by
      unfold spec_DrawKeyedHash.f
      rw [e0 _ (by omega), Option.bind_some]
      dsimp only
      rw [e1, Option.bind_some]
      dsimp only
      rw [e2 _ (by omega)]; rfl
    have dD : spec_DrawDeriveFromString.f B l = some (key, s) := by
      unfold spec_DrawDeriveFromString.f
      rw [e0 _ (by omega), Option.bind_some]
      dsimp only
      rw [e1, Option.bind_some]
      dsimp only
      rw [e3]; rfl
    have dv := drvV_bd key s
    have fin : ((spec_DrawDeriveFromString.f B l).bind fun bt239 => ((impl_DeriveFromString.f B bt239.1 bt239.2).bind fun t241 => ((impl_IsValidKey.f t241).bind fun t242 => (some t242)))) = some true := by
      rw [dD, Option.bind_some]
      dsimp only
      rw [iDrv_eq B key s (by omega) (by omega), Option.bind_some]
      unfold impl_IsValidKey.f
      rw [inr, Option.bind_some, Option.bind_some, decide_eq_true (by omega)]
    have kb := keyedV_bd key ws
    have hash : impl_Hash.f (B + 1) (([key] ++ ws) ++ [key]) = some (keyedV key ws) := iHash_eq _ _ (by simp; omega) (by simp; omega)
    unfold laws_FnKeyedHash.f laws_big.f
    rw [Option.bind_some, if_neg (by simp; omega), dK, Option.bind_some]
    dsimp only
    rw [iKeyed_eq _ key ws (by omega) (by omega), Option.bind_some, if_neg (by omega), if_neg (by omega), Option.bind_some, if_pos (by simp; omega), Option.bind_some, if_pos (by simp; omega), hash, Option.bind_some, bne_self_eq_false]
    simp only [laws_FnKeyedHash.j0, Bool.false_eq_true, if_false]
    by_cases hw0 : (ws.length : Int) > 0
    · have hpos : ws.length ≠ 0 := by omega
      obtain ⟨a0, rfl⟩ := Int.eq_ofNat_of_zero_le a00
      have hm : Int.tmod (a0 : Int) (ws.length : Int) = ((a0 % ws.length : Nat) : Int) := by rw [Int.tmod_eq_emod_of_nonneg (by omega)]; omega
      have hlt : a0 % ws.length < ws.length := Nat.mod_lt _ (by omega)
      obtain ⟨bx0, bx1⟩ := bw ws[a0 % ws.length] (List.getElem_mem _)
      have hne := keyedV_set key ws (a0 % ws.length) ((ws[a0 % ws.length] + 1 + a1) % 2147483647) hlt (by omega)
      rw [if_pos hw0, Option.bind_some, if_pos (by simp; omega), Option.bind_some, ea0, Option.bind_some, List.nil_append, if_neg (by omega), hm, if_pos (by omega), if_pos (by omega), ea1, Option.bind_some, rd_get ws _ hlt, w64 (x := ws[a0 % ws.length] + 1) (by omega) (by omega), w64 (by omega) (by omega), sMod, if_pos (by omega), Option.bind_some, Int.toNat_natCast, iKeyed_eq _ key _ (by rw [List.length_set]; omega) (by rw [List.length_set]; omega), Option.bind_some, if_neg hne]
      exact fin
    · rw [if_neg hw0]; exact fin
  · refine ⟨1, ?_⟩
    unfold laws_FnKeyedHash.f laws_big.f
    rw [Option.bind_some, if_pos (by simp; omega)]

end Go.Proofs.Ytepicmocmioiiaa.Pure
