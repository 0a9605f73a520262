/- What the row of FnIntegers leans on: for every slice of bytes (that fits into memory) the law answers true; no condition. -/
import Derived.Laws.BitsLemmas
import Derived.Test.YtfglfocjoffjpaaDoorQFnIntegersx3
import Derived.Test.YtfglfocjoffjpaaDoorWSized
set_option linter.unusedVariables false
set_option linter.unusedSimpArgs false
namespace Go.Proofs.YtfglfocjoffjpaaDoor.PrintWords
open Go.ChangeShapes Go.WideShapes
/-- The words' own theorem, under the name by which the row asks for it. -/
theorem sized_ints {H : Type} {enc : TypeId × Value → H} {P : Program} {W : World} {base : Nat} {spare : Nat → Bool} {held : Bool} {t e : TypeId} {k : IntKind} {a : Option Addr} {len cap : Nat} {d : DataW H} {ps : List MemPlace} {ts : List TypeId} {ds : List (DataW H)} {j : Nat}
    (hsz : (DataW.weightsEach P ts ds).all (· ≤ reachBytes) = true) (ht : ts[j]? = some t) (hd : ds[j]? = some d) (hu : P.underlying t = some (.slice e)) (he : P.underlying e = some (.int k)) (hc : P.cellsOf e = 1) {B : Nat} (hB : P.bytesOf e = B)
    (h : DataW.Trod enc P W base spare held t (.slice a len cap) d ps) : len * B ≤ 140737488351232 := Go.Proofs.YtfglfocjoffjpaaDoorW.PrintWords.sized_ints hsz ht hd hu he hc hB h
end Go.Proofs.YtfglfocjoffjpaaDoor.PrintWords

namespace Go.Proofs.YtfglfocjoffjpaaDoor.Pure
open Go.RowKit Go.Proofs.YtfglfocjoffjpaaDoor.PFnIntegers Go.Proofs.YtfglfocjoffjpaaDoorW.PrintWords Go.Proofs.YtfglfocjoffjpaaDoorW.PrintLast

theorem u8_wf {x : Int} (h : (Lit.int .u8 x).wf = true) : 0 ≤ x ∧ x < 256 := by
  simp [Lit.wf, IntKind.min, IntKind.max, IntKind.bits, IntKind.signed] at h
  omega
theorem i64_wf {x : Int} (h : (Lit.int .i64 x).wf = true) : -9223372036854775808 ≤ x ∧ x ≤ 9223372036854775807 := by
  simp [Lit.wf, IntKind.min, IntKind.max, IntKind.bits, IntKind.signed] at h
  omega

theorem wsucc {i n : Nat} (h : i < n) (hn : n ≤ 9223372036854775807) : wrap64 ((i : Int) + 1) = ((i + 1 : Nat) : Int) := by unfold wrap64; omega
theorem rd_nat (xs : List Int) (i : Nat) : rd xs (i : Int) = xs.getD i 0 := by unfold rd; rw [Int.toNat_natCast]
theorem rd_get (xs : List Int) (i : Nat) (h : i < xs.length) : rd xs (i : Int) = xs[i] := by
  rw [rd_nat, List.getD_eq_getElem?_getD, List.getElem?_eq_getElem h]; rfl
theorem drop_cons {α : Type} (xs : List α) (i : Nat) (h : i < xs.length) : xs.drop i = xs[i] :: xs.drop (i + 1) := (List.drop_eq_getElem_cons h)
theorem set_take {α : Type} (ys : List α) (i : Nat) (v : α) (h : i < ys.length) : (ys.set i v).take (i + 1) = ys.take i ++ [v] := by
  rw [List.take_succ_eq_append_getElem (by simpa using h)]
  rw [List.take_set, List.set_eq_of_length_le (by simp; omega)]
  simp

theorem w64 {x : Int} (h0 : -9223372036854775808 ≤ x) (h1 : x ≤ 9223372036854775807) : wrap64 x = x := by
  unfold wrap64; omega

/-! The cursor over a draw's bytes: whatever it yields, it yields. -/
theorem and255 (y : Int) : 0 ≤ Go.bits .and .i64 y 255 ∧ Go.bits .and .i64 y 255 ≤ 255 := by
  have e : Go.bits .and .i64 y 255 = IntKind.i64.wrap ((BitVec.ofInt 64 y &&& BitVec.ofInt 64 255).toNat : Int) := rfl
  have h : (BitVec.ofInt 64 y &&& BitVec.ofInt 64 255).toNat ≤ 255 := by
    rw [BitVec.toNat_and]
    exact Nat.le_trans Nat.and_le_right (by decide)
  rw [e, IntKind.wrap_i64]
  omega
structure CurOk (b : List Int) (i : Int) : Prop where
  bytes : ∀ x ∈ b, 0 ≤ x ∧ x < 256
  short : b.length ≤ 1048576
  low : 0 ≤ i
  high : i ≤ b.length
theorem new_go (l : List Int) (hn : l.length ≤ 1048576) : ∀ (d : Nat) (i : Nat) (h : Int), i + d = l.length → ∃ h', ∀ k, d < k → spec_l1New.l0 k l h (i : Int) = some (l, 0, h') := by
  intro d
  induction d with
  | zero =>
    intro i h hi
    refine ⟨h, fun k hk => ?_⟩
    obtain ⟨k, rfl⟩ : ∃ m, k = m + 1 := ⟨k - 1, by omega⟩
    simp only [spec_l1New.l0]
    rw [if_neg (by omega)]
  | succ d ih =>
    intro i h hi
    by_cases h4 : (i : Int) < 4000
    · obtain ⟨h', hh⟩ := ih (i + 1) (Go.bits .and .i64 (wrap64 ((wrap64 ((wrap64 (h * 137)) + (wrap64 (rd l i)))) + 11)) 1073741823) (by omega)
      refine ⟨h', fun k hk => ?_⟩
      obtain ⟨k, rfl⟩ : ∃ m, k = m + 1 := ⟨k - 1, by omega⟩
      simp only [spec_l1New.l0]
      rw [if_pos (by omega), if_pos h4, if_pos (by omega), wsucc (show i < l.length by omega) (by omega)]
      exact hh k (by omega)
    · refine ⟨h, fun k hk => ?_⟩
      obtain ⟨k, rfl⟩ : ∃ m, k = m + 1 := ⟨k - 1, by omega⟩
      simp only [spec_l1New.l0]
      rw [if_pos (by omega), if_neg h4]
theorem new_is (l : List Int) (hb : ∀ x ∈ l, 0 ≤ x ∧ x < 256) (hn : l.length ≤ 1048576) : ∃ h, (∀ k, l.length < k → spec_l1New.f k l = some (l, 0, h)) ∧ CurOk l 0 := by
  obtain ⟨h, hh⟩ := new_go l hn l.length 0 (wrap64 (193017 + (l.length : Int))) (by omega)
  refine ⟨h, fun k hk => ?_, ⟨hb, hn, by omega, by omega⟩⟩
  unfold spec_l1New.f
  have := hh k hk
  rw [Int.natCast_zero] at this
  exact this
theorem byte_is (b : List Int) (i h : Int) (c : CurOk b i) : ∃ x i' h', spec_l1Byte.f b i h = some (x, i', h') ∧ 0 ≤ x ∧ x ≤ 255 ∧ CurOk b i' := by
  unfold spec_l1Byte.f
  have := c.low; have := c.high; have := c.short
  by_cases hl : i < (b.length : Int)
  · rw [if_pos hl, if_pos c.low]
    refine ⟨_, _, _, rfl, (and255 _).1, (and255 _).2, ⟨c.bytes, c.short, ?_, ?_⟩⟩
    · rw [w64 (by omega) (by omega)]; omega
    · rw [w64 (by omega) (by omega)]; omega
  · rw [if_neg hl]
    exact ⟨_, _, _, rfl, (and255 _).1, (and255 _).2, c⟩

theorem below_is (b : List Int) (i h n : Int) (c : CurOk b i) (hn : n ≤ 1000000000) : ∃ x i' h', spec_l1Below.f b i h n = some (x, i', h') ∧ 0 ≤ x ∧ (1 ≤ n → x < n) ∧ (n ≤ 0 → x = 0) ∧ CurOk b i' := by
  unfold spec_l1Below.f
  by_cases h0 : n ≤ 0
  · rw [if_pos h0]; exact ⟨0, i, h, rfl, by omega, fun h => by omega, fun _ => rfl, c⟩
  · rw [if_neg h0]
    by_cases h1 : n ≤ 256
    · obtain ⟨x, i', h', e, x0, x1, c'⟩ := byte_is b i h c
      rw [if_pos h1, e, Option.bind_some, if_neg (by omega)]
      refine ⟨_, _, _, rfl, ?_, fun _ => ?_, fun h => by omega, c'⟩
      · dsimp only; rw [Int.tmod_eq_emod_of_nonneg x0]; exact Int.emod_nonneg _ (by omega)
      · dsimp only; rw [Int.tmod_eq_emod_of_nonneg x0]; exact Int.emod_lt_of_pos _ (by omega)
    · obtain ⟨x, i1, h1', e1, x0, x1, c1⟩ := byte_is b i h c
      obtain ⟨y, i2, h2', e2, y0, y1, c2⟩ := byte_is b i1 h1' c1
      obtain ⟨z, i3, h3', e3, z0, z1, c3⟩ := byte_is b i2 h2' c2
      rw [if_neg h1, e1, Option.bind_some, e2, Option.bind_some, e3, Option.bind_some, if_neg (by omega)]
      have ew : wrap64 (wrap64 (wrap64 (x * 65536) + wrap64 (y * 256)) + z) = x * 65536 + y * 256 + z := by
        rw [w64 (x := x * 65536) (by omega) (by omega), w64 (x := y * 256) (by omega) (by omega), w64 (x := x * 65536 + y * 256) (by omega) (by omega), w64 (by omega) (by omega)]
      refine ⟨_, _, _, rfl, ?_, fun _ => ?_, fun h => by omega, c3⟩
      · dsimp only; rw [ew, Int.tmod_eq_emod_of_nonneg (by omega)]; exact Int.emod_nonneg _ (by omega)
      · dsimp only; rw [ew, Int.tmod_eq_emod_of_nonneg (by omega)]; exact Int.emod_lt_of_pos _ (by omega)

theorem once_is (b : List Int) (i h n : Int) (c : CurOk b i) (hn : n ≤ 1000000000) : ∃ x i' h', spec_l1Once.f b i h n = some (x, i', h') ∧ CurOk b i' := by
  obtain ⟨x, i', h', e, _, _, _, c'⟩ := below_is b i h n c hn
  unfold spec_l1Once.f
  rw [e, Option.bind_some]
  exact ⟨_, _, _, rfl, c'⟩

theorem pick_is (b : List Int) (i h : Int) (l : List Int) (hl : 1 ≤ l.length) (hl2 : l.length ≤ 1000000000) (c : CurOk b i) : ∃ x i' h', spec_l1Int.f b i h l = some (x, i', h') ∧ x ∈ l ∧ CurOk b i' := by
  obtain ⟨x, i', h', e, x0, x1, _, c'⟩ := below_is b i h l.length c (by omega)
  have := x1 (by omega)
  unfold spec_l1Int.f
  rw [e, Option.bind_some]
  dsimp only
  rw [if_pos x0, if_pos this]
  obtain ⟨j, rfl⟩ := Int.eq_ofNat_of_zero_le x0
  refine ⟨_, _, _, rfl, ?_, c'⟩
  rw [rd_get _ _ (by omega)]; exact List.getElem_mem _

theorem num_is (b : List Int) (i h : Int) (c : CurOk b i) : ∃ x i' h', spec_l1Num.f b i h = some (x, i', h') ∧ 0 ≤ x ∧ x ≤ 1000000000000 ∧ CurOk b i' := by
  unfold spec_l1Num.f
  obtain ⟨q, i1, h1, e1, q0, q1, _, c1⟩ := below_is b i h 4 c (by omega)
  rw [e1, Option.bind_some]
  dsimp only
  by_cases a0 : q = 0
  · obtain ⟨x, i2, h2, e2, x0, x1, _, c2⟩ := below_is b i1 h1 2000 c1 (by omega)
    rw [if_pos a0, e2, Option.bind_some]
    have := x1 (by omega)
    exact ⟨_, _, _, rfl, x0, by dsimp only; omega, c2⟩
  · rw [if_neg a0]
    by_cases a1 : q = 1
    · obtain ⟨x, i2, h2, e2, hx, c2⟩ := pick_is b i1 h1 [0, 1, 127, 128, 2147483646, 2147483647, 1000000000000] (by simp) (by simp) c1
      rw [if_pos a1, e2, Option.bind_some]
      refine ⟨_, _, _, rfl, ?_, ?_, c2⟩ <;> (simp only [List.mem_cons, List.not_mem_nil, or_false] at hx; dsimp only; omega)
    · rw [if_neg a1]
      by_cases a2 : q = 2
      · obtain ⟨x, i2, h2, e2, x0, x1, _, c2⟩ := below_is b i1 h1 1000000 c1 (by omega)
        obtain ⟨y, i3, h3, e3, y0, y1, _, c3⟩ := below_is b i2 h2 1000000 c2 (by omega)
        rw [if_pos a2, e2, Option.bind_some, e3, Option.bind_some]
        have p0 := Int.mul_nonneg x0 y0
        have p1 : x * y ≤ 1000000 * 1000000 := Int.mul_le_mul (by omega) (by omega) y0 (by omega)
        refine ⟨_, _, _, rfl, ?_, ?_, c3⟩ <;> (dsimp only; rw [w64 (by omega) (by omega)]; omega)
      · obtain ⟨x, i2, h2, e2, x0, x1, _, c2⟩ := below_is b i1 h1 20 c1 (by omega)
        rw [if_neg a2, e2, Option.bind_some]
        have := x1 (by omega)
        exact ⟨_, _, _, rfl, x0, by dsimp only; omega, c2⟩

theorem odd_is (b : List Int) (i h : Int) (c : CurOk b i) : ∃ x i' h', spec_l1Odd.f b i h = some (x, i', h') ∧ -9223372036854775808 ≤ x ∧ x ≤ 9223372036854775807 ∧ CurOk b i' := by
  unfold spec_l1Odd.f
  obtain ⟨x, i2, h2, e2, hx, c2⟩ := pick_is b i h [(-1), 0, 1, 2, 255, 256, 65535, 2147483647, 2147483648, 4294967295, 4294967296, (-2147483648), 9223372036854775807, (-9223372036854775808)] (by simp) (by simp) c
  rw [e2, Option.bind_some]
  refine ⟨_, _, _, rfl, ?_, ?_, c2⟩ <;> (simp only [List.mem_cons, List.not_mem_nil, or_false] at hx; dsimp only; omega)
theorem raw_is (b : List Int) (i h : Int) (c : CurOk b i) : ∃ x i' h', spec_l1Raw.f b i h = some (x, i', h') ∧ -9223372036854775808 ≤ x ∧ x ≤ 9223372036854775807 ∧ CurOk b i' := by
  unfold spec_l1Raw.f
  obtain ⟨q, i1, h1, e1, c1⟩ := once_is b i h 2 c (by omega)
  rw [e1, Option.bind_some]
  dsimp only
  cases q with
  | true =>
    obtain ⟨x, i2, h2, e2, x0, x1, c2⟩ := odd_is b i1 h1 c1
    rw [if_pos rfl, e2, Option.bind_some]
    exact ⟨_, _, _, rfl, x0, x1, c2⟩
  | false =>
    obtain ⟨x, i2, h2, e2, hx, c2⟩ := pick_is b i1 h1 [(-1), 1000000000000, 1000000000001] (by simp) (by simp) c1
    rw [if_neg (by decide), e2, Option.bind_some]
    refine ⟨_, _, _, rfl, ?_, ?_, c2⟩ <;> (simp only [List.mem_cons, List.not_mem_nil, or_false] at hx; dsimp only; omega)
theorem one_is (b : List Int) (i h : Int) (c : CurOk b i) : ∃ x i' h', spec_l1One.f b i h = some (x, i', h') ∧ -9223372036854775808 ≤ x ∧ x ≤ 9223372036854775807 ∧ CurOk b i' := by
  unfold spec_l1One.f
  obtain ⟨q, i1, h1, e1, c1⟩ := once_is b i h 6 c (by omega)
  rw [e1, Option.bind_some]
  dsimp only
  cases q with
  | true =>
    obtain ⟨x, i2, h2, e2, x0, x1, c2⟩ := raw_is b i1 h1 c1
    rw [if_pos rfl, e2, Option.bind_some]
    exact ⟨_, _, _, rfl, x0, x1, c2⟩
  | false =>
    obtain ⟨x, i2, h2, e2, x0, x1, c2⟩ := num_is b i1 h1 c1
    rw [if_neg (by decide), e2, Option.bind_some]
    exact ⟨_, _, _, rfl, by dsimp only; omega, by dsimp only; omega, c2⟩

theorem str_is (b : List Int) (i h : Int) (l : List ByteArray) (hl : 1 ≤ l.length) (hl2 : l.length ≤ 1000000000) (c : CurOk b i) : ∃ x i' h', spec_l1Str.f b i h l = some (x, i', h') ∧ x ∈ l := by
  obtain ⟨x, i', h', e, x0, x1, _, c'⟩ := below_is b i h l.length c (by omega)
  have := x1 (by omega)
  unfold spec_l1Str.f
  rw [e, Option.bind_some]
  dsimp only
  rw [if_pos x0, if_pos this]
  obtain ⟨j, rfl⟩ := Int.eq_ofNat_of_zero_le x0
  refine ⟨_, _, _, rfl, ?_⟩
  unfold rdOf
  rw [Int.toNat_natCast, List.getD_eq_getElem?_getD, List.getElem?_eq_getElem (by omega)]; exact List.getElem_mem _

/-! The reference's decimal form is strconv's numeral. -/
def digsL (u : Nat) : List UInt8 := if u = 0 then [] else Lib.decDigits u
def signL (n : Int) : List UInt8 := if n < 0 then [45] else []
theorem digsL_step (u : Nat) (h : 0 < u) : digsL u = digsL (u / 10) ++ [UInt8.ofNat (48 + u % 10)] := by
  unfold digsL
  rw [if_neg (by omega), Lib.decDigits]
  by_cases h10 : u < 10
  · rw [dif_pos h10, if_pos (by omega), List.nil_append, Nat.mod_eq_of_lt h10]
  · rw [dif_neg h10, if_neg (by omega)]
theorem strOne (c : Nat) (l : List UInt8) : strOfNums [(c : Int)] ++ (⟨l.toArray⟩ : ByteArray) = ⟨(UInt8.ofNat c :: l).toArray⟩ := by
  unfold strOfNums
  rw [ByteArray.mk_append_mk]
  congr 1
theorem strOne_size (c : Int) : (strOfNums [c]).size = 1 := rfl
theorem dig10 (u : Nat) (hu : u ≤ 9223372036854775808) (g : Bool) (x : Int) (hx : x = if g = true then -(u : Int) else (u : Int)) :
    (Int.tmod x 10 < 0 → wrap64 (48 + wrap64 (-(Int.tmod x 10))) % 256 = ((48 + u % 10 : Nat) : Int)) ∧ (¬ Int.tmod x 10 < 0 → wrap64 (48 + Int.tmod x 10) % 256 = ((48 + u % 10 : Nat) : Int)) ∧
    wrap64 (Int.tdiv x 10) = if g = true then -((u / 10 : Nat) : Int) else ((u / 10 : Nat) : Int) := by
  have e1 : Int.tmod (u : Int) 10 = ((u % 10 : Nat) : Int) := by rw [Int.tmod_eq_emod_of_nonneg (by omega)]; omega
  have e2 : Int.tdiv (u : Int) 10 = ((u / 10 : Nat) : Int) := by rw [Int.tdiv_eq_ediv_of_nonneg (by omega)]; omega
  have h9 : u % 10 < 10 := Nat.mod_lt _ (by decide)
  cases g with
  | true =>
    rw [if_pos rfl] at hx
    rw [hx, Int.neg_tmod, Int.neg_tdiv, e1, e2, if_pos rfl]
    refine ⟨fun h => ?_, fun h => ?_, w64 (by omega) (by omega)⟩
    · rw [Int.neg_neg, w64 (x := ((u % 10 : Nat) : Int)) (by omega) (by omega), w64 (by omega) (by omega)]; omega
    · rw [w64 (by omega) (by omega)]; omega
  | false =>
    rw [if_neg (by decide)] at hx
    rw [hx, e1, e2, if_neg (by decide)]
    refine ⟨fun h => by omega, fun h => ?_, w64 (by omega) (by omega)⟩
    rw [w64 (by omega) (by omega)]; omega
theorem fmtI_go (n : Int) : ∀ (d k u : Nat) (x : Int) (l : List UInt8), x = (if decide (n < 0) = true then -(u : Int) else (u : Int)) → u < 10 ^ d → u ≤ 9223372036854775808 → d < k → l.length + d ≤ 60 →
    spec_FormatInt.l0 k n ⟨l.toArray⟩ x = some ⟨(signL n ++ digsL u ++ l).toArray⟩ := by
  have zero : ∀ (k : Nat) (x : Int) (l : List UInt8), x = 0 → 0 < k → l.length ≤ 60 → spec_FormatInt.l0 k n ⟨l.toArray⟩ x = some ⟨(signL n ++ digsL 0 ++ l).toArray⟩ := by
    intro k x l hx hk hl
    obtain ⟨k, rfl⟩ : ∃ m, k = m + 1 := ⟨k - 1, by omega⟩
    have hs : (⟨l.toArray⟩ : ByteArray).size = l.length := by show l.toArray.size = _; simp
    have hd0 : digsL 0 = [] := rfl
    simp only [spec_FormatInt.l0]
    rw [if_pos hx]
    unfold signL
    by_cases hn : n < 0
    · rw [if_pos hn, if_pos hn, if_pos (by omega), hd0]
      rw [show (⟨#[45]⟩ : ByteArray) = ⟨([45] : List UInt8).toArray⟩ from rfl, ByteArray.mk_append_mk]
      congr 2
    · rw [if_neg hn, if_neg hn, hd0]; rfl
  intro d
  induction d with
  | zero =>
    intro k u x l hx hu _ hk hl
    have : u = 0 := by simpa using hu
    subst this
    exact zero k x l (by rw [hx]; split <;> rfl) (by omega) (by omega)
  | succ d ih =>
    intro k u x l hx hu hu2 hk hl
    by_cases h0 : u = 0
    · subst h0
      exact zero k x l (by rw [hx]; split <;> rfl) (by omega) (by omega)
    · obtain ⟨k, rfl⟩ : ∃ m, k = m + 1 := ⟨k - 1, by omega⟩
      obtain ⟨d1, d2, d3⟩ := dig10 u hu2 (decide (n < 0)) x hx
      have hs : (⟨l.toArray⟩ : ByteArray).size = l.length := by show l.toArray.size = _; simp
      have hx0 : ¬ x = 0 := by rw [hx]; split <;> omega
      have hp : u < 10 ^ d * 10 := by rw [← Nat.pow_succ]; exact hu
      have nxt := ih k (u / 10) (wrap64 (Int.tdiv x 10)) (UInt8.ofNat (48 + u % 10) :: l) d3 (by omega) (by omega) (by omega) (by simp only [List.length_cons]; omega)
      simp only [spec_FormatInt.l0]
      rw [if_neg hx0]
      have fin : signL n ++ digsL (u / 10) ++ (UInt8.ofNat (48 + u % 10) :: l) = signL n ++ digsL u ++ l := by rw [digsL_step u (by omega)]; simp
      rw [fin] at nxt
      by_cases ht : Int.tmod x 10 < 0
      · rw [if_pos ht, Option.bind_some, d1 ht, if_pos (by rw [strOne_size]; omega), strOne]; exact nxt
      · rw [if_neg ht, Option.bind_some, d2 ht, if_pos (by rw [strOne_size]; omega), strOne]; exact nxt
theorem sFmt_eq (n : Int) (h0 : -9223372036854775808 ≤ n) (h1 : n ≤ 9223372036854775807) (k : Nat) (hk : 20 < k) : spec_FormatInt.f k n = some ⟨(Lib.itoa n).toArray⟩ := by
  unfold spec_FormatInt.f
  by_cases hn : n = 0
  · subst hn
    rw [if_pos rfl]
    have : Lib.itoa 0 = [48] := by unfold Lib.itoa; rw [if_neg (by decide), Lib.decDigits, dif_pos (by decide)]; rfl
    rw [this]
  · rw [if_neg hn]
    have := fmtI_go n 20 k n.natAbs n [] (by by_cases h : n < 0 <;> simp [h] <;> omega) (by omega) (by omega) hk (by simp)
    rw [show (⟨#[]⟩ : ByteArray) = ⟨([] : List UInt8).toArray⟩ from rfl, this]
    congr 2
    unfold Lib.itoa signL digsL
    rw [if_neg (show ¬ n.natAbs = 0 by omega)]
    by_cases h : n < 0
    · rw [if_pos h, if_pos h]; simp
    · rw [if_neg h, if_neg h, show n.natAbs = n.toNat by omega]; simp
theorem iFmt_eq (n : Int) (h0 : -9223372036854775808 ≤ n) (h1 : n ≤ 9223372036854775807) : impl_FormatInt.f n = some ⟨(Lib.itoa n).toArray⟩ := by
  unfold impl_FormatInt.f; rw [if_pos ⟨h0, h1⟩]

/-- The value of the first i digits. -/
def pv (s : ByteArray) : Nat → Int | 0 => 0 | i + 1 => 10 * pv s i + (bt s i - 48)
/-- The string from i on. -/
def sfx (s : ByteArray) (i : Nat) : ByteArray := ⟨(s.data.toList.drop i).toArray⟩
def Dig (s : ByteArray) (i : Nat) : Prop := ∀ j, j < i → 48 ≤ bt s j ∧ bt s j ≤ 57
theorem pv_bd (s : ByteArray) : ∀ i, i ≤ 13 → Dig s i → 0 ≤ pv s i ∧ pv s i < 10 ^ i := by
  intro i
  induction i with
  | zero => intro _ _; simp [pv]
  | succ i ih =>
    intro hi hd
    obtain ⟨h0, h1⟩ := ih (by omega) (fun j hj => hd j (by omega))
    obtain ⟨d0, d1⟩ := hd i (by omega)
    have hp : (10 : Int) ^ (i + 1) = 10 ^ i * 10 := Int.pow_succ ..
    simp only [pv]
    omega
theorem pv_bd13 (s : ByteArray) (i : Nat) (hi : i ≤ 13) (hd : Dig s i) : 0 ≤ pv s i ∧ pv s i < 10000000000000 := by
  obtain ⟨h0, h1⟩ := pv_bd s i hi hd
  have : (10 : Nat) ^ i ≤ 10 ^ 13 := Nat.pow_le_pow_right (by decide) hi
  have h2 : (10 : Int) ^ i = ((10 ^ i : Nat) : Int) := by simp
  rw [h2] at h1
  omega
theorem bt_nat (s : ByteArray) (i : Nat) (h : i < s.size) : bt s (i : Int) = ((s.data.toList[i]'h).toNat : Int) := by
  have e := bt_at s (i : Int) (by rw [Int.toNat_natCast]; exact h)
  rw [← e]
  simp only [Int.toNat_natCast]
  rfl
theorem sfx_cons (s : ByteArray) (i : Nat) (h : i < s.size) (h0 : 0 ≤ bt s i) : strOfNums [bt s i] ++ sfx s (i + 1) = sfx s i := by
  unfold sfx strOfNums
  rw [ByteArray.mk_append_mk]
  congr 2
  rw [List.drop_eq_getElem_cons (show i < s.data.toList.length from h), bt_nat s i h]
  simp
theorem sfx_zero (s : ByteArray) : (sfx s 0).toList = s.toList := by rw [ByteArray.toList_eq, ByteArray.toList_eq]; simp [sfx]
theorem sfx_size (s : ByteArray) (i : Nat) : (sfx s i).size ≤ s.size := by
  show (List.toArray (s.data.toList.drop i)).size ≤ s.data.size
  simp
theorem fmt_step (p c : Int) (hp : 0 ≤ p) (hp1 : p < 1000000000000000) (h0 : 48 ≤ c) (h1 : c ≤ 57) : ¬ (Int.tmod (10 * p + (c - 48)) 10 < 0) ∧ wrap64 (48 + Int.tmod (10 * p + (c - 48)) 10) % 256 = c ∧ wrap64 (Int.tdiv (10 * p + (c - 48)) 10) = p := by
  have e : Int.tmod (10 * p + (c - 48)) 10 = c - 48 := by rw [Int.tmod_eq_emod_of_nonneg (by omega)]; omega
  have f : Int.tdiv (10 * p + (c - 48)) 10 = p := by rw [Int.tdiv_eq_ediv_of_nonneg (by omega)]; omega
  rw [e, f]
  refine ⟨by omega, ?_, w64 (by omega) (by omega)⟩
  rw [w64 (by omega) (by omega)]; omega
theorem fmt_go (s : ByteArray) (hm : s.size ≤ 13) (hd : Dig s s.size) (hz : 49 ≤ bt s 0) (n : Int) (hn : 0 ≤ n) : ∀ (i k : Nat), i ≤ s.size → i < k → spec_FormatInt.l0 k n (sfx s i) (pv s i) = some (sfx s 0) := by
  intro i
  induction i with
  | zero =>
    intro k _ hk
    obtain ⟨k, rfl⟩ : ∃ m, k = m + 1 := ⟨k - 1, by omega⟩
    simp only [spec_FormatInt.l0, pv, if_true]
    rw [if_neg (by omega)]
  | succ i ih =>
    intro k hi hk
    obtain ⟨k, rfl⟩ : ∃ m, k = m + 1 := ⟨k - 1, by omega⟩
    obtain ⟨b0, b1⟩ := pv_bd13 s i (by omega) (fun j hj => hd j (by omega))
    obtain ⟨d0, d1⟩ := hd i (by omega)
    have hpos : ¬ (10 * pv s i + (bt s i - 48) = 0) := by
      cases i with
      | zero => simp only [pv]; simp at hz ⊢; omega
      | succ i =>
        have : ∀ j, 1 ≤ j → j ≤ i + 1 → 1 ≤ pv s j := by
          intro j
          induction j with
          | zero => intro h; omega
          | succ j ih2 =>
            intro _ hj
            obtain ⟨e0, e1⟩ := hd j (by omega)
            simp only [pv]
            cases j with
            | zero => simp only [pv]; simp at hz ⊢; omega
            | succ j => have := ih2 (by omega) (by omega); omega
        have := this (i + 1) (by omega) (by omega)
        omega
    obtain ⟨f1, f2, f3⟩ := fmt_step (pv s i) (bt s i) b0 (by omega) d0 d1
    simp only [spec_FormatInt.l0]
    rw [show pv s (i + 1) = 10 * pv s i + (bt s i - 48) from rfl]
    have hs := sfx_size s (i + 1)
    have h1 : (strOfNums [bt s i]).size = 1 := by rw [strOfNums_size]; rfl
    rw [if_neg hpos, if_neg f1, Option.bind_some, f2, f3, if_pos (by omega), sfx_cons s i (by omega) (by omega)]
    exact ih k (by omega) (by omega)
theorem fmt_short (s : ByteArray) (hm : s.size ≤ 13) (hd : Dig s s.size) (hz : bt s 0 = 48) (n : Int) (hn : 0 ≤ n) : ∀ (i k : Nat) (out : ByteArray), 1 ≤ i → i ≤ s.size → i < k → out.size + i ≤ s.size →
    ∃ r, spec_FormatInt.l0 k n out (pv s i) = some r ∧ r.size + 1 ≤ s.size := by
  intro i
  induction i with
  | zero => intro k out h; omega
  | succ i ih =>
    intro k out _ hi hk ho
    obtain ⟨k, rfl⟩ : ∃ m, k = m + 1 := ⟨k - 1, by omega⟩
    obtain ⟨b0, b1⟩ := pv_bd13 s i (by omega) (fun j hj => hd j (by omega))
    obtain ⟨d0, d1⟩ := hd i (by omega)
    simp only [spec_FormatInt.l0]
    rw [show pv s (i + 1) = 10 * pv s i + (bt s i - 48) from rfl]
    by_cases hpos : 10 * pv s i + (bt s i - 48) = 0
    · rw [if_pos hpos, if_neg (by omega)]
      exact ⟨out, rfl, by omega⟩
    · cases i with
      | zero => exfalso; apply hpos; simp only [pv]; simp at hz ⊢; omega
      | succ i =>
        obtain ⟨f1, f2, f3⟩ := fmt_step (pv s (i + 1)) (bt s ((i + 1 : Nat) : Int)) b0 (by omega) d0 d1
        have h1 : (strOfNums [bt s ((i + 1 : Nat) : Int)]).size = 1 := by rw [strOfNums_size]; rfl
        rw [if_neg hpos, if_neg f1, Option.bind_some, f2, f3, if_pos (by omega)]
        exact ih k _ (by omega) (by omega) (by omega) (by rw [ByteArray.size_append, h1]; omega)
/-- The decimal form of the value of digits is the digits, where no zero leads. -/
theorem fmt_eq (s : ByteArray) (h1 : 1 ≤ s.size) (hm : s.size ≤ 13) (hd : Dig s s.size) (k : Nat) (hk : 14 < k) :
    ∃ r, spec_FormatInt.f k (pv s s.size) = some r ∧ (r.toList = s.toList ↔ (s.size = 1 ∨ bt s 0 ≠ 48)) := by
  obtain ⟨b0, b1⟩ := pv_bd13 s s.size hm hd
  obtain ⟨d0, d1⟩ := hd 0 (by omega)
  have hn0 : s.toList.length = s.size := by rw [ByteArray.toList_eq]; rfl
  unfold spec_FormatInt.f
  by_cases hz : bt s 0 = 48
  · by_cases hp : pv s s.size = 0
    · rw [if_pos hp]
      refine ⟨_, rfl, ?_⟩
      by_cases h2 : s.size = 1
      · refine ⟨fun _ => Or.inl h2, fun _ => ?_⟩
        rw [ByteArray.toList_eq, ByteArray.toList_eq]
        have e := bt_nat s 0 (by omega)
        rw [Int.natCast_zero] at e
        rw [e] at hz
        have hl : s.data.toList.length = 1 := h2
        match hc : s.data.toList, hl with
        | [c], _ =>
          simp only [hc] at hz
          have : c = 48 := by
            apply UInt8.toNat_inj.1
            have : (c.toNat : Int) = 48 := hz
            show c.toNat = 48
            omega
          rw [this]
      · refine ⟨fun h => ?_, fun h => ?_⟩
        · exfalso; apply h2; have := congrArg List.length h; rw [hn0, ByteArray.toList_eq] at this; exact this.symm
        · rcases h with h | h
          · exact absurd h h2
          · exact absurd hz h
    · rw [if_neg hp]
      obtain ⟨r, hr, hr2⟩ := fmt_short s hm hd hz (pv s s.size) b0 s.size k ⟨#[]⟩ h1 (by omega) (by omega) (by show 0 + s.size ≤ s.size; omega)
      refine ⟨r, hr, fun h => ?_, fun h => ?_⟩
      · exfalso; have := congrArg List.length h; rw [hn0, ByteArray.toList_eq] at this
        have h3 : r.data.toList.length = r.size := rfl
        omega
      · rcases h with h | h
        · exfalso; apply hp; rw [h]; simp only [pv]; simp at hz ⊢; omega
        · exact absurd hz h
  · have hp : ¬ pv s s.size = 0 := by
      have : ∀ j, 1 ≤ j → j ≤ s.size → 1 ≤ pv s j := by
        intro j
        induction j with
        | zero => intro h; omega
        | succ j ih2 =>
          intro _ hj
          obtain ⟨e0, e1⟩ := hd j (by omega)
          simp only [pv]
          cases j with
          | zero => simp only [pv]; simp at d0 hz ⊢; omega
          | succ j => have := ih2 (by omega) (by omega); omega
      have := this s.size h1 (by omega)
      omega
    rw [if_neg hp]
    refine ⟨sfx s 0, ?_, fun _ => Or.inr hz, fun _ => sfx_zero s⟩
    have e : (⟨#[]⟩ : ByteArray) = sfx s s.size := by
      unfold sfx; rw [List.drop_of_length_le (by exact Nat.le_refl _)]
    rw [e]
    exact fmt_go s hm hd (by simp at d0 hz ⊢; omega) _ b0 s.size k (by omega) (by omega)
/-- What is answered from digit i on, d digits left; g: is the form the right one? -/
def resV (s : ByteArray) (g : Bool) : Nat → Nat → Int × Bool
  | 0, i => if pv s i > 1000000000000 then (0, false) else if g then (pv s i, true) else (0, false)
  | d + 1, i => if bt s i < 48 then (0, false) else if bt s i > 57 then (0, false) else resV s g d (i + 1)
theorem resV_no (s : ByteArray) : ∀ d i, resV s false d i = (0, false) := by
  intro d
  induction d with
  | zero => intro i; simp [resV]
  | succ d ih => intro i; simp only [resV, ih, ite_self]
theorem dig_wrap (p c : Int) (hp : 0 ≤ p) (hp1 : p < 10000000000000) (h0 : 48 ≤ c) (h1 : c ≤ 57) : wrap64 (wrap64 (10 * p) + (c - 48) % 256) = 10 * p + (c - 48) := by
  rw [w64 (x := 10 * p) (by omega) (by omega), Int.emod_eq_of_lt (by omega) (by omega), w64 (by omega) (by omega)]
def parseV (s : ByteArray) : Int × Bool := if 1 ≤ s.size ∧ s.size ≤ 13 then resV s (decide (s.size = 1 ∨ bt s 0 ≠ 48)) s.size 0 else (0, false)

theorem iParse_go (s : ByteArray) (hm : s.size ≤ 13) : ∀ (d k i : Nat), i + d = s.size → d < k → Dig s i → impl_ParseInt.l0 k s (pv s i) (s.size : Int) (i : Int) = some (resV s true d i) := by
  intro d
  induction d with
  | zero =>
    intro k i hi hk hd
    obtain ⟨k, rfl⟩ : ∃ m, k = m + 1 := ⟨k - 1, by omega⟩
    simp only [impl_ParseInt.l0, resV]
    rw [if_neg (by omega)]
    split <;> simp
  | succ d ih =>
    intro k i hi hk hd
    obtain ⟨k, rfl⟩ : ∃ m, k = m + 1 := ⟨k - 1, by omega⟩
    simp only [impl_ParseInt.l0, resV]
    rw [if_pos (by omega), if_pos (by omega), if_pos (by omega)]
    by_cases h1 : bt s i < 48
    · rw [if_pos h1, if_pos h1]
    · by_cases h2 : bt s i > 57
      · rw [if_neg h1, if_pos h2, if_neg h1, if_pos h2]
      · obtain ⟨b0, b1⟩ := pv_bd13 s i (by omega) hd
        rw [if_neg h1, if_neg h2, if_neg h1, if_neg h2, dig_wrap _ _ b0 b1 (by omega) (by omega), wsucc (show i < s.size by omega) (by omega)]
        exact ih k (i + 1) (by omega) (by omega) (fun j hj => by
          rcases Nat.lt_succ_iff_lt_or_eq.1 hj with h | rfl
          · exact hd j h
          · omega)
theorem iParse_eq (k : Nat) (s : ByteArray) (hk : 40 < k) : impl_ParseInt.f k s = some (parseV s) := by
  obtain ⟨k, rfl⟩ : ∃ m, k = m + 1 := ⟨k - 1, by omega⟩
  unfold impl_ParseInt.f parseV
  have hj0 : ∀ b, impl_ParseInt.j0 (k + 1) s b = if b = true then some (0, false) else impl_ParseInt.l0 k s 0 (s.size : Int) 0 := fun b => by simp only [impl_ParseInt.j0]
  by_cases h0 : s.size = 0
  · rw [if_pos (by omega), hj0, if_pos rfl, if_neg (by omega)]
  · rw [if_neg (by omega)]
    by_cases h1 : s.size > 13
    · rw [if_pos (by omega), hj0, if_pos rfl, if_neg (by omega)]
    · have go := iParse_go s (by omega) s.size k 0 (by omega) (by omega) (fun j hj => absurd hj (by omega))
      rw [Int.natCast_zero] at go
      have hb : bt s (0 : Int) = bt s ((0 : Nat) : Int) := rfl
      rw [if_neg (by omega), if_pos (show 1 ≤ s.size ∧ s.size ≤ 13 by omega)]
      by_cases h2 : s.size = 1
      · rw [if_neg (by omega), hj0, if_neg (by decide), decide_eq_true (Or.inl h2)]
        exact go
      · rw [if_pos (by omega), if_pos (by omega), hj0]
        by_cases h3 : bt s 0 = 48
        · rw [if_pos (by rw [h3]; rfl), decide_eq_false (by rintro (h | h); exact h2 h; exact h h3), resV_no]
        · rw [if_neg (by rw [beq_iff_eq]; exact h3), decide_eq_true (Or.inr h3)]
          exact go

theorem inr (a b c : Int) : impl_InRange.f a b c = some (decide (b ≤ a ∧ a ≤ c)) := by
  unfold impl_InRange.f
  by_cases h : b ≤ a
  · rw [if_pos h]; congr 1; simp only [decide_eq_decide]; omega
  · rw [if_neg h]; congr 1; symm; simp only [decide_eq_false_iff_not]; omega

theorem tmod_bd (a b : Int) (hb : 1 ≤ b) : -b < Int.tmod a b ∧ Int.tmod a b < b := by
  have h1 := Int.tmod_lt_of_pos a (show 0 < b by omega)
  have h2 := Int.lt_tmod_of_pos a (show 0 < b by omega)
  exact ⟨h2, h1⟩
/-- What both come to. -/
theorem tmod_fix (a b : Int) (hb : 1 ≤ b) : (Int.tmod (Int.tmod a b + b) b) = a % b ∧ (if Int.tmod a b < 0 then Int.tmod a b + b else Int.tmod a b) = a % b := by
  obtain ⟨h1, h2⟩ := tmod_bd a b hb
  have e1 : (Int.tmod a b) % b = a % b := by
    have := Int.tmod_add_mul_tdiv a b
    conv => rhs; rw [← this]
    rw [Int.add_mul_emod_self_left]
  constructor
  · rw [Int.tmod_eq_emod_of_nonneg (by omega), Int.add_emod_right, e1]
  · split
    · rw [← e1, ← Int.add_emod_right]
      exact (Int.emod_eq_of_lt (by omega) (by omega)).symm
    · rw [← e1]; exact (Int.emod_eq_of_lt (by omega) h2).symm

theorem iMod (a b : Int) : impl_Mod.f a b = some (if 1 ≤ b ∧ b ≤ 1000000000000 then a % b else 0) := by
  unfold impl_Mod.f
  simp only [inr, Option.bind_some, decide_eq_true_eq]
  by_cases h : 1 ≤ b ∧ b ≤ 1000000000000
  · obtain ⟨h1, h2⟩ := tmod_bd a b h.1
    rw [if_pos h, if_pos h, if_neg (by omega), ← (tmod_fix a b h.1).2]
    split
    · rw [w64 (by omega) (by omega)]
    · rfl
  · rw [if_neg h, if_neg h]

/-! What a numeral is worth. -/
def valL (l : List UInt8) : Int := l.foldl (fun a c => 10 * a + ((c.toNat : Int) - 48)) 0
theorem valL_snoc (l : List UInt8) (c : UInt8) : valL (l ++ [c]) = 10 * valL l + ((c.toNat : Int) - 48) := by unfold valL; rw [List.foldl_append]; rfl
theorem dg_nat (d : Nat) (h : d < 10) : (UInt8.ofNat (48 + d)).toNat = 48 + d := by
  rw [UInt8.toNat_ofNat']; exact Nat.mod_eq_of_lt (by omega)
theorem dec_facts (u : Nat) : valL (Lib.decDigits u) = (u : Int) ∧ (∀ c ∈ Lib.decDigits u, 48 ≤ c.toNat ∧ c.toNat ≤ 57) ∧ 1 ≤ (Lib.decDigits u).length ∧ (0 < u → ∃ c r, Lib.decDigits u = c :: r ∧ c.toNat ≠ 48) := by
  induction u using Nat.strongRecOn with
  | _ u ih =>
    by_cases h : u < 10
    · rw [Lib.decDigits, dif_pos h]
      have hd := dg_nat u h
      refine ⟨?_, ?_, by simp, fun h0 => ⟨_, [], rfl, by omega⟩⟩
      · show 10 * 0 + (((UInt8.ofNat (48 + u)).toNat : Int) - 48) = _; rw [hd]; omega
      · intro c hc; rw [List.mem_singleton] at hc; subst hc; omega
    · obtain ⟨i1, i2, i3, i4⟩ := ih (u / 10) (by omega)
      have hd := dg_nat (u % 10) (by omega)
      rw [Lib.decDigits, dif_neg h]
      refine ⟨?_, ?_, by simp, fun _ => ?_⟩
      · rw [valL_snoc, i1, hd]; omega
      · intro c hc
        rcases List.mem_append.1 hc with hc | hc
        · exact i2 c hc
        · rw [List.mem_singleton] at hc; subst hc; omega
      · obtain ⟨c, r, e, hne⟩ := i4 (by omega)
        exact ⟨c, r ++ [UInt8.ofNat (48 + u % 10)], by rw [e]; rfl, hne⟩
theorem dec_len : ∀ (k u : Nat), u < 10 ^ (k + 1) → (Lib.decDigits u).length ≤ k + 1 := by
  intro k
  induction k with
  | zero => intro u h; rw [Lib.decDigits, dif_pos (by simpa using h)]; simp
  | succ k ih =>
    intro u h
    have hp : u < 10 ^ (k + 1) * 10 := by rw [← Nat.pow_succ]; exact h
    rw [Lib.decDigits]
    split
    · simp
    · have := ih (u / 10) (by omega)
      simp; omega
theorem itoa_inj (n m : Int) (hn : 0 ≤ n) (h : Lib.itoa n = Lib.itoa m) : n = m := by
  unfold Lib.itoa at h
  rw [if_neg (by omega)] at h
  obtain ⟨a1, a2, a3, _⟩ := dec_facts n.toNat
  by_cases hm : m < 0
  · rw [if_pos hm] at h
    have := a2 45 (by rw [h]; simp)
    have : (45 : UInt8).toNat = 45 := rfl
    omega
  · rw [if_neg hm] at h
    obtain ⟨b1, _⟩ := dec_facts m.toNat
    rw [h, b1, Int.toNat_of_nonneg hn, Int.toNat_of_nonneg (Int.not_lt.1 hm)] at a1
    exact a1.symm
theorem ba_size (l : List UInt8) : (⟨l.toArray⟩ : ByteArray).size = l.length := rfl
theorem ba_bt (l : List UInt8) (i : Nat) (h : i < l.length) : bt ⟨l.toArray⟩ (i : Int) = ((l[i]).toNat : Int) := by
  rw [bt_nat _ i (by rw [ba_size]; exact h)]
theorem pv_val (l : List UInt8) : ∀ i, i ≤ l.length → pv ⟨l.toArray⟩ i = valL (l.take i) := by
  intro i
  induction i with
  | zero => intro _; simp [pv, valL]
  | succ i ih =>
    intro hi
    rw [pv, ih (by omega), ba_bt l i (by omega), List.take_succ_eq_append_getElem (by omega), valL_snoc]
theorem resV_true (s : ByteArray) (g : Bool) (n : Int) : ∀ d i, resV s g d i = (n, true) → Dig s i → Dig s (i + d) ∧ n = pv s (i + d) ∧ g = true ∧ n ≤ 1000000000000 := by
  intro d
  induction d with
  | zero =>
    intro i h hd
    simp only [resV] at h
    split at h
    · cases h
    · rename_i h1
      split at h
      · rename_i h2
        cases h
        exact ⟨hd, rfl, h2, by omega⟩
      · cases h
  | succ d ih =>
    intro i h hd
    simp only [resV] at h
    split at h
    · cases h
    · rename_i h1
      split at h
      · cases h
      · rename_i h2
        have := ih (i + 1) h (fun j hj => by
          rcases Nat.lt_succ_iff_lt_or_eq.1 hj with h | rfl
          · exact hd j h
          · omega)
        rw [show i + (d + 1) = i + 1 + d by omega]
        exact this
theorem parse_true (s : ByteArray) (n : Int) (h : parseV s = (n, true)) : 0 ≤ n ∧ n ≤ 1000000000000 ∧ (⟨(Lib.itoa n).toArray⟩ : ByteArray).toList = s.toList := by
  unfold parseV at h
  split at h
  · rename_i hs
    obtain ⟨h1, h2, h3, h4⟩ := resV_true s _ n s.size 0 h (fun j hj => absurd hj (by omega))
    rw [Nat.zero_add] at h1 h2
    obtain ⟨b0, b1⟩ := pv_bd13 s s.size hs.2 h1
    obtain ⟨r, e1, e2⟩ := fmt_eq s hs.1 hs.2 h1 30 (by omega)
    rw [← h2] at e1
    rw [sFmt_eq n (by omega) (by omega) 30 (by omega)] at e1
    obtain rfl := Option.some.inj e1
    exact ⟨by omega, h4, e2.2 (of_decide_eq_true h3)⟩
  · cases h
theorem resV_is (s : ByteArray) (h : pv s s.size ≤ 1000000000000) : ∀ d i, i + d = s.size → Dig s s.size → resV s true d i = (pv s s.size, true) := by
  intro d
  induction d with
  | zero => intro i hi hd; simp only [resV]; obtain rfl : i = s.size := by omega
            rw [if_neg (by omega)]; simp
  | succ d ih =>
    intro i hi hd
    obtain ⟨d0, d1⟩ := hd i (by omega)
    simp only [resV]
    rw [if_neg (by omega), if_neg (by omega)]
    exact ih (i + 1) (by omega) hd
theorem parse_is (m : Int) (h0 : 0 ≤ m) (h1 : m ≤ 1000000000000) : parseV ⟨(Lib.itoa m).toArray⟩ = (m, true) := by
  obtain ⟨a1, a2, a3, a4⟩ := dec_facts m.toNat
  have e : Lib.itoa m = Lib.decDigits m.toNat := by unfold Lib.itoa; rw [if_neg (by omega)]
  rw [e]
  have hl := dec_len 12 m.toNat (by omega)
  have hs := ba_size (Lib.decDigits m.toNat)
  have hd : Dig ⟨(Lib.decDigits m.toNat).toArray⟩ (⟨(Lib.decDigits m.toNat).toArray⟩ : ByteArray).size := by
    intro j hj
    rw [hs] at hj
    rw [ba_bt _ j hj]
    have := a2 _ (List.getElem_mem hj)
    omega
  have hp : pv ⟨(Lib.decDigits m.toNat).toArray⟩ (⟨(Lib.decDigits m.toNat).toArray⟩ : ByteArray).size = m := by
    rw [hs, pv_val _ _ (Nat.le_refl _), List.take_length, a1]; exact Int.toNat_of_nonneg h0
  have hg : (⟨(Lib.decDigits m.toNat).toArray⟩ : ByteArray).size = 1 ∨ bt ⟨(Lib.decDigits m.toNat).toArray⟩ 0 ≠ 48 := by
    by_cases hm : m = 0
    · left; rw [hs, hm]; rw [show (0 : Int).toNat = 0 from rfl, Lib.decDigits, dif_pos (by decide)]; rfl
    · right
      obtain ⟨c, r, ec, hne⟩ := a4 (by omega)
      have := ba_bt (Lib.decDigits m.toNat) 0 (by omega)
      rw [Int.natCast_zero] at this
      rw [this]
      simp only [ec, List.getElem_cons_zero]
      omega
  unfold parseV
  rw [if_pos (by omega), decide_eq_true hg, resV_is _ (by rw [hp]; exact h1) _ 0 (by omega) hd, hp]
theorem iCeil (a b : Int) : impl_CeilDiv.f a b = some (if 0 ≤ a ∧ a ≤ 1000000000000 ∧ 1 ≤ b ∧ b ≤ 1000000000000 then (a + b - 1) / b else 0) := by
  unfold impl_CeilDiv.f
  simp only [inr, Option.bind_some, decide_eq_true_eq]
  by_cases ha : 0 ≤ a ∧ a ≤ 1000000000000
  · rw [if_pos ha]
    by_cases hb : 1 ≤ b ∧ b ≤ 1000000000000
    · rw [if_pos hb, if_neg (by omega), if_pos ⟨ha.1, ha.2, hb.1, hb.2⟩, w64 (x := a + b) (by omega) (by omega), w64 (x := a + b - 1) (by omega) (by omega), Int.tdiv_eq_ediv_of_nonneg (by omega)]
      have h0 : 0 ≤ (a + b - 1) / b := Int.ediv_nonneg (by omega) (by omega)
      have h1 : (a + b - 1) / b ≤ a + b - 1 := Int.ediv_le_self _ (by omega)
      rw [w64 (by omega) (by omega)]
    · rw [if_neg hb, if_neg (fun h => hb ⟨h.2.2.1, h.2.2.2⟩)]
  · rw [if_neg ha, if_neg (fun h => ha ⟨h.1, h.2.1⟩)]
theorem tail_is (k : Nat) (a b : Int) (ha : -9223372036854775808 ≤ a ∧ a ≤ 9223372036854775807) (hk : 5 < k) :
    laws_FnIntegers.j0 k a b (if 0 ≤ a ∧ a ≤ 1000000000000 ∧ 1 ≤ b ∧ b ≤ 1000000000000 then (a + b - 1) / b else 0) (if 1 ≤ b ∧ b ≤ 1000000000000 then a % b else 0) false = some true := by
  obtain ⟨k, rfl⟩ : ∃ m, k = m + 1 + 1 + 1 := ⟨k - 3, by omega⟩
  by_cases hb : 1 ≤ b ∧ b ≤ 1000000000000
  · have m0 : 0 ≤ a % b := Int.emod_nonneg _ (by omega)
    have m1 : a % b < b := Int.emod_lt_of_pos _ (by omega)
    have t0 : (Int.tmod (wrap64 (Int.tmod a b - a % b)) b != 0) = false := by
      obtain ⟨h1, h2⟩ := tmod_bd a b hb.1
      have hz : Int.tmod a b - a % b = 0 ∨ Int.tmod a b - a % b = -b := by
        have e := (tmod_fix a b hb.1).2
        split at e <;> omega
      rcases hz with hz | hz
      · rw [hz, w64 (x := 0) (by omega) (by omega), Int.zero_tmod]; rfl
      · rw [hz, w64 (by omega) (by omega), Int.neg_tmod, Int.tmod_self]; rfl
    rw [if_pos hb, laws_FnIntegers.j0]
    rw [if_neg (by decide), if_neg (by omega), decide_eq_false (by omega), laws_FnIntegers.j1]
    rw [if_neg (by decide), if_neg (by omega), if_neg (by omega), if_neg (by omega), t0, laws_FnIntegers.j2]
    rw [if_neg (by decide)]
    by_cases h0 : a < 0
    · rw [if_pos h0, if_neg (by omega)]; rfl
    · rw [if_neg h0]
      by_cases h1 : a > 1000000000000
      · rw [if_pos h1, if_neg (by omega)]; rfl
      · rw [if_neg h1, if_pos (show 0 ≤ a ∧ a ≤ 1000000000000 ∧ 1 ≤ b ∧ b ≤ 1000000000000 from ⟨by omega, by omega, hb.1, hb.2⟩)]
        have e1 : b * ((a + b - 1) / b) + (a + b - 1) % b = a + b - 1 := Int.mul_ediv_add_emod _ _
        have e2 : 0 ≤ (a + b - 1) % b := Int.emod_nonneg _ (by omega)
        have e3 : (a + b - 1) % b < b := Int.emod_lt_of_pos _ (by omega)
        rw [Int.mul_comm] at e1
        generalize (a + b - 1) / b = q at e1
        generalize (a + b - 1) % b = r at e1 e2 e3
        generalize hqb : q * b = p at e1
        clear t0
        rw [w64 (x := p) (by omega) (by omega), if_pos (by omega), w64 (by omega) (by omega), decide_eq_true (by omega)]
  · rw [if_neg hb, if_neg (fun h => hb ⟨h.2.2.1, h.2.2.2⟩), laws_FnIntegers.j0]
    rw [if_neg (by decide)]
    have nx : laws_FnIntegers.j1 (k + 1 + 1) a b 0 0 true = some true := by rw [laws_FnIntegers.j1]; rw [if_pos rfl, if_pos rfl]; rfl
    by_cases h1 : b < 1
    · rw [if_pos h1]; exact nx
    · rw [if_neg h1, decide_eq_true (by omega)]; exact nx
theorem drawPI (l : List Int) (hb : ∀ x ∈ l, 0 ≤ x ∧ x < 256) (hn : l.length ≤ 1048576) : ∃ s, ∀ k, l.length + 30 < k → spec_DrawParseInt.f k l = some s := by
  obtain ⟨h, e0, c0⟩ := new_is l hb hn
  obtain ⟨q, i1, h1, e1, c1⟩ := once_is l 0 h 2 c0 (by omega)
  cases q with
  | true =>
    obtain ⟨s, i2, h2, e2, _⟩ := str_is l i1 h1 [(⟨#[]⟩ : ByteArray), (⟨#[48]⟩ : ByteArray), (⟨#[48, 48]⟩ : ByteArray), (⟨#[45, 49]⟩ : ByteArray), (⟨#[48, 49]⟩ : ByteArray), (⟨#[55]⟩ : ByteArray), (⟨#[49, 48, 48, 48, 48, 48, 48, 48, 48, 48, 48, 48, 48]⟩ : ByteArray), (⟨#[49, 48, 48, 48, 48, 48, 48, 48, 48, 48, 48, 48, 49]⟩ : ByteArray), (⟨#[57, 57, 57, 57, 57, 57, 57, 57, 57, 57, 57, 57, 57, 57]⟩ : ByteArray), (⟨#[49, 120]⟩ : ByteArray), (⟨#[32, 49]⟩ : ByteArray)] (by simp) (by simp) c1
    refine ⟨s, fun k hk => ?_⟩
    unfold spec_DrawParseInt.f
    rw [e0 k (by omega), Option.bind_some]; dsimp only
    rw [e1, Option.bind_some]; dsimp only
    rw [if_pos rfl, e2, Option.bind_some]
  | false =>
    obtain ⟨n, i2, h2, e2, n0, n1, _⟩ := num_is l i1 h1 c1
    refine ⟨⟨(Lib.itoa n).toArray⟩, fun k hk => ?_⟩
    unfold spec_DrawParseInt.f
    rw [e0 k (by omega), Option.bind_some]; dsimp only
    rw [e1, Option.bind_some]; dsimp only
    rw [if_neg (by decide), e2, Option.bind_some]; dsimp only
    rw [sFmt_eq n (by omega) (by omega) k (by omega), Option.bind_some]
theorem FnIntegers : laws_FnIntegers.Pure := by
  intro l _ _ hw
  have hb : ∀ x ∈ l, 0 ≤ x ∧ x < 256 := fun x hx => u8_wf (hw x hx)
  by_cases hl : l.length ≤ 1048576
  · obtain ⟨h, e0, c0⟩ := new_is l hb hl
    obtain ⟨s, es⟩ := drawPI l hb hl
    obtain ⟨m, i1, h1, e1, m0, m1, c1⟩ := one_is l 0 h c0
    obtain ⟨b, i2, h2, e2, b0, b1, c2⟩ := one_is l i1 h1 c1
    obtain ⟨k, hk⟩ : ∃ k, k = l.length + 60 := ⟨_, rfl⟩
    have dF : spec_DrawFormatInt.f k l = some m := by
      unfold spec_DrawFormatInt.f
      rw [e0 k (by omega), Option.bind_some]; dsimp only
      rw [e1, Option.bind_some]
    have dC : spec_DrawCeilDiv.f k l = some (m, b) := by
      unfold spec_DrawCeilDiv.f
      rw [e0 k (by omega), Option.bind_some]; dsimp only
      rw [e1, Option.bind_some]; dsimp only
      rw [e2, Option.bind_some]
    have fin := tail_is k m b ⟨m0, m1⟩ (by omega)
    have second : (if m ≥ 0 then (if ((parseV ⟨(Lib.itoa m).toArray⟩).2 != (decide (m ≤ 1000000000000))) = true then (laws_FnIntegers.j0 k m b (if 0 ≤ m ∧ m ≤ 1000000000000 ∧ 1 ≤ b ∧ b ≤ 1000000000000 then (m + b - 1) / b else 0) (if 1 ≤ b ∧ b ≤ 1000000000000 then m % b else 0) true) else (if (parseV ⟨(Lib.itoa m).toArray⟩).2 = true then (laws_FnIntegers.j0 k m b (if 0 ≤ m ∧ m ≤ 1000000000000 ∧ 1 ≤ b ∧ b ≤ 1000000000000 then (m + b - 1) / b else 0) (if 1 ≤ b ∧ b ≤ 1000000000000 then m % b else 0) ((parseV ⟨(Lib.itoa m).toArray⟩).1 != m)) else (laws_FnIntegers.j0 k m b (if 0 ≤ m ∧ m ≤ 1000000000000 ∧ 1 ≤ b ∧ b ≤ 1000000000000 then (m + b - 1) / b else 0) (if 1 ≤ b ∧ b ≤ 1000000000000 then m % b else 0) false))) else (if ((parseV ⟨(Lib.itoa m).toArray⟩).2 != false) = true then (laws_FnIntegers.j0 k m b (if 0 ≤ m ∧ m ≤ 1000000000000 ∧ 1 ≤ b ∧ b ≤ 1000000000000 then (m + b - 1) / b else 0) (if 1 ≤ b ∧ b ≤ 1000000000000 then m % b else 0) true) else (if (parseV ⟨(Lib.itoa m).toArray⟩).2 = true then (laws_FnIntegers.j0 k m b (if 0 ≤ m ∧ m ≤ 1000000000000 ∧ 1 ≤ b ∧ b ≤ 1000000000000 then (m + b - 1) / b else 0) (if 1 ≤ b ∧ b ≤ 1000000000000 then m % b else 0) ((parseV ⟨(Lib.itoa m).toArray⟩).1 != m)) else (laws_FnIntegers.j0 k m b (if 0 ≤ m ∧ m ≤ 1000000000000 ∧ 1 ≤ b ∧ b ≤ 1000000000000 then (m + b - 1) / b else 0) (if 1 ≤ b ∧ b ≤ 1000000000000 then m % b else 0) false)))) = some true := by
      by_cases hm : 0 ≤ m ∧ m ≤ 1000000000000
      · rw [parse_is m hm.1 hm.2]
        dsimp only
        rw [if_pos (by omega), decide_eq_true hm.2, bne_self_eq_false, if_neg (by decide), if_pos rfl, bne_self_eq_false]
        exact fin
      · have hf : (parseV ⟨(Lib.itoa m).toArray⟩).2 = false := by
          cases hp : (parseV ⟨(Lib.itoa m).toArray⟩).2 with
          | false => rfl
          | true =>
            obtain ⟨n0, n1, en⟩ := parse_true ⟨(Lib.itoa m).toArray⟩ (parseV ⟨(Lib.itoa m).toArray⟩).1 (by rw [← hp])
            rw [ByteArray.toList_eq, ByteArray.toList_eq] at en
            have := itoa_inj _ m n0 (by simpa using en)
            exact absurd ⟨by omega, by omega⟩ hm
        rw [hf]
        by_cases h0 : m ≥ 0
        · rw [if_pos h0, decide_eq_false (by omega), bne_self_eq_false, if_neg (by decide), if_neg (by decide)]; exact fin
        · rw [if_neg h0, bne_self_eq_false, if_neg (by decide), if_neg (by decide)]; exact fin
    refine ⟨k, ?_⟩
    unfold laws_FnIntegers.f laws_big.f
    rw [Option.bind_some, if_neg (by simp; omega), es k (by omega), Option.bind_some, iParse_eq k s (by omega), Option.bind_some, dF, Option.bind_some, iFmt_eq m m0 m1, Option.bind_some, iParse_eq k _ (by omega), Option.bind_some, dC, Option.bind_some]
    dsimp only
    rw [iCeil, Option.bind_some, iMod, Option.bind_some]
    cases hp : (parseV s).2 with
    | true =>
      obtain ⟨n0, n1, en⟩ := parse_true s (parseV s).1 (by rw [← hp])
      rw [if_pos rfl, iFmt_eq _ (by omega) (by omega), Option.bind_some, if_pos en]
      exact second
    | false =>
      rw [if_neg (by decide)]
      exact second
  · refine ⟨0, ?_⟩
    unfold laws_FnIntegers.f laws_big.f
    rw [Option.bind_some, if_pos (by simp; omega)]

end Go.Proofs.YtfglfocjoffjpaaDoor.Pure
