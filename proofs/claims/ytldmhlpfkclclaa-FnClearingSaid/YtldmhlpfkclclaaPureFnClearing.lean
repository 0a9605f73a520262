/- What the row of FnClearing leans on: for every slice of bytes (that fits into memory) the law answers true; no condition. -/
import Derived.Laws.BitsLemmas
import Derived.Test.YtldmhlpfkclclaaQFnClearingx17
import Derived.Test.YtldmhlpfkclclaaVFnClearingSized
set_option linter.unusedVariables false
set_option linter.unusedSimpArgs false
namespace Go.Proofs.Ytldmhlpfkclclaa.PrintWords
open Go.ChangeShapes Go.WideShapes
/-- The words' own theorem, under the name by which the row asks for it. -/
theorem sized_ints {H : Type} {enc : TypeId × Value → H} {P : Program} {W : World} {base : Nat} {spare : Nat → Bool} {held : Bool} {t e : TypeId} {k : IntKind} {a : Option Addr} {len cap : Nat} {d : DataW H} {ps : List MemPlace} {ts : List TypeId} {ds : List (DataW H)} {j : Nat}
    (hsz : (DataW.weightsEach P ts ds).all (· ≤ reachBytes) = true) (ht : ts[j]? = some t) (hd : ds[j]? = some d) (hu : P.underlying t = some (.slice e)) (he : P.underlying e = some (.int k)) (hc : P.cellsOf e = 1) {B : Nat} (hB : P.bytesOf e = B)
    (h : DataW.Trod enc P W base spare held t (.slice a len cap) d ps) : len * B ≤ 140737488351232 := Go.Proofs.YtldmhlpfkclclaaW.PrintWords.sized_ints hsz ht hd hu he hc hB h
end Go.Proofs.Ytldmhlpfkclclaa.PrintWords

namespace Go.Proofs.Ytldmhlpfkclclaa.Pure
open Go.RowKit Go.Proofs.Ytldmhlpfkclclaa.PFnClearing Go.Proofs.YtldmhlpfkclclaaW.PrintWords Go.Proofs.YtldmhlpfkclclaaW.PrintLast

theorem u8_wf {x : Int} (h : (Lit.int .u8 x).wf = true) : 0 ≤ x ∧ x < 256 := by
  simp [Lit.wf, IntKind.min, IntKind.max, IntKind.bits, IntKind.signed] at h
  omega
theorem i64_wf {x : Int} (h : (Lit.int .i64 x).wf = true) : -9223372036854775808 ≤ x ∧ x ≤ 9223372036854775807 := by
  simp [Lit.wf, IntKind.min, IntKind.max, IntKind.bits, IntKind.signed] at h
  omega

theorem wsucc {i n : Nat} (h : i < n) (hn : n ≤ 9223372036854775807) : wrap64 ((i : Int) + 1) = ((i + 1 : Nat) : Int) := by unfold wrap64; omega
theorem rd_nat (xs : List Int) (i : Nat) : rd xs (i : Int) = xs.getD i 0 := by unfold rd; rw [Int.toNat_natCast]
theorem rd_get (xs : List Int) (i : Nat) (h : i < xs.length) : rd xs (i : Int) = xs[i] := by
  rw [rd_nat, List.getD_eq_getElem?_getD, List.getElem?_eq_getElem h]; rfl
theorem drop_cons {α : Type} (xs : List α) (i : Nat) (h : i < xs.length) : xs.drop i = xs[i] :: xs.drop (i + 1) := (List.drop_eq_getElem_cons h)
theorem set_take {α : Type} (ys : List α) (i : Nat) (v : α) (h : i < ys.length) : (ys.set i v).take (i + 1) = ys.take i ++ [v] := by
  rw [List.take_succ_eq_append_getElem (by simpa using h)]
  rw [List.take_set, List.set_eq_of_length_le (by simp; omega)]
  simp

theorem w64 {x : Int} (h0 : -9223372036854775808 ≤ x) (h1 : x ≤ 9223372036854775807) : wrap64 x = x := by
  unfold wrap64; omega

/-! The cursor over a draw's bytes: whatever it yields, it yields. -/
theorem and255 (y : Int) : 0 ≤ Go.bits .and .i64 y 255 ∧ Go.bits .and .i64 y 255 ≤ 255 := by
  have e : Go.bits .and .i64 y 255 = IntKind.i64.wrap ((BitVec.ofInt 64 y &&& BitVec.ofInt 64 255).toNat : Int) := rfl
  have h : (BitVec.ofInt 64 y &&& BitVec.ofInt 64 255).toNat ≤ 255 := by
    rw [BitVec.toNat_and]
    exact Nat.le_trans Nat.and_le_right (by decide)
  rw [e, IntKind.wrap_i64]
  omega
structure CurOk (b : List Int) (i : Int) : Prop where
  bytes : ∀ x ∈ b, 0 ≤ x ∧ x < 256
  short : b.length ≤ 1048576
  low : 0 ≤ i
  high : i ≤ b.length
theorem new_go (l : List Int) (hn : l.length ≤ 1048576) : ∀ (d : Nat) (i : Nat) (h : Int), i + d = l.length → ∃ h', ∀ k, d < k → spec_l1New.l0 k l h (i : Int) = some (l, 0, h') := by
  intro d
  induction d with
  | zero =>
    intro i h hi
    refine ⟨h, fun k hk => ?_⟩
    obtain ⟨k, rfl⟩ : ∃ m, k = m + 1 := ⟨k - 1, by omega⟩
    simp only [spec_l1New.l0]
    rw [if_neg (by omega)]
  | succ d ih =>
    intro i h hi
    by_cases h4 : (i : Int) < 4000
    · obtain ⟨h', hh⟩ := ih (i + 1) (Go.bits .and .i64 (wrap64 ((wrap64 ((wrap64 (h * 137)) + (wrap64 (rd l i)))) + 11)) 1073741823) (by omega)
      refine ⟨h', fun k hk => ?_⟩
      obtain ⟨k, rfl⟩ : ∃ m, k = m + 1 := ⟨k - 1, by omega⟩
      simp only [spec_l1New.l0]
      rw [if_pos (by omega), if_pos h4, if_pos (by omega), wsucc (show i < l.length by omega) (by omega)]
      exact hh k (by omega)
    · refine ⟨h, fun k hk => ?_⟩
      obtain ⟨k, rfl⟩ : ∃ m, k = m + 1 := ⟨k - 1, by omega⟩
      simp only [spec_l1New.l0]
      rw [if_pos (by omega), if_neg h4]
theorem new_is (l : List Int) (hb : ∀ x ∈ l, 0 ≤ x ∧ x < 256) (hn : l.length ≤ 1048576) : ∃ h, (∀ k, l.length < k → spec_l1New.f k l = some (l, 0, h)) ∧ CurOk l 0 := by
  obtain ⟨h, hh⟩ := new_go l hn l.length 0 (wrap64 (193017 + (l.length : Int))) (by omega)
  refine ⟨h, fun k hk => ?_, ⟨hb, hn, by omega, by omega⟩⟩
  unfold spec_l1New.f
  have := hh k hk
  rw [Int.natCast_zero] at this
  exact this
theorem byte_is (b : List Int) (i h : Int) (c : CurOk b i) : ∃ x i' h', spec_l1Byte.f b i h = some (x, i', h') ∧ 0 ≤ x ∧ x ≤ 255 ∧ CurOk b i' := by
  unfold spec_l1Byte.f
  have := c.low; have := c.high; have := c.short
  by_cases hl : i < (b.length : Int)
  · rw [if_pos hl, if_pos c.low]
    refine ⟨_, _, _, rfl, (and255 _).1, (and255 _).2, ⟨c.bytes, c.short, ?_, ?_⟩⟩
    · rw [w64 (by omega) (by omega)]; omega
    · rw [w64 (by omega) (by omega)]; omega
  · rw [if_neg hl]
    exact ⟨_, _, _, rfl, (and255 _).1, (and255 _).2, c⟩

theorem below_is (b : List Int) (i h n : Int) (c : CurOk b i) (hn : n ≤ 1000000000) : ∃ x i' h', spec_l1Below.f b i h n = some (x, i', h') ∧ 0 ≤ x ∧ (1 ≤ n → x < n) ∧ (n ≤ 0 → x = 0) ∧ CurOk b i' := by
  unfold spec_l1Below.f
  by_cases h0 : n ≤ 0
  · rw [if_pos h0]; exact ⟨0, i, h, rfl, by omega, fun h => by omega, fun _ => rfl, c⟩
  · rw [if_neg h0]
    by_cases h1 : n ≤ 256
    · obtain ⟨x, i', h', e, x0, x1, c'⟩ := byte_is b i h c
      rw [if_pos h1, e, Option.bind_some, if_neg (by omega)]
      refine ⟨_, _, _, rfl, ?_, fun _ => ?_, fun h => by omega, c'⟩
      · dsimp only; rw [Int.tmod_eq_emod_of_nonneg x0]; exact Int.emod_nonneg _ (by omega)
      · dsimp only; rw [Int.tmod_eq_emod_of_nonneg x0]; exact Int.emod_lt_of_pos _ (by omega)
    · obtain ⟨x, i1, h1', e1, x0, x1, c1⟩ := byte_is b i h c
      obtain ⟨y, i2, h2', e2, y0, y1, c2⟩ := byte_is b i1 h1' c1
      obtain ⟨z, i3, h3', e3, z0, z1, c3⟩ := byte_is b i2 h2' c2
      rw [if_neg h1, e1, Option.bind_some, e2, Option.bind_some, e3, Option.bind_some, if_neg (by omega)]
      have ew : wrap64 (wrap64 (wrap64 (x * 65536) + wrap64 (y * 256)) + z) = x * 65536 + y * 256 + z := by
        rw [w64 (x := x * 65536) (by omega) (by omega), w64 (x := y * 256) (by omega) (by omega), w64 (x := x * 65536 + y * 256) (by omega) (by omega), w64 (by omega) (by omega)]
      refine ⟨_, _, _, rfl, ?_, fun _ => ?_, fun h => by omega, c3⟩
      · dsimp only; rw [ew, Int.tmod_eq_emod_of_nonneg (by omega)]; exact Int.emod_nonneg _ (by omega)
      · dsimp only; rw [ew, Int.tmod_eq_emod_of_nonneg (by omega)]; exact Int.emod_lt_of_pos _ (by omega)

theorem pick_is (b : List Int) (i h : Int) (l : List Int) (hl : 1 ≤ l.length) (hl2 : l.length ≤ 1000000000) (c : CurOk b i) : ∃ x i' h', spec_l1Int.f b i h l = some (x, i', h') ∧ x ∈ l ∧ CurOk b i' := by
  obtain ⟨x, i', h', e, x0, x1, _, c'⟩ := below_is b i h l.length c (by omega)
  have := x1 (by omega)
  unfold spec_l1Int.f
  rw [e, Option.bind_some]
  dsimp only
  rw [if_pos x0, if_pos this]
  obtain ⟨j, rfl⟩ := Int.eq_ofNat_of_zero_le x0
  refine ⟨_, _, _, rfl, ?_, c'⟩
  rw [rd_get _ _ (by omega)]; exact List.getElem_mem _

/-! A path that is drawn. -/
theorem draw4_is (b : List Int) (i h id : Int) (c : CurOk b i) : ∃ k f t i' h', spec_l4Draw.f b i h id = some (id, k, f, t, i', h') ∧ 1 ≤ k ∧ k ≤ 3 ∧ 0 ≤ f ∧ f ≤ 3 ∧ 0 ≤ t ∧ t ≤ 3 ∧ (f = t ↔ k = 2) ∧ CurOk b i' := by
  unfold spec_l4Draw.f
  obtain ⟨x, i1, h1, e1, x0, x1, _, c1⟩ := below_is b i h 3 c (by omega)
  obtain ⟨y, i2, h2, e2, y0, y1, _, c2⟩ := below_is b i1 h1 4 c1 (by omega)
  obtain ⟨z, i3, h3, e3, z0, z1, _, c3⟩ := below_is b i2 h2 3 c2 (by omega)
  have := x1 (by omega); have := y1 (by omega); have := z1 (by omega)
  have wx : wrap64 (1 + x) = 1 + x := w64 (by omega) (by omega)
  rw [e1, Option.bind_some]
  dsimp only
  rw [e2, Option.bind_some]
  dsimp only
  rw [wx]
  by_cases hx : 1 + x = 2
  · rw [if_pos hx]
    exact ⟨_, _, _, _, _, rfl, by omega, by omega, y0, by omega, y0, by omega, ⟨fun _ => hx, fun _ => rfl⟩, c2⟩
  · rw [if_neg hx, e3, Option.bind_some]
    dsimp only
    have wz : wrap64 (wrap64 (y + 1) + z) = y + 1 + z := by rw [w64 (x := y + 1) (by omega) (by omega), w64 (by omega) (by omega)]
    rw [wz, Int.tmod_eq_emod_of_nonneg (by omega)]
    refine ⟨_, _, _, _, _, rfl, by omega, by omega, y0, by omega, by omega, by omega, ⟨fun h => by omega, fun h => absurd h hx⟩, c3⟩
theorem raw4_is (b : List Int) (i h : Int) (c : CurOk b i) : ∃ x i' h', spec_l4Raw.f b i h = some (x, i', h') ∧ CurOk b i' := by
  unfold spec_l4Raw.f
  obtain ⟨x, i1, h1, e1, _, c1⟩ := pick_is b i h [(-1), 0, 4, 7, 20, 21, 9223372036854775807, (-9223372036854775808)] (by simp) (by simp) c
  rw [e1, Option.bind_some]
  exact ⟨_, _, _, rfl, c1⟩
theorem any4_is (b : List Int) (i h : Int) (c : CurOk b i) : ∃ p k f t i' h', spec_l4Any.f b i h = some (p, k, f, t, i', h') ∧ CurOk b i' := by
  unfold spec_l4Any.f
  obtain ⟨x, i1, h1, e1, x0, x1, _, c1⟩ := below_is b i h 20 c (by omega)
  rw [e1, Option.bind_some]
  dsimp only
  obtain ⟨k, f, t, i2, h2, e2, _, _, _, _, _, _, _, c2⟩ := draw4_is b i1 h1 (wrap64 (1 + x)) c1
  rw [e2, Option.bind_some]
  dsimp only
  obtain ⟨q, i3, h3, e3, _, _, _, c3⟩ := below_is b i2 h2 10 c2 (by omega)
  rw [e3, Option.bind_some]
  dsimp only
  by_cases q0 : q = 0
  · obtain ⟨y, i4, h4, e4, _, c4⟩ := pick_is b i3 h3 [0, 20, 21] (by simp) (by simp) c3
    rw [if_pos q0, e4, Option.bind_some]; exact ⟨_, _, _, _, _, _, rfl, c4⟩
  rw [if_neg q0]
  by_cases q1 : q = 1
  · obtain ⟨y, i4, h4, e4, _, c4⟩ := pick_is b i3 h3 [0, 2, 4] (by simp) (by simp) c3
    rw [if_pos q1, e4, Option.bind_some]; exact ⟨_, _, _, _, _, _, rfl, c4⟩
  rw [if_neg q1]
  obtain ⟨y, i4, h4, e4, c4⟩ := raw4_is b i3 h3 c3
  by_cases q2 : q = 2
  · rw [if_pos q2, e4, Option.bind_some]; exact ⟨_, _, _, _, _, _, rfl, c4⟩
  rw [if_neg q2]
  by_cases q3 : q = 3
  · rw [if_pos q3, e4, Option.bind_some]; exact ⟨_, _, _, _, _, _, rfl, c4⟩
  rw [if_neg q3]; exact ⟨_, _, _, _, _, _, rfl, c3⟩

theorem once_is (b : List Int) (i h n : Int) (c : CurOk b i) (hn : n ≤ 1000000000) : ∃ x i' h', spec_l1Once.f b i h n = some (x, i', h') ∧ CurOk b i' := by
  obtain ⟨x, i', h', e, _, _, _, c'⟩ := below_is b i h n c hn
  unfold spec_l1Once.f
  rw [e, Option.bind_some]
  exact ⟨_, _, _, rfl, c'⟩

theorem rdI_get (xs : List S50) (i : Nat) (h : i < xs.length) : rd_T50 xs (i : Int) = xs[i] := by
  unfold rd_T50; rw [Int.toNat_natCast, List.getD_eq_getElem?_getD, List.getElem?_eq_getElem h]; rfl

/-! Lists of paths that are drawn. -/
theorem draw5_go (b : List Int) : ∀ (d x : Nat) (out : List S50) (i h : Int), x + d = 8 → 1 ≤ x → out.length + 1 = x → CurOk b i → ∃ l i' h', (∀ k, d < k → spec_l5Draw.l0 k out (x : Int) b i h = some (l, i', h')) ∧ 2 ≤ l.length ∧ l.length ≤ 7 ∧ CurOk b i' := by
  intro d
  induction d with
  | zero =>
    intro x out i h hx hx1 ho c
    obtain ⟨q, i1, h1, e1, q0, q1, _, c1⟩ := below_is b i h 6 c (by omega)
    have := q1 (by omega)
    refine ⟨out, i1, h1, fun k hk => ?_, by omega, by omega, c1⟩
    obtain ⟨k, rfl⟩ : ∃ m, k = m + 1 := ⟨k - 1, by omega⟩
    simp only [spec_l5Draw.l0]
    rw [e1, Option.bind_some]; dsimp only
    rw [w64 (x := 2 + q) (by omega) (by omega), if_neg (by omega)]
  | succ d ih =>
    intro x out i h hx hx1 ho c
    obtain ⟨q, i1, h1, e1, q0, q1, _, c1⟩ := below_is b i h 6 c (by omega)
    have := q1 (by omega)
    by_cases hq : (x : Int) ≤ 2 + q
    · obtain ⟨kd, f, t, i2, h2, e2, _, _, _, _, _, _, _, c2⟩ := draw4_is b i1 h1 x c1
      obtain ⟨l, i3, h3, e3, l2, l7, c3⟩ := ih (x + 1) (out ++ [⟨x, kd, f, t⟩]) i2 h2 (by omega) (by omega) (by simp; omega) c2
      refine ⟨l, i3, h3, fun k hk => ?_, l2, l7, c3⟩
      obtain ⟨k, rfl⟩ : ∃ m, k = m + 1 := ⟨k - 1, by omega⟩
      have hlen : out.length < 4398046511104 := by omega
      simp only [spec_l5Draw.l0]
      rw [e1, Option.bind_some]; dsimp only
      rw [w64 (x := 2 + q) (by omega) (by omega), if_pos hq, e2, Option.bind_some]; dsimp only
      rw [if_pos hlen, w64 (x := (x : Int) + 1) (by omega) (by omega)]
      exact e3 k (by omega)
    · refine ⟨out, i1, h1, fun k hk => ?_, by omega, by omega, c1⟩
      obtain ⟨k, rfl⟩ : ∃ m, k = m + 1 := ⟨k - 1, by omega⟩
      simp only [spec_l5Draw.l0]
      rw [e1, Option.bind_some]; dsimp only
      rw [w64 (x := 2 + q) (by omega) (by omega), if_neg hq]
theorem draw5_is (b : List Int) (i h : Int) (c : CurOk b i) : ∃ l i' h', (∀ k, 7 < k → spec_l5Draw.f k b i h = some (l, i', h')) ∧ 2 ≤ l.length ∧ l.length ≤ 7 ∧ CurOk b i' :=
  draw5_go b 7 1 [] i h (by omega) (by omega) rfl c
theorem any5_is (b : List Int) (i h : Int) (c : CurOk b i) : ∃ l i' h', (∀ k, 7 < k → spec_l5Any.f k b i h = some (l, i', h')) ∧ 2 ≤ l.length ∧ l.length ≤ 7 ∧ CurOk b i' := by
  obtain ⟨l, i1, h1, e1, l2, l7, c1⟩ := draw5_is b i h c
  obtain ⟨q, i2, h2, e2, c2⟩ := once_is b i1 h1 6 c1 (by omega)
  cases q with
  | true =>
    obtain ⟨x, i3, h3, e3, x0, x1, _, c3⟩ := below_is b i2 h2 (l.length : Int) c2 (by omega)
    have := x1 (by omega)
    obtain ⟨p, kd, f, t, i4, h4, e4, c4⟩ := any4_is b i3 h3 c3
    refine ⟨l.set x.toNat ⟨p, kd, f, t⟩, i4, h4, fun k hk => ?_, by simp; omega, by simp; omega, c4⟩
    unfold spec_l5Any.f
    rw [e1 k hk, Option.bind_some]; dsimp only
    rw [e2, Option.bind_some]; dsimp only
    rw [if_pos rfl, e3, Option.bind_some]; dsimp only
    rw [e4, Option.bind_some]; dsimp only
    rw [if_pos x0, if_pos (by omega)]
  | false =>
    refine ⟨l, i2, h2, fun k hk => ?_, l2, l7, c2⟩
    unfold spec_l5Any.f
    rw [e1 k hk, Option.bind_some]; dsimp only
    rw [e2, Option.bind_some]; dsimp only
    rw [if_neg (by decide)]

def isPathV (a b c d : Int) : Bool := decide (1 ≤ a ∧ a ≤ 20) && (decide (1 ≤ b ∧ b ≤ 3) && (decide (0 ≤ c ∧ c ≤ 3) && (decide (0 ≤ d ∧ d ≤ 3) && ((c == d) == (b == 2)))))
theorem isPathV_iff (a b c d : Int) : isPathV a b c d = true ↔ (1 ≤ a ∧ a ≤ 20) ∧ (1 ≤ b ∧ b ≤ 3) ∧ (0 ≤ c ∧ c ≤ 3) ∧ (0 ≤ d ∧ d ≤ 3) ∧ (c = d ↔ b = 2) := by
  unfold isPathV
  simp only [Bool.and_eq_true, decide_eq_true_eq, beq_iff_eq]
  have : ((c == d) = (b == 2)) ↔ (c = d ↔ b = 2) := by
    rw [Bool.eq_iff_iff]; simp only [beq_iff_eq]
  rw [this]

def pathV (p : S50) : Bool := isPathV p.f0 p.f1 p.f2 p.f3
/-- The path at i is one, and above the one before it. -/
def okAt (l : List S50) (i : Nat) : Bool := pathV (l.getD i z50) && (decide (i = 0) || decide ((l.getD (i - 1) z50).f0 < (l.getD i z50).f0))
def arFrom (l : List S50) : Nat → Nat → Bool | 0, _ => true | d + 1, i => okAt l i && arFrom l d (i + 1)
def areV (l : List S50) : Bool := decide (l.length ≤ 12) && arFrom l l.length 0
theorem getDI (xs : List S50) (i : Nat) (h : i < xs.length) : xs.getD i z50 = xs[i] := by
  rw [List.getD_eq_getElem?_getD, List.getElem?_eq_getElem h]; rfl
theorem wpred {i : Nat} (h : 0 < i) (hi : i ≤ 9223372036854775807) : wrap64 ((i : Int) - 1) = ((i - 1 : Nat) : Int) := by unfold wrap64; omega
theorem arFrom_iff (l : List S50) : ∀ d i, arFrom l d i = true ↔ ∀ j, i ≤ j → j < i + d → okAt l j = true := by
  intro d
  induction d with
  | zero => intro i; simp only [arFrom, true_iff]; intro j h1 h2; omega
  | succ d ih =>
    intro i
    simp only [arFrom, Bool.and_eq_true, ih]
    constructor
    · rintro ⟨h1, h2⟩ j h3 h4
      rcases Nat.eq_or_lt_of_le h3 with rfl | h5
      · exact h1
      · exact h2 j h5 (by omega)
    · intro h; exact ⟨h i (Nat.le_refl _) (by omega), fun j h3 h4 => h j (by omega) (by omega)⟩

theorem inr (a b c : Int) : impl_InRange.f a b c = some (decide (b ≤ a ∧ a ≤ c)) := by
  unfold impl_InRange.f
  by_cases h : b ≤ a
  · rw [if_pos h]; congr 1; simp only [decide_eq_decide]; omega
  · rw [if_neg h]; congr 1; symm; simp only [decide_eq_false_iff_not]; omega

/-- The four numbers are different, from 0 to 7. -/
def ILv (a b c d : Int) : Prop := (0 ≤ a ∧ a ≤ 7) ∧ (0 ≤ b ∧ b ≤ 7) ∧ (0 ≤ c ∧ c ≤ 7) ∧ (0 ≤ d ∧ d ≤ 7) ∧ a ≠ b ∧ a ≠ c ∧ a ≠ d ∧ b ≠ c ∧ b ≠ d ∧ c ≠ d
theorem il_rd (a b c d : Int) : rd [a, b, c, d] 0 = a ∧ rd [a, b, c, d] 1 = b ∧ rd [a, b, c, d] 2 = c ∧ rd [a, b, c, d] 3 = d := ⟨rfl, rfl, rfl, rfl⟩
theorem il_w (i : Int) (h0 : 0 ≤ i) (h1 : i < 4) : wrap64 (i + 1) = i + 1 := by unfold wrap64; omega
/-- What it comes to, of numbers from 0 to 7. -/
def ilW (a b c d : Int) : Bool := decide ((c - a + 8) % 8 < (b - a + 8) % 8) != decide ((d - a + 8) % 8 < (b - a + 8) % 8)
instance (a b c d : Int) : Decidable (ILv a b c d) := by unfold ILv; infer_instance
def ilV (a b c d : Int) : Bool := decide (ILv a b c d) && ilW a b c d

/-- Do paths of these kinds, from there to there, conflict? -/
def cfW (k f t k' f' t' : Int) : Bool :=
  if k = 2 then (if k' = 2 then false else (f' == f || t' == f)) else
  if k' = 2 then (f == f' || t == f') else
  if f = f' then false else if t = t' then true else ilV (2 * f) (2 * t + 1) (2 * f') (2 * t' + 1)
def cfV (a b c d a' b' c' d' : Int) : Bool := isPathV a b c d && (isPathV a' b' c' d' && cfW b c d b' c' d')
theorem il_same (a b d : Int) : ilV a b a d = false := by
  unfold ilV; rw [decide_eq_false (by unfold ILv; omega), Bool.false_and]

/-- Do these two paths conflict? -/
def cfP (p q : S50) : Bool := cfV p.f0 p.f1 p.f2 p.f3 q.f0 q.f1 q.f2 q.f3
def cfAll (k f t k' f' t' : Fin 4) : Bool :=
  if 1 ≤ k.val ∧ 1 ≤ k'.val then cfW (k.val : Int) (f.val : Int) (t.val : Int) (k'.val : Int) (f'.val : Int) (t'.val : Int) == cfW (k'.val : Int) (f'.val : Int) (t'.val : Int) (k.val : Int) (f.val : Int) (t.val : Int) && !(cfW (k.val : Int) (f.val : Int) (t.val : Int) (k.val : Int) (f.val : Int) (t.val : Int)) else true
theorem cfAll_true : ∀ k f t k' f' t' : Fin 4, cfAll k f t k' f' t' = true := by decide +kernel
theorem cfW_sym (k f t k' f' t' : Int) (h : (1 ≤ k ∧ k ≤ 3) ∧ (0 ≤ f ∧ f ≤ 3) ∧ (0 ≤ t ∧ t ≤ 3)) (h' : (1 ≤ k' ∧ k' ≤ 3) ∧ (0 ≤ f' ∧ f' ≤ 3) ∧ (0 ≤ t' ∧ t' ≤ 3)) : cfW k f t k' f' t' = cfW k' f' t' k f t ∧ cfW k f t k f t = false := by
  obtain ⟨k, rfl⟩ := Int.eq_ofNat_of_zero_le (show 0 ≤ k by omega)
  obtain ⟨f, rfl⟩ := Int.eq_ofNat_of_zero_le (show 0 ≤ f by omega)
  obtain ⟨t, rfl⟩ := Int.eq_ofNat_of_zero_le (show 0 ≤ t by omega)
  obtain ⟨k', rfl⟩ := Int.eq_ofNat_of_zero_le (show 0 ≤ k' by omega)
  obtain ⟨f', rfl⟩ := Int.eq_ofNat_of_zero_le (show 0 ≤ f' by omega)
  obtain ⟨t', rfl⟩ := Int.eq_ofNat_of_zero_le (show 0 ≤ t' by omega)
  have := cfAll_true ⟨k, by omega⟩ ⟨f, by omega⟩ ⟨t, by omega⟩ ⟨k', by omega⟩ ⟨f', by omega⟩ ⟨t', by omega⟩
  unfold cfAll at this
  rw [if_pos ⟨by simp only; omega, by simp only; omega⟩, Bool.and_eq_true] at this
  exact ⟨eq_of_beq this.1, by simpa using this.2⟩
theorem cfV_sym (a b c d a' b' c' d' : Int) : cfV a b c d a' b' c' d' = cfV a' b' c' d' a b c d := by
  unfold cfV
  cases h : isPathV a b c d with
  | false => cases isPathV a' b' c' d' <;> rfl
  | true =>
    cases h' : isPathV a' b' c' d' with
    | false => rfl
    | true =>
      obtain ⟨_, hb, hc, hd, _⟩ := (isPathV_iff a b c d).1 h
      obtain ⟨_, hb', hc', hd', _⟩ := (isPathV_iff a' b' c' d').1 h'
      rw [Bool.true_and, Bool.true_and]
      exact (cfW_sym b c d b' c' d' ⟨hb, hc, hd⟩ ⟨hb', hc', hd'⟩).1
theorem cfP_sym (p q : S50) : cfP p q = cfP q p := cfV_sym ..
theorem cfP_irr (p : S50) : cfP p p = false := by
  unfold cfP cfV
  cases h : isPathV p.f0 p.f1 p.f2 p.f3 with
  | false => rfl
  | true =>
    obtain ⟨_, hb, hc, hd, _⟩ := (isPathV_iff _ _ _ _).1 h
    rw [Bool.true_and, Bool.true_and]
    exact (cfW_sym _ _ _ _ _ _ ⟨hb, hc, hd⟩ ⟨hb, hc, hd⟩).2

/-- The place of the first path with this number. -/
def findV (l : List S50) (x : Int) : Int := impl_FindPath.go l x 0
theorem go_bd (l : List S50) (x : Int) : ∀ i : Int, 0 ≤ i → (impl_FindPath.go l x i = -1 ∧ (∀ p ∈ l, p.f0 ≠ x)) ∨ (i ≤ impl_FindPath.go l x i ∧ impl_FindPath.go l x i < i + l.length ∧ (l.getD (impl_FindPath.go l x i - i).toNat z50).f0 = x) := by
  induction l with
  | nil => intro i _; left; exact ⟨rfl, by simp⟩
  | cons p r ih =>
    intro i hi
    simp only [impl_FindPath.go]
    by_cases h : p.f0 = x
    · rw [if_pos h]; right; refine ⟨by omega, by simp only [List.length_cons]; omega, ?_⟩; simp [h]
    · rw [if_neg h]
      rcases ih (i + 1) (by omega) with ⟨h1, h2⟩ | ⟨h1, h2, h3⟩
      · left; refine ⟨h1, ?_⟩
        intro q hq
        rcases List.mem_cons.1 hq with rfl | hq
        · exact h
        · exact h2 q hq
      · right
        refine ⟨by omega, by simp only [List.length_cons]; omega, ?_⟩
        have e : (impl_FindPath.go r x (i + 1) - i).toNat = (impl_FindPath.go r x (i + 1) - (i + 1)).toNat + 1 := by omega
        rw [e]; simpa using h3
theorem findV_bd (l : List S50) (x : Int) (h : 0 ≤ findV l x) : findV l x < l.length ∧ (l.getD (findV l x).toNat z50).f0 = x := by
  rcases go_bd l x 0 (by omega) with ⟨h1, _⟩ | ⟨_, h2, h3⟩
  · unfold findV at h; omega
  · unfold findV; refine ⟨by omega, ?_⟩; simpa using h3
theorem findV_neg (l : List S50) (x : Int) (h : ¬ 0 ≤ findV l x) : ∀ p ∈ l, p.f0 ≠ x := by
  rcases go_bd l x 0 (by omega) with ⟨_, h1⟩ | ⟨h1, _, _⟩
  · exact h1
  · exact absurd h1 h
/-- The path with this number. -/
def pOf (l : List S50) (x : Int) : S50 := l.getD (findV l x).toNat z50
theorem rd_find (l : List S50) (x : Int) (h : 0 ≤ findV l x) : rd_T50 l (findV l x) = pOf l x := rfl

/-- Does p conflict with none of the e numbers from j on? -/
def frFrom (l : List S50) (p : S50) (ids : List Int) : Nat → Nat → Bool | 0, _ => true | e + 1, j => !cfP p (pOf l (ids.getD j 0)) && frFrom l p ids e (j + 1)
def tgAt (l : List S50) (ids : List Int) (i : Nat) : Bool := decide (0 ≤ findV l (ids.getD i 0)) && ((decide (i = 0) || decide (ids.getD (i - 1) 0 < ids.getD i 0)) && frFrom l (pOf l (ids.getD i 0)) ids i 0)
def tgFrom (l : List S50) (ids : List Int) : Nat → Nat → Bool | 0, _ => true | d + 1, i => tgAt l ids i && tgFrom l ids d (i + 1)
def togV (l : List S50) (ids : List Int) : Bool := areV l && tgFrom l ids ids.length 0

/-- The place before the first number that is not below x. -/
def posV (x : Int) : List Int → Nat | [] => 0 | y :: r => if y < x then posV x r + 1 else 0
def putAt (ids : List Int) (x : Int) (p : Nat) : List Int := if ids[p]? = some x then ids else ids.take p ++ x :: ids.drop p
def putV (ids : List Int) (x : Int) : List Int := putAt ids x (posV x ids)
theorem posV_le (x : Int) : ∀ ids : List Int, posV x ids ≤ ids.length
  | [] => Nat.le_refl _
  | y :: r => by
    have := posV_le x r
    simp only [posV, List.length_cons]
    split <;> omega
theorem putV_length (ids : List Int) (x : Int) : (putV ids x).length ≤ ids.length + 1 := by
  have := posV_le x ids
  unfold putV putAt
  split
  · omega
  · simp; omega
theorem posV_char (x : Int) : ∀ (ids : List Int) (p : Nat), p ≤ ids.length → (∀ a, a < p → ids.getD a 0 < x) → (p < ids.length → ¬ ids.getD p 0 < x) → posV x ids = p
  | [], p, hp, _, _ => by have : p = 0 := by simpa using hp
                          subst this; rfl
  | y :: r, 0, _, _, h2 => by
    have : ¬ y < x := by simpa using h2 (by simp)
    simp only [posV]; rw [if_neg this]
  | y :: r, p + 1, hp, h1, h2 => by
    have h0 : y < x := by simpa using h1 0 (by omega)
    simp only [posV]; rw [if_pos h0, posV_char x r p (by simpa using hp) (fun a ha => by simpa using h1 (a + 1) (by omega)) (fun hlt => by simpa using h2 (by simpa using hlt))]
/-- Ascending. -/
def Asc (ids : List Int) : Prop := ∀ a b, a < b → b < ids.length → ids.getD a 0 < ids.getD b 0
theorem mem_pos (ids : List Int) (x : Int) (ha : Asc ids) (hx : ids[posV x ids]? ≠ some x) : x ∉ ids := by
  intro hm
  obtain ⟨i, hi, he⟩ := List.getElem_of_mem hm
  have hg : ids.getD i 0 = x := by rw [List.getD_eq_getElem?_getD, List.getElem?_eq_getElem hi]; exact he
  have hp : posV x ids = i := posV_char x ids i (by omega) (fun a h => by have := ha a i h hi; omega) (fun _ => by omega)
  rw [hp, List.getElem?_eq_getElem hi, he] at hx
  exact hx rfl
theorem put_mem (ids : List Int) (x : Int) (ha : Asc ids) (hx : x ∈ ids) : putV ids x = ids := by
  unfold putV putAt
  rw [if_pos]
  by_cases h : ids[posV x ids]? = some x
  · exact h
  · exact absurd hx (mem_pos ids x ha h)
theorem put_new (ids : List Int) (x : Int) (hx : x ∉ ids) : putV ids x = ids.take (posV x ids) ++ x :: ids.drop (posV x ids) := by
  unfold putV putAt
  rw [if_neg (fun h => hx (List.mem_of_getElem? h))]
theorem tgFrom_at (l : List S50) (ids : List Int) : ∀ (d i : Nat), i + d = ids.length → tgFrom l ids d i = true → ∀ j, i ≤ j → j < ids.length → tgAt l ids j = true := by
  intro d
  induction d with
  | zero => intro i hi _ j h1 h2; omega
  | succ d ih =>
    intro i hi h j h1 h2
    simp only [tgFrom, Bool.and_eq_true] at h
    by_cases he : j = i
    · subst he; exact h.1
    · exact ih (i + 1) (by omega) h.2 j (by omega) h2
theorem togV_asc (l : List S50) (ids : List Int) (h : togV l ids = true) : Asc ids := by
  unfold togV at h
  rw [Bool.and_eq_true] at h
  have hat := tgFrom_at l ids ids.length 0 (by omega) h.2
  have step : ∀ j, 1 ≤ j → j < ids.length → ids.getD (j - 1) 0 < ids.getD j 0 := by
    intro j h1 h2
    have := hat j (by omega) h2
    simp only [tgAt, Bool.and_eq_true, Bool.or_eq_true, decide_eq_true_eq] at this
    rcases this.2.1 with h0 | h0
    · omega
    · exact h0
  intro a b hab hb
  obtain ⟨d, rfl⟩ : ∃ d, b = a + 1 + d := ⟨b - (a + 1), by omega⟩
  induction d with
  | zero => have := step (a + 1) (by omega) (by omega); simpa using this
  | succ d ih =>
    have h1 := ih (by omega) (by omega)
    have h2 := step (a + 1 + (d + 1)) (by omega) hb
    have e : a + 1 + (d + 1) - 1 = a + 1 + d := by omega
    rw [e] at h2
    omega

theorem put_fuel (n m : Nat) (h : m ≤ n + 1) : m * (m + 4) ≤ (n + 1) * (n + 5) := Nat.mul_le_mul h (by omega)

def fullV (l : List S50) (ids : List Int) (p : S50) : Bool := decide (p.f0 ∈ ids) || !togV l (putV ids p.f0)
def isFullV (l : List S50) (ids : List Int) : Bool := l.all (fullV l ids) && togV l ids

theorem sPut_go (ids : List Int) (x : Int) (hn : ids.length ≤ 1099511627776) : ∀ (d k i : Nat), i + d = ids.length → d < k → spec_l6Put.l0 k ids x (i : Int) = some (putAt ids x (i + posV x (ids.drop i))) := by
  intro d
  induction d with
  | zero =>
    intro k i hi hk
    obtain ⟨k, rfl⟩ : ∃ m, k = m + 1 := ⟨k - 1, by omega⟩
    simp only [spec_l6Put.l0]
    obtain rfl : i = ids.length := by omega
    have e : ids.drop ids.length = [] := List.drop_of_length_le (Nat.le_refl _)
    rw [if_neg (by omega), Option.bind_some, if_pos (by omega), if_pos (by omega), Int.toNat_natCast, List.take_length, if_pos (by simp; omega), Option.bind_some, Option.bind_some, if_pos (by simp; omega), Option.bind_some, e, if_pos (by simp; omega)]
    simp [posV, putAt]
  | succ d ih =>
    intro k i hi hk
    obtain ⟨k, rfl⟩ : ∃ m, k = m + 1 := ⟨k - 1, by omega⟩
    have hl : (ids.take i).length = i := by rw [List.length_take]; omega
    have hd : (ids.drop i).length = ids.length - i := List.length_drop
    simp only [spec_l6Put.l0]
    rw [if_pos (by omega), if_pos (by omega), rd_get ids i (by omega), Int.toNat_natCast, drop_cons ids i (by omega)]
    simp only [posV]
    by_cases h : ids[i] < x
    · rw [if_pos h, if_pos h, wsucc (show i < ids.length by omega) (by omega), ih k (i + 1) (by omega) (by omega)]
      congr 2; omega
    · have hg : ids[i]? = some ids[i] := List.getElem?_eq_getElem (by omega)
      rw [if_neg h, if_neg h]
      unfold putAt
      show _ = some (if ids[i]? = some x then ids else ids.take i ++ x :: ids.drop i)
      rw [hg]
      by_cases he : ids[i] = x
      · rw [if_pos he, Option.bind_some, if_pos (by simp; omega), if_pos (by rw [he])]; rfl
      · rw [if_neg he, Option.bind_some, if_pos (by omega), if_pos (by simp; omega), Option.bind_some, Option.bind_some, if_pos (by simp; omega), Option.bind_some, ← drop_cons ids i (by omega), if_pos (by simp; omega), if_neg (by simp [he])]
        simp
theorem sPut_eq (k : Nat) (ids : List Int) (x : Int) (hk : ids.length < k) (hn : ids.length ≤ 1099511627776) : spec_l6Put.f k ids x = some (putV ids x) := by
  unfold spec_l6Put.f putV
  have := sPut_go ids x hn ids.length k 0 (by omega) hk
  rw [Int.natCast_zero, List.drop_zero, Nat.zero_add] at this
  exact this

theorem iIsPath (a b c d : Int) : impl_IsPath.f a b c d = some (isPathV a b c d) := by
  unfold impl_IsPath.f isPathV
  simp only [inr, Option.bind_some]
  generalize decide (1 ≤ a ∧ a ≤ 20) = p1
  generalize decide (1 ≤ b ∧ b ≤ 3) = p2
  generalize decide (0 ≤ c ∧ c ≤ 3) = p3
  generalize decide (0 ≤ d ∧ d ≤ 3) = p4
  cases p1 <;> cases p2 <;> cases p3 <;> cases p4 <;> rfl

theorem iIn_eq (a : Int) (h0 : 0 ≤ a) (h1 : a ≤ 3) : impl_InPlace.f a = some (2 * a) := by
  unfold impl_InPlace.f
  rw [inr, Option.bind_some, if_pos (by simp; omega), w64 (by omega) (by omega)]
theorem iOut_eq (a : Int) (h0 : 0 ≤ a) (h1 : a ≤ 3) : impl_OutPlace.f a = some (2 * a + 1) := by
  unfold impl_OutPlace.f
  rw [inr, Option.bind_some, if_pos (by simp; omega), w64 (x := 2 * a) (by omega) (by omega), w64 (by omega) (by omega)]

theorem il_R (k : Nat) (a b c d : Int) (l : List Int) (hl : l.length = 4) (n : Int) (i : Int) (h0 : 0 ≤ i) (h1 : i < n) (h2 : i < 4) :
    impl_Interleave.l0 (k + 1) a b c d l n i = if 0 ≤ rd l i ∧ rd l i ≤ 7 then impl_Interleave.l0 k a b c d l n (i + 1) else some false := by
  simp only [impl_Interleave.l0]; rw [if_pos h1, if_pos h0, if_pos (by omega), inr]
  simp only [Option.bind_some, decide_eq_true_eq, il_w i h0 h2]
theorem il_Rend (k : Nat) (a b c d : Int) (l : List Int) (n : Int) (i : Int) (h1 : ¬ i < n) (h : ¬ (a ≠ b ∧ a ≠ c ∧ a ≠ d ∧ b ≠ c ∧ b ≠ d ∧ c ≠ d)) :
    impl_Interleave.l0 (k + 1) a b c d l n i = some false := by
  simp only [impl_Interleave.l0]; rw [if_neg h1]
  repeat' split
  all_goals first | rfl | (exfalso; apply h; omega)
theorem il_impl_no (a b c d : Int) (h : ¬ ILv a b c d) : impl_Interleave.f 40 a b c d = some false := by
  obtain ⟨r0, r1, r2, r3⟩ := il_rd a b c d
  have hl : [a, b, c, d].length = 4 := rfl
  unfold impl_Interleave.f
  rw [Option.bind_some, hl]
  rw [il_R _ _ _ _ _ _ hl _ _ (by omega) (by omega) (by omega), Int.zero_add, r0]
  split
  · rw [il_R _ _ _ _ _ _ hl _ _ (by omega) (by omega) (by omega), show (1 : Int) + 1 = 2 from rfl, r1]
    split
    · rw [il_R _ _ _ _ _ _ hl _ _ (by omega) (by omega) (by omega), show (2 : Int) + 1 = 3 from rfl, r2]
      split
      · rw [il_R _ _ _ _ _ _ hl _ _ (by omega) (by omega) (by omega), show (3 : Int) + 1 = 4 from rfl, r3]
        split
        · exact il_Rend _ a b c d _ _ _ (by omega) (fun h' => h (by unfold ILv; omega))
        · rfl
      · rfl
    · rfl
  · rfl
def ilBothI (a b c d : Fin 8) : Bool :=
  if a ≠ b ∧ a ≠ c ∧ a ≠ d ∧ b ≠ c ∧ b ≠ d ∧ c ≠ d then impl_Interleave.f 40 (a.val : Int) (b.val : Int) (c.val : Int) (d.val : Int) == some (ilW (a.val : Int) (b.val : Int) (c.val : Int) (d.val : Int))
  else true
theorem ilBothI_all : ∀ a b c d : Fin 8, ilBothI a b c d = true := by decide +kernel
theorem il_yesI (a b c d : Int) (h : ILv a b c d) : impl_Interleave.f 40 a b c d = some (ilW a b c d) := by
  obtain ⟨⟨a0, a1⟩, ⟨b0, b1⟩, ⟨c0, c1⟩, ⟨d0, d1⟩, h1, h2, h3, h4, h5, h6⟩ := h
  obtain ⟨a, rfl⟩ := Int.eq_ofNat_of_zero_le a0
  obtain ⟨b, rfl⟩ := Int.eq_ofNat_of_zero_le b0
  obtain ⟨c, rfl⟩ := Int.eq_ofNat_of_zero_le c0
  obtain ⟨d, rfl⟩ := Int.eq_ofNat_of_zero_le d0
  have := ilBothI_all ⟨a, by omega⟩ ⟨b, by omega⟩ ⟨c, by omega⟩ ⟨d, by omega⟩
  unfold ilBothI at this
  rw [if_pos (by simp only [ne_eq, Fin.mk.injEq]; omega)] at this
  exact eq_of_beq this
theorem iIl_eq (k : Nat) (a b c d : Int) (hk : 40 ≤ k) : impl_Interleave.f k a b c d = some (ilV a b c d) := by
  refine at_rounds (fun k => impl_Interleave.mono a b c d k) hk ?_
  unfold ilV
  by_cases h : ILv a b c d
  · rw [il_yesI a b c d h, decide_eq_true h, Bool.true_and]
  · rw [il_impl_no a b c d h, decide_eq_false h, Bool.false_and]

theorem iConf_eq (k : Nat) (a b c d a' b' c' d' : Int) (hk : 41 < k) : impl_Conflict.f k a b c d a' b' c' d' = some (cfV a b c d a' b' c' d') := by
  obtain ⟨k, rfl⟩ : ∃ m, k = m + 1 := ⟨k - 1, by omega⟩
  unfold impl_Conflict.f cfV cfW
  simp only [iIsPath, Option.bind_some, impl_Conflict.j0]
  cases h1 : isPathV a b c d with
  | false => simp
  | true =>
    cases h2 : isPathV a' b' c' d' with
    | false => simp
    | true =>
      obtain ⟨_, _, hc, hd, _⟩ := (isPathV_iff a b c d).1 h1
      obtain ⟨_, _, hc', hd', _⟩ := (isPathV_iff a' b' c' d').1 h2
      simp only [if_true, Bool.true_and, Bool.false_eq_true, if_false]
      by_cases hb : b = 2
      · rw [if_pos hb, if_pos hb]
        by_cases hb' : b' = 2
        · rw [if_pos hb', if_pos (by rw [hb']; rfl), if_pos hb]
        · rw [if_neg (by rw [beq_iff_eq]; exact hb'), if_pos hb, if_neg hb']
          by_cases h : c' = c
          · rw [if_pos h, h]; simp
          · rw [if_neg h]; simp [h]
      · rw [if_neg hb, if_neg hb, if_neg hb]
        by_cases hb' : b' = 2
        · rw [if_pos hb', if_pos hb']
          by_cases h : c = c'
          · rw [if_pos h, h]; simp
          · rw [if_neg h]; simp [h]
        · rw [if_neg hb', if_neg hb', iIn_eq c hc.1 hc.2, iOut_eq d hd.1 hd.2, iIn_eq c' hc'.1 hc'.2, iOut_eq d' hd'.1 hd'.2]
          simp only [Option.bind_some]
          rw [iIl_eq k _ _ _ _ (by omega)]
          simp only [Option.bind_some]
          by_cases h : c = c'
          · rw [if_pos h, if_pos h, h, il_same]
          · rw [if_neg h, if_neg h]
            split <;> rfl

theorem iCfq (k : Nat) (p q : S50) (hk : 41 < k) : impl_Conflict.f k p.f0 p.f1 p.f2 p.f3 q.f0 q.f1 q.f2 q.f3 = some (cfP p q) := iConf_eq k _ _ _ _ _ _ _ _ hk

theorem iAre_go (l : List S50) (hn : l.length ≤ 9223372036854775807) : ∀ (d k : Nat) (i : Nat), i + d = l.length → d < k → impl_ArePaths.l0 k l l (l.length : Int) (i : Int) = some (arFrom l d i) := by
  intro d
  induction d with
  | zero =>
    intro k i hi hk
    obtain ⟨k, rfl⟩ : ∃ m, k = m + 1 := ⟨k - 1, by omega⟩
    simp only [impl_ArePaths.l0, arFrom]
    rw [if_neg (by omega)]
  | succ d ih =>
    intro k i hi hk
    obtain ⟨k, rfl⟩ : ∃ m, k = m + 1 := ⟨k - 1, by omega⟩
    simp only [impl_ArePaths.l0, arFrom, okAt]
    rw [if_pos (by omega), if_pos (by omega), if_pos (by omega), iIsPath, Option.bind_some, rdI_get _ _ (by omega), wsucc (show i < l.length by omega) hn, ih k (i + 1) (by omega) (by omega), getDI l i (by omega)]
    have hpv : isPathV (l[i]).f0 (l[i]).f1 (l[i]).f2 (l[i]).f3 = pathV l[i] := rfl
    rw [hpv]
    cases hp : pathV l[i] with
    | false => rw [if_neg (by decide), Bool.false_and, Bool.false_and]
    | true =>
      rw [if_pos rfl]
      by_cases h0 : i = 0
      · subst h0
        rw [if_neg (by omega)]; simp
      · rw [if_pos (by omega), wpred (by omega) (by omega), if_pos (by omega), if_pos (by omega), rdI_get _ _ (by omega), getDI l (i - 1) (by omega), decide_eq_false h0, Bool.false_or, Bool.true_and]
        by_cases hc : (l[i - 1]).f0 < (l[i]).f0
        · rw [if_neg (by omega), decide_eq_true hc, Bool.true_and]
        · rw [if_pos (by omega), decide_eq_false hc, Bool.false_and]
theorem iAre_eq (k : Nat) (l : List S50) (hk : l.length < k) (hn : l.length ≤ 9223372036854775807) : impl_ArePaths.f k l = some (areV l) := by
  unfold impl_ArePaths.f areV
  have := iAre_go l hn l.length k 0 (by omega) hk
  rw [Int.natCast_zero] at this
  by_cases h : l.length ≤ 12
  · rw [if_neg (by omega), decide_eq_true h, Bool.true_and]; exact this
  · rw [if_pos (by omega), decide_eq_false h, Bool.false_and]

theorem iTog_go (l : List S50) (ids : List Int) (hl : l.length ≤ 12) (hn : ids.length ≤ 1099511627776) : ∀ (d k i : Nat), i + d = ids.length → d * (ids.length + 4) + l.length + 60 < k → (∀ j, j < i → 0 ≤ findV l (ids.getD j 0)) →
    impl_IsTogether.l0 k l ids ids (ids.length : Int) (i : Int) = some (tgFrom l ids d i) := by
  intro d
  induction d with
  | zero =>
    intro k i hi hk hf
    obtain ⟨k, rfl⟩ : ∃ m, k = m + 1 := ⟨k - 1, by omega⟩
    simp only [impl_IsTogether.l0, tgFrom]
    rw [if_neg (by omega)]
  | succ d ih =>
    intro k i hi hk hf
    rw [Nat.succ_mul] at hk
    obtain ⟨k, rfl⟩ : ∃ m, k = m + 1 + 1 := ⟨k - 2, by omega⟩
    have hg : rd ids (i : Int) = ids.getD i 0 := rd_nat _ _
    have inner : ∀ (e k j : Nat), j + e = i → e + d * (ids.length + 4) + l.length + 61 < k → 0 ≤ findV l (ids.getD i 0) →
        impl_IsTogether.l1 k l ids (findV l (ids.getD i 0)) ids (ids.length : Int) (i : Int) (ids.take i) (i : Int) (j : Int) = some (frFrom l (pOf l (ids.getD i 0)) ids e j && tgFrom l ids d (i + 1)) := by
      intro e
      induction e with
      | zero =>
        intro k j hj hk hfi
        obtain ⟨k, rfl⟩ : ∃ m, k = m + 1 := ⟨k - 1, by omega⟩
        simp only [impl_IsTogether.l1, frFrom]
        rw [if_neg (by omega), Bool.true_and, wsucc (show i < ids.length by omega) (by omega)]
        refine ih k (i + 1) (by omega) (by omega) (fun j hj => ?_)
        rcases Nat.lt_succ_iff_lt_or_eq.1 hj with h | rfl
        · exact hf j h
        · exact hfi
      | succ e ihe =>
        intro k j hj hk hfi
        obtain ⟨k, rfl⟩ : ∃ m, k = m + 1 := ⟨k - 1, by omega⟩
        have hlt : (ids.take i).length = i := by rw [List.length_take]; omega
        obtain ⟨fi, _⟩ := findV_bd l _ hfi
        obtain ⟨fj, _⟩ := findV_bd l _ (hf j (by omega))
        simp only [impl_IsTogether.l1, frFrom, impl_FindPath.f]
        have hr : rd (ids.take i) (j : Int) = ids.getD j 0 := by
          rw [rd_nat, List.getD_eq_getElem?_getD, List.getD_eq_getElem?_getD, List.getElem?_take, if_pos (by omega)]
        rw [if_pos (by omega), if_pos (by omega), if_pos (by omega), if_pos hfi, if_pos fi, Option.bind_some, hr]
        have hfj := hf j (by omega)
        have e1 : impl_FindPath.go l (ids.getD j 0) 0 = findV l (ids.getD j 0) := rfl
        rw [e1, if_pos hfj, if_pos fj, rd_find l _ hfi, rd_find l _ hfj, iCfq k _ _ (by omega), Option.bind_some, wsucc (show j < i by omega) (by omega)]
        cases hc : cfP (pOf l (ids.getD i 0)) (pOf l (ids.getD j 0)) with
        | true => rw [if_pos rfl]; rfl
        | false => rw [if_neg (by decide), ihe k (j + 1) (by omega) (by omega) hfi]; rfl
    simp only [impl_IsTogether.l0, impl_IsTogether.j1, tgFrom, tgAt, impl_FindPath.f]
    rw [if_pos (by omega), if_pos (by omega), if_pos (by omega), Option.bind_some, hg]
    have e1 : impl_FindPath.go l (ids.getD i 0) 0 = findV l (ids.getD i 0) := rfl
    have hti : (ids.take i).length = i := by rw [List.length_take]; omega
    rw [e1, Int.toNat_natCast, hti]
    by_cases hfi : 0 ≤ findV l (ids.getD i 0)
    · rw [if_neg (by omega), decide_eq_true hfi, Bool.true_and]
      have hin := inner i k 0 (by omega) (by omega) hfi
      rw [Int.natCast_zero] at hin
      by_cases h0 : i = 0
      · rw [if_neg (by omega), if_neg (by decide), if_pos (by omega), if_pos (by omega), hin, decide_eq_true h0, Bool.true_or, Bool.true_and]
      · rw [if_pos (by omega), wpred (by omega) (by omega), if_pos (by omega), if_pos (by omega), rd_nat, decide_eq_false h0, Bool.false_or]
        by_cases hc : ids.getD (i - 1) 0 < ids.getD i 0
        · rw [decide_eq_false (by omega), if_neg (by decide), if_pos (by omega), if_pos (by omega), hin, decide_eq_true hc, Bool.true_and]
        · rw [decide_eq_true (by omega), if_pos rfl, decide_eq_false hc]; rfl
    · rw [if_pos (by omega), decide_eq_false hfi]; simp
theorem iTog_eq (k : Nat) (l : List S50) (ids : List Int) (hk : ids.length * (ids.length + 4) + l.length + 60 < k) (hl : l.length ≤ 1099511627776) (hn : ids.length ≤ 1099511627776) : impl_IsTogether.f k l ids = some (togV l ids) := by
  unfold impl_IsTogether.f togV
  rw [iAre_eq k l (by omega) (by omega), Option.bind_some]
  by_cases ha : areV l = true
  · have h12 : l.length ≤ 12 := by unfold areV at ha; rw [Bool.and_eq_true, decide_eq_true_eq] at ha; exact ha.1
    have := iTog_go l ids h12 hn ids.length k 0 (by omega) hk (fun j hj => absurd hj (by omega))
    rw [Int.natCast_zero] at this
    rw [if_pos ha, ha, Bool.true_and]; exact this
  · rw [if_neg ha]; simp only [Bool.not_eq_true] at ha; rw [ha]; rfl

theorem sFind_go (l : List S50) (x : Int) (hn : l.length ≤ 9223372036854775807) : ∀ (d k : Nat) (i : Nat), i + d = l.length → d < k → spec_FindPath.l0 k l x (i : Int) = some (impl_FindPath.go (l.drop i) x i) := by
  intro d
  induction d with
  | zero =>
    intro k i hi hk
    obtain ⟨k, rfl⟩ : ∃ m, k = m + 1 := ⟨k - 1, by omega⟩
    simp only [spec_FindPath.l0]
    rw [if_neg (by omega), List.drop_of_length_le (by omega)]; rfl
  | succ d ih =>
    intro k i hi hk
    obtain ⟨k, rfl⟩ : ∃ m, k = m + 1 := ⟨k - 1, by omega⟩
    simp only [spec_FindPath.l0]
    rw [if_pos (by omega), if_pos (by omega), rdI_get _ _ (by omega), wsucc (show i < l.length by omega) hn, ih k (i + 1) (by omega) (by omega), drop_cons l i (by omega)]
    simp only [impl_FindPath.go, Int.natCast_add, Int.natCast_one]
    split <;> rfl
theorem sFind_eq (k : Nat) (l : List S50) (x : Int) (hk : l.length < k) (hn : l.length ≤ 9223372036854775807) : spec_FindPath.f k l x = some (impl_FindPath.go l x 0) := by
  unfold spec_FindPath.f
  have := sFind_go l x hn l.length k 0 (by omega) hk
  rw [Int.natCast_zero] at this
  exact this

theorem in1 (a b c : Int) : spec_l1In.f a b c = some (decide (b ≤ a ∧ a ≤ c)) := by
  unfold spec_l1In.f
  by_cases h : a ≥ b
  · rw [if_pos h]; congr 1; simp only [decide_eq_decide]; omega
  · rw [if_neg h]; congr 1; symm; simp only [decide_eq_false_iff_not]; omega

theorem sIsPath (a b c d : Int) : spec_IsPath.f a b c d = some (isPathV a b c d) := by
  unfold spec_IsPath.f isPathV
  simp only [in1, Option.bind_some]
  generalize decide (1 ≤ a ∧ a ≤ 20) = p1
  generalize decide (1 ≤ b ∧ b ≤ 3) = p2
  generalize decide (0 ≤ c ∧ c ≤ 3) = p3
  generalize decide (0 ≤ d ∧ d ≤ 3) = p4
  cases p1 <;> cases p2 <;> cases p3 <;> cases p4 <;> rfl

theorem sIn_eq (a : Int) (h0 : 0 ≤ a) (h1 : a ≤ 3) : spec_InPlace.f a = some (2 * a) := by
  unfold spec_InPlace.f
  rw [in1, Option.bind_some, if_pos (by simp; omega), w64 (by omega) (by omega)]
theorem sOut_eq (a : Int) (h0 : 0 ≤ a) (h1 : a ≤ 3) : spec_OutPlace.f a = some (2 * a + 1) := by
  unfold spec_OutPlace.f
  rw [in1, Option.bind_some, if_pos (by simp; omega), w64 (x := 2 * a) (by omega) (by omega), w64 (by omega) (by omega)]

theorem il_S (k : Nat) (a b c d : Int) (l : List Int) (i : Int) (h1 : i < 4) : spec_Interleave.l0 (k + 1) a b c d l i = spec_Interleave.l1 k a b c d l i 0 := by
  simp only [spec_Interleave.l0]; rw [if_pos h1]
theorem il_T (k : Nat) (a b c d : Int) (l : List Int) (hl : l.length = 4) (i j : Int) (h0 : 0 ≤ j) (h1 : j < i) (h2 : i < 4) :
    spec_Interleave.l1 (k + 1) a b c d l i j = if rd l i = rd l j then some false else spec_Interleave.l1 k a b c d l i (j + 1) := by
  simp only [spec_Interleave.l1]; rw [if_pos h1, if_pos (by omega), if_pos (by omega), if_pos h0, if_pos (by omega), il_w j h0 (by omega)]
theorem il_E (k : Nat) (a b c d : Int) (l : List Int) (hl : l.length = 4) (i : Int) (h0 : 0 ≤ i) (h2 : i < 4) :
    spec_Interleave.l1 (k + 1) a b c d l i i = if 0 ≤ rd l i ∧ rd l i ≤ 7 then spec_Interleave.l0 k a b c d l (i + 1) else some false := by
  simp only [spec_Interleave.l1]; rw [if_neg (by omega), if_pos (by omega), if_pos (by omega), in1]
  simp only [Option.bind_some, decide_eq_true_eq, il_w i h0 h2]
theorem il_spec_no (a b c d : Int) (h : ¬ ILv a b c d) : spec_Interleave.f 40 a b c d = some false := by
  obtain ⟨r0, r1, r2, r3⟩ := il_rd a b c d
  have hl : [a, b, c, d].length = 4 := rfl
  unfold spec_Interleave.f
  rw [il_S _ _ _ _ _ _ _ (by omega), il_E _ _ _ _ _ _ hl _ (by omega) (by omega), r0]
  split
  · rw [il_S _ _ _ _ _ _ _ (by omega), il_T _ _ _ _ _ _ hl _ _ (by omega) (by omega) (by omega), Int.zero_add, r0, r1]
    split
    · rfl
    · rw [il_E _ _ _ _ _ _ hl _ (by omega) (by omega), r1]
      split
      · rw [il_S _ _ _ _ _ _ _ (by omega), show (1 : Int) + 1 = 2 from rfl, il_T _ _ _ _ _ _ hl _ _ (by omega) (by omega) (by omega), Int.zero_add, r0, r2]
        split
        · rfl
        · rw [il_T _ _ _ _ _ _ hl _ _ (by omega) (by omega) (by omega), show (1 : Int) + 1 = 2 from rfl, r1, r2]
          split
          · rfl
          · rw [il_E _ _ _ _ _ _ hl _ (by omega) (by omega), r2]
            split
            · rw [il_S _ _ _ _ _ _ _ (by omega), show (2 : Int) + 1 = 3 from rfl, il_T _ _ _ _ _ _ hl _ _ (by omega) (by omega) (by omega), Int.zero_add, r0, r3]
              split
              · rfl
              · rw [il_T _ _ _ _ _ _ hl _ _ (by omega) (by omega) (by omega), show (1 : Int) + 1 = 2 from rfl, r1, r3]
                split
                · rfl
                · rw [il_T _ _ _ _ _ _ hl _ _ (by omega) (by omega) (by omega), show (2 : Int) + 1 = 3 from rfl, r2, r3]
                  split
                  · rfl
                  · rw [il_E _ _ _ _ _ _ hl _ (by omega) (by omega), r3]
                    split
                    · exfalso; apply h; unfold ILv; omega
                    · rfl
            · rfl
      · rfl
  · rfl
def ilBothS (a b c d : Fin 8) : Bool :=
  if a ≠ b ∧ a ≠ c ∧ a ≠ d ∧ b ≠ c ∧ b ≠ d ∧ c ≠ d then spec_Interleave.f 40 (a.val : Int) (b.val : Int) (c.val : Int) (d.val : Int) == some (ilW (a.val : Int) (b.val : Int) (c.val : Int) (d.val : Int))
  else true
theorem ilBothS_all : ∀ a b c d : Fin 8, ilBothS a b c d = true := by decide +kernel
theorem il_yesS (a b c d : Int) (h : ILv a b c d) : spec_Interleave.f 40 a b c d = some (ilW a b c d) := by
  obtain ⟨⟨a0, a1⟩, ⟨b0, b1⟩, ⟨c0, c1⟩, ⟨d0, d1⟩, h1, h2, h3, h4, h5, h6⟩ := h
  obtain ⟨a, rfl⟩ := Int.eq_ofNat_of_zero_le a0
  obtain ⟨b, rfl⟩ := Int.eq_ofNat_of_zero_le b0
  obtain ⟨c, rfl⟩ := Int.eq_ofNat_of_zero_le c0
  obtain ⟨d, rfl⟩ := Int.eq_ofNat_of_zero_le d0
  have := ilBothS_all ⟨a, by omega⟩ ⟨b, by omega⟩ ⟨c, by omega⟩ ⟨d, by omega⟩
  unfold ilBothS at this
  rw [if_pos (by simp only [ne_eq, Fin.mk.injEq]; omega)] at this
  exact eq_of_beq this
theorem sIl_eq (k : Nat) (a b c d : Int) (hk : 40 ≤ k) : spec_Interleave.f k a b c d = some (ilV a b c d) := by
  refine at_rounds (fun k => spec_Interleave.mono a b c d k) hk ?_
  unfold ilV
  by_cases h : ILv a b c d
  · rw [il_yesS a b c d h, decide_eq_true h, Bool.true_and]
  · rw [il_spec_no a b c d h, decide_eq_false h, Bool.false_and]

theorem sConf_eq (k : Nat) (a b c d a' b' c' d' : Int) (hk : 41 < k) : spec_Conflict.f k a b c d a' b' c' d' = some (cfV a b c d a' b' c' d') := by
  obtain ⟨k, rfl⟩ : ∃ m, k = m + 1 := ⟨k - 1, by omega⟩
  unfold spec_Conflict.f cfV cfW
  simp only [sIsPath, Option.bind_some, spec_Conflict.j0]
  cases h1 : isPathV a b c d with
  | false => simp
  | true =>
    cases h2 : isPathV a' b' c' d' with
    | false => simp
    | true =>
      obtain ⟨_, _, hc, hd, _⟩ := (isPathV_iff a b c d).1 h1
      obtain ⟨_, _, hc', hd', _⟩ := (isPathV_iff a' b' c' d').1 h2
      simp only [if_true, Bool.true_and, Bool.false_eq_true, if_false]
      by_cases hb : b = 2
      · rw [if_pos hb, if_pos hb]
        by_cases hb' : b' = 2
        · rw [if_pos hb', if_pos (by rw [hb']; rfl), if_pos hb]
        · rw [if_neg (by rw [beq_iff_eq]; exact hb'), if_pos hb, if_neg hb']
          by_cases h : c' = c
          · rw [if_pos h, h]; simp
          · rw [if_neg h]; simp [h]
      · rw [if_neg hb, if_neg hb, if_neg hb]
        by_cases hb' : b' = 2
        · rw [if_pos hb', if_pos hb']
          by_cases h : c = c'
          · rw [if_pos h, h]; simp
          · rw [if_neg h]; simp [h]
        · rw [if_neg hb', if_neg hb']
          by_cases h : c = c'
          · rw [if_pos h, if_pos h]
          · rw [if_neg h, if_neg h]
            by_cases h' : d = d'
            · rw [if_pos h', if_pos h']
            · rw [if_neg h', if_neg h', sIn_eq c hc.1 hc.2, sOut_eq d hd.1 hd.2, sIn_eq c' hc'.1 hc'.2, sOut_eq d' hd'.1 hd'.2]
              simp only [Option.bind_some]
              rw [sIl_eq k _ _ _ _ (by omega)]; rfl

theorem sCfq (k : Nat) (p q : S50) (hk : 41 < k) : spec_Conflict.f k p.f0 p.f1 p.f2 p.f3 q.f0 q.f1 q.f2 q.f3 = some (cfP p q) := sConf_eq k _ _ _ _ _ _ _ _ hk

theorem sAre_go (l : List S50) (hn : l.length ≤ 9223372036854775807) : ∀ (d k : Nat) (i : Nat), i + d = l.length → d < k → spec_ArePaths.l0 k l (i : Int) = some (decide (l.length ≤ 12) && arFrom l d i) := by
  intro d
  induction d with
  | zero =>
    intro k i hi hk
    obtain ⟨k, rfl⟩ : ∃ m, k = m + 1 := ⟨k - 1, by omega⟩
    simp only [spec_ArePaths.l0, arFrom]
    rw [if_neg (by omega), Bool.and_true]; congr 1; rw [decide_eq_decide]; omega
  | succ d ih =>
    intro k i hi hk
    obtain ⟨k, rfl⟩ : ∃ m, k = m + 1 := ⟨k - 1, by omega⟩
    simp only [spec_ArePaths.l0, arFrom, okAt]
    rw [if_pos (by omega), if_pos (by omega), sIsPath, Option.bind_some, rdI_get _ _ (by omega), wsucc (show i < l.length by omega) hn, ih k (i + 1) (by omega) (by omega), getDI l i (by omega)]
    have hpv : isPathV (l[i]).f0 (l[i]).f1 (l[i]).f2 (l[i]).f3 = pathV l[i] := rfl
    rw [hpv]
    cases hp : pathV l[i] with
    | false => rw [if_neg (by decide), Bool.false_and, Bool.false_and, Bool.and_false]
    | true =>
      rw [if_pos rfl]
      by_cases h0 : i = 0
      · subst h0
        rw [if_neg (by omega)]; simp
      · rw [if_pos (by omega), wpred (by omega) (by omega), if_pos (by omega), if_pos (by omega), rdI_get _ _ (by omega), getDI l (i - 1) (by omega), decide_eq_false h0, Bool.false_or, Bool.true_and]
        by_cases hc : (l[i - 1]).f0 < (l[i]).f0
        · rw [if_neg (by omega), decide_eq_true hc, Bool.true_and]
        · rw [if_pos (by omega), decide_eq_false hc, Bool.false_and, Bool.and_false]
theorem sAre_eq (k : Nat) (l : List S50) (hk : l.length < k) (hn : l.length ≤ 9223372036854775807) : spec_ArePaths.f k l = some (areV l) := by
  unfold spec_ArePaths.f areV
  have := sAre_go l hn l.length k 0 (by omega) hk
  rw [Int.natCast_zero] at this
  exact this

theorem sTog_go (l : List S50) (ids : List Int) (hl : l.length ≤ 1099511627776) (hn : ids.length ≤ 1099511627776) : ∀ (d k i : Nat), i + d = ids.length → d * (ids.length + 4) + l.length + 60 < k → (∀ j, j < i → 0 ≤ findV l (ids.getD j 0)) →
    spec_IsTogether.l0 k l ids (i : Int) = some (tgFrom l ids d i && areV l) := by
  intro d
  induction d with
  | zero =>
    intro k i hi hk hf
    obtain ⟨k, rfl⟩ : ∃ m, k = m + 1 := ⟨k - 1, by omega⟩
    simp only [spec_IsTogether.l0, tgFrom]
    rw [if_neg (by omega), sAre_eq k l (by omega) (by omega), Bool.true_and]; rfl
  | succ d ih =>
    intro k i hi hk hf
    rw [Nat.succ_mul] at hk
    obtain ⟨k, rfl⟩ : ∃ m, k = m + 1 + 1 := ⟨k - 2, by omega⟩
    have hg : rd ids (i : Int) = ids.getD i 0 := rd_nat _ _
    have inner : ∀ (e k j : Nat), j + e = i → e + d * (ids.length + 4) + l.length + 61 < k → 0 ≤ findV l (ids.getD i 0) →
        spec_IsTogether.l1 k l ids (i : Int) (findV l (ids.getD i 0)) (j : Int) = some (frFrom l (pOf l (ids.getD i 0)) ids e j && (tgFrom l ids d (i + 1) && areV l)) := by
      intro e
      induction e with
      | zero =>
        intro k j hj hk hfi
        obtain ⟨k, rfl⟩ : ∃ m, k = m + 1 := ⟨k - 1, by omega⟩
        simp only [spec_IsTogether.l1, frFrom]
        rw [if_neg (by omega), Bool.true_and, wsucc (show i < ids.length by omega) (by omega)]
        refine ih k (i + 1) (by omega) (by omega) (fun j hj => ?_)
        rcases Nat.lt_succ_iff_lt_or_eq.1 hj with h | rfl
        · exact hf j h
        · exact hfi
      | succ e ihe =>
        intro k j hj hk hfi
        obtain ⟨k, rfl⟩ : ∃ m, k = m + 1 := ⟨k - 1, by omega⟩
        obtain ⟨fi, _⟩ := findV_bd l _ hfi
        have hfj := hf j (by omega)
        obtain ⟨fj, _⟩ := findV_bd l _ hfj
        simp only [spec_IsTogether.l1, frFrom]
        have e1 : impl_FindPath.go l (ids.getD j 0) 0 = findV l (ids.getD j 0) := rfl
        rw [if_pos (by omega), if_pos hfi, if_pos fi, if_pos (by omega), if_pos (by omega), rd_nat, sFind_eq k l _ (by omega) (by omega), Option.bind_some, e1, if_pos hfj, if_pos fj, rd_find l _ hfi, rd_find l _ hfj, sCfq k _ _ (by omega), Option.bind_some, wsucc (show j < i by omega) (by omega)]
        cases hc : cfP (pOf l (ids.getD i 0)) (pOf l (ids.getD j 0)) with
        | true => rw [if_pos rfl]; rfl
        | false => rw [if_neg (by decide), ihe k (j + 1) (by omega) (by omega) hfi]; rfl
    simp only [spec_IsTogether.l0, spec_IsTogether.j1, tgFrom, tgAt]
    have e1 : impl_FindPath.go l (ids.getD i 0) 0 = findV l (ids.getD i 0) := rfl
    rw [if_pos (by omega), if_pos (by omega), hg, sFind_eq (k + 1) l _ (by omega) (by omega), Option.bind_some, e1]
    by_cases hfi : 0 ≤ findV l (ids.getD i 0)
    · rw [if_neg (by omega), decide_eq_true hfi, Bool.true_and]
      have hin := inner i k 0 (by omega) (by omega) hfi
      rw [Int.natCast_zero] at hin
      by_cases h0 : i = 0
      · rw [if_neg (by omega), if_neg (by decide), hin, decide_eq_true h0, Bool.true_or, Bool.true_and, Bool.and_assoc]
      · rw [if_pos (by omega), wpred (by omega) (by omega), if_pos (by omega), if_pos (by omega), rd_nat, decide_eq_false h0, Bool.false_or]
        by_cases hc : ids.getD (i - 1) 0 < ids.getD i 0
        · rw [decide_eq_false (by omega), if_neg (by decide), hin, decide_eq_true hc, Bool.true_and, Bool.and_assoc]
        · rw [decide_eq_true (by omega), if_pos rfl, decide_eq_false hc]; rfl
    · rw [if_pos (by omega), decide_eq_false hfi]; simp
theorem sTog_eq (k : Nat) (l : List S50) (ids : List Int) (hk : ids.length * (ids.length + 4) + l.length + 60 < k) (hl : l.length ≤ 1099511627776) (hn : ids.length ≤ 1099511627776) : spec_IsTogether.f k l ids = some (togV l ids) := by
  unfold spec_IsTogether.f togV
  have := sTog_go l ids hl hn ids.length k 0 (by omega) hk (fun j hj => absurd hj (by omega))
  rw [Int.natCast_zero] at this
  rw [this, Bool.and_comm]

theorem has_go (xs : List Int) (n : Int) (hn : xs.length ≤ 9223372036854775807) : ∀ (d k : Nat) (i : Nat), i + d = xs.length → d < k → spec_l6Has.l0 k xs n (i : Int) = some (decide (n ∈ xs.drop i)) := by
  intro d
  induction d with
  | zero =>
    intro k i hi hk
    obtain ⟨k, rfl⟩ : ∃ m, k = m + 1 := ⟨k - 1, by omega⟩
    simp only [spec_l6Has.l0]
    rw [if_neg (by omega), List.drop_of_length_le (by omega)]; simp
  | succ d ih =>
    intro k i hi hk
    obtain ⟨k, rfl⟩ : ∃ m, k = m + 1 := ⟨k - 1, by omega⟩
    simp only [spec_l6Has.l0]
    rw [if_pos (by omega), if_pos (by omega), rd_get _ _ (by omega), wsucc (show i < xs.length by omega) hn, ih k (i + 1) (by omega) (by omega), drop_cons xs i (by omega)]
    by_cases h : xs[i] = n
    · rw [if_pos h]; simp only [List.mem_cons, h, true_or, decide_true]
    · rw [if_neg h]; simp only [List.mem_cons, Ne.symm h, false_or]
theorem has_eq (k : Nat) (l : List Int) (n : Int) (hk : l.length < k) (hn : l.length ≤ 9223372036854775807) : spec_l6Has.f k l n = some (decide (n ∈ l)) := by
  unfold spec_l6Has.f
  have := has_go l n hn l.length k 0 (by omega) hk
  rw [Int.natCast_zero] at this
  rw [this]; rfl

theorem sFull_go (l : List S50) (ids : List Int) (hl : l.length ≤ 1048576) (hn : ids.length ≤ 1048576) : ∀ (d k i : Nat), i + d = l.length → d + (ids.length + 1) * (ids.length + 5) + l.length + ids.length + 62 < k → spec_IsFullStage.l0 k l ids (i : Int) = some ((l.drop i).all (fullV l ids) && togV l ids) := by
  intro d
  induction d with
  | zero =>
    intro k i hi hk
    obtain ⟨k, rfl⟩ : ∃ m, k = m + 1 := ⟨k - 1, by omega⟩
    have := put_fuel ids.length ids.length (by omega)
    simp only [spec_IsFullStage.l0]
    rw [if_neg (by omega), sTog_eq k l ids (by omega) (by omega) (by omega), Option.bind_some, List.drop_of_length_le (by omega)]; rfl
  | succ d ih =>
    intro k i hi hk
    obtain ⟨k, rfl⟩ : ∃ m, k = m + 1 := ⟨k - 1, by omega⟩
    have hp := putV_length ids l[i].f0
    have := put_fuel ids.length _ hp
    simp only [spec_IsFullStage.l0]
    rw [if_pos (by omega), if_pos (by omega), rdI_get l i (by omega), has_eq k ids _ (by omega) (by omega), Option.bind_some, sPut_eq k ids _ (by omega) (by omega), Option.bind_some, sTog_eq k l _ (by omega) (by omega) (by omega), Option.bind_some, wsucc (show i < l.length by omega) (by omega), ih k (i + 1) (by omega) (by omega), drop_cons l i (by omega), List.all_cons]
    unfold fullV
    cases decide (l[i].f0 ∈ ids) <;> cases togV l (putV ids l[i].f0) <;> simp
theorem sFull_eq (k : Nat) (l : List S50) (ids : List Int) (hk : 2 * l.length + (ids.length + 1) * (ids.length + 5) + ids.length + 62 < k) (hl : l.length ≤ 1048576) (hn : ids.length ≤ 1048576) : spec_IsFullStage.f k l ids = some (isFullV l ids) := by
  unfold spec_IsFullStage.f isFullV
  have := sFull_go l ids hl hn l.length k 0 (by omega) (by omega)
  rw [Int.natCast_zero, List.drop_zero] at this
  exact this

/-! The search for stages comes to an end. -/
theorem search_is (l : List S50) (hl : l.length ≤ 7) : ∀ (d a : Nat) (ids : List Int) (out : List (List Int)), a + d = l.length → ids.length ≤ a → out.length ≤ 40 → (∀ s ∈ out, 1 ≤ s.length ∧ s.length ≤ 7) → ∃ r, (∀ k, d + 300 < k → spec_l6Search.f k l (a : Int) ids out = some r) ∧ r.length ≤ 40 ∧ ∀ s ∈ r, 1 ≤ s.length ∧ s.length ≤ 7 := by
  intro d
  induction d with
  | zero =>
    intro a ids out ha hi ho hs
    have nb : (ids.length + 1) * (ids.length + 5) ≤ 8 * 12 := Nat.mul_le_mul (by omega) (by omega)
    by_cases h1 : 0 < (ids.length : Int) ∧ (out.length : Int) < 40 ∧ isFullV l ids = true
    · refine ⟨out ++ [ids], fun k hk => ?_, by simp; omega, fun s hs' => ?_⟩
      · obtain ⟨k, rfl⟩ : ∃ m, k = m + 1 := ⟨k - 1, by omega⟩
        simp only [spec_l6Search.f]
        rw [if_pos (by omega), if_pos h1.1, if_pos h1.2.1, sFull_eq k l ids (by omega) (by omega) (by omega), Option.bind_some, if_pos h1.2.2, if_pos (by omega)]
      · rcases List.mem_append.1 hs' with h | h
        · exact hs s h
        · have := h1.1; rw [List.mem_singleton.1 h]; omega
    · refine ⟨out, fun k hk => ?_, ho, hs⟩
      obtain ⟨k, rfl⟩ : ∃ m, k = m + 1 := ⟨k - 1, by omega⟩
      simp only [spec_l6Search.f]
      rw [if_pos (by omega)]
      by_cases c1 : 0 < (ids.length : Int)
      · rw [if_pos c1]
        by_cases c2 : (out.length : Int) < 40
        · rw [if_pos c2, sFull_eq k l ids (by omega) (by omega) (by omega), Option.bind_some, if_neg (fun h => h1 ⟨c1, c2, h⟩)]
        · rw [if_neg c2]
      · rw [if_neg c1]
  | succ d ih =>
    intro a ids out ha hi ho hs
    have nb : (ids.length + 1) * (ids.length + 1 + 4) ≤ 8 * 12 := Nat.mul_le_mul (by omega) (by omega)
    have wa : wrap64 ((a : Int) + 1) = ((a + 1 : Nat) : Int) := by unfold wrap64; omega
    generalize hq : (rd_T50 l (a : Int)).f0 = q
    have len1 : (ids ++ [q]).length = ids.length + 1 := by simp
    by_cases h : togV l (ids ++ [q]) = true
    · obtain ⟨o1, e1, o2, o3⟩ := ih (a + 1) (ids ++ [q]) out (by omega) (by omega) ho hs
      obtain ⟨r, e2, r2, r3⟩ := ih (a + 1) ids o1 (by omega) (by omega) o2 o3
      refine ⟨r, fun k hk => ?_, r2, r3⟩
      obtain ⟨k, rfl⟩ : ∃ m, k = m + 1 := ⟨k - 1, by omega⟩
      simp only [spec_l6Search.f]
      rw [if_neg (by omega), if_pos (by omega), if_pos (by omega), if_pos (by omega), hq, sTog_eq k l (ids ++ [q]) (by rw [len1]; omega) (by omega) (by omega), Option.bind_some, if_pos h, wa, e1 k (by omega), Option.bind_some, e2 k (by omega)]
    · obtain ⟨r, e2, r2, r3⟩ := ih (a + 1) ids out (by omega) (by omega) ho hs
      refine ⟨r, fun k hk => ?_, r2, r3⟩
      obtain ⟨k, rfl⟩ : ∃ m, k = m + 1 := ⟨k - 1, by omega⟩
      simp only [spec_l6Search.f]
      rw [if_neg (by omega), if_pos (by omega), if_pos (by omega), if_pos (by omega), hq, sTog_eq k l (ids ++ [q]) (by rw [len1]; omega) (by omega) (by omega), Option.bind_some, if_neg h, wa, e2 k (by omega)]
theorem stages_is (l : List S50) (hl : l.length ≤ 7) : ∃ r, (∀ k, 310 < k → spec_StagesOf.f k l = some r) ∧ r.length ≤ 40 ∧ ∀ s ∈ r, 1 ≤ s.length ∧ s.length ≤ 7 := by
  by_cases h : areV l = true
  · obtain ⟨r, e, r2, r3⟩ := search_is l hl l.length 0 [] [] (by omega) (by simp) (by simp) (by simp)
    refine ⟨r, fun k hk => ?_, r2, r3⟩
    unfold spec_StagesOf.f
    rw [sAre_eq k l (by omega) (by omega), Option.bind_some, if_pos h, ← e k (by omega), Int.natCast_zero]
  · refine ⟨[], fun k hk => ?_, by simp, by simp⟩
    unfold spec_StagesOf.f
    rw [sAre_eq k l (by omega) (by omega), Option.bind_some, if_neg h]

theorem l7j_is (b : List Int) (x : List S50) (st : List (List Int)) (hst : 1 ≤ st.length) (h40 : st.length ≤ 40) (hs : ∀ s ∈ st, 1 ≤ s.length ∧ s.length ≤ 7) (i h : Int) (c : CurOk b i) : ∃ f t i' h', (∀ k, 0 < k → spec_l7Two.j0 k x st false b i h = some (x, f, t, i', h')) ∧ f.length ≤ 8 ∧ t.length ≤ 8 := by
  obtain ⟨p, i1, h1, e1, p0, p1, _, c1⟩ := below_is b i h (st.length : Int) c (by omega)
  obtain ⟨q, i2, h2, e2, q0, q1, _, c2⟩ := below_is b i1 h1 (st.length : Int) c1 (by omega)
  obtain ⟨o, i3, h3, e3, c3⟩ := once_is b i2 h2 4 c2 (by omega)
  have := p1 (by omega)
  have := q1 (by omega)
  have lp : 1 ≤ (rd_L3 st p).length ∧ (rd_L3 st p).length ≤ 7 := hs _ (by unfold rd_L3; rw [List.getD_eq_getElem?_getD, List.getElem?_eq_getElem (by omega)]; exact List.getElem_mem _)
  have lq : 1 ≤ (rd_L3 st q).length ∧ (rd_L3 st q).length ≤ 7 := hs _ (by unfold rd_L3; rw [List.getD_eq_getElem?_getD, List.getElem?_eq_getElem (by omega)]; exact List.getElem_mem _)
  cases o with
  | true =>
    refine ⟨rd_L3 st p, [] ++ (rd_L3 st q).drop 1, i3, h3, fun k hk => ?_, by omega, by simp; omega⟩
    obtain ⟨k, rfl⟩ : ∃ m, k = m + 1 := ⟨k - 1, by omega⟩
    simp only [spec_l7Two.j0]
    rw [if_neg (by decide), e1, Option.bind_some]; dsimp only
    rw [if_pos p0, if_pos (by omega), e2, Option.bind_some]; dsimp only
    rw [if_pos q0, if_pos (by omega), e3, Option.bind_some]; dsimp only
    rw [if_pos rfl, if_pos (by omega), Option.bind_some, Option.bind_some, if_pos (by simp; omega)]
  | false =>
    refine ⟨rd_L3 st p, [] ++ rd_L3 st q, i3, h3, fun k hk => ?_, by omega, by simp; omega⟩
    obtain ⟨k, rfl⟩ : ∃ m, k = m + 1 := ⟨k - 1, by omega⟩
    simp only [spec_l7Two.j0]
    rw [if_neg (by decide), e1, Option.bind_some]; dsimp only
    rw [if_pos p0, if_pos (by omega), e2, Option.bind_some]; dsimp only
    rw [if_pos q0, if_pos (by omega), e3, Option.bind_some]; dsimp only
    rw [if_neg (by decide), Option.bind_some, if_pos (by simp; omega)]
theorem two_is (b : List Int) (i h : Int) (c : CurOk b i) : ∃ x f t i' h', (∀ k, 310 < k → spec_l7Two.f k b i h = some (x, f, t, i', h')) ∧ x.length ≤ 7 ∧ f.length ≤ 8 ∧ t.length ≤ 8 := by
  obtain ⟨x, i1, h1, e1, _, x7, c1⟩ := any5_is b i h c
  obtain ⟨st, e2, st40, hs⟩ := stages_is x x7
  have jt : ∀ i' h', ∀ k, 0 < k → spec_l7Two.j0 k x st true b i' h' = some (x, [1, 2], [3], i', h') := fun i' h' k hk => by
    obtain ⟨k, rfl⟩ : ∃ m, k = m + 1 := ⟨k - 1, by omega⟩
    simp [spec_l7Two.j0]
  by_cases h0 : (st.length : Int) = 0
  · refine ⟨x, [1, 2], [3], i1, h1, fun k hk => ?_, x7, by simp, by simp⟩
    unfold spec_l7Two.f
    rw [e1 k (by omega), Option.bind_some]; dsimp only
    rw [e2 k hk, Option.bind_some, if_pos h0, jt _ _ k (by omega)]
  · obtain ⟨o, i2, h2, e3, c2⟩ := once_is b i1 h1 6 c1 (by omega)
    cases o with
    | true =>
      refine ⟨x, [1, 2], [3], i2, h2, fun k hk => ?_, x7, by simp, by simp⟩
      unfold spec_l7Two.f
      rw [e1 k (by omega), Option.bind_some]; dsimp only
      rw [e2 k hk, Option.bind_some, if_neg h0, e3, Option.bind_some]; dsimp only
      rw [jt _ _ k (by omega)]
    | false =>
      obtain ⟨f, t, i3, h3, e4, f8, t8⟩ := l7j_is b x st (by omega) st40 hs i2 h2 c2
      refine ⟨x, f, t, i3, h3, fun k hk => ?_, x7, f8, t8⟩
      unfold spec_l7Two.f
      rw [e1 k (by omega), Option.bind_some]; dsimp only
      rw [e2 k hk, Option.bind_some, if_neg h0, e3, Option.bind_some]; dsimp only
      rw [e4 k (by omega)]

theorem index_go (xs : List Int) (n : Int) (hn : xs.length ≤ 9223372036854775807) : ∀ (d k : Nat) (i : Nat), i + d = xs.length → d < k →
    ∃ r, slices_Index_int_int.l0 k xs n (xs.length : Int) (i : Int) = some r ∧ (0 ≤ r ↔ n ∈ xs.drop i) := by
  intro d
  induction d with
  | zero =>
    intro k i hi hk
    obtain ⟨k, rfl⟩ : ∃ m, k = m + 1 := ⟨k - 1, by omega⟩
    simp only [slices_Index_int_int.l0]
    rw [if_neg (by omega), List.drop_of_length_le (by omega)]
    exact ⟨-1, rfl, by simp⟩
  | succ d ih =>
    intro k i hi hk
    obtain ⟨k, rfl⟩ : ∃ m, k = m + 1 := ⟨k - 1, by omega⟩
    simp only [slices_Index_int_int.l0]
    rw [if_pos (by omega), if_pos (by omega), if_pos (by omega), rd_get _ _ (by omega), wsucc (show i < xs.length by omega) hn, drop_cons xs i (by omega)]
    by_cases h : n = xs[i]
    · rw [if_pos h]; exact ⟨_, rfl, by simp only [List.mem_cons, ← h, true_or, iff_true]; omega⟩
    · rw [if_neg h]
      obtain ⟨r, hr, hiff⟩ := ih k (i + 1) (by omega) (by omega)
      exact ⟨r, hr, by rw [hiff]; simp only [List.mem_cons, h, false_or]⟩
theorem contains_eq (k : Nat) (l : List Int) (n : Int) (hk : l.length < k) (hn : l.length ≤ 9223372036854775807) : slices_Contains_int_int.f k l n = some (decide (n ∈ l)) := by
  unfold slices_Contains_int_int.f slices_Index_int_int.f
  obtain ⟨r, hr, hiff⟩ := index_go l n hn l.length k 0 (by omega) hk
  rw [Int.natCast_zero] at hr
  rw [hr, Option.bind_some]
  congr 1
  rw [decide_eq_decide]
  simpa using hiff

theorem sieve_go (xs ys : List Int) (b : Bool) (hn : xs.length ≤ 1099511627776) (hy : ys.length ≤ 1099511627776) : ∀ (d k : Nat) (i : Nat) (out : List Int), i + d = xs.length → d + ys.length + 1 < k → out.length ≤ i →
    impl_sieve.l0 k ys b out xs (xs.length : Int) (i : Int) = some (out ++ (xs.drop i).filter fun x => decide (x ∈ ys) == b) := by
  intro d
  induction d with
  | zero =>
    intro k i out hi hk ho
    obtain ⟨k, rfl⟩ : ∃ m, k = m + 1 := ⟨k - 1, by omega⟩
    simp only [impl_sieve.l0]
    rw [if_neg (by omega), List.drop_of_length_le (by omega)]; simp
  | succ d ih =>
    intro k i out hi hk ho
    obtain ⟨k, rfl⟩ : ∃ m, k = m + 1 := ⟨k - 1, by omega⟩
    simp only [impl_sieve.l0]
    rw [if_pos (by omega), if_pos (by omega), if_pos (by omega), rd_get _ _ (by omega), contains_eq k ys _ (by omega) (by omega), Option.bind_some, wsucc (show i < xs.length by omega) (by omega), drop_cons xs i (by omega), List.filter_cons]
    by_cases h : (decide (xs[i] ∈ ys) == b) = true
    · rw [if_pos h, if_pos h, if_pos (by omega), ih k (i + 1) _ (by omega) (by omega) (by simp; omega), List.append_assoc]; rfl
    · rw [if_neg h, if_neg h, ih k (i + 1) _ (by omega) (by omega) (by omega)]
theorem sieve_eq (k : Nat) (l m : List Int) (b : Bool) (hk : l.length + m.length + 1 < k) (hn : l.length ≤ 1099511627776) (hy : m.length ≤ 1099511627776) : impl_sieve.f k l m b = some (l.filter fun x => decide (x ∈ m) == b) := by
  unfold impl_sieve.f
  have := sieve_go l m b hn hy l.length k 0 [] (by omega) hk (by simp)
  rw [Int.natCast_zero] at this
  rw [this]; rfl

theorem iCloses_eq (k : Nat) (l m : List Int) (hk : l.length + m.length + 1 < k) (hn : l.length ≤ 1099511627776) (hy : m.length ≤ 1099511627776) : impl_Closes.f k l m = some (l.filter fun x => decide (x ∈ m) == false) := by
  unfold impl_Closes.f
  rw [sieve_eq k l m false hk hn hy]; rfl

def clearV (a b c d : Int) : Int := if isPathV a b c d = true then (if b = 1 then 2 else if b = 3 then 3 else 5) else 0

theorem iClearOf (a b c d : Int) : impl_ClearOf.f a b c d = some (clearV a b c d) := by
  unfold impl_ClearOf.f clearV
  rw [iIsPath, Option.bind_some]
  split
  · split
    · rfl
    · split <;> rfl
  · rfl

def clP (p : S50) : Int := clearV p.f0 p.f1 p.f2 p.f3
/-- The best clearing between the path x and the paths ys, from m on. -/
def cIn (l : List S50) (x : Int) (ys : List Int) (m : Int) : Int := ys.foldl (fun m y => if cfP (pOf l x) (pOf l y) = true then mx m (clP (pOf l x)) else m) m
def cOut (l : List S50) (xs ys : List Int) (m : Int) : Int := xs.foldl (fun m x => cIn l x ys m) m
theorem tgFrom_find (l : List S50) (ids : List Int) : ∀ (d i : Nat), i + d = ids.length → tgFrom l ids d i = true → ∀ x ∈ ids.drop i, 0 ≤ findV l x := by
  intro d
  induction d with
  | zero => intro i hi _ x hx; rw [List.drop_of_length_le (by omega)] at hx; simp at hx
  | succ d ih =>
    intro i hi h x hx
    simp only [tgFrom, tgAt, Bool.and_eq_true, decide_eq_true_eq] at h
    rw [drop_cons ids i (by omega)] at hx
    rcases List.mem_cons.1 hx with rfl | hx
    · have := h.1.1
      rwa [List.getD_eq_getElem?_getD, List.getElem?_eq_getElem (by omega)] at this
    · exact ih (i + 1) (by omega) h.2 x hx
theorem togV_find (l : List S50) (ids : List Int) (h : togV l ids = true) : ∀ x ∈ ids, 0 ≤ findV l x := by
  unfold togV at h
  rw [Bool.and_eq_true] at h
  have := tgFrom_find l ids ids.length 0 (by omega) h.2
  simpa using this
def cbV (l : List S50) (a b : List Int) : Int := if togV l a = true ∧ togV l b = true then cOut l (a.filter fun x => decide (x ∈ b) == false) (b.filter fun x => decide (x ∈ a) == false) 0 else 0

theorem iCB_go (l : List S50) (m1 m2 xs ys : List Int) (hxl : xs.length ≤ 1099511627776) (hyl : ys.length ≤ 1099511627776) (hcl : ∀ k, m1.length + m2.length + 1 < k → impl_Closes.f k m2 m1 = some ys) (hx : ∀ x ∈ xs, 0 ≤ findV l x) (hy : ∀ x ∈ ys, 0 ≤ findV l x) : ∀ (d k i : Nat) (m : Int), i + d = xs.length → d * (ys.length + 2) + m1.length + m2.length + 62 < k →
    impl_ClearBetween.l0 k l m1 m2 m xs (xs.length : Int) (i : Int) = some (cOut l (xs.drop i) ys m) := by
  intro d
  induction d with
  | zero =>
    intro k i m hi hk
    obtain ⟨k, rfl⟩ : ∃ m, k = m + 1 := ⟨k - 1, by omega⟩
    simp only [impl_ClearBetween.l0]
    rw [if_neg (by omega), List.drop_of_length_le (by omega)]; rfl
  | succ d ih =>
    intro k i m hi hk
    rw [Nat.succ_mul] at hk
    obtain ⟨k, rfl⟩ : ∃ m, k = m + 1 := ⟨k - 1, by omega⟩
    have hxi : 0 ≤ findV l xs[i] := hx _ (List.getElem_mem _)
    obtain ⟨fi, _⟩ := findV_bd l _ hxi
    have inner : ∀ (e k j : Nat) (m : Int), j + e = ys.length → e + d * (ys.length + 2) + m1.length + m2.length + 63 < k →
        impl_ClearBetween.l1 k l m1 m2 m xs[i] xs (xs.length : Int) (i : Int) ys (ys.length : Int) (j : Int) = some (cOut l (xs.drop (i + 1)) ys (cIn l xs[i] (ys.drop j) m)) := by
      intro e
      induction e with
      | zero =>
        intro k j m hj hk
        obtain ⟨k, rfl⟩ : ∃ m, k = m + 1 := ⟨k - 1, by omega⟩
        simp only [impl_ClearBetween.l1]
        rw [if_neg (by omega), wsucc (show i < xs.length by omega) (by omega), ih k (i + 1) m (by omega) (by omega), List.drop_of_length_le (show ys.length ≤ j by omega)]; rfl
      | succ e ihe =>
        intro k j m hj hk
        obtain ⟨k, rfl⟩ : ∃ m, k = m + 1 := ⟨k - 1, by omega⟩
        have hyj : 0 ≤ findV l ys[j] := hy _ (List.getElem_mem _)
        obtain ⟨fj, _⟩ := findV_bd l _ hyj
        have e1 : ∀ x, impl_FindPath.go l x 0 = findV l x := fun _ => rfl
        simp only [impl_ClearBetween.l1, impl_FindPath.f, e1]
        rw [if_pos (by omega), if_pos (by omega), if_pos (by omega), Option.bind_some, if_pos hxi, if_pos fi, rd_get ys j (by omega), Option.bind_some, if_pos hyj, if_pos fj, rd_find l _ hxi, rd_find l _ hyj, iCfq k _ _ (by omega), Option.bind_some, iClearOf, Option.bind_some, wsucc (show j < ys.length by omega) (by omega), drop_cons ys j (by omega)]
        show _ = some (cOut l (xs.drop (i + 1)) ys (cIn l xs[i] (ys.drop (j + 1)) (if cfP (pOf l xs[i]) (pOf l ys[j]) = true then mx m (clP (pOf l xs[i])) else m)))
        cases hc : cfP (pOf l xs[i]) (pOf l ys[j]) with
        | true => rw [if_pos rfl, if_pos rfl, ← ihe k (j + 1) _ (by omega) (by omega)]; rfl
        | false => rw [if_neg (by decide), if_neg (by decide), ihe k (j + 1) _ (by omega) (by omega)]
    simp only [impl_ClearBetween.l0]
    have hin := inner ys.length k 0 m (by omega) (by omega)
    rw [Int.natCast_zero, List.drop_zero] at hin
    rw [if_pos (by omega), if_pos (by omega), if_pos (by omega), hcl k (by omega), Option.bind_some, rd_get xs i (by omega), hin, drop_cons xs i (by omega)]
    rfl
theorem iCB_eq (k : Nat) (l : List S50) (a b : List Int) (hk : a.length * (b.length + 2) + a.length * (a.length + 4) + b.length * (b.length + 4) + l.length + a.length + b.length + 63 < k) (hl : l.length ≤ 1099511627776) (ha : a.length ≤ 1099511627776) (hb : b.length ≤ 1099511627776) : impl_ClearBetween.f k l a b = some (cbV l a b) := by
  obtain ⟨Q1, hQ1⟩ : ∃ Q, Q = a.length * (a.length + 4) := ⟨_, rfl⟩
  obtain ⟨Q2, hQ2⟩ : ∃ Q, Q = b.length * (b.length + 4) := ⟨_, rfl⟩
  obtain ⟨Q3, hQ3⟩ : ∃ Q, Q = a.length * (b.length + 2) := ⟨_, rfl⟩
  rw [← hQ1, ← hQ2, ← hQ3] at hk
  unfold impl_ClearBetween.f cbV
  obtain ⟨k, rfl⟩ : ∃ m, k = m + 1 := ⟨k - 1, by omega⟩
  rw [iTog_eq (k + 1) l a (by omega) hl ha, Option.bind_some]
  simp only [impl_ClearBetween.j0]
  by_cases h1 : togV l a = true
  · rw [if_pos h1, iTog_eq (k + 1) l b (by omega) hl hb, Option.bind_some]
    by_cases h2 : togV l b = true
    · rw [if_pos (show togV l a = true ∧ togV l b = true from ⟨h1, h2⟩), h2, if_neg (show ¬ (!true) = true by decide), iCloses_eq k a b (by omega) ha hb, Option.bind_some]
      have w1 : (a.filter fun x => decide (x ∈ b) == false).length ≤ a.length := List.length_filter_le _ _
      have w2 : (b.filter fun x => decide (x ∈ a) == false).length ≤ b.length := List.length_filter_le _ _
      have w3 : (a.filter fun x => decide (x ∈ b) == false).length * ((b.filter fun x => decide (x ∈ a) == false).length + 2) ≤ Q3 := by rw [hQ3]; exact Nat.mul_le_mul w1 (by omega)
      have := iCB_go l a b (a.filter fun x => decide (x ∈ b) == false) (b.filter fun x => decide (x ∈ a) == false) (by omega) (by omega) (fun k hk => iCloses_eq k b a (by omega) hb ha) (fun x hx => togV_find l a h1 x (List.mem_filter.1 hx).1) (fun x hx => togV_find l b h2 x (List.mem_filter.1 hx).1) _ k 0 0 (Nat.zero_add _) (by omega)
      rw [Int.natCast_zero, List.drop_zero] at this
      exact this
    · simp only [Bool.not_eq_true] at h2; rw [h2, if_pos (show (!false) = true by decide), if_neg (by simp)]
  · rw [if_neg h1, if_pos trivial, if_neg (fun h => h1 h.1)]

def mostV (l : List S50) : Int → Int := fun m => l.foldl (fun m p => mx m (clearV p.f0 p.f1 p.f2 p.f3)) m
def longV (l : List S50) : Int := if areV l = true then mostV l 0 else 0
theorem iLong_go (l : List S50) (hn : l.length ≤ 9223372036854775807) : ∀ (d k : Nat) (i : Nat) (m : Int), i + d = l.length → d < k → impl_LongestClear.l0 k m l (l.length : Int) (i : Int) = some (mostV (l.drop i) m) := by
  intro d
  induction d with
  | zero =>
    intro k i m hi hk
    obtain ⟨k, rfl⟩ : ∃ m, k = m + 1 := ⟨k - 1, by omega⟩
    simp only [impl_LongestClear.l0]
    rw [if_neg (by omega), List.drop_of_length_le (by omega)]; rfl
  | succ d ih =>
    intro k i m hi hk
    obtain ⟨k, rfl⟩ : ∃ m, k = m + 1 := ⟨k - 1, by omega⟩
    simp only [impl_LongestClear.l0]
    rw [if_pos (by omega), if_pos (by omega), if_pos (by omega), iClearOf, Option.bind_some, rdI_get _ _ (by omega), wsucc (show i < l.length by omega) hn, ih k (i + 1) _ (by omega) (by omega), drop_cons l i (by omega)]
    rfl
theorem iLong_eq (k : Nat) (l : List S50) (hk : l.length < k) (hn : l.length ≤ 9223372036854775807) : impl_LongestClear.f k l = some (longV l) := by
  unfold impl_LongestClear.f longV
  rw [iAre_eq k l hk hn, Option.bind_some]
  have := iLong_go l hn l.length k 0 0 (by omega) hk
  rw [Int.natCast_zero] at this
  split
  · exact this
  · rfl

theorem iStaysOpen_eq (k : Nat) (l m : List Int) (hk : l.length + m.length + 1 < k) (hn : l.length ≤ 1099511627776) (hy : m.length ≤ 1099511627776) : impl_StaysOpen.f k l m = some (l.filter fun x => decide (x ∈ m) == true) := by
  unfold impl_StaysOpen.f
  rw [sieve_eq k l m true hk hn hy]; rfl

theorem lcon_go (xs : List Int) (n : Int) (hn : xs.length ≤ 9223372036854775807) : ∀ (d k : Nat) (i : Nat), i + d = xs.length → d < k → laws_contains.l0 k xs n (i : Int) = some (decide (n ∈ xs.drop i)) := by
  intro d
  induction d with
  | zero =>
    intro k i hi hk
    obtain ⟨k, rfl⟩ : ∃ m, k = m + 1 := ⟨k - 1, by omega⟩
    simp only [laws_contains.l0]
    rw [if_neg (by omega), List.drop_of_length_le (by omega)]; simp
  | succ d ih =>
    intro k i hi hk
    obtain ⟨k, rfl⟩ : ∃ m, k = m + 1 := ⟨k - 1, by omega⟩
    simp only [laws_contains.l0]
    rw [if_pos (by omega), if_pos (by omega), rd_get _ _ (by omega), wsucc (show i < xs.length by omega) hn, ih k (i + 1) (by omega) (by omega), drop_cons xs i (by omega)]
    by_cases h : xs[i] = n
    · rw [if_pos h]; simp only [List.mem_cons, h, true_or, decide_true]
    · rw [if_neg h]; simp only [List.mem_cons, Ne.symm h, false_or]
theorem lcon_eq (k : Nat) (l : List Int) (n : Int) (hk : l.length < k) (hn : l.length ≤ 9223372036854775807) : laws_contains.f k l n = some (decide (n ∈ l)) := by
  unfold laws_contains.f
  have := lcon_go l n hn l.length k 0 (by omega) hk
  rw [Int.natCast_zero] at this
  rw [this]; rfl

theorem filt_split (p : Int → Bool) : ∀ l : List Int, (l.filter fun x => p x == true).length + (l.filter fun x => p x == false).length = l.length := by
  intro l
  induction l with
  | nil => rfl
  | cons x r ih =>
    cases h : p x with
    | true => rw [List.filter_cons_of_pos (by simp [h]), List.filter_cons_of_neg (by simp [h]), List.length_cons, List.length_cons]; omega
    | false => rw [List.filter_cons_of_neg (by simp [h]), List.filter_cons_of_pos (by simp [h]), List.length_cons, List.length_cons]; omega
theorem within_go (xs ys : List Int) (hn : xs.length ≤ 1048576) (hy : ys.length ≤ 1048576) (h : ∀ x ∈ xs, x ∈ ys) : ∀ (d k i : Nat), i + d = xs.length → d + ys.length < k → laws_within.l0 k xs ys (i : Int) = some true := by
  intro d
  induction d with
  | zero =>
    intro k i hi hk
    obtain ⟨k, rfl⟩ : ∃ m, k = m + 1 := ⟨k - 1, by omega⟩
    simp only [laws_within.l0]
    rw [if_neg (by omega)]
  | succ d ih =>
    intro k i hi hk
    obtain ⟨k, rfl⟩ : ∃ m, k = m + 1 := ⟨k - 1, by omega⟩
    simp only [laws_within.l0]
    rw [if_pos (by omega), if_pos (by omega), rd_get xs i (by omega), lcon_eq k ys _ (by omega) (by omega), Option.bind_some, if_pos (decide_eq_true (h _ (List.getElem_mem _))), wsucc (show i < xs.length by omega) (by omega), ih k (i + 1) (by omega) (by omega)]
theorem within_eq (k : Nat) (xs ys : List Int) (hk : xs.length + ys.length < k) (hn : xs.length ≤ 1048576) (hy : ys.length ≤ 1048576) (h : ∀ x ∈ xs, x ∈ ys) : laws_within.f k xs ys = some true := by
  have := within_go xs ys hn hy h xs.length k 0 (by omega) hk
  rw [Int.natCast_zero] at this
  exact this
theorem mx_le {a b M : Int} (h : a ≤ M) (k : b ≤ M) : mx a b ≤ M := by unfold mx; split <;> assumption
theorem le_mx (a b : Int) : a ≤ mx a b ∧ b ≤ mx a b := by unfold mx; split <;> omega
theorem cIn_le (l : List S50) (x M : Int) (h : clP (pOf l x) ≤ M) : ∀ (ys : List Int) (m : Int), m ≤ M → m ≤ cIn l x ys m ∧ cIn l x ys m ≤ M := by
  intro ys
  induction ys with
  | nil => intro m hm; exact ⟨Int.le_refl _, hm⟩
  | cons y r ih =>
    intro m hm
    show m ≤ cIn l x r (if cfP (pOf l x) (pOf l y) = true then mx m (clP (pOf l x)) else m) ∧ cIn l x r (if cfP (pOf l x) (pOf l y) = true then mx m (clP (pOf l x)) else m) ≤ M
    split
    · have := ih (mx m (clP (pOf l x))) (mx_le hm h)
      have := (le_mx m (clP (pOf l x))).1
      omega
    · exact ih m hm
theorem cOut_le (l : List S50) (M : Int) (ys : List Int) : ∀ (xs : List Int) (m : Int), (∀ x ∈ xs, clP (pOf l x) ≤ M) → m ≤ M → m ≤ cOut l xs ys m ∧ cOut l xs ys m ≤ M := by
  intro xs
  induction xs with
  | nil => intro m _ hm; exact ⟨Int.le_refl _, hm⟩
  | cons x r ih =>
    intro m h hm
    have h1 := cIn_le l x M (h x List.mem_cons_self) ys m hm
    have h2 := ih (cIn l x ys m) (fun y hy => h y (List.mem_cons_of_mem _ hy)) h1.2
    show m ≤ cOut l r ys (cIn l x ys m) ∧ cOut l r ys (cIn l x ys m) ≤ M
    omega
theorem most_ge : ∀ (l : List S50) (m : Int), m ≤ mostV l m ∧ ∀ p ∈ l, clP p ≤ mostV l m := by
  intro l
  induction l with
  | nil => intro m; exact ⟨Int.le_refl _, fun p hp => by cases hp⟩
  | cons q r ih =>
    intro m
    have h1 := ih (mx m (clP q))
    have h2 := le_mx m (clP q)
    show m ≤ mostV r (mx m (clP q)) ∧ ∀ p ∈ q :: r, clP p ≤ mostV r (mx m (clP q))
    refine ⟨by omega, fun p hp => ?_⟩
    rcases List.mem_cons.1 hp with rfl | hp
    · omega
    · exact h1.2 p hp
theorem long_nn (l : List S50) : 0 ≤ longV l := by
  unfold longV
  split
  · exact (most_ge l 0).1
  · exact Int.le_refl _
theorem cb_le (l : List S50) (a b : List Int) : 0 ≤ cbV l a b ∧ cbV l a b ≤ longV l := by
  unfold cbV
  split
  · rename_i h
    have ha : areV l = true := by have := h.1; unfold togV at this; rw [Bool.and_eq_true] at this; exact this.1
    refine cOut_le l (longV l) _ _ 0 (fun x hx => ?_) (long_nn l)
    have hf := togV_find l a h.1 x (List.mem_filter.1 hx).1
    obtain ⟨fb, _⟩ := findV_bd l x hf
    unfold longV
    rw [if_pos ha]
    refine (most_ge l 0).2 _ ?_
    unfold pOf
    rw [List.getD_eq_getElem?_getD, List.getElem?_eq_getElem (by omega)]
    exact List.getElem_mem _
  · exact ⟨Int.le_refl _, long_nn l⟩
theorem cb_self (l : List S50) (a : List Int) : cbV l a a = 0 := by
  unfold cbV
  have e : (a.filter fun x => decide (x ∈ a) == false) = [] := by
    rw [List.filter_eq_nil_iff]
    intro x hx
    simp [hx]
  rw [e]
  split <;> rfl
theorem drawCb_is (l : List Int) (hb : ∀ x ∈ l, 0 ≤ x ∧ x < 256) (hn : l.length ≤ 1048576) : ∃ x f t, (∀ k, l.length + 310 < k → spec_DrawClearBetween.f k l = some (x, f, t)) ∧ x.length ≤ 7 ∧ f.length ≤ 8 ∧ t.length ≤ 8 := by
  obtain ⟨h, e0, c0⟩ := new_is l hb hn
  obtain ⟨x, f, t, i1, h1, e1, x7, f8, t8⟩ := two_is l 0 h c0
  refine ⟨x, f, t, fun k hk => ?_, x7, f8, t8⟩
  unfold spec_DrawClearBetween.f
  rw [e0 k (by omega), Option.bind_some]; dsimp only
  rw [e1 k (by omega), Option.bind_some]
theorem drawPath_is (l : List Int) (hb : ∀ x ∈ l, 0 ≤ x ∧ x < 256) (hn : l.length ≤ 1048576) : ∃ a b c d, ∀ k, l.length < k → spec_DrawClearOf.f k l = some (a, b, c, d) := by
  obtain ⟨h, e0, c0⟩ := new_is l hb hn
  obtain ⟨a, b, c, d, i1, h1, e1, c1⟩ := any4_is l 0 h c0
  refine ⟨a, b, c, d, fun k hk => ?_⟩
  unfold spec_DrawClearOf.f spec_DrawIsPath.f
  rw [e0 k hk, Option.bind_some]; dsimp only
  rw [e1, Option.bind_some, Option.bind_some]
theorem clear_pos (a b c d : Int) : (decide (clearV a b c d > 0) == isPathV a b c d) = true := by
  unfold clearV
  cases h : isPathV a b c d with
  | true =>
    rw [if_pos rfl]
    split
    · rfl
    · split <;> rfl
  | false => rw [if_neg (by decide)]; rfl
theorem FnClearing : laws_FnClearing.Pure := by
  intro l _ _ hw
  have hb : ∀ x ∈ l, 0 ≤ x ∧ x < 256 := fun x hx => u8_wf (hw x hx)
  by_cases hl : l.length ≤ 1048576
  · obtain ⟨x, f, t, e1, x7, f8, t8⟩ := drawCb_is l hb hl
    obtain ⟨a, b, c, d, e2⟩ := drawPath_is l hb hl
    refine ⟨l.length + 2001, ?_⟩
    generalize hB : l.length + 2000 = B
    rw [show l.length + 2001 = B + 1 by omega]
    have n1 : f.length * (t.length + 2) ≤ 8 * 10 := Nat.mul_le_mul f8 (by omega)
    have n2 : f.length * (f.length + 4) ≤ 8 * 12 := Nat.mul_le_mul f8 (by omega)
    have n3 : t.length * (t.length + 4) ≤ 8 * 12 := Nat.mul_le_mul t8 (by omega)
    have n4 : f.length * (f.length + 2) ≤ 8 * 10 := Nat.mul_le_mul f8 (by omega)
    have l1 : (f.filter fun x => decide (x ∈ t) == true).length ≤ f.length := List.length_filter_le _ _
    have l2 : (f.filter fun x => decide (x ∈ t) == false).length ≤ f.length := List.length_filter_le _ _
    have l3 := filt_split (fun x => decide (x ∈ t)) f
    have j0 : laws_FnClearing.j0 (B + 1) l false = some true := by
      rw [laws_FnClearing.j0]
      rw [if_neg (by decide)]
      unfold spec_DrawStaysOpen.f
      rw [e1 B (by omega), Option.bind_some, Option.bind_some]; dsimp only
      rw [iStaysOpen_eq B f t (by omega) (by omega) (by omega), Option.bind_some, iCloses_eq B f t (by omega) (by omega) (by omega), Option.bind_some, e2 B (by omega), Option.bind_some]; dsimp only
      rw [if_pos (by rw [show wrap64 (((f.filter fun x => decide (x ∈ t) == true).length : Int) + ((f.filter fun x => decide (x ∈ t) == false).length : Int)) = (((f.filter fun x => decide (x ∈ t) == true).length : Int) + ((f.filter fun x => decide (x ∈ t) == false).length : Int)) from by unfold wrap64; omega]; omega),
        within_eq B _ t (by omega) (by omega) (by omega) (fun y hy => of_decide_eq_true (by simpa using (List.mem_filter.1 hy).2)), Option.bind_some, if_pos rfl, within_eq B _ f (by omega) (by omega) (by omega) (fun y hy => (List.mem_filter.1 hy).1), Option.bind_some, if_pos rfl, iClearOf, Option.bind_some, iIsPath, Option.bind_some, clear_pos]
    obtain ⟨c1, c2⟩ := cb_le x f t
    unfold laws_FnClearing.f laws_big.f
    rw [Option.bind_some, if_neg (by simp; omega), e1 _ (by omega), Option.bind_some]; dsimp only
    rw [iCB_eq (B + 1) x f t (by omega) (by omega) (by omega) (by omega), Option.bind_some, if_neg (by omega), iLong_eq (B + 1) x (by omega) (by omega), Option.bind_some, if_neg (by omega), iCB_eq (B + 1) x f f (by omega) (by omega) (by omega) (by omega), Option.bind_some, cb_self]
    exact j0
  · refine ⟨0, ?_⟩
    unfold laws_FnClearing.f laws_big.f
    rw [Option.bind_some, if_pos (by simp; omega)]

end Go.Proofs.Ytldmhlpfkclclaa.Pure
