/- What the row of FnConflicts leans on: for every slice of bytes (that fits into memory) the law answers true; no condition. -/
import Derived.Laws.BitsLemmas
import Derived.Test.YtldmhlpfkclclaaQFnConflictsx12
import Derived.Test.YtldmhlpfkclclaaVFnConflictsSized
set_option linter.unusedVariables false
set_option linter.unusedSimpArgs false
namespace Go.Proofs.Ytldmhlpfkclclaa.PrintWords
open Go.ChangeShapes Go.WideShapes
/-- The words' own theorem, under the name by which the row asks for it. -/
theorem sized_ints {H : Type} {enc : TypeId × Value → H} {P : Program} {W : World} {base : Nat} {spare : Nat → Bool} {held : Bool} {t e : TypeId} {k : IntKind} {a : Option Addr} {len cap : Nat} {d : DataW H} {ps : List MemPlace} {ts : List TypeId} {ds : List (DataW H)} {j : Nat}
    (hsz : (DataW.weightsEach P ts ds).all (· ≤ reachBytes) = true) (ht : ts[j]? = some t) (hd : ds[j]? = some d) (hu : P.underlying t = some (.slice e)) (he : P.underlying e = some (.int k)) (hc : P.cellsOf e = 1) {B : Nat} (hB : P.bytesOf e = B)
    (h : DataW.Trod enc P W base spare held t (.slice a len cap) d ps) : len * B ≤ 140737488351232 := Go.Proofs.YtldmhlpfkclclaaW.PrintWords.sized_ints hsz ht hd hu he hc hB h
end Go.Proofs.Ytldmhlpfkclclaa.PrintWords

namespace Go.Proofs.Ytldmhlpfkclclaa.Pure
open Go.RowKit Go.Proofs.Ytldmhlpfkclclaa.PFnConflicts Go.Proofs.YtldmhlpfkclclaaW.PrintWords Go.Proofs.YtldmhlpfkclclaaW.PrintLast

theorem u8_wf {x : Int} (h : (Lit.int .u8 x).wf = true) : 0 ≤ x ∧ x < 256 := by
  simp [Lit.wf, IntKind.min, IntKind.max, IntKind.bits, IntKind.signed] at h
  omega
theorem i64_wf {x : Int} (h : (Lit.int .i64 x).wf = true) : -9223372036854775808 ≤ x ∧ x ≤ 9223372036854775807 := by
  simp [Lit.wf, IntKind.min, IntKind.max, IntKind.bits, IntKind.signed] at h
  omega

theorem wsucc {i n : Nat} (h : i < n) (hn : n ≤ 9223372036854775807) : wrap64 ((i : Int) + 1) = ((i + 1 : Nat) : Int) := by unfold wrap64; omega
theorem rd_nat (xs : List Int) (i : Nat) : rd xs (i : Int) = xs.getD i 0 := by unfold rd; rw [Int.toNat_natCast]
theorem rd_get (xs : List Int) (i : Nat) (h : i < xs.length) : rd xs (i : Int) = xs[i] := by
  rw [rd_nat, List.getD_eq_getElem?_getD, List.getElem?_eq_getElem h]; rfl
theorem drop_cons {α : Type} (xs : List α) (i : Nat) (h : i < xs.length) : xs.drop i = xs[i] :: xs.drop (i + 1) := (List.drop_eq_getElem_cons h)
theorem set_take {α : Type} (ys : List α) (i : Nat) (v : α) (h : i < ys.length) : (ys.set i v).take (i + 1) = ys.take i ++ [v] := by
  rw [List.take_succ_eq_append_getElem (by simpa using h)]
  rw [List.take_set, List.set_eq_of_length_le (by simp; omega)]
  simp

theorem w64 {x : Int} (h0 : -9223372036854775808 ≤ x) (h1 : x ≤ 9223372036854775807) : wrap64 x = x := by
  unfold wrap64; omega

/-! The cursor over a draw's bytes: whatever it yields, it yields. -/
theorem and255 (y : Int) : 0 ≤ Go.bits .and .i64 y 255 ∧ Go.bits .and .i64 y 255 ≤ 255 := by
  have e : Go.bits .and .i64 y 255 = IntKind.i64.wrap ((BitVec.ofInt 64 y &&& BitVec.ofInt 64 255).toNat : Int) := rfl
  have h : (BitVec.ofInt 64 y &&& BitVec.ofInt 64 255).toNat ≤ 255 := by
    rw [BitVec.toNat_and]
    exact Nat.le_trans Nat.and_le_right (by decide)
  rw [e, IntKind.wrap_i64]
  omega
structure CurOk (b : List Int) (i : Int) : Prop where
  bytes : ∀ x ∈ b, 0 ≤ x ∧ x < 256
  short : b.length ≤ 1048576
  low : 0 ≤ i
  high : i ≤ b.length
theorem new_go (l : List Int) (hn : l.length ≤ 1048576) : ∀ (d : Nat) (i : Nat) (h : Int), i + d = l.length → ∃ h', ∀ k, d < k → spec_l1New.l0 k l h (i : Int) = some (l, 0, h') := by
  intro d
  induction d with
  | zero =>
    intro i h hi
    refine ⟨h, fun k hk => ?_⟩
    obtain ⟨k, rfl⟩ : ∃ m, k = m + 1 := ⟨k - 1, by omega⟩
    simp only [spec_l1New.l0]
    rw [if_neg (by omega)]
  | succ d ih =>
    intro i h hi
    by_cases h4 : (i : Int) < 4000
    · obtain ⟨h', hh⟩ := ih (i + 1) (Go.bits .and .i64 (wrap64 ((wrap64 ((wrap64 (h * 137)) + (wrap64 (rd l i)))) + 11)) 1073741823) (by omega)
      refine ⟨h', fun k hk => ?_⟩
      obtain ⟨k, rfl⟩ : ∃ m, k = m + 1 := ⟨k - 1, by omega⟩
      simp only [spec_l1New.l0]
      rw [if_pos (by omega), if_pos h4, if_pos (by omega), wsucc (show i < l.length by omega) (by omega)]
      exact hh k (by omega)
    · refine ⟨h, fun k hk => ?_⟩
      obtain ⟨k, rfl⟩ : ∃ m, k = m + 1 := ⟨k - 1, by omega⟩
      simp only [spec_l1New.l0]
      rw [if_pos (by omega), if_neg h4]
theorem new_is (l : List Int) (hb : ∀ x ∈ l, 0 ≤ x ∧ x < 256) (hn : l.length ≤ 1048576) : ∃ h, (∀ k, l.length < k → spec_l1New.f k l = some (l, 0, h)) ∧ CurOk l 0 := by
  obtain ⟨h, hh⟩ := new_go l hn l.length 0 (wrap64 (193017 + (l.length : Int))) (by omega)
  refine ⟨h, fun k hk => ?_, ⟨hb, hn, by omega, by omega⟩⟩
  unfold spec_l1New.f
  have := hh k hk
  rw [Int.natCast_zero] at this
  exact this
theorem byte_is (b : List Int) (i h : Int) (c : CurOk b i) : ∃ x i' h', spec_l1Byte.f b i h = some (x, i', h') ∧ 0 ≤ x ∧ x ≤ 255 ∧ CurOk b i' := by
  unfold spec_l1Byte.f
  have := c.low; have := c.high; have := c.short
  by_cases hl : i < (b.length : Int)
  · rw [if_pos hl, if_pos c.low]
    refine ⟨_, _, _, rfl, (and255 _).1, (and255 _).2, ⟨c.bytes, c.short, ?_, ?_⟩⟩
    · rw [w64 (by omega) (by omega)]; omega
    · rw [w64 (by omega) (by omega)]; omega
  · rw [if_neg hl]
    exact ⟨_, _, _, rfl, (and255 _).1, (and255 _).2, c⟩

theorem below_is (b : List Int) (i h n : Int) (c : CurOk b i) (hn : n ≤ 1000000000) : ∃ x i' h', spec_l1Below.f b i h n = some (x, i', h') ∧ 0 ≤ x ∧ (1 ≤ n → x < n) ∧ (n ≤ 0 → x = 0) ∧ CurOk b i' := by
  unfold spec_l1Below.f
  by_cases h0 : n ≤ 0
  · rw [if_pos h0]; exact ⟨0, i, h, rfl, by omega, fun h => by omega, fun _ => rfl, c⟩
  · rw [if_neg h0]
    by_cases h1 : n ≤ 256
    · obtain ⟨x, i', h', e, x0, x1, c'⟩ := byte_is b i h c
      rw [if_pos h1, e, Option.bind_some, if_neg (by omega)]
      refine ⟨_, _, _, rfl, ?_, fun _ => ?_, fun h => by omega, c'⟩
      · dsimp only; rw [Int.tmod_eq_emod_of_nonneg x0]; exact Int.emod_nonneg _ (by omega)
      · dsimp only; rw [Int.tmod_eq_emod_of_nonneg x0]; exact Int.emod_lt_of_pos _ (by omega)
    · obtain ⟨x, i1, h1', e1, x0, x1, c1⟩ := byte_is b i h c
      obtain ⟨y, i2, h2', e2, y0, y1, c2⟩ := byte_is b i1 h1' c1
      obtain ⟨z, i3, h3', e3, z0, z1, c3⟩ := byte_is b i2 h2' c2
      rw [if_neg h1, e1, Option.bind_some, e2, Option.bind_some, e3, Option.bind_some, if_neg (by omega)]
      have ew : wrap64 (wrap64 (wrap64 (x * 65536) + wrap64 (y * 256)) + z) = x * 65536 + y * 256 + z := by
        rw [w64 (x := x * 65536) (by omega) (by omega), w64 (x := y * 256) (by omega) (by omega), w64 (x := x * 65536 + y * 256) (by omega) (by omega), w64 (by omega) (by omega)]
      refine ⟨_, _, _, rfl, ?_, fun _ => ?_, fun h => by omega, c3⟩
      · dsimp only; rw [ew, Int.tmod_eq_emod_of_nonneg (by omega)]; exact Int.emod_nonneg _ (by omega)
      · dsimp only; rw [ew, Int.tmod_eq_emod_of_nonneg (by omega)]; exact Int.emod_lt_of_pos _ (by omega)

theorem pick_is (b : List Int) (i h : Int) (l : List Int) (hl : 1 ≤ l.length) (hl2 : l.length ≤ 1000000000) (c : CurOk b i) : ∃ x i' h', spec_l1Int.f b i h l = some (x, i', h') ∧ x ∈ l ∧ CurOk b i' := by
  obtain ⟨x, i', h', e, x0, x1, _, c'⟩ := below_is b i h l.length c (by omega)
  have := x1 (by omega)
  unfold spec_l1Int.f
  rw [e, Option.bind_some]
  dsimp only
  rw [if_pos x0, if_pos this]
  obtain ⟨j, rfl⟩ := Int.eq_ofNat_of_zero_le x0
  refine ⟨_, _, _, rfl, ?_, c'⟩
  rw [rd_get _ _ (by omega)]; exact List.getElem_mem _

/-! A path that is drawn. -/
theorem draw4_is (b : List Int) (i h id : Int) (c : CurOk b i) : ∃ k f t i' h', spec_l4Draw.f b i h id = some (id, k, f, t, i', h') ∧ 1 ≤ k ∧ k ≤ 3 ∧ 0 ≤ f ∧ f ≤ 3 ∧ 0 ≤ t ∧ t ≤ 3 ∧ (f = t ↔ k = 2) ∧ CurOk b i' := by
  unfold spec_l4Draw.f
  obtain ⟨x, i1, h1, e1, x0, x1, _, c1⟩ := below_is b i h 3 c (by omega)
  obtain ⟨y, i2, h2, e2, y0, y1, _, c2⟩ := below_is b i1 h1 4 c1 (by omega)
  obtain ⟨z, i3, h3, e3, z0, z1, _, c3⟩ := below_is b i2 h2 3 c2 (by omega)
  have := x1 (by omega); have := y1 (by omega); have := z1 (by omega)
  have wx : wrap64 (1 + x) = 1 + x := w64 (by omega) (by omega)
  rw [e1, Option.bind_some]
  dsimp only
  rw [e2, Option.bind_some]
  dsimp only
  rw [wx]
  by_cases hx : 1 + x = 2
  · rw [if_pos hx]
    exact ⟨_, _, _, _, _, rfl, by omega, by omega, y0, by omega, y0, by omega, ⟨fun _ => hx, fun _ => rfl⟩, c2⟩
  · rw [if_neg hx, e3, Option.bind_some]
    dsimp only
    have wz : wrap64 (wrap64 (y + 1) + z) = y + 1 + z := by rw [w64 (x := y + 1) (by omega) (by omega), w64 (by omega) (by omega)]
    rw [wz, Int.tmod_eq_emod_of_nonneg (by omega)]
    refine ⟨_, _, _, _, _, rfl, by omega, by omega, y0, by omega, by omega, by omega, ⟨fun h => by omega, fun h => absurd h hx⟩, c3⟩
theorem raw4_is (b : List Int) (i h : Int) (c : CurOk b i) : ∃ x i' h', spec_l4Raw.f b i h = some (x, i', h') ∧ CurOk b i' := by
  unfold spec_l4Raw.f
  obtain ⟨x, i1, h1, e1, _, c1⟩ := pick_is b i h [(-1), 0, 4, 7, 20, 21, 9223372036854775807, (-9223372036854775808)] (by simp) (by simp) c
  rw [e1, Option.bind_some]
  exact ⟨_, _, _, rfl, c1⟩
theorem any4_is (b : List Int) (i h : Int) (c : CurOk b i) : ∃ p k f t i' h', spec_l4Any.f b i h = some (p, k, f, t, i', h') ∧ CurOk b i' := by
  unfold spec_l4Any.f
  obtain ⟨x, i1, h1, e1, x0, x1, _, c1⟩ := below_is b i h 20 c (by omega)
  rw [e1, Option.bind_some]
  dsimp only
  obtain ⟨k, f, t, i2, h2, e2, _, _, _, _, _, _, _, c2⟩ := draw4_is b i1 h1 (wrap64 (1 + x)) c1
  rw [e2, Option.bind_some]
  dsimp only
  obtain ⟨q, i3, h3, e3, _, _, _, c3⟩ := below_is b i2 h2 10 c2 (by omega)
  rw [e3, Option.bind_some]
  dsimp only
  by_cases q0 : q = 0
  · obtain ⟨y, i4, h4, e4, _, c4⟩ := pick_is b i3 h3 [0, 20, 21] (by simp) (by simp) c3
    rw [if_pos q0, e4, Option.bind_some]; exact ⟨_, _, _, _, _, _, rfl, c4⟩
  rw [if_neg q0]
  by_cases q1 : q = 1
  · obtain ⟨y, i4, h4, e4, _, c4⟩ := pick_is b i3 h3 [0, 2, 4] (by simp) (by simp) c3
    rw [if_pos q1, e4, Option.bind_some]; exact ⟨_, _, _, _, _, _, rfl, c4⟩
  rw [if_neg q1]
  obtain ⟨y, i4, h4, e4, c4⟩ := raw4_is b i3 h3 c3
  by_cases q2 : q = 2
  · rw [if_pos q2, e4, Option.bind_some]; exact ⟨_, _, _, _, _, _, rfl, c4⟩
  rw [if_neg q2]
  by_cases q3 : q = 3
  · rw [if_pos q3, e4, Option.bind_some]; exact ⟨_, _, _, _, _, _, rfl, c4⟩
  rw [if_neg q3]; exact ⟨_, _, _, _, _, _, rfl, c3⟩

theorem once_is (b : List Int) (i h n : Int) (c : CurOk b i) (hn : n ≤ 1000000000) : ∃ x i' h', spec_l1Once.f b i h n = some (x, i', h') ∧ CurOk b i' := by
  obtain ⟨x, i', h', e, _, _, _, c'⟩ := below_is b i h n c hn
  unfold spec_l1Once.f
  rw [e, Option.bind_some]
  exact ⟨_, _, _, rfl, c'⟩

theorem rdI_get (xs : List S50) (i : Nat) (h : i < xs.length) : rd_T50 xs (i : Int) = xs[i] := by
  unfold rd_T50; rw [Int.toNat_natCast, List.getD_eq_getElem?_getD, List.getElem?_eq_getElem h]; rfl

/-! Lists of paths that are drawn. -/
theorem draw5_go (b : List Int) : ∀ (d x : Nat) (out : List S50) (i h : Int), x + d = 8 → 1 ≤ x → out.length + 1 = x → CurOk b i → ∃ l i' h', (∀ k, d < k → spec_l5Draw.l0 k out (x : Int) b i h = some (l, i', h')) ∧ 2 ≤ l.length ∧ l.length ≤ 7 ∧ CurOk b i' := by
  intro d
  induction d with
  | zero =>
    intro x out i h hx hx1 ho c
    obtain ⟨q, i1, h1, e1, q0, q1, _, c1⟩ := below_is b i h 6 c (by omega)
    have := q1 (by omega)
    refine ⟨out, i1, h1, fun k hk => ?_, by omega, by omega, c1⟩
    obtain ⟨k, rfl⟩ : ∃ m, k = m + 1 := ⟨k - 1, by omega⟩
    simp only [spec_l5Draw.l0]
    rw [e1, Option.bind_some]; dsimp only
    rw [w64 (x := 2 + q) (by omega) (by omega), if_neg (by omega)]
  | succ d ih =>
    intro x out i h hx hx1 ho c
    obtain ⟨q, i1, h1, e1, q0, q1, _, c1⟩ := below_is b i h 6 c (by omega)
    have := q1 (by omega)
    by_cases hq : (x : Int) ≤ 2 + q
    · obtain ⟨kd, f, t, i2, h2, e2, _, _, _, _, _, _, _, c2⟩ := draw4_is b i1 h1 x c1
      obtain ⟨l, i3, h3, e3, l2, l7, c3⟩ := ih (x + 1) (out ++ [⟨x, kd, f, t⟩]) i2 h2 (by omega) (by omega) (by simp; omega) c2
      refine ⟨l, i3, h3, fun k hk => ?_, l2, l7, c3⟩
      obtain ⟨k, rfl⟩ : ∃ m, k = m + 1 := ⟨k - 1, by omega⟩
      have hlen : out.length < 4398046511104 := by omega
      simp only [spec_l5Draw.l0]
      rw [e1, Option.bind_some]; dsimp only
      rw [w64 (x := 2 + q) (by omega) (by omega), if_pos hq, e2, Option.bind_some]; dsimp only
      rw [if_pos hlen, w64 (x := (x : Int) + 1) (by omega) (by omega)]
      exact e3 k (by omega)
    · refine ⟨out, i1, h1, fun k hk => ?_, by omega, by omega, c1⟩
      obtain ⟨k, rfl⟩ : ∃ m, k = m + 1 := ⟨k - 1, by omega⟩
      simp only [spec_l5Draw.l0]
      rw [e1, Option.bind_some]; dsimp only
      rw [w64 (x := 2 + q) (by omega) (by omega), if_neg hq]
theorem draw5_is (b : List Int) (i h : Int) (c : CurOk b i) : ∃ l i' h', (∀ k, 7 < k → spec_l5Draw.f k b i h = some (l, i', h')) ∧ 2 ≤ l.length ∧ l.length ≤ 7 ∧ CurOk b i' :=
  draw5_go b 7 1 [] i h (by omega) (by omega) rfl c
theorem any5_is (b : List Int) (i h : Int) (c : CurOk b i) : ∃ l i' h', (∀ k, 7 < k → spec_l5Any.f k b i h = some (l, i', h')) ∧ 2 ≤ l.length ∧ l.length ≤ 7 ∧ CurOk b i' := by
  obtain ⟨l, i1, h1, e1, l2, l7, c1⟩ := draw5_is b i h c
  obtain ⟨q, i2, h2, e2, c2⟩ := once_is b i1 h1 6 c1 (by omega)
  cases q with
  | true =>
    obtain ⟨x, i3, h3, e3, x0, x1, _, c3⟩ := below_is b i2 h2 (l.length : Int) c2 (by omega)
    have := x1 (by omega)
    obtain ⟨p, kd, f, t, i4, h4, e4, c4⟩ := any4_is b i3 h3 c3
    refine ⟨l.set x.toNat ⟨p, kd, f, t⟩, i4, h4, fun k hk => ?_, by simp; omega, by simp; omega, c4⟩
    unfold spec_l5Any.f
    rw [e1 k hk, Option.bind_some]; dsimp only
    rw [e2, Option.bind_some]; dsimp only
    rw [if_pos rfl, e3, Option.bind_some]; dsimp only
    rw [e4, Option.bind_some]; dsimp only
    rw [if_pos x0, if_pos (by omega)]
  | false =>
    refine ⟨l, i2, h2, fun k hk => ?_, l2, l7, c2⟩
    unfold spec_l5Any.f
    rw [e1 k hk, Option.bind_some]; dsimp only
    rw [e2, Option.bind_some]; dsimp only
    rw [if_neg (by decide)]

theorem drawAre_is (l : List Int) (hb : ∀ x ∈ l, 0 ≤ x ∧ x < 256) (hn : l.length ≤ 1048576) : ∃ x, (∀ k, l.length + 7 < k → spec_DrawArePaths.f k l = some x) ∧ x.length ≤ 7 := by
  obtain ⟨h, e0, c0⟩ := new_is l hb hn
  obtain ⟨x, i1, h1, e1, _, l7, c1⟩ := any5_is l 0 h c0
  refine ⟨x, fun k hk => ?_, l7⟩
  unfold spec_DrawArePaths.f
  rw [e0 k (by omega), Option.bind_some]; dsimp only
  rw [e1 k (by omega), Option.bind_some]

theorem drawTog_go (b : List Int) (x : List S50) (hx : x.length ≤ 7) : ∀ (d i : Nat) (ids : List Int) (ci h : Int), i + d = x.length → ids.length ≤ i → CurOk b ci → ∃ r, (∀ k, d < k → spec_DrawIsTogether.l0 k x ids (i : Int) b ci h = some (x, r)) ∧ r.length ≤ 8 := by
  intro d
  induction d with
  | zero =>
    intro i ids ci h hi ho c
    obtain ⟨q, i1, h1, e1, c1⟩ := once_is b ci h 8 c (by omega)
    cases q with
    | true =>
      obtain ⟨y, i2, h2, e2, _, _, _, c2⟩ := below_is b i1 h1 22 c1 (by omega)
      refine ⟨ids ++ [y], fun k hk => ?_, by simp; omega⟩
      obtain ⟨k, rfl⟩ : ∃ m, k = m + 1 := ⟨k - 1, by omega⟩
      simp only [spec_DrawIsTogether.l0]
      rw [if_neg (by omega), e1, Option.bind_some]; dsimp only
      rw [if_pos rfl, e2, Option.bind_some]; dsimp only
      rw [if_pos (by omega)]
    | false =>
      refine ⟨ids, fun k hk => ?_, by omega⟩
      obtain ⟨k, rfl⟩ : ∃ m, k = m + 1 := ⟨k - 1, by omega⟩
      simp only [spec_DrawIsTogether.l0]
      rw [if_neg (by omega), e1, Option.bind_some]; dsimp only
      rw [if_neg (by decide)]
  | succ d ih =>
    intro i ids ci h hi ho c
    have w1 : wrap64 ((i : Int) + 1) = ((i + 1 : Nat) : Int) := by unfold wrap64; omega
    obtain ⟨q, i1, h1, e1, c1⟩ := once_is b ci h 3 c (by omega)
    cases q with
    | true =>
      obtain ⟨r, e2, hr⟩ := ih (i + 1) (ids ++ [(rd_T50 x (i : Int)).f0]) i1 h1 (by omega) (by simp; omega) c1
      refine ⟨r, fun k hk => ?_, hr⟩
      obtain ⟨k, rfl⟩ : ∃ m, k = m + 1 := ⟨k - 1, by omega⟩
      simp only [spec_DrawIsTogether.l0]
      rw [if_pos (by omega), e1, Option.bind_some]; dsimp only
      rw [if_pos rfl, if_pos (by omega), if_pos (by omega), w1]
      exact e2 k (by omega)
    | false =>
      obtain ⟨r, e2, hr⟩ := ih (i + 1) ids i1 h1 (by omega) (by omega) c1
      refine ⟨r, fun k hk => ?_, hr⟩
      obtain ⟨k, rfl⟩ : ∃ m, k = m + 1 := ⟨k - 1, by omega⟩
      simp only [spec_DrawIsTogether.l0]
      rw [if_pos (by omega), e1, Option.bind_some]; dsimp only
      rw [if_neg (by decide), w1]
      exact e2 k (by omega)
theorem drawTog_is (l : List Int) (hb : ∀ x ∈ l, 0 ≤ x ∧ x < 256) (hn : l.length ≤ 1048576) : ∃ x r, (∀ k, l.length + 7 < k → spec_DrawIsTogether.f k l = some (x, r)) ∧ x.length ≤ 7 ∧ r.length ≤ 8 := by
  obtain ⟨h, e0, c0⟩ := new_is l hb hn
  obtain ⟨x, i1, h1, e1, _, l7, c1⟩ := any5_is l 0 h c0
  obtain ⟨r, e2, hr⟩ := drawTog_go l x l7 x.length 0 [] i1 h1 (by omega) (by simp) c1
  refine ⟨x, r, fun k hk => ?_, l7, hr⟩
  unfold spec_DrawIsTogether.f
  rw [e0 k (by omega), Option.bind_some]; dsimp only
  rw [e1 k (by omega), Option.bind_some]; dsimp only
  exact e2 k (by omega)

def isPathV (a b c d : Int) : Bool := decide (1 ≤ a ∧ a ≤ 20) && (decide (1 ≤ b ∧ b ≤ 3) && (decide (0 ≤ c ∧ c ≤ 3) && (decide (0 ≤ d ∧ d ≤ 3) && ((c == d) == (b == 2)))))
theorem isPathV_iff (a b c d : Int) : isPathV a b c d = true ↔ (1 ≤ a ∧ a ≤ 20) ∧ (1 ≤ b ∧ b ≤ 3) ∧ (0 ≤ c ∧ c ≤ 3) ∧ (0 ≤ d ∧ d ≤ 3) ∧ (c = d ↔ b = 2) := by
  unfold isPathV
  simp only [Bool.and_eq_true, decide_eq_true_eq, beq_iff_eq]
  have : ((c == d) = (b == 2)) ↔ (c = d ↔ b = 2) := by
    rw [Bool.eq_iff_iff]; simp only [beq_iff_eq]
  rw [this]

def pathV (p : S50) : Bool := isPathV p.f0 p.f1 p.f2 p.f3
/-- The path at i is one, and above the one before it. -/
def okAt (l : List S50) (i : Nat) : Bool := pathV (l.getD i z50) && (decide (i = 0) || decide ((l.getD (i - 1) z50).f0 < (l.getD i z50).f0))
def arFrom (l : List S50) : Nat → Nat → Bool | 0, _ => true | d + 1, i => okAt l i && arFrom l d (i + 1)
def areV (l : List S50) : Bool := decide (l.length ≤ 12) && arFrom l l.length 0
theorem getDI (xs : List S50) (i : Nat) (h : i < xs.length) : xs.getD i z50 = xs[i] := by
  rw [List.getD_eq_getElem?_getD, List.getElem?_eq_getElem h]; rfl
theorem wpred {i : Nat} (h : 0 < i) (hi : i ≤ 9223372036854775807) : wrap64 ((i : Int) - 1) = ((i - 1 : Nat) : Int) := by unfold wrap64; omega
theorem arFrom_iff (l : List S50) : ∀ d i, arFrom l d i = true ↔ ∀ j, i ≤ j → j < i + d → okAt l j = true := by
  intro d
  induction d with
  | zero => intro i; simp only [arFrom, true_iff]; intro j h1 h2; omega
  | succ d ih =>
    intro i
    simp only [arFrom, Bool.and_eq_true, ih]
    constructor
    · rintro ⟨h1, h2⟩ j h3 h4
      rcases Nat.eq_or_lt_of_le h3 with rfl | h5
      · exact h1
      · exact h2 j h5 (by omega)
    · intro h; exact ⟨h i (Nat.le_refl _) (by omega), fun j h3 h4 => h j (by omega) (by omega)⟩

theorem inr (a b c : Int) : impl_InRange.f a b c = some (decide (b ≤ a ∧ a ≤ c)) := by
  unfold impl_InRange.f
  by_cases h : b ≤ a
  · rw [if_pos h]; congr 1; simp only [decide_eq_decide]; omega
  · rw [if_neg h]; congr 1; symm; simp only [decide_eq_false_iff_not]; omega

/-- The four numbers are different, from 0 to 7. -/
def ILv (a b c d : Int) : Prop := (0 ≤ a ∧ a ≤ 7) ∧ (0 ≤ b ∧ b ≤ 7) ∧ (0 ≤ c ∧ c ≤ 7) ∧ (0 ≤ d ∧ d ≤ 7) ∧ a ≠ b ∧ a ≠ c ∧ a ≠ d ∧ b ≠ c ∧ b ≠ d ∧ c ≠ d
theorem il_rd (a b c d : Int) : rd [a, b, c, d] 0 = a ∧ rd [a, b, c, d] 1 = b ∧ rd [a, b, c, d] 2 = c ∧ rd [a, b, c, d] 3 = d := ⟨rfl, rfl, rfl, rfl⟩
theorem il_w (i : Int) (h0 : 0 ≤ i) (h1 : i < 4) : wrap64 (i + 1) = i + 1 := by unfold wrap64; omega
/-- What it comes to, of numbers from 0 to 7. -/
def ilW (a b c d : Int) : Bool := decide ((c - a + 8) % 8 < (b - a + 8) % 8) != decide ((d - a + 8) % 8 < (b - a + 8) % 8)
instance (a b c d : Int) : Decidable (ILv a b c d) := by unfold ILv; infer_instance
def ilV (a b c d : Int) : Bool := decide (ILv a b c d) && ilW a b c d

/-- Do paths of these kinds, from there to there, conflict? -/
def cfW (k f t k' f' t' : Int) : Bool :=
  if k = 2 then (if k' = 2 then false else (f' == f || t' == f)) else
  if k' = 2 then (f == f' || t == f') else
  if f = f' then false else if t = t' then true else ilV (2 * f) (2 * t + 1) (2 * f') (2 * t' + 1)
def cfV (a b c d a' b' c' d' : Int) : Bool := isPathV a b c d && (isPathV a' b' c' d' && cfW b c d b' c' d')
theorem il_same (a b d : Int) : ilV a b a d = false := by
  unfold ilV; rw [decide_eq_false (by unfold ILv; omega), Bool.false_and]

/-- Do these two paths conflict? -/
def cfP (p q : S50) : Bool := cfV p.f0 p.f1 p.f2 p.f3 q.f0 q.f1 q.f2 q.f3
def cfAll (k f t k' f' t' : Fin 4) : Bool :=
  if 1 ≤ k.val ∧ 1 ≤ k'.val then cfW (k.val : Int) (f.val : Int) (t.val : Int) (k'.val : Int) (f'.val : Int) (t'.val : Int) == cfW (k'.val : Int) (f'.val : Int) (t'.val : Int) (k.val : Int) (f.val : Int) (t.val : Int) && !(cfW (k.val : Int) (f.val : Int) (t.val : Int) (k.val : Int) (f.val : Int) (t.val : Int)) else true
theorem cfAll_true : ∀ k f t k' f' t' : Fin 4, cfAll k f t k' f' t' = true := by decide +kernel
theorem cfW_sym (k f t k' f' t' : Int) (h : (1 ≤ k ∧ k ≤ 3) ∧ (0 ≤ f ∧ f ≤ 3) ∧ (0 ≤ t ∧ t ≤ 3)) (h' : (1 ≤ k' ∧ k' ≤ 3) ∧ (0 ≤ f' ∧ f' ≤ 3) ∧ (0 ≤ t' ∧ t' ≤ 3)) : cfW k f t k' f' t' = cfW k' f' t' k f t ∧ cfW k f t k f t = false := by
  obtain ⟨k, rfl⟩ := Int.eq_ofNat_of_zero_le (show 0 ≤ k by omega)
  obtain ⟨f, rfl⟩ := Int.eq_ofNat_of_zero_le (show 0 ≤ f by omega)
  obtain ⟨t, rfl⟩ := Int.eq_ofNat_of_zero_le (show 0 ≤ t by omega)
  obtain ⟨k', rfl⟩ := Int.eq_ofNat_of_zero_le (show 0 ≤ k' by omega)
  obtain ⟨f', rfl⟩ := Int.eq_ofNat_of_zero_le (show 0 ≤ f' by omega)
  obtain ⟨t', rfl⟩ := Int.eq_ofNat_of_zero_le (show 0 ≤ t' by omega)
  have := cfAll_true ⟨k, by omega⟩ ⟨f, by omega⟩ ⟨t, by omega⟩ ⟨k', by omega⟩ ⟨f', by omega⟩ ⟨t', by omega⟩
  unfold cfAll at this
  rw [if_pos ⟨by simp only; omega, by simp only; omega⟩, Bool.and_eq_true] at this
  exact ⟨eq_of_beq this.1, by simpa using this.2⟩
theorem cfV_sym (a b c d a' b' c' d' : Int) : cfV a b c d a' b' c' d' = cfV a' b' c' d' a b c d := by
  unfold cfV
  cases h : isPathV a b c d with
  | false => cases isPathV a' b' c' d' <;> rfl
  | true =>
    cases h' : isPathV a' b' c' d' with
    | false => rfl
    | true =>
      obtain ⟨_, hb, hc, hd, _⟩ := (isPathV_iff a b c d).1 h
      obtain ⟨_, hb', hc', hd', _⟩ := (isPathV_iff a' b' c' d').1 h'
      rw [Bool.true_and, Bool.true_and]
      exact (cfW_sym b c d b' c' d' ⟨hb, hc, hd⟩ ⟨hb', hc', hd'⟩).1
theorem cfP_sym (p q : S50) : cfP p q = cfP q p := cfV_sym ..
theorem cfP_irr (p : S50) : cfP p p = false := by
  unfold cfP cfV
  cases h : isPathV p.f0 p.f1 p.f2 p.f3 with
  | false => rfl
  | true =>
    obtain ⟨_, hb, hc, hd, _⟩ := (isPathV_iff _ _ _ _).1 h
    rw [Bool.true_and, Bool.true_and]
    exact (cfW_sym _ _ _ _ _ _ ⟨hb, hc, hd⟩ ⟨hb, hc, hd⟩).2

/-- The place of the first path with this number. -/
def findV (l : List S50) (x : Int) : Int := impl_FindPath.go l x 0
theorem go_bd (l : List S50) (x : Int) : ∀ i : Int, 0 ≤ i → (impl_FindPath.go l x i = -1 ∧ (∀ p ∈ l, p.f0 ≠ x)) ∨ (i ≤ impl_FindPath.go l x i ∧ impl_FindPath.go l x i < i + l.length ∧ (l.getD (impl_FindPath.go l x i - i).toNat z50).f0 = x) := by
  induction l with
  | nil => intro i _; left; exact ⟨rfl, by simp⟩
  | cons p r ih =>
    intro i hi
    simp only [impl_FindPath.go]
    by_cases h : p.f0 = x
    · rw [if_pos h]; right; refine ⟨by omega, by simp only [List.length_cons]; omega, ?_⟩; simp [h]
    · rw [if_neg h]
      rcases ih (i + 1) (by omega) with ⟨h1, h2⟩ | ⟨h1, h2, h3⟩
      · left; refine ⟨h1, ?_⟩
        intro q hq
        rcases List.mem_cons.1 hq with rfl | hq
        · exact h
        · exact h2 q hq
      · right
        refine ⟨by omega, by simp only [List.length_cons]; omega, ?_⟩
        have e : (impl_FindPath.go r x (i + 1) - i).toNat = (impl_FindPath.go r x (i + 1) - (i + 1)).toNat + 1 := by omega
        rw [e]; simpa using h3
theorem findV_bd (l : List S50) (x : Int) (h : 0 ≤ findV l x) : findV l x < l.length ∧ (l.getD (findV l x).toNat z50).f0 = x := by
  rcases go_bd l x 0 (by omega) with ⟨h1, _⟩ | ⟨_, h2, h3⟩
  · unfold findV at h; omega
  · unfold findV; refine ⟨by omega, ?_⟩; simpa using h3
theorem findV_neg (l : List S50) (x : Int) (h : ¬ 0 ≤ findV l x) : ∀ p ∈ l, p.f0 ≠ x := by
  rcases go_bd l x 0 (by omega) with ⟨_, h1⟩ | ⟨h1, _, _⟩
  · exact h1
  · exact absurd h1 h
/-- The path with this number. -/
def pOf (l : List S50) (x : Int) : S50 := l.getD (findV l x).toNat z50
theorem rd_find (l : List S50) (x : Int) (h : 0 ≤ findV l x) : rd_T50 l (findV l x) = pOf l x := rfl

/-- The numbers of the paths that conflict with this one. -/
def confsV (l : List S50) (x : Int) : List Int := if 0 ≤ findV l x ∧ areV l = true then (l.filter fun p => cfP p (pOf l x)).map (fun p => p.f0) else []
theorem confsV_length (l : List S50) (x : Int) : (confsV l x).length ≤ l.length := by
  unfold confsV
  split
  · rw [List.length_map]; exact List.length_filter_le _ _
  · simp

theorem iIsPath (a b c d : Int) : impl_IsPath.f a b c d = some (isPathV a b c d) := by
  unfold impl_IsPath.f isPathV
  simp only [inr, Option.bind_some]
  generalize decide (1 ≤ a ∧ a ≤ 20) = p1
  generalize decide (1 ≤ b ∧ b ≤ 3) = p2
  generalize decide (0 ≤ c ∧ c ≤ 3) = p3
  generalize decide (0 ≤ d ∧ d ≤ 3) = p4
  cases p1 <;> cases p2 <;> cases p3 <;> cases p4 <;> rfl

theorem iIn_eq (a : Int) (h0 : 0 ≤ a) (h1 : a ≤ 3) : impl_InPlace.f a = some (2 * a) := by
  unfold impl_InPlace.f
  rw [inr, Option.bind_some, if_pos (by simp; omega), w64 (by omega) (by omega)]
theorem iOut_eq (a : Int) (h0 : 0 ≤ a) (h1 : a ≤ 3) : impl_OutPlace.f a = some (2 * a + 1) := by
  unfold impl_OutPlace.f
  rw [inr, Option.bind_some, if_pos (by simp; omega), w64 (x := 2 * a) (by omega) (by omega), w64 (by omega) (by omega)]

theorem il_R (k : Nat) (a b c d : Int) (l : List Int) (hl : l.length = 4) (n : Int) (i : Int) (h0 : 0 ≤ i) (h1 : i < n) (h2 : i < 4) :
    impl_Interleave.l0 (k + 1) a b c d l n i = if 0 ≤ rd l i ∧ rd l i ≤ 7 then impl_Interleave.l0 k a b c d l n (i + 1) else some false := by
  simp only [impl_Interleave.l0]; rw [if_pos h1, if_pos h0, if_pos (by omega), inr]
  simp only [Option.bind_some, decide_eq_true_eq, il_w i h0 h2]
theorem il_Rend (k : Nat) (a b c d : Int) (l : List Int) (n : Int) (i : Int) (h1 : ¬ i < n) (h : ¬ (a ≠ b ∧ a ≠ c ∧ a ≠ d ∧ b ≠ c ∧ b ≠ d ∧ c ≠ d)) :
    impl_Interleave.l0 (k + 1) a b c d l n i = some false := by
  simp only [impl_Interleave.l0]; rw [if_neg h1]
  repeat' split
  all_goals first | rfl | (exfalso; apply h; omega)
theorem il_impl_no (a b c d : Int) (h : ¬ ILv a b c d) : impl_Interleave.f 40 a b c d = some false := by
  obtain ⟨r0, r1, r2, r3⟩ := il_rd a b c d
  have hl : [a, b, c, d].length = 4 := rfl
  unfold impl_Interleave.f
  rw [Option.bind_some, hl]
  rw [il_R _ _ _ _ _ _ hl _ _ (by omega) (by omega) (by omega), Int.zero_add, r0]
  split
  · rw [il_R _ _ _ _ _ _ hl _ _ (by omega) (by omega) (by omega), show (1 : Int) + 1 = 2 from rfl, r1]
    split
    · rw [il_R _ _ _ _ _ _ hl _ _ (by omega) (by omega) (by omega), show (2 : Int) + 1 = 3 from rfl, r2]
      split
      · rw [il_R _ _ _ _ _ _ hl _ _ (by omega) (by omega) (by omega), show (3 : Int) + 1 = 4 from rfl, r3]
        split
        · exact il_Rend _ a b c d _ _ _ (by omega) (fun h' => h (by unfold ILv; omega))
        · rfl
      · rfl
    · rfl
  · rfl
def ilBothI (a b c d : Fin 8) : Bool :=
  if a ≠ b ∧ a ≠ c ∧ a ≠ d ∧ b ≠ c ∧ b ≠ d ∧ c ≠ d then impl_Interleave.f 40 (a.val : Int) (b.val : Int) (c.val : Int) (d.val : Int) == some (ilW (a.val : Int) (b.val : Int) (c.val : Int) (d.val : Int))
  else true
theorem ilBothI_all : ∀ a b c d : Fin 8, ilBothI a b c d = true := by decide +kernel
theorem il_yesI (a b c d : Int) (h : ILv a b c d) : impl_Interleave.f 40 a b c d = some (ilW a b c d) := by
  obtain ⟨⟨a0, a1⟩, ⟨b0, b1⟩, ⟨c0, c1⟩, ⟨d0, d1⟩, h1, h2, h3, h4, h5, h6⟩ := h
  obtain ⟨a, rfl⟩ := Int.eq_ofNat_of_zero_le a0
  obtain ⟨b, rfl⟩ := Int.eq_ofNat_of_zero_le b0
  obtain ⟨c, rfl⟩ := Int.eq_ofNat_of_zero_le c0
  obtain ⟨d, rfl⟩ := Int.eq_ofNat_of_zero_le d0
  have := ilBothI_all ⟨a, by omega⟩ ⟨b, by omega⟩ ⟨c, by omega⟩ ⟨d, by omega⟩
  unfold ilBothI at this
  rw [if_pos (by simp only [ne_eq, Fin.mk.injEq]; omega)] at this
  exact eq_of_beq this
theorem iIl_eq (k : Nat) (a b c d : Int) (hk : 40 ≤ k) : impl_Interleave.f k a b c d = some (ilV a b c d) := by
  refine at_rounds (fun k => impl_Interleave.mono a b c d k) hk ?_
  unfold ilV
  by_cases h : ILv a b c d
  · rw [il_yesI a b c d h, decide_eq_true h, Bool.true_and]
  · rw [il_impl_no a b c d h, decide_eq_false h, Bool.false_and]

theorem iConf_eq (k : Nat) (a b c d a' b' c' d' : Int) (hk : 41 < k) : impl_Conflict.f k a b c d a' b' c' d' = some (cfV a b c d a' b' c' d') := by
  obtain ⟨k, rfl⟩ : ∃ m, k = m + 1 := ⟨k - 1, by omega⟩
  unfold impl_Conflict.f cfV cfW
  simp only [iIsPath, Option.bind_some, impl_Conflict.j0]
  cases h1 : isPathV a b c d with
  | false => simp
  | true =>
    cases h2 : isPathV a' b' c' d' with
    | false => simp
    | true =>
      obtain ⟨_, _, hc, hd, _⟩ := (isPathV_iff a b c d).1 h1
      obtain ⟨_, _, hc', hd', _⟩ := (isPathV_iff a' b' c' d').1 h2
      simp only [if_true, Bool.true_and, Bool.false_eq_true, if_false]
      by_cases hb : b = 2
      · rw [if_pos hb, if_pos hb]
        by_cases hb' : b' = 2
        · rw [if_pos hb', if_pos (by rw [hb']; rfl), if_pos hb]
        · rw [if_neg (by rw [beq_iff_eq]; exact hb'), if_pos hb, if_neg hb']
          by_cases h : c' = c
          · rw [if_pos h, h]; simp
          · rw [if_neg h]; simp [h]
      · rw [if_neg hb, if_neg hb, if_neg hb]
        by_cases hb' : b' = 2
        · rw [if_pos hb', if_pos hb']
          by_cases h : c = c'
          · rw [if_pos h, h]; simp
          · rw [if_neg h]; simp [h]
        · rw [if_neg hb', if_neg hb', iIn_eq c hc.1 hc.2, iOut_eq d hd.1 hd.2, iIn_eq c' hc'.1 hc'.2, iOut_eq d' hd'.1 hd'.2]
          simp only [Option.bind_some]
          rw [iIl_eq k _ _ _ _ (by omega)]
          simp only [Option.bind_some]
          by_cases h : c = c'
          · rw [if_pos h, if_pos h, h, il_same]
          · rw [if_neg h, if_neg h]
            split <;> rfl

theorem iCfq (k : Nat) (p q : S50) (hk : 41 < k) : impl_Conflict.f k p.f0 p.f1 p.f2 p.f3 q.f0 q.f1 q.f2 q.f3 = some (cfP p q) := iConf_eq k _ _ _ _ _ _ _ _ hk

theorem iAre_go (l : List S50) (hn : l.length ≤ 9223372036854775807) : ∀ (d k : Nat) (i : Nat), i + d = l.length → d < k → impl_ArePaths.l0 k l l (l.length : Int) (i : Int) = some (arFrom l d i) := by
  intro d
  induction d with
  | zero =>
    intro k i hi hk
    obtain ⟨k, rfl⟩ : ∃ m, k = m + 1 := ⟨k - 1, by omega⟩
    simp only [impl_ArePaths.l0, arFrom]
    rw [if_neg (by omega)]
  | succ d ih =>
    intro k i hi hk
    obtain ⟨k, rfl⟩ : ∃ m, k = m + 1 := ⟨k - 1, by omega⟩
    simp only [impl_ArePaths.l0, arFrom, okAt]
    rw [if_pos (by omega), if_pos (by omega), if_pos (by omega), iIsPath, Option.bind_some, rdI_get _ _ (by omega), wsucc (show i < l.length by omega) hn, ih k (i + 1) (by omega) (by omega), getDI l i (by omega)]
    have hpv : isPathV (l[i]).f0 (l[i]).f1 (l[i]).f2 (l[i]).f3 = pathV l[i] := rfl
    rw [hpv]
    cases hp : pathV l[i] with
    | false => rw [if_neg (by decide), Bool.false_and, Bool.false_and]
    | true =>
      rw [if_pos rfl]
      by_cases h0 : i = 0
      · subst h0
        rw [if_neg (by omega)]; simp
      · rw [if_pos (by omega), wpred (by omega) (by omega), if_pos (by omega), if_pos (by omega), rdI_get _ _ (by omega), getDI l (i - 1) (by omega), decide_eq_false h0, Bool.false_or, Bool.true_and]
        by_cases hc : (l[i - 1]).f0 < (l[i]).f0
        · rw [if_neg (by omega), decide_eq_true hc, Bool.true_and]
        · rw [if_pos (by omega), decide_eq_false hc, Bool.false_and]
theorem iAre_eq (k : Nat) (l : List S50) (hk : l.length < k) (hn : l.length ≤ 9223372036854775807) : impl_ArePaths.f k l = some (areV l) := by
  unfold impl_ArePaths.f areV
  have := iAre_go l hn l.length k 0 (by omega) hk
  rw [Int.natCast_zero] at this
  by_cases h : l.length ≤ 12
  · rw [if_neg (by omega), decide_eq_true h, Bool.true_and]; exact this
  · rw [if_pos (by omega), decide_eq_false h, Bool.false_and]

theorem iConfs_go (l : List S50) (x : Int) (hl : l.length ≤ 1099511627776) (hf : 0 ≤ findV l x) : ∀ (d k i : Nat) (out : List Int), i + d = l.length → d + 42 < k → out.length ≤ i →
    impl_ConflictsOf.l0 k l out (findV l x) l (l.length : Int) (i : Int) = some (out ++ ((l.drop i).filter fun p => cfP p (pOf l x)).map (fun p => p.f0)) := by
  intro d
  induction d with
  | zero =>
    intro k i out hi hk ho
    obtain ⟨k, rfl⟩ : ∃ m, k = m + 1 := ⟨k - 1, by omega⟩
    simp only [impl_ConflictsOf.l0]
    rw [if_neg (by omega), List.drop_of_length_le (by omega)]; simp
  | succ d ih =>
    intro k i out hi hk ho
    obtain ⟨k, rfl⟩ : ∃ m, k = m + 1 := ⟨k - 1, by omega⟩
    obtain ⟨fi, _⟩ := findV_bd l x hf
    simp only [impl_ConflictsOf.l0]
    rw [if_pos (by omega), if_pos (by omega), if_pos (by omega), if_pos hf, if_pos fi, rd_find l _ hf, rdI_get l i (by omega), iCfq k _ _ (by omega), Option.bind_some, cfP_sym, wsucc (show i < l.length by omega) (by omega), drop_cons l i (by omega), List.filter_cons]
    cases hc : cfP l[i] (pOf l x) with
    | true => rw [if_pos rfl, if_pos rfl, if_pos (by omega), ih k (i + 1) _ (by omega) (by omega) (by simp; omega), List.append_assoc]; rfl
    | false => rw [if_neg (by decide), if_neg (by decide), ih k (i + 1) _ (by omega) (by omega) (by omega)]
theorem iConfs_eq (k : Nat) (l : List S50) (x : Int) (hk : l.length + 61 < k) (hl : l.length ≤ 1099511627776) : impl_ConflictsOf.f k l x = some (confsV l x) := by
  unfold impl_ConflictsOf.f confsV
  obtain ⟨k, rfl⟩ : ∃ m, k = m + 1 := ⟨k - 1, by omega⟩
  simp only [Option.bind_some, impl_FindPath.f, impl_ConflictsOf.j0]
  have e1 : impl_FindPath.go l x 0 = findV l x := rfl
  rw [e1]
  by_cases hf : 0 ≤ findV l x
  · rw [if_neg (by omega), iAre_eq (k + 1) l (by omega) (by omega), Option.bind_some]
    cases ha : areV l with
    | true =>
      have := iConfs_go l x hl hf l.length k 0 [] (by omega) (by omega) (by simp)
      rw [Int.natCast_zero] at this
      rw [if_neg (by decide), this, if_pos ⟨hf, rfl⟩]; simp
    | false => rw [if_pos (by decide), if_neg (by simp)]
  · rw [if_pos (by omega), if_pos trivial, if_neg (fun h => hf h.1)]

/-- Does p conflict with none of the e numbers from j on? -/
def frFrom (l : List S50) (p : S50) (ids : List Int) : Nat → Nat → Bool | 0, _ => true | e + 1, j => !cfP p (pOf l (ids.getD j 0)) && frFrom l p ids e (j + 1)
def tgAt (l : List S50) (ids : List Int) (i : Nat) : Bool := decide (0 ≤ findV l (ids.getD i 0)) && ((decide (i = 0) || decide (ids.getD (i - 1) 0 < ids.getD i 0)) && frFrom l (pOf l (ids.getD i 0)) ids i 0)
def tgFrom (l : List S50) (ids : List Int) : Nat → Nat → Bool | 0, _ => true | d + 1, i => tgAt l ids i && tgFrom l ids d (i + 1)
def togV (l : List S50) (ids : List Int) : Bool := areV l && tgFrom l ids ids.length 0

theorem iTog_go (l : List S50) (ids : List Int) (hl : l.length ≤ 12) (hn : ids.length ≤ 1099511627776) : ∀ (d k i : Nat), i + d = ids.length → d * (ids.length + 4) + l.length + 60 < k → (∀ j, j < i → 0 ≤ findV l (ids.getD j 0)) →
    impl_IsTogether.l0 k l ids ids (ids.length : Int) (i : Int) = some (tgFrom l ids d i) := by
  intro d
  induction d with
  | zero =>
    intro k i hi hk hf
    obtain ⟨k, rfl⟩ : ∃ m, k = m + 1 := ⟨k - 1, by omega⟩
    simp only [impl_IsTogether.l0, tgFrom]
    rw [if_neg (by omega)]
  | succ d ih =>
    intro k i hi hk hf
    rw [Nat.succ_mul] at hk
    obtain ⟨k, rfl⟩ : ∃ m, k = m + 1 + 1 := ⟨k - 2, by omega⟩
    have hg : rd ids (i : Int) = ids.getD i 0 := rd_nat _ _
    have inner : ∀ (e k j : Nat), j + e = i → e + d * (ids.length + 4) + l.length + 61 < k → 0 ≤ findV l (ids.getD i 0) →
        impl_IsTogether.l1 k l ids (findV l (ids.getD i 0)) ids (ids.length : Int) (i : Int) (ids.take i) (i : Int) (j : Int) = some (frFrom l (pOf l (ids.getD i 0)) ids e j && tgFrom l ids d (i + 1)) := by
      intro e
      induction e with
      | zero =>
        intro k j hj hk hfi
        obtain ⟨k, rfl⟩ : ∃ m, k = m + 1 := ⟨k - 1, by omega⟩
        simp only [impl_IsTogether.l1, frFrom]
        rw [if_neg (by omega), Bool.true_and, wsucc (show i < ids.length by omega) (by omega)]
        refine ih k (i + 1) (by omega) (by omega) (fun j hj => ?_)
        rcases Nat.lt_succ_iff_lt_or_eq.1 hj with h | rfl
        · exact hf j h
        · exact hfi
      | succ e ihe =>
        intro k j hj hk hfi
        obtain ⟨k, rfl⟩ : ∃ m, k = m + 1 := ⟨k - 1, by omega⟩
        have hlt : (ids.take i).length = i := by rw [List.length_take]; omega
        obtain ⟨fi, _⟩ := findV_bd l _ hfi
        obtain ⟨fj, _⟩ := findV_bd l _ (hf j (by omega))
        simp only [impl_IsTogether.l1, frFrom, impl_FindPath.f]
        have hr : rd (ids.take i) (j : Int) = ids.getD j 0 := by
          rw [rd_nat, List.getD_eq_getElem?_getD, List.getD_eq_getElem?_getD, List.getElem?_take, if_pos (by omega)]
        rw [if_pos (by omega), if_pos (by omega), if_pos (by omega), if_pos hfi, if_pos fi, Option.bind_some, hr]
        have hfj := hf j (by omega)
        have e1 : impl_FindPath.go l (ids.getD j 0) 0 = findV l (ids.getD j 0) := rfl
        rw [e1, if_pos hfj, if_pos fj, rd_find l _ hfi, rd_find l _ hfj, iCfq k _ _ (by omega), Option.bind_some, wsucc (show j < i by omega) (by omega)]
        cases hc : cfP (pOf l (ids.getD i 0)) (pOf l (ids.getD j 0)) with
        | true => rw [if_pos rfl]; rfl
        | false => rw [if_neg (by decide), ihe k (j + 1) (by omega) (by omega) hfi]; rfl
    simp only [impl_IsTogether.l0, impl_IsTogether.j1, tgFrom, tgAt, impl_FindPath.f]
    rw [if_pos (by omega), if_pos (by omega), if_pos (by omega), Option.bind_some, hg]
    have e1 : impl_FindPath.go l (ids.getD i 0) 0 = findV l (ids.getD i 0) := rfl
    have hti : (ids.take i).length = i := by rw [List.length_take]; omega
    rw [e1, Int.toNat_natCast, hti]
    by_cases hfi : 0 ≤ findV l (ids.getD i 0)
    · rw [if_neg (by omega), decide_eq_true hfi, Bool.true_and]
      have hin := inner i k 0 (by omega) (by omega) hfi
      rw [Int.natCast_zero] at hin
      by_cases h0 : i = 0
      · rw [if_neg (by omega), if_neg (by decide), if_pos (by omega), if_pos (by omega), hin, decide_eq_true h0, Bool.true_or, Bool.true_and]
      · rw [if_pos (by omega), wpred (by omega) (by omega), if_pos (by omega), if_pos (by omega), rd_nat, decide_eq_false h0, Bool.false_or]
        by_cases hc : ids.getD (i - 1) 0 < ids.getD i 0
        · rw [decide_eq_false (by omega), if_neg (by decide), if_pos (by omega), if_pos (by omega), hin, decide_eq_true hc, Bool.true_and]
        · rw [decide_eq_true (by omega), if_pos rfl, decide_eq_false hc]; rfl
    · rw [if_pos (by omega), decide_eq_false hfi]; simp
theorem iTog_eq (k : Nat) (l : List S50) (ids : List Int) (hk : ids.length * (ids.length + 4) + l.length + 60 < k) (hl : l.length ≤ 1099511627776) (hn : ids.length ≤ 1099511627776) : impl_IsTogether.f k l ids = some (togV l ids) := by
  unfold impl_IsTogether.f togV
  rw [iAre_eq k l (by omega) (by omega), Option.bind_some]
  by_cases ha : areV l = true
  · have h12 : l.length ≤ 12 := by unfold areV at ha; rw [Bool.and_eq_true, decide_eq_true_eq] at ha; exact ha.1
    have := iTog_go l ids h12 hn ids.length k 0 (by omega) hk (fun j hj => absurd hj (by omega))
    rw [Int.natCast_zero] at this
    rw [if_pos ha, ha, Bool.true_and]; exact this
  · rw [if_neg ha]; simp only [Bool.not_eq_true] at ha; rw [ha]; rfl

theorem are_ok (l : List S50) (h : areV l = true) : l.length ≤ 12 ∧ ∀ j, j < l.length → okAt l j = true := by
  unfold areV at h
  rw [Bool.and_eq_true, decide_eq_true_eq, arFrom_iff] at h
  exact ⟨h.1, fun j hj => h.2 j (Nat.zero_le _) (by omega)⟩
theorem are_lt (l : List S50) (h : areV l = true) (a : Nat) : ∀ b, a < b → b < l.length → (l.getD a z50).f0 < (l.getD b z50).f0 := by
  intro b hab
  induction hab with
  | refl =>
    intro hb
    have := (are_ok l h).2 (a + 1) hb
    unfold okAt at this
    simp only [Bool.and_eq_true, Bool.or_eq_true, decide_eq_true_eq] at this
    rcases this.2 with h0 | h0
    · omega
    · simpa using h0
  | step hm ih =>
    rename_i m
    intro hb
    have := (are_ok l h).2 (m + 1) hb
    unfold okAt at this
    simp only [Bool.and_eq_true, Bool.or_eq_true, decide_eq_true_eq] at this
    rcases this.2 with h0 | h0
    · omega
    · have h1 := ih (by omega)
      have h2 : (l.getD m z50).f0 < (l.getD (m + 1) z50).f0 := by simpa using h0
      exact Int.lt_trans h1 h2
theorem find_mem (l : List S50) (p : S50) (hp : p ∈ l) : 0 ≤ findV l p.f0 := by
  by_cases h : 0 ≤ findV l p.f0
  · exact h
  · exact absurd rfl (findV_neg l _ h p hp)
theorem pof_mem (l : List S50) (h : areV l = true) (p : S50) (hp : p ∈ l) : pOf l p.f0 = p := by
  obtain ⟨h1, h2⟩ := findV_bd l _ (find_mem l p hp)
  have h0 := find_mem l p hp
  obtain ⟨i, hi, e⟩ := List.getElem_of_mem hp
  have ei : l.getD i z50 = p := by rw [getDI l i hi]; exact e
  unfold pOf
  obtain ⟨j, hj⟩ := Int.eq_ofNat_of_zero_le h0
  rw [hj] at h1 h2 ⊢
  rw [Int.toNat_natCast] at h2 ⊢
  rcases Nat.lt_trichotomy i j with hij | hij | hij
  · have := are_lt l h i j hij (by omega); rw [ei, h2] at this; omega
  · rw [← hij]; exact ei
  · have := are_lt l h j i hij hi; rw [ei, h2] at this; omega

theorem frFrom_iff (l : List S50) (p : S50) (ids : List Int) : ∀ e j, frFrom l p ids e j = true ↔ ∀ m, j ≤ m → m < j + e → cfP p (pOf l (ids.getD m 0)) = false := by
  intro e
  induction e with
  | zero => intro j; simp only [frFrom, true_iff]; intro m h1 h2; omega
  | succ e ih =>
    intro j
    simp only [frFrom, Bool.and_eq_true, ih, Bool.not_eq_true']
    constructor
    · rintro ⟨h1, h2⟩ m h3 h4
      rcases Nat.eq_or_lt_of_le h3 with rfl | h5
      · exact h1
      · exact h2 m h5 (by omega)
    · intro h; exact ⟨h j (Nat.le_refl _) (by omega), fun m h3 h4 => h m (by omega) (by omega)⟩
theorem tgFrom_iff (l : List S50) (ids : List Int) : ∀ d i, tgFrom l ids d i = true ↔ ∀ j, i ≤ j → j < i + d → tgAt l ids j = true := by
  intro d
  induction d with
  | zero => intro i; simp only [tgFrom, true_iff]; intro j h1 h2; omega
  | succ d ih =>
    intro i
    simp only [tgFrom, Bool.and_eq_true, ih]
    constructor
    · rintro ⟨h1, h2⟩ j h3 h4
      rcases Nat.eq_or_lt_of_le h3 with rfl | h5
      · exact h1
      · exact h2 j h5 (by omega)
    · intro h; exact ⟨h i (Nat.le_refl _) (by omega), fun j h3 h4 => h j (by omega) (by omega)⟩
theorem tgAt_iff (l : List S50) (ids : List Int) (i : Nat) : tgAt l ids i = true ↔ 0 ≤ findV l (ids.getD i 0) ∧ (i = 0 ∨ ids.getD (i - 1) 0 < ids.getD i 0) ∧ ∀ m, m < i → cfP (pOf l (ids.getD i 0)) (pOf l (ids.getD m 0)) = false := by
  unfold tgAt
  simp only [Bool.and_eq_true, Bool.or_eq_true, decide_eq_true_eq, frFrom_iff]
  constructor
  · rintro ⟨h1, h2, h3⟩; exact ⟨h1, h2, fun m hm => h3 m (Nat.zero_le _) (by omega)⟩
  · rintro ⟨h1, h2, h3⟩; exact ⟨h1, h2, fun m _ hm => h3 m (by omega)⟩
theorem tog_iff (l : List S50) (ids : List Int) : togV l ids = true ↔ areV l = true ∧ ∀ j, j < ids.length → tgAt l ids j = true := by
  unfold togV
  rw [Bool.and_eq_true, tgFrom_iff]
  constructor
  · rintro ⟨h1, h2⟩; exact ⟨h1, fun j hj => h2 j (Nat.zero_le _) (by omega)⟩
  · rintro ⟨h1, h2⟩; exact ⟨h1, fun j _ hj => h2 j (by omega)⟩
theorem tog_free (l : List S50) (ids : List Int) (h : togV l ids = true) (a b : Nat) (ha : a < ids.length) (hb : b < ids.length) : cfP (pOf l (ids.getD a 0)) (pOf l (ids.getD b 0)) = false := by
  have h2 := ((tog_iff l ids).1 h).2
  rcases Nat.lt_trichotomy a b with hab | hab | hab
  · rw [cfP_sym]; exact ((tgAt_iff l ids b).1 (h2 b hb)).2.2 a hab
  · rw [hab]; exact cfP_irr _
  · exact ((tgAt_iff l ids a).1 (h2 a ha)).2.2 b hab

theorem lcon_go (xs : List Int) (n : Int) (hn : xs.length ≤ 9223372036854775807) : ∀ (d k : Nat) (i : Nat), i + d = xs.length → d < k → laws_contains.l0 k xs n (i : Int) = some (decide (n ∈ xs.drop i)) := by
  intro d
  induction d with
  | zero =>
    intro k i hi hk
    obtain ⟨k, rfl⟩ : ∃ m, k = m + 1 := ⟨k - 1, by omega⟩
    simp only [laws_contains.l0]
    rw [if_neg (by omega), List.drop_of_length_le (by omega)]; simp
  | succ d ih =>
    intro k i hi hk
    obtain ⟨k, rfl⟩ : ∃ m, k = m + 1 := ⟨k - 1, by omega⟩
    simp only [laws_contains.l0]
    rw [if_pos (by omega), if_pos (by omega), rd_get _ _ (by omega), wsucc (show i < xs.length by omega) hn, ih k (i + 1) (by omega) (by omega), drop_cons xs i (by omega)]
    by_cases h : xs[i] = n
    · rw [if_pos h]; simp only [List.mem_cons, h, true_or, decide_true]
    · rw [if_neg h]; simp only [List.mem_cons, Ne.symm h, false_or]
theorem lcon_eq (k : Nat) (l : List Int) (n : Int) (hk : l.length < k) (hn : l.length ≤ 9223372036854775807) : laws_contains.f k l n = some (decide (n ∈ l)) := by
  unfold laws_contains.f
  have := lcon_go l n hn l.length k 0 (by omega) hk
  rw [Int.natCast_zero] at this
  rw [this]; rfl

def one (b : Bool) : Int := if b = true then 1 else 0
def cntP (p : S50) : List S50 → Int | [] => 0 | q :: r => one (cfP p q) + cntP p r
def implC : List S50 → Int | [] => 0 | p :: r => cntP p r + implC r
def specC (pre : List S50) : List S50 → Int | [] => 0 | p :: r => cntP p pre + specC (pre ++ [p]) r
def sumC (pre : List S50) : List S50 → Int | [] => 0 | p :: r => cntP p pre + sumC pre r
theorem cntP_append (p : S50) (a b : List S50) : cntP p (a ++ b) = cntP p a + cntP p b := by
  induction a with
  | nil => simp [cntP]
  | cons q r ih => simp only [List.cons_append, cntP, ih]; omega
theorem sumC_append (pre : List S50) (p : S50) (l : List S50) : sumC (pre ++ [p]) l = sumC pre l + cntP p l := by
  induction l with
  | nil => simp [sumC, cntP]
  | cons q r ih => simp only [sumC, cntP, ih, cntP_append, cfP_sym q p]; omega
theorem specC_eq (l : List S50) : ∀ pre, specC pre l = sumC pre l + implC l := by
  induction l with
  | nil => intro pre; simp [specC, sumC, implC]
  | cons p r ih => intro pre; simp only [specC, sumC, implC, ih, sumC_append]; omega
theorem sumC_nil (l : List S50) : sumC [] l = 0 := by
  induction l with
  | nil => rfl
  | cons p r ih => simp only [sumC, cntP, ih]; rfl
theorem one_bd (b : Bool) : 0 ≤ one b ∧ one b ≤ 1 := by unfold one; cases b <;> decide
theorem cntP_bd (p : S50) (l : List S50) : 0 ≤ cntP p l ∧ cntP p l ≤ l.length := by
  induction l with
  | nil => simp [cntP]
  | cons q r ih => have := one_bd (cfP p q); simp only [cntP, List.length_cons]; omega
def countV (l : List S50) : Int := if areV l = true then implC l else 0

theorem iCf (k : Nat) (p q : S50) (hk : 41 < k) : impl_Conflict.f k p.f0 p.f1 p.f2 p.f3 q.f0 q.f1 q.f2 q.f3 = some (cfP p q) := iConf_eq k _ _ _ _ _ _ _ _ hk
theorem iCount_go (l : List S50) (hn : l.length ≤ 12) : ∀ (d k i : Nat) (c : Int), i + d = l.length → d * 20 + 60 < k → 0 ≤ c → c ≤ 12 * i →
    impl_CountConflicts.l0 k l c l (l.length : Int) (i : Int) = some (c + implC (l.drop i)) := by
  intro d
  induction d with
  | zero =>
    intro k i c hi hk _ _
    obtain ⟨k, rfl⟩ : ∃ m, k = m + 1 := ⟨k - 1, by omega⟩
    simp only [impl_CountConflicts.l0]
    rw [if_neg (by omega), List.drop_of_length_le (by omega)]; simp [implC]
  | succ d ih =>
    intro k i c hi hk c0 c1
    obtain ⟨k, rfl⟩ : ∃ m, k = m + 1 := ⟨k - 1, by omega⟩
    simp only [impl_CountConflicts.l0]
    rw [if_pos (by omega), if_pos (by omega), if_pos (by omega), wsucc (show i < l.length by omega) (by omega), if_pos (by omega), if_pos (by omega), Option.bind_some, Int.toNat_natCast, rdI_get _ _ (by omega), drop_cons l i (by omega)]
    have inner : ∀ (e k j : Nat) (c' : Int), j + e = (l.drop (i + 1)).length → e + d * 20 + 61 < k → 0 ≤ c' → c' ≤ 12 * i + j →
        impl_CountConflicts.l1 k l c' l (l.length : Int) (i : Int) (l.drop (i + 1)) ((l.drop (i + 1)).length : Int) (j : Int) (l[i]).f0 (l[i]).f1 (l[i]).f2 (l[i]).f3 = some (c' + cntP l[i] ((l.drop (i + 1)).drop j) + implC (l.drop (i + 1))) := by
      intro e
      induction e with
      | zero =>
        intro k j c' hj hk c0' c1'
        obtain ⟨k, rfl⟩ : ∃ m, k = m + 1 := ⟨k - 1, by omega⟩
        have hl : (l.drop (i + 1)).length = d := by rw [List.length_drop]; omega
        simp only [impl_CountConflicts.l1]
        rw [if_neg (by omega), List.drop_of_length_le (show (l.drop (i + 1)).length ≤ j by omega), wsucc (show i < l.length by omega) (by omega), ih k (i + 1) c' (by omega) (by omega) c0' (by omega)]
        simp [cntP]
      | succ e ihe =>
        intro k j c' hj hk c0' c1'
        obtain ⟨k, rfl⟩ : ∃ m, k = m + 1 := ⟨k - 1, by omega⟩
        have hl : (l.drop (i + 1)).length = d := by rw [List.length_drop]; omega
        simp only [impl_CountConflicts.l1]
        rw [if_pos (by omega), if_pos (by omega), if_pos (by omega), rdI_get _ _ (show j < (l.drop (i + 1)).length by omega), iCf k _ _ (by omega), Option.bind_some, wsucc (show j < (l.drop (i + 1)).length by omega) (by omega), drop_cons (l.drop (i + 1)) j (by omega)]
        simp only [cntP]
        cases hc : cfP l[i] (l.drop (i + 1))[j] with
        | true => rw [if_pos rfl, show wrap64 (c' + 1) = c' + 1 from by unfold wrap64; omega, ihe k (j + 1) (c' + 1) (by omega) (by omega) (by omega) (by omega)]; congr 1; simp only [one, if_true]; omega
        | false => rw [if_neg (by decide), ihe k (j + 1) c' (by omega) (by omega) (by omega) (by omega)]; congr 1; simp only [one, Bool.false_eq_true, if_false]; omega
    have hl : (l.drop (i + 1)).length = d := by rw [List.length_drop]; omega
    have := inner d k 0 c (by omega) (by omega) c0 (by omega)
    rw [Int.natCast_zero] at this
    rw [this, List.drop_zero]
    simp only [implC]; congr 1; omega
theorem iCount_eq (k : Nat) (l : List S50) (hk : l.length + 400 < k) (hn : l.length ≤ 1099511627776) : impl_CountConflicts.f k l = some (countV l) := by
  unfold impl_CountConflicts.f countV
  rw [iAre_eq k l (by omega) (by omega), Option.bind_some]
  by_cases ha : areV l = true
  · have hl : l.length ≤ 12 := by unfold areV at ha; rw [Bool.and_eq_true, decide_eq_true_eq] at ha; exact ha.1
    have := iCount_go l hl l.length k 0 0 (by omega) (by omega) (by omega) (by omega)
    rw [Int.natCast_zero] at this
    rw [if_pos ha, if_pos ha, this]; simp
  · rw [if_neg ha, if_neg ha]

theorem in1 (a b c : Int) : spec_l1In.f a b c = some (decide (b ≤ a ∧ a ≤ c)) := by
  unfold spec_l1In.f
  by_cases h : a ≥ b
  · rw [if_pos h]; congr 1; simp only [decide_eq_decide]; omega
  · rw [if_neg h]; congr 1; symm; simp only [decide_eq_false_iff_not]; omega

theorem sIsPath (a b c d : Int) : spec_IsPath.f a b c d = some (isPathV a b c d) := by
  unfold spec_IsPath.f isPathV
  simp only [in1, Option.bind_some]
  generalize decide (1 ≤ a ∧ a ≤ 20) = p1
  generalize decide (1 ≤ b ∧ b ≤ 3) = p2
  generalize decide (0 ≤ c ∧ c ≤ 3) = p3
  generalize decide (0 ≤ d ∧ d ≤ 3) = p4
  cases p1 <;> cases p2 <;> cases p3 <;> cases p4 <;> rfl

theorem sIn_eq (a : Int) (h0 : 0 ≤ a) (h1 : a ≤ 3) : spec_InPlace.f a = some (2 * a) := by
  unfold spec_InPlace.f
  rw [in1, Option.bind_some, if_pos (by simp; omega), w64 (by omega) (by omega)]
theorem sOut_eq (a : Int) (h0 : 0 ≤ a) (h1 : a ≤ 3) : spec_OutPlace.f a = some (2 * a + 1) := by
  unfold spec_OutPlace.f
  rw [in1, Option.bind_some, if_pos (by simp; omega), w64 (x := 2 * a) (by omega) (by omega), w64 (by omega) (by omega)]

theorem il_S (k : Nat) (a b c d : Int) (l : List Int) (i : Int) (h1 : i < 4) : spec_Interleave.l0 (k + 1) a b c d l i = spec_Interleave.l1 k a b c d l i 0 := by
  simp only [spec_Interleave.l0]; rw [if_pos h1]
theorem il_T (k : Nat) (a b c d : Int) (l : List Int) (hl : l.length = 4) (i j : Int) (h0 : 0 ≤ j) (h1 : j < i) (h2 : i < 4) :
    spec_Interleave.l1 (k + 1) a b c d l i j = if rd l i = rd l j then some false else spec_Interleave.l1 k a b c d l i (j + 1) := by
  simp only [spec_Interleave.l1]; rw [if_pos h1, if_pos (by omega), if_pos (by omega), if_pos h0, if_pos (by omega), il_w j h0 (by omega)]
theorem il_E (k : Nat) (a b c d : Int) (l : List Int) (hl : l.length = 4) (i : Int) (h0 : 0 ≤ i) (h2 : i < 4) :
    spec_Interleave.l1 (k + 1) a b c d l i i = if 0 ≤ rd l i ∧ rd l i ≤ 7 then spec_Interleave.l0 k a b c d l (i + 1) else some false := by
  simp only [spec_Interleave.l1]; rw [if_neg (by omega), if_pos (by omega), if_pos (by omega), in1]
  simp only [Option.bind_some, decide_eq_true_eq, il_w i h0 h2]
theorem il_spec_no (a b c d : Int) (h : ¬ ILv a b c d) : spec_Interleave.f 40 a b c d = some false := by
  obtain ⟨r0, r1, r2, r3⟩ := il_rd a b c d
  have hl : [a, b, c, d].length = 4 := rfl
  unfold spec_Interleave.f
  rw [il_S _ _ _ _ _ _ _ (by omega), il_E _ _ _ _ _ _ hl _ (by omega) (by omega), r0]
  split
  · rw [il_S _ _ _ _ _ _ _ (by omega), il_T _ _ _ _ _ _ hl _ _ (by omega) (by omega) (by omega), Int.zero_add, r0, r1]
    split
    · rfl
    · rw [il_E _ _ _ _ _ _ hl _ (by omega) (by omega), r1]
      split
      · rw [il_S _ _ _ _ _ _ _ (by omega), show (1 : Int) + 1 = 2 from rfl, il_T _ _ _ _ _ _ hl _ _ (by omega) (by omega) (by omega), Int.zero_add, r0, r2]
        split
        · rfl
        · rw [il_T _ _ _ _ _ _ hl _ _ (by omega) (by omega) (by omega), show (1 : Int) + 1 = 2 from rfl, r1, r2]
          split
          · rfl
          · rw [il_E _ _ _ _ _ _ hl _ (by omega) (by omega), r2]
            split
            · rw [il_S _ _ _ _ _ _ _ (by omega), show (2 : Int) + 1 = 3 from rfl, il_T _ _ _ _ _ _ hl _ _ (by omega) (by omega) (by omega), Int.zero_add, r0, r3]
              split
              · rfl
              · rw [il_T _ _ _ _ _ _ hl _ _ (by omega) (by omega) (by omega), show (1 : Int) + 1 = 2 from rfl, r1, r3]
                split
                · rfl
                · rw [il_T _ _ _ _ _ _ hl _ _ (by omega) (by omega) (by omega), show (2 : Int) + 1 = 3 from rfl, r2, r3]
                  split
                  · rfl
                  · rw [il_E _ _ _ _ _ _ hl _ (by omega) (by omega), r3]
                    split
                    · exfalso; apply h; unfold ILv; omega
                    · rfl
            · rfl
      · rfl
  · rfl
def ilBothS (a b c d : Fin 8) : Bool :=
  if a ≠ b ∧ a ≠ c ∧ a ≠ d ∧ b ≠ c ∧ b ≠ d ∧ c ≠ d then spec_Interleave.f 40 (a.val : Int) (b.val : Int) (c.val : Int) (d.val : Int) == some (ilW (a.val : Int) (b.val : Int) (c.val : Int) (d.val : Int))
  else true
theorem ilBothS_all : ∀ a b c d : Fin 8, ilBothS a b c d = true := by decide +kernel
theorem il_yesS (a b c d : Int) (h : ILv a b c d) : spec_Interleave.f 40 a b c d = some (ilW a b c d) := by
  obtain ⟨⟨a0, a1⟩, ⟨b0, b1⟩, ⟨c0, c1⟩, ⟨d0, d1⟩, h1, h2, h3, h4, h5, h6⟩ := h
  obtain ⟨a, rfl⟩ := Int.eq_ofNat_of_zero_le a0
  obtain ⟨b, rfl⟩ := Int.eq_ofNat_of_zero_le b0
  obtain ⟨c, rfl⟩ := Int.eq_ofNat_of_zero_le c0
  obtain ⟨d, rfl⟩ := Int.eq_ofNat_of_zero_le d0
  have := ilBothS_all ⟨a, by omega⟩ ⟨b, by omega⟩ ⟨c, by omega⟩ ⟨d, by omega⟩
  unfold ilBothS at this
  rw [if_pos (by simp only [ne_eq, Fin.mk.injEq]; omega)] at this
  exact eq_of_beq this
theorem sIl_eq (k : Nat) (a b c d : Int) (hk : 40 ≤ k) : spec_Interleave.f k a b c d = some (ilV a b c d) := by
  refine at_rounds (fun k => spec_Interleave.mono a b c d k) hk ?_
  unfold ilV
  by_cases h : ILv a b c d
  · rw [il_yesS a b c d h, decide_eq_true h, Bool.true_and]
  · rw [il_spec_no a b c d h, decide_eq_false h, Bool.false_and]

theorem sConf_eq (k : Nat) (a b c d a' b' c' d' : Int) (hk : 41 < k) : spec_Conflict.f k a b c d a' b' c' d' = some (cfV a b c d a' b' c' d') := by
  obtain ⟨k, rfl⟩ : ∃ m, k = m + 1 := ⟨k - 1, by omega⟩
  unfold spec_Conflict.f cfV cfW
  simp only [sIsPath, Option.bind_some, spec_Conflict.j0]
  cases h1 : isPathV a b c d with
  | false => simp
  | true =>
    cases h2 : isPathV a' b' c' d' with
    | false => simp
    | true =>
      obtain ⟨_, _, hc, hd, _⟩ := (isPathV_iff a b c d).1 h1
      obtain ⟨_, _, hc', hd', _⟩ := (isPathV_iff a' b' c' d').1 h2
      simp only [if_true, Bool.true_and, Bool.false_eq_true, if_false]
      by_cases hb : b = 2
      · rw [if_pos hb, if_pos hb]
        by_cases hb' : b' = 2
        · rw [if_pos hb', if_pos (by rw [hb']; rfl), if_pos hb]
        · rw [if_neg (by rw [beq_iff_eq]; exact hb'), if_pos hb, if_neg hb']
          by_cases h : c' = c
          · rw [if_pos h, h]; simp
          · rw [if_neg h]; simp [h]
      · rw [if_neg hb, if_neg hb, if_neg hb]
        by_cases hb' : b' = 2
        · rw [if_pos hb', if_pos hb']
          by_cases h : c = c'
          · rw [if_pos h, h]; simp
          · rw [if_neg h]; simp [h]
        · rw [if_neg hb', if_neg hb']
          by_cases h : c = c'
          · rw [if_pos h, if_pos h]
          · rw [if_neg h, if_neg h]
            by_cases h' : d = d'
            · rw [if_pos h', if_pos h']
            · rw [if_neg h', if_neg h', sIn_eq c hc.1 hc.2, sOut_eq d hd.1 hd.2, sIn_eq c' hc'.1 hc'.2, sOut_eq d' hd'.1 hd'.2]
              simp only [Option.bind_some]
              rw [sIl_eq k _ _ _ _ (by omega)]; rfl

theorem sAre_go (l : List S50) (hn : l.length ≤ 9223372036854775807) : ∀ (d k : Nat) (i : Nat), i + d = l.length → d < k → spec_ArePaths.l0 k l (i : Int) = some (decide (l.length ≤ 12) && arFrom l d i) := by
  intro d
  induction d with
  | zero =>
    intro k i hi hk
    obtain ⟨k, rfl⟩ : ∃ m, k = m + 1 := ⟨k - 1, by omega⟩
    simp only [spec_ArePaths.l0, arFrom]
    rw [if_neg (by omega), Bool.and_true]; congr 1; rw [decide_eq_decide]; omega
  | succ d ih =>
    intro k i hi hk
    obtain ⟨k, rfl⟩ : ∃ m, k = m + 1 := ⟨k - 1, by omega⟩
    simp only [spec_ArePaths.l0, arFrom, okAt]
    rw [if_pos (by omega), if_pos (by omega), sIsPath, Option.bind_some, rdI_get _ _ (by omega), wsucc (show i < l.length by omega) hn, ih k (i + 1) (by omega) (by omega), getDI l i (by omega)]
    have hpv : isPathV (l[i]).f0 (l[i]).f1 (l[i]).f2 (l[i]).f3 = pathV l[i] := rfl
    rw [hpv]
    cases hp : pathV l[i] with
    | false => rw [if_neg (by decide), Bool.false_and, Bool.false_and, Bool.and_false]
    | true =>
      rw [if_pos rfl]
      by_cases h0 : i = 0
      · subst h0
        rw [if_neg (by omega)]; simp
      · rw [if_pos (by omega), wpred (by omega) (by omega), if_pos (by omega), if_pos (by omega), rdI_get _ _ (by omega), getDI l (i - 1) (by omega), decide_eq_false h0, Bool.false_or, Bool.true_and]
        by_cases hc : (l[i - 1]).f0 < (l[i]).f0
        · rw [if_neg (by omega), decide_eq_true hc, Bool.true_and]
        · rw [if_pos (by omega), decide_eq_false hc, Bool.false_and, Bool.and_false]
theorem sAre_eq (k : Nat) (l : List S50) (hk : l.length < k) (hn : l.length ≤ 9223372036854775807) : spec_ArePaths.f k l = some (areV l) := by
  unfold spec_ArePaths.f areV
  have := sAre_go l hn l.length k 0 (by omega) hk
  rw [Int.natCast_zero] at this
  exact this

theorem sCf (k : Nat) (p q : S50) (hk : 41 < k) : spec_Conflict.f k p.f0 p.f1 p.f2 p.f3 q.f0 q.f1 q.f2 q.f3 = some (cfP p q) := sConf_eq k _ _ _ _ _ _ _ _ hk
theorem sCount_go (l : List S50) (ha : areV l = true) (hn : l.length ≤ 12) : ∀ (d k i : Nat) (c : Int), i + d = l.length → d * 20 + 80 < k → 0 ≤ c → c ≤ 12 * i →
    spec_CountConflicts.l0 k l c (i : Int) = some (c + specC (l.take i) (l.drop i)) := by
  intro d
  induction d with
  | zero =>
    intro k i c hi hk _ _
    obtain ⟨k, rfl⟩ : ∃ m, k = m + 1 + 1 := ⟨k - 2, by omega⟩
    simp only [spec_CountConflicts.l0, spec_CountConflicts.j1]
    rw [if_neg (by omega), if_neg (by decide), List.drop_of_length_le (by omega)]; simp [specC]
  | succ d ih =>
    intro k i c hi hk c0 c1
    obtain ⟨k, rfl⟩ : ∃ m, k = m + 1 + 1 := ⟨k - 2, by omega⟩
    simp only [spec_CountConflicts.l0, spec_CountConflicts.j1]
    rw [if_pos (by omega), sAre_eq (k + 1) l (by omega) (by omega), Option.bind_some, ha, if_pos rfl, drop_cons l i (by omega)]
    have inner : ∀ (e k j : Nat) (c' : Int), j + e = i → e + d * 20 + 82 < k → 0 ≤ c' → c' ≤ 12 * i + j →
        spec_CountConflicts.l1 k l c' (i : Int) (j : Int) = some (c' + cntP l[i] ((l.take i).drop j) + specC (l.take i ++ [l[i]]) (l.drop (i + 1))) := by
      intro e
      induction e with
      | zero =>
        intro k j c' hj hk c0' c1'
        obtain ⟨k, rfl⟩ : ∃ m, k = m + 1 := ⟨k - 1, by omega⟩
        simp only [spec_CountConflicts.l1]
        rw [if_neg (by omega), List.drop_of_length_le (show (l.take i).length ≤ j by rw [List.length_take]; omega), wsucc (show i < l.length by omega) (by omega), ih k (i + 1) c' (by omega) (by omega) c0' (by omega), List.take_succ_eq_append_getElem (by omega)]
        simp [cntP]
      | succ e ihe =>
        intro k j c' hj hk c0' c1'
        obtain ⟨k, rfl⟩ : ∃ m, k = m + 1 := ⟨k - 1, by omega⟩
        have hl : (l.take i).length = i := by rw [List.length_take]; omega
        simp only [spec_CountConflicts.l1]
        rw [if_pos (by omega), if_pos (by omega), if_pos (by omega), if_pos (by omega), if_pos (by omega), rdI_get _ _ (show j < l.length by omega), rdI_get _ _ (show i < l.length by omega), sCf k _ _ (by omega), Option.bind_some, wsucc (show j < i by omega) (by omega), drop_cons (l.take i) j (by omega), List.getElem_take]
        simp only [cntP]
        cases hc : cfP l[i] l[j] with
        | true => rw [if_pos rfl, show wrap64 (c' + 1) = c' + 1 from by unfold wrap64; omega, ihe k (j + 1) (c' + 1) (by omega) (by omega) (by omega) (by omega)]; congr 1; simp only [one, if_true]; omega
        | false => rw [if_neg (by decide), ihe k (j + 1) c' (by omega) (by omega) (by omega) (by omega)]; congr 1; simp only [one, Bool.false_eq_true, if_false]; omega
    have := inner i k 0 c (by omega) (by omega) c0 (by omega)
    rw [Int.natCast_zero] at this
    rw [this, List.drop_zero]
    simp only [specC]; congr 1; omega
theorem sCount_eq (k : Nat) (l : List S50) (hk : l.length + 400 < k) (hn : l.length ≤ 1099511627776) : spec_CountConflicts.f k l = some (countV l) := by
  unfold spec_CountConflicts.f countV
  by_cases ha : areV l = true
  · have hl : l.length ≤ 12 := by unfold areV at ha; rw [Bool.and_eq_true, decide_eq_true_eq] at ha; exact ha.1
    have := sCount_go l ha hl l.length k 0 0 (by omega) (by omega) (by omega) (by omega)
    rw [Int.natCast_zero] at this
    rw [if_pos ha, this, List.take_zero, List.drop_zero, specC_eq, sumC_nil]; simp
  · rw [if_neg ha]
    obtain ⟨k, rfl⟩ : ∃ m, k = m + 1 + 1 := ⟨k - 2, by omega⟩
    simp only [spec_CountConflicts.l0, spec_CountConflicts.j1]
    rw [sAre_eq (k + 1) l (by omega) (by omega), Option.bind_some]
    simp [ha]

theorem drawCf_is (l : List Int) (hb : ∀ x ∈ l, 0 ≤ x ∧ x < 256) (hn : l.length ≤ 1048576) : ∃ a b c d a' b' c' d', ∀ k, l.length < k → spec_DrawConflict.f k l = some (a, b, c, d, a', b', c', d') := by
  obtain ⟨h, e0, c0⟩ := new_is l hb hn
  obtain ⟨a, b, c, d, i1, h1, e1, c1⟩ := any4_is l 0 h c0
  obtain ⟨a', b', c', d', i2, h2, e2, c2⟩ := any4_is l i1 h1 c1
  refine ⟨a, b, c, d, a', b', c', d', fun k hk => ?_⟩
  unfold spec_DrawConflict.f
  rw [e0 k hk, Option.bind_some]; dsimp only
  rw [e1, Option.bind_some]; dsimp only
  rw [e2, Option.bind_some]
theorem confs_mem (l : List S50) (x c : Int) (h : c ∈ confsV l x) : areV l = true ∧ 0 ≤ findV l x ∧ ∃ q ∈ l, q.f0 = c ∧ cfP q (pOf l x) = true := by
  unfold confsV at h
  split at h
  · rename_i h0
    obtain ⟨q, hq, rfl⟩ := List.mem_map.1 h
    rw [List.mem_filter] at hq
    exact ⟨h0.2, h0.1, q, hq.1, rfl, hq.2⟩
  · cases h
theorem mem_confs (l : List S50) (x : Int) (q : S50) (ha : areV l = true) (hf : 0 ≤ findV l x) (hq : q ∈ l) (h : cfP q (pOf l x) = true) : q.f0 ∈ confsV l x := by
  unfold confsV
  rw [if_pos ⟨hf, ha⟩]
  exact List.mem_map.2 ⟨q, List.mem_filter.2 ⟨hq, h⟩, rfl⟩
theorem filt_len (p : S50) (l : List S50) : ((l.filter fun q => cfP q p).length : Int) = cntP p l := by
  induction l with
  | nil => rfl
  | cons q r ih =>
    rw [List.filter_cons, cfP_sym q p]
    cases h : cfP p q with
    | true => simp only [if_true, List.length_cons, cntP, one, h]; omega
    | false => simp only [Bool.false_eq_true, if_false, cntP, one, h]; omega
theorem sumC_self (l : List S50) : ∀ pre, sumC (pre ++ l) l = sumC pre l + 2 * implC l := by
  induction l with
  | nil => intro pre; simp [sumC, implC]
  | cons p r ih =>
    intro pre
    have e : pre ++ p :: r = (pre ++ [p]) ++ r := by simp
    have h1 : cntP p (pre ++ p :: r) = cntP p pre + cntP p r := by
      rw [cntP_append]; simp only [cntP, cfP_irr]; have : one false = 0 := rfl; omega
    have h2 : sumC (pre ++ p :: r) r = sumC pre r + cntP p r + 2 * implC r := by rw [e, ih, sumC_append]
    simp only [sumC, implC]
    omega
theorem sumC_bd (pre : List S50) (l : List S50) : 0 ≤ sumC pre l ∧ sumC pre l ≤ (l.length : Int) * pre.length := by
  induction l with
  | nil => simp [sumC]
  | cons p r ih =>
    have h1 := cntP_bd p pre
    have h2 : ((p :: r).length : Int) * pre.length = pre.length + (r.length : Int) * pre.length := by rw [List.length_cons]; push_cast; rw [Int.add_mul]; omega
    simp only [sumC]; omega
/-- What the rounds count: nothing where the list is none of paths. -/
def totV (l : List S50) (r : List S50) : Int := if areV l = true then sumC l r else 0
theorem conf_len (l : List S50) (p : S50) (hp : p ∈ l) : ((confsV l p.f0).length : Int) = if areV l = true then cntP p l else 0 := by
  unfold confsV
  by_cases ha : areV l = true
  · rw [if_pos ⟨find_mem l p hp, ha⟩, if_pos ha, List.length_map, pof_mem l ha p hp, filt_len]
  · rw [if_neg (fun h => ha h.2), if_neg ha]; rfl
theorem l3_go (x0 : List Int) (x : List S50) (ids c : List Int) (i : Nat) (hc : c.length ≤ 9) (hid : ids.length ≤ 9) (hx : ∀ y ∈ c, y ∉ ids) (cont : ∃ K, ∀ k, K < k → laws_FnConflicts.l2 k x ids (wrap64 ((i : Int) + 1)) = some true) :
    ∀ (d j : Nat), j + d = c.length → ∃ K, ∀ k, K < k → laws_FnConflicts.l3 k x ids (i : Int) c (j : Int) = some true := by
  obtain ⟨K, hK⟩ := cont
  intro d
  induction d with
  | zero =>
    intro j hj
    refine ⟨K + 1, fun k hk => ?_⟩
    obtain ⟨k, rfl⟩ : ∃ m, k = m + 1 := ⟨k - 1, by omega⟩
    simp only [laws_FnConflicts.l3]
    rw [if_neg (by omega)]; exact hK k (by omega)
  | succ d ih =>
    intro j hj
    obtain ⟨K2, h2⟩ := ih (j + 1) (by omega)
    refine ⟨K2 + 100, fun k hk => ?_⟩
    obtain ⟨k, rfl⟩ : ∃ m, k = m + 1 := ⟨k - 1, by omega⟩
    simp only [laws_FnConflicts.l3]
    rw [if_pos (by omega), if_pos (by omega), lcon_eq k ids _ (by omega) (by omega), Option.bind_some, rd_get _ _ (by omega), decide_eq_false (hx _ (List.getElem_mem _)), if_neg (by decide), wsucc (show j < 9 by omega) (by omega)]
    exact h2 k (by omega)
theorem l2_go (x : List S50) (ids : List Int) (hx : x.length ≤ 7) (hid : ids.length ≤ 8) : ∀ (d i : Nat), i + d = ids.length → ∃ K, ∀ k, K < k → laws_FnConflicts.l2 k x ids (i : Int) = some true := by
  intro d
  induction d with
  | zero =>
    intro i hi
    refine ⟨10, fun k hk => ?_⟩
    obtain ⟨k, rfl⟩ : ∃ m, k = m + 1 + 1 := ⟨k - 2, by omega⟩
    rw [laws_FnConflicts.l2]
    rw [if_neg (by omega), laws_FnConflicts.j4]
    rw [if_neg (by decide)]
  | succ d ih =>
    intro i hi
    cases ht : togV x ids with
    | false =>
      refine ⟨400, fun k hk => ?_⟩
      obtain ⟨k, rfl⟩ : ∃ m, k = m + 1 + 1 := ⟨k - 2, by omega⟩
      rw [laws_FnConflicts.l2]
      have hm : ids.length * (ids.length + 4) ≤ 8 * 12 := Nat.mul_le_mul (by omega) (by omega)
      rw [if_pos (by omega), iTog_eq (k + 1) x ids (by omega) (by omega) (by omega), ht, Option.bind_some, laws_FnConflicts.j4]
      rw [if_neg (by decide)]
    | true =>
      have hc : (confsV x (rd ids (i : Int))).length ≤ 7 := Nat.le_trans (confsV_length _ _) hx
      obtain ⟨K, hK⟩ := l3_go [] x ids (confsV x (rd ids (i : Int))) i (by omega) (by omega) (by
        intro y hy hm
        obtain ⟨ha, hf, q, hq, rfl, hcf⟩ := confs_mem _ _ _ hy
        obtain ⟨m, hm1, hm2⟩ := List.getElem_of_mem hm
        have e1 : ids.getD m 0 = q.f0 := by rw [List.getD_eq_getElem?_getD, List.getElem?_eq_getElem hm1]; exact hm2
        have e2 : rd ids (i : Int) = ids.getD i 0 := by unfold rd; rw [Int.toNat_natCast]
        have := tog_free x ids ht m i hm1 (by omega)
        rw [e1, pof_mem x ha q hq, ← e2, hcf] at this
        cases this) (by
        rw [show wrap64 ((i : Int) + 1) = ((i + 1 : Nat) : Int) by unfold wrap64; omega]
        exact ih (i + 1) (by omega)) (confsV x (rd ids (i : Int))).length 0 (by omega)
      refine ⟨K + 400, fun k hk => ?_⟩
      obtain ⟨k, rfl⟩ : ∃ m, k = m + 1 + 1 := ⟨k - 2, by omega⟩
      rw [laws_FnConflicts.l2]
      have hm : ids.length * (ids.length + 4) ≤ 8 * 12 := Nat.mul_le_mul (by omega) (by omega)
      rw [if_pos (by omega), iTog_eq (k + 1) x ids (by omega) (by omega) (by omega), ht, Option.bind_some, laws_FnConflicts.j4]
      rw [if_pos rfl, if_pos (by omega), if_pos (by omega), iConfs_eq k x _ (by omega) (by omega), Option.bind_some]
      have := hK k (by omega)
      rw [Int.natCast_zero] at this
      exact this
theorem l1_go (x0 : List Int) (l : List S50) (n : Int) (i : Nat) (hi : i < l.length) (hl : l.length ≤ 7) (cont : ∃ K, ∀ k, K < k → laws_FnConflicts.l0 k x0 l n (wrap64 ((i : Int) + 1)) = some true) :
    ∀ (d j : Nat), j + d = (confsV l l[i].f0).length → ∃ K, ∀ k, K < k → laws_FnConflicts.l1 k x0 l n (i : Int) (confsV l l[i].f0) (j : Int) = some true := by
  obtain ⟨K, hK⟩ := cont
  intro d
  induction d with
  | zero =>
    intro j hj
    refine ⟨K + 1, fun k hk => ?_⟩
    obtain ⟨k, rfl⟩ : ∃ m, k = m + 1 := ⟨k - 1, by omega⟩
    simp only [laws_FnConflicts.l1]
    rw [if_neg (by omega)]; exact hK k (by omega)
  | succ d ih =>
    intro j hj
    obtain ⟨K2, h2⟩ := ih (j + 1) (by omega)
    refine ⟨K2 + 400, fun k hk => ?_⟩
    obtain ⟨k, rfl⟩ : ∃ m, k = m + 1 := ⟨k - 1, by omega⟩
    have hcl := confsV_length l l[i].f0
    obtain ⟨ha, hf, q, hq, eq, hcf⟩ := confs_mem l l[i].f0 ((confsV l l[i].f0)[j]'(by omega)) (List.getElem_mem _)
    have hp : l[i] ∈ l := List.getElem_mem _
    rw [pof_mem l ha _ hp] at hcf
    have e0 : rd (confsV l l[i].f0) (j : Int) = q.f0 := by rw [rd_get _ _ (by omega)]; exact eq.symm
    have m1 : l[i].f0 ∈ confsV l q.f0 := mem_confs l _ _ ha (find_mem l q hq) hp (by rw [pof_mem l ha q hq, cfP_sym]; exact hcf)
    have t0 : togV l [l[i].f0, q.f0] = false := by
      cases ht : togV l [l[i].f0, q.f0] with
      | false => rfl
      | true =>
        have := tog_free l _ ht 1 0 (by simp) (by simp)
        simp only [List.getD_cons_succ, List.getD_cons_zero] at this
        rw [pof_mem l ha q hq, pof_mem l ha _ hp, hcf] at this
        cases this
    have hcl2 := confsV_length l q.f0
    simp only [laws_FnConflicts.l1]
    rw [if_pos (by omega), if_pos (by omega), e0, iConfs_eq k l _ (by omega) (by omega), Option.bind_some, if_pos (by omega), if_pos (by omega), rdI_get l i hi, lcon_eq k _ _ (by omega) (by omega), Option.bind_some, decide_eq_true m1, if_pos rfl, iTog_eq k l _ (by simp; omega) (by omega) (by simp), t0, Option.bind_some, if_neg (by decide)]
    unfold impl_FindPath.f
    rw [Option.bind_some]
    have hf2 := find_mem l q hq
    unfold findV at hf2
    rw [if_neg (by omega), wsucc (show j < 9 by omega) (by omega)]
    exact h2 k (by omega)
theorem l0_go (x0 : List Int) (l : List S50) (hl : l.length ≤ 7) (x : List S50) (ids : List Int) (hx : x.length ≤ 7) (hid : ids.length ≤ 8) (K0 : Nat) (dr : ∀ k, K0 < k → spec_DrawIsTogether.f k x0 = some (x, ids)) :
    ∀ (d i : Nat) (n : Int), i + d = l.length → n + totV l (l.drop i) = totV l l → 0 ≤ n → n ≤ 7 * i → ∃ K, ∀ k, K < k → laws_FnConflicts.l0 k x0 l n (i : Int) = some true := by
  intro d
  induction d with
  | zero =>
    intro i n hi hn n0 n1
    obtain ⟨K, hK⟩ := l2_go x ids hx hid ids.length 0 (by omega)
    refine ⟨K + K0 + 1000, fun k hk => ?_⟩
    obtain ⟨k, rfl⟩ : ∃ m, k = m + 1 := ⟨k - 1, by omega⟩
    have e : n = 2 * countV l := by
      rw [List.drop_of_length_le (by omega)] at hn
      unfold totV at hn
      unfold countV
      by_cases ha : areV l = true
      · have h1 := sumC_self l []
        rw [if_pos ha, if_pos ha, List.nil_append] at *
        rw [sumC_nil] at h1
        have h2 : sumC l [] = 0 := rfl
        omega
      · rw [if_neg ha, if_neg ha] at *
        omega
    simp only [laws_FnConflicts.l0]
    rw [if_neg (by omega), iCount_eq k l (by omega) (by omega), sCount_eq k l (by omega) (by omega), Option.bind_some, Option.bind_some, if_pos rfl, Option.bind_some, ← e, show wrap64 n = n from w64 (by omega) (by omega), if_pos rfl, dr k (by omega), Option.bind_some]
    have := hK k (by omega)
    rw [Int.natCast_zero] at this
    exact this
  | succ d ih =>
    intro i n hi hn n0 n1
    have hp : l[i] ∈ l := List.getElem_mem _
    have hcl := confsV_length l l[i].f0
    have e1 := conf_len l l[i] hp
    have e2 : totV l (l.drop i) = (confsV l l[i].f0).length + totV l (l.drop (i + 1)) := by
      rw [e1, drop_cons l i (by omega)]
      unfold totV
      by_cases ha : areV l = true
      · rw [if_pos ha, if_pos ha, if_pos ha]; rfl
      · rw [if_neg ha, if_neg ha, if_neg ha]; rfl
    have wn : wrap64 (n + ((confsV l l[i].f0).length : Int)) = n + ((confsV l l[i].f0).length : Int) := w64 (by omega) (by omega)
    obtain ⟨K, hK⟩ := l1_go x0 l (n + ((confsV l l[i].f0).length : Int)) i (by omega) hl (by
      rw [show wrap64 ((i : Int) + 1) = ((i + 1 : Nat) : Int) by unfold wrap64; omega]
      exact ih (i + 1) _ (by omega) (by omega) (by omega) (by omega)) (confsV l l[i].f0).length 0 (by omega)
    refine ⟨K + 400, fun k hk => ?_⟩
    obtain ⟨k, rfl⟩ : ∃ m, k = m + 1 := ⟨k - 1, by omega⟩
    simp only [laws_FnConflicts.l0]
    rw [if_pos (by omega), if_pos (by omega), rdI_get l i (by omega), iConfs_eq k l _ (by omega) (by omega), Option.bind_some, wn]
    have := hK k (by omega)
    rw [Int.natCast_zero] at this
    exact this
theorem FnConflicts : laws_FnConflicts.Pure := by
  intro l _ _ hw
  have hb : ∀ x ∈ l, 0 ≤ x ∧ x < 256 := fun x hx => u8_wf (hw x hx)
  by_cases hl : l.length ≤ 1048576
  · obtain ⟨a, b, c, d, a', b', c', d', e1⟩ := drawCf_is l hb hl
    obtain ⟨y, e2, hy⟩ := drawAre_is l hb hl
    obtain ⟨x, ids, e3, hx, hid⟩ := drawTog_is l hb hl
    obtain ⟨K, hK⟩ := l0_go l y hy x ids hx hid _ e3 y.length 0 0 (by omega) (by simp) (by omega) (by omega)
    refine ⟨K + l.length + 100, ?_⟩
    generalize hB : K + l.length + 99 = B
    rw [show K + l.length + 100 = B + 1 by omega]
    have j0 : laws_FnConflicts.j0 (B + 1) l false = some true := by
      rw [laws_FnConflicts.j0]
      rw [if_neg (by decide)]
      unfold spec_DrawCountConflicts.f
      rw [e2 B (by omega), Option.bind_some, Option.bind_some]
      have := hK B (by omega)
      rw [Int.natCast_zero] at this
      exact this
    have irr : cfV a b c d a b c d = false := cfP_irr ⟨a, b, c, d⟩
    unfold laws_FnConflicts.f laws_big.f
    rw [Option.bind_some, if_neg (by simp; omega), e1 _ (by omega), Option.bind_some]
    dsimp only
    rw [iConf_eq (B + 1) _ _ _ _ _ _ _ _ (by omega), Option.bind_some, iConf_eq (B + 1) _ _ _ _ _ _ _ _ (by omega), Option.bind_some, cfV_sym a' b' c' d', bne_self_eq_false, if_neg (by decide), iConf_eq (B + 1) _ _ _ _ _ _ _ _ (by omega), Option.bind_some, irr]
    exact j0
  · refine ⟨0, ?_⟩
    unfold laws_FnConflicts.f laws_big.f
    rw [Option.bind_some, if_pos (by simp; omega)]

end Go.Proofs.Ytldmhlpfkclclaa.Pure
