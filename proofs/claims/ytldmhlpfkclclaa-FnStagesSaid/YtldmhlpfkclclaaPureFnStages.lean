/- What the row of FnStages leans on: for every slice of bytes (that fits into memory) the law answers true; no condition. -/
import Derived.Laws.BitsLemmas
import Derived.Test.YtldmhlpfkclclaaQFnStagesx12
import Derived.Test.YtldmhlpfkclclaaVFnStagesSized
set_option linter.unusedVariables false
set_option linter.unusedSimpArgs false
namespace Go.Proofs.Ytldmhlpfkclclaa.PrintWords
open Go.ChangeShapes Go.WideShapes
/-- The words' own theorem, under the name by which the row asks for it. -/
theorem sized_ints {H : Type} {enc : TypeId × Value → H} {P : Program} {W : World} {base : Nat} {spare : Nat → Bool} {held : Bool} {t e : TypeId} {k : IntKind} {a : Option Addr} {len cap : Nat} {d : DataW H} {ps : List MemPlace} {ts : List TypeId} {ds : List (DataW H)} {j : Nat}
    (hsz : (DataW.weightsEach P ts ds).all (· ≤ reachBytes) = true) (ht : ts[j]? = some t) (hd : ds[j]? = some d) (hu : P.underlying t = some (.slice e)) (he : P.underlying e = some (.int k)) (hc : P.cellsOf e = 1) {B : Nat} (hB : P.bytesOf e = B)
    (h : DataW.Trod enc P W base spare held t (.slice a len cap) d ps) : len * B ≤ 140737488351232 := Go.Proofs.YtldmhlpfkclclaaW.PrintWords.sized_ints hsz ht hd hu he hc hB h
end Go.Proofs.Ytldmhlpfkclclaa.PrintWords

namespace Go.Proofs.Ytldmhlpfkclclaa.Pure
open Go.RowKit Go.Proofs.Ytldmhlpfkclclaa.PFnStages Go.Proofs.YtldmhlpfkclclaaW.PrintWords Go.Proofs.YtldmhlpfkclclaaW.PrintLast

theorem u8_wf {x : Int} (h : (Lit.int .u8 x).wf = true) : 0 ≤ x ∧ x < 256 := by
  simp [Lit.wf, IntKind.min, IntKind.max, IntKind.bits, IntKind.signed] at h
  omega
theorem i64_wf {x : Int} (h : (Lit.int .i64 x).wf = true) : -9223372036854775808 ≤ x ∧ x ≤ 9223372036854775807 := by
  simp [Lit.wf, IntKind.min, IntKind.max, IntKind.bits, IntKind.signed] at h
  omega

theorem wsucc {i n : Nat} (h : i < n) (hn : n ≤ 9223372036854775807) : wrap64 ((i : Int) + 1) = ((i + 1 : Nat) : Int) := by unfold wrap64; omega
theorem rd_nat (xs : List Int) (i : Nat) : rd xs (i : Int) = xs.getD i 0 := by unfold rd; rw [Int.toNat_natCast]
theorem rd_get (xs : List Int) (i : Nat) (h : i < xs.length) : rd xs (i : Int) = xs[i] := by
  rw [rd_nat, List.getD_eq_getElem?_getD, List.getElem?_eq_getElem h]; rfl
theorem drop_cons {α : Type} (xs : List α) (i : Nat) (h : i < xs.length) : xs.drop i = xs[i] :: xs.drop (i + 1) := (List.drop_eq_getElem_cons h)
theorem set_take {α : Type} (ys : List α) (i : Nat) (v : α) (h : i < ys.length) : (ys.set i v).take (i + 1) = ys.take i ++ [v] := by
  rw [List.take_succ_eq_append_getElem (by simpa using h)]
  rw [List.take_set, List.set_eq_of_length_le (by simp; omega)]
  simp

theorem w64 {x : Int} (h0 : -9223372036854775808 ≤ x) (h1 : x ≤ 9223372036854775807) : wrap64 x = x := by
  unfold wrap64; omega

/-! The cursor over a draw's bytes: whatever it yields, it yields. -/
theorem and255 (y : Int) : 0 ≤ Go.bits .and .i64 y 255 ∧ Go.bits .and .i64 y 255 ≤ 255 := by
  have e : Go.bits .and .i64 y 255 = IntKind.i64.wrap ((BitVec.ofInt 64 y &&& BitVec.ofInt 64 255).toNat : Int) := rfl
  have h : (BitVec.ofInt 64 y &&& BitVec.ofInt 64 255).toNat ≤ 255 := by
    rw [BitVec.toNat_and]
    exact Nat.le_trans Nat.and_le_right (by decide)
  rw [e, IntKind.wrap_i64]
  omega
structure CurOk (b : List Int) (i : Int) : Prop where
  bytes : ∀ x ∈ b, 0 ≤ x ∧ x < 256
  short : b.length ≤ 1048576
  low : 0 ≤ i
  high : i ≤ b.length
theorem new_go (l : List Int) (hn : l.length ≤ 1048576) : ∀ (d : Nat) (i : Nat) (h : Int), i + d = l.length → ∃ h', ∀ k, d < k → spec_l1New.l0 k l h (i : Int) = some (l, 0, h') := by
  intro d
  induction d with
  | zero =>
    intro i h hi
    refine ⟨h, fun k hk => ?_⟩
    obtain ⟨k, rfl⟩ : ∃ m, k = m + 1 := ⟨k - 1, by omega⟩
    simp only [spec_l1New.l0]
    rw [if_neg (by omega)]
  | succ d ih =>
    intro i h hi
    by_cases h4 : (i : Int) < 4000
    · obtain ⟨h', hh⟩ := ih (i + 1) (Go.bits .and .i64 (wrap64 ((wrap64 ((wrap64 (h * 137)) + (wrap64 (rd l i)))) + 11)) 1073741823) (by omega)
      refine ⟨h', fun k hk => ?_⟩
      obtain ⟨k, rfl⟩ : ∃ m, k = m + 1 := ⟨k - 1, by omega⟩
      simp only [spec_l1New.l0]
      rw [if_pos (by omega), if_pos h4, if_pos (by omega), wsucc (show i < l.length by omega) (by omega)]
      exact hh k (by omega)
    · refine ⟨h, fun k hk => ?_⟩
      obtain ⟨k, rfl⟩ : ∃ m, k = m + 1 := ⟨k - 1, by omega⟩
      simp only [spec_l1New.l0]
      rw [if_pos (by omega), if_neg h4]
theorem new_is (l : List Int) (hb : ∀ x ∈ l, 0 ≤ x ∧ x < 256) (hn : l.length ≤ 1048576) : ∃ h, (∀ k, l.length < k → spec_l1New.f k l = some (l, 0, h)) ∧ CurOk l 0 := by
  obtain ⟨h, hh⟩ := new_go l hn l.length 0 (wrap64 (193017 + (l.length : Int))) (by omega)
  refine ⟨h, fun k hk => ?_, ⟨hb, hn, by omega, by omega⟩⟩
  unfold spec_l1New.f
  have := hh k hk
  rw [Int.natCast_zero] at this
  exact this
theorem byte_is (b : List Int) (i h : Int) (c : CurOk b i) : ∃ x i' h', spec_l1Byte.f b i h = some (x, i', h') ∧ 0 ≤ x ∧ x ≤ 255 ∧ CurOk b i' := by
  unfold spec_l1Byte.f
  have := c.low; have := c.high; have := c.short
  by_cases hl : i < (b.length : Int)
  · rw [if_pos hl, if_pos c.low]
    refine ⟨_, _, _, rfl, (and255 _).1, (and255 _).2, ⟨c.bytes, c.short, ?_, ?_⟩⟩
    · rw [w64 (by omega) (by omega)]; omega
    · rw [w64 (by omega) (by omega)]; omega
  · rw [if_neg hl]
    exact ⟨_, _, _, rfl, (and255 _).1, (and255 _).2, c⟩

theorem below_is (b : List Int) (i h n : Int) (c : CurOk b i) (hn : n ≤ 1000000000) : ∃ x i' h', spec_l1Below.f b i h n = some (x, i', h') ∧ 0 ≤ x ∧ (1 ≤ n → x < n) ∧ (n ≤ 0 → x = 0) ∧ CurOk b i' := by
  unfold spec_l1Below.f
  by_cases h0 : n ≤ 0
  · rw [if_pos h0]; exact ⟨0, i, h, rfl, by omega, fun h => by omega, fun _ => rfl, c⟩
  · rw [if_neg h0]
    by_cases h1 : n ≤ 256
    · obtain ⟨x, i', h', e, x0, x1, c'⟩ := byte_is b i h c
      rw [if_pos h1, e, Option.bind_some, if_neg (by omega)]
      refine ⟨_, _, _, rfl, ?_, fun _ => ?_, fun h => by omega, c'⟩
      · dsimp only; rw [Int.tmod_eq_emod_of_nonneg x0]; exact Int.emod_nonneg _ (by omega)
      · dsimp only; rw [Int.tmod_eq_emod_of_nonneg x0]; exact Int.emod_lt_of_pos _ (by omega)
    · obtain ⟨x, i1, h1', e1, x0, x1, c1⟩ := byte_is b i h c
      obtain ⟨y, i2, h2', e2, y0, y1, c2⟩ := byte_is b i1 h1' c1
      obtain ⟨z, i3, h3', e3, z0, z1, c3⟩ := byte_is b i2 h2' c2
      rw [if_neg h1, e1, Option.bind_some, e2, Option.bind_some, e3, Option.bind_some, if_neg (by omega)]
      have ew : wrap64 (wrap64 (wrap64 (x * 65536) + wrap64 (y * 256)) + z) = x * 65536 + y * 256 + z := by
        rw [w64 (x := x * 65536) (by omega) (by omega), w64 (x := y * 256) (by omega) (by omega), w64 (x := x * 65536 + y * 256) (by omega) (by omega), w64 (by omega) (by omega)]
      refine ⟨_, _, _, rfl, ?_, fun _ => ?_, fun h => by omega, c3⟩
      · dsimp only; rw [ew, Int.tmod_eq_emod_of_nonneg (by omega)]; exact Int.emod_nonneg _ (by omega)
      · dsimp only; rw [ew, Int.tmod_eq_emod_of_nonneg (by omega)]; exact Int.emod_lt_of_pos _ (by omega)

theorem pick_is (b : List Int) (i h : Int) (l : List Int) (hl : 1 ≤ l.length) (hl2 : l.length ≤ 1000000000) (c : CurOk b i) : ∃ x i' h', spec_l1Int.f b i h l = some (x, i', h') ∧ x ∈ l ∧ CurOk b i' := by
  obtain ⟨x, i', h', e, x0, x1, _, c'⟩ := below_is b i h l.length c (by omega)
  have := x1 (by omega)
  unfold spec_l1Int.f
  rw [e, Option.bind_some]
  dsimp only
  rw [if_pos x0, if_pos this]
  obtain ⟨j, rfl⟩ := Int.eq_ofNat_of_zero_le x0
  refine ⟨_, _, _, rfl, ?_, c'⟩
  rw [rd_get _ _ (by omega)]; exact List.getElem_mem _

/-! A path that is drawn. -/
theorem draw4_is (b : List Int) (i h id : Int) (c : CurOk b i) : ∃ k f t i' h', spec_l4Draw.f b i h id = some (id, k, f, t, i', h') ∧ 1 ≤ k ∧ k ≤ 3 ∧ 0 ≤ f ∧ f ≤ 3 ∧ 0 ≤ t ∧ t ≤ 3 ∧ (f = t ↔ k = 2) ∧ CurOk b i' := by
  unfold spec_l4Draw.f
  obtain ⟨x, i1, h1, e1, x0, x1, _, c1⟩ := below_is b i h 3 c (by omega)
  obtain ⟨y, i2, h2, e2, y0, y1, _, c2⟩ := below_is b i1 h1 4 c1 (by omega)
  obtain ⟨z, i3, h3, e3, z0, z1, _, c3⟩ := below_is b i2 h2 3 c2 (by omega)
  have := x1 (by omega); have := y1 (by omega); have := z1 (by omega)
  have wx : wrap64 (1 + x) = 1 + x := w64 (by omega) (by omega)
  rw [e1, Option.bind_some]
  dsimp only
  rw [e2, Option.bind_some]
  dsimp only
  rw [wx]
  by_cases hx : 1 + x = 2
  · rw [if_pos hx]
    exact ⟨_, _, _, _, _, rfl, by omega, by omega, y0, by omega, y0, by omega, ⟨fun _ => hx, fun _ => rfl⟩, c2⟩
  · rw [if_neg hx, e3, Option.bind_some]
    dsimp only
    have wz : wrap64 (wrap64 (y + 1) + z) = y + 1 + z := by rw [w64 (x := y + 1) (by omega) (by omega), w64 (by omega) (by omega)]
    rw [wz, Int.tmod_eq_emod_of_nonneg (by omega)]
    refine ⟨_, _, _, _, _, rfl, by omega, by omega, y0, by omega, by omega, by omega, ⟨fun h => by omega, fun h => absurd h hx⟩, c3⟩
theorem raw4_is (b : List Int) (i h : Int) (c : CurOk b i) : ∃ x i' h', spec_l4Raw.f b i h = some (x, i', h') ∧ CurOk b i' := by
  unfold spec_l4Raw.f
  obtain ⟨x, i1, h1, e1, _, c1⟩ := pick_is b i h [(-1), 0, 4, 7, 20, 21, 9223372036854775807, (-9223372036854775808)] (by simp) (by simp) c
  rw [e1, Option.bind_some]
  exact ⟨_, _, _, rfl, c1⟩
theorem any4_is (b : List Int) (i h : Int) (c : CurOk b i) : ∃ p k f t i' h', spec_l4Any.f b i h = some (p, k, f, t, i', h') ∧ CurOk b i' := by
  unfold spec_l4Any.f
  obtain ⟨x, i1, h1, e1, x0, x1, _, c1⟩ := below_is b i h 20 c (by omega)
  rw [e1, Option.bind_some]
  dsimp only
  obtain ⟨k, f, t, i2, h2, e2, _, _, _, _, _, _, _, c2⟩ := draw4_is b i1 h1 (wrap64 (1 + x)) c1
  rw [e2, Option.bind_some]
  dsimp only
  obtain ⟨q, i3, h3, e3, _, _, _, c3⟩ := below_is b i2 h2 10 c2 (by omega)
  rw [e3, Option.bind_some]
  dsimp only
  by_cases q0 : q = 0
  · obtain ⟨y, i4, h4, e4, _, c4⟩ := pick_is b i3 h3 [0, 20, 21] (by simp) (by simp) c3
    rw [if_pos q0, e4, Option.bind_some]; exact ⟨_, _, _, _, _, _, rfl, c4⟩
  rw [if_neg q0]
  by_cases q1 : q = 1
  · obtain ⟨y, i4, h4, e4, _, c4⟩ := pick_is b i3 h3 [0, 2, 4] (by simp) (by simp) c3
    rw [if_pos q1, e4, Option.bind_some]; exact ⟨_, _, _, _, _, _, rfl, c4⟩
  rw [if_neg q1]
  obtain ⟨y, i4, h4, e4, c4⟩ := raw4_is b i3 h3 c3
  by_cases q2 : q = 2
  · rw [if_pos q2, e4, Option.bind_some]; exact ⟨_, _, _, _, _, _, rfl, c4⟩
  rw [if_neg q2]
  by_cases q3 : q = 3
  · rw [if_pos q3, e4, Option.bind_some]; exact ⟨_, _, _, _, _, _, rfl, c4⟩
  rw [if_neg q3]; exact ⟨_, _, _, _, _, _, rfl, c3⟩

theorem once_is (b : List Int) (i h n : Int) (c : CurOk b i) (hn : n ≤ 1000000000) : ∃ x i' h', spec_l1Once.f b i h n = some (x, i', h') ∧ CurOk b i' := by
  obtain ⟨x, i', h', e, _, _, _, c'⟩ := below_is b i h n c hn
  unfold spec_l1Once.f
  rw [e, Option.bind_some]
  exact ⟨_, _, _, rfl, c'⟩

theorem rdI_get (xs : List S50) (i : Nat) (h : i < xs.length) : rd_T50 xs (i : Int) = xs[i] := by
  unfold rd_T50; rw [Int.toNat_natCast, List.getD_eq_getElem?_getD, List.getElem?_eq_getElem h]; rfl

/-! Lists of paths that are drawn. -/
theorem draw5_go (b : List Int) : ∀ (d x : Nat) (out : List S50) (i h : Int), x + d = 8 → 1 ≤ x → out.length + 1 = x → CurOk b i → ∃ l i' h', (∀ k, d < k → spec_l5Draw.l0 k out (x : Int) b i h = some (l, i', h')) ∧ 2 ≤ l.length ∧ l.length ≤ 7 ∧ CurOk b i' := by
  intro d
  induction d with
  | zero =>
    intro x out i h hx hx1 ho c
    obtain ⟨q, i1, h1, e1, q0, q1, _, c1⟩ := below_is b i h 6 c (by omega)
    have := q1 (by omega)
    refine ⟨out, i1, h1, fun k hk => ?_, by omega, by omega, c1⟩
    obtain ⟨k, rfl⟩ : ∃ m, k = m + 1 := ⟨k - 1, by omega⟩
    simp only [spec_l5Draw.l0]
    rw [e1, Option.bind_some]; dsimp only
    rw [w64 (x := 2 + q) (by omega) (by omega), if_neg (by omega)]
  | succ d ih =>
    intro x out i h hx hx1 ho c
    obtain ⟨q, i1, h1, e1, q0, q1, _, c1⟩ := below_is b i h 6 c (by omega)
    have := q1 (by omega)
    by_cases hq : (x : Int) ≤ 2 + q
    · obtain ⟨kd, f, t, i2, h2, e2, _, _, _, _, _, _, _, c2⟩ := draw4_is b i1 h1 x c1
      obtain ⟨l, i3, h3, e3, l2, l7, c3⟩ := ih (x + 1) (out ++ [⟨x, kd, f, t⟩]) i2 h2 (by omega) (by omega) (by simp; omega) c2
      refine ⟨l, i3, h3, fun k hk => ?_, l2, l7, c3⟩
      obtain ⟨k, rfl⟩ : ∃ m, k = m + 1 := ⟨k - 1, by omega⟩
      have hlen : out.length < 4398046511104 := by omega
      simp only [spec_l5Draw.l0]
      rw [e1, Option.bind_some]; dsimp only
      rw [w64 (x := 2 + q) (by omega) (by omega), if_pos hq, e2, Option.bind_some]; dsimp only
      rw [if_pos hlen, w64 (x := (x : Int) + 1) (by omega) (by omega)]
      exact e3 k (by omega)
    · refine ⟨out, i1, h1, fun k hk => ?_, by omega, by omega, c1⟩
      obtain ⟨k, rfl⟩ : ∃ m, k = m + 1 := ⟨k - 1, by omega⟩
      simp only [spec_l5Draw.l0]
      rw [e1, Option.bind_some]; dsimp only
      rw [w64 (x := 2 + q) (by omega) (by omega), if_neg hq]
theorem draw5_is (b : List Int) (i h : Int) (c : CurOk b i) : ∃ l i' h', (∀ k, 7 < k → spec_l5Draw.f k b i h = some (l, i', h')) ∧ 2 ≤ l.length ∧ l.length ≤ 7 ∧ CurOk b i' :=
  draw5_go b 7 1 [] i h (by omega) (by omega) rfl c
theorem any5_is (b : List Int) (i h : Int) (c : CurOk b i) : ∃ l i' h', (∀ k, 7 < k → spec_l5Any.f k b i h = some (l, i', h')) ∧ 2 ≤ l.length ∧ l.length ≤ 7 ∧ CurOk b i' := by
  obtain ⟨l, i1, h1, e1, l2, l7, c1⟩ := draw5_is b i h c
  obtain ⟨q, i2, h2, e2, c2⟩ := once_is b i1 h1 6 c1 (by omega)
  cases q with
  | true =>
    obtain ⟨x, i3, h3, e3, x0, x1, _, c3⟩ := below_is b i2 h2 (l.length : Int) c2 (by omega)
    have := x1 (by omega)
    obtain ⟨p, kd, f, t, i4, h4, e4, c4⟩ := any4_is b i3 h3 c3
    refine ⟨l.set x.toNat ⟨p, kd, f, t⟩, i4, h4, fun k hk => ?_, by simp; omega, by simp; omega, c4⟩
    unfold spec_l5Any.f
    rw [e1 k hk, Option.bind_some]; dsimp only
    rw [e2, Option.bind_some]; dsimp only
    rw [if_pos rfl, e3, Option.bind_some]; dsimp only
    rw [e4, Option.bind_some]; dsimp only
    rw [if_pos x0, if_pos (by omega)]
  | false =>
    refine ⟨l, i2, h2, fun k hk => ?_, l2, l7, c2⟩
    unfold spec_l5Any.f
    rw [e1 k hk, Option.bind_some]; dsimp only
    rw [e2, Option.bind_some]; dsimp only
    rw [if_neg (by decide)]

theorem drawAre_is (l : List Int) (hb : ∀ x ∈ l, 0 ≤ x ∧ x < 256) (hn : l.length ≤ 1048576) : ∃ x, (∀ k, l.length + 7 < k → spec_DrawArePaths.f k l = some x) ∧ x.length ≤ 7 := by
  obtain ⟨h, e0, c0⟩ := new_is l hb hn
  obtain ⟨x, i1, h1, e1, _, l7, c1⟩ := any5_is l 0 h c0
  refine ⟨x, fun k hk => ?_, l7⟩
  unfold spec_DrawArePaths.f
  rw [e0 k (by omega), Option.bind_some]; dsimp only
  rw [e1 k (by omega), Option.bind_some]

theorem drawTog_go (b : List Int) (x : List S50) (hx : x.length ≤ 7) : ∀ (d i : Nat) (ids : List Int) (ci h : Int), i + d = x.length → ids.length ≤ i → CurOk b ci → ∃ r, (∀ k, d < k → spec_DrawIsTogether.l0 k x ids (i : Int) b ci h = some (x, r)) ∧ r.length ≤ 8 := by
  intro d
  induction d with
  | zero =>
    intro i ids ci h hi ho c
    obtain ⟨q, i1, h1, e1, c1⟩ := once_is b ci h 8 c (by omega)
    cases q with
    | true =>
      obtain ⟨y, i2, h2, e2, _, _, _, c2⟩ := below_is b i1 h1 22 c1 (by omega)
      refine ⟨ids ++ [y], fun k hk => ?_, by simp; omega⟩
      obtain ⟨k, rfl⟩ : ∃ m, k = m + 1 := ⟨k - 1, by omega⟩
      simp only [spec_DrawIsTogether.l0]
      rw [if_neg (by omega), e1, Option.bind_some]; dsimp only
      rw [if_pos rfl, e2, Option.bind_some]; dsimp only
      rw [if_pos (by omega)]
    | false =>
      refine ⟨ids, fun k hk => ?_, by omega⟩
      obtain ⟨k, rfl⟩ : ∃ m, k = m + 1 := ⟨k - 1, by omega⟩
      simp only [spec_DrawIsTogether.l0]
      rw [if_neg (by omega), e1, Option.bind_some]; dsimp only
      rw [if_neg (by decide)]
  | succ d ih =>
    intro i ids ci h hi ho c
    have w1 : wrap64 ((i : Int) + 1) = ((i + 1 : Nat) : Int) := by unfold wrap64; omega
    obtain ⟨q, i1, h1, e1, c1⟩ := once_is b ci h 3 c (by omega)
    cases q with
    | true =>
      obtain ⟨r, e2, hr⟩ := ih (i + 1) (ids ++ [(rd_T50 x (i : Int)).f0]) i1 h1 (by omega) (by simp; omega) c1
      refine ⟨r, fun k hk => ?_, hr⟩
      obtain ⟨k, rfl⟩ : ∃ m, k = m + 1 := ⟨k - 1, by omega⟩
      simp only [spec_DrawIsTogether.l0]
      rw [if_pos (by omega), e1, Option.bind_some]; dsimp only
      rw [if_pos rfl, if_pos (by omega), if_pos (by omega), w1]
      exact e2 k (by omega)
    | false =>
      obtain ⟨r, e2, hr⟩ := ih (i + 1) ids i1 h1 (by omega) (by omega) c1
      refine ⟨r, fun k hk => ?_, hr⟩
      obtain ⟨k, rfl⟩ : ∃ m, k = m + 1 := ⟨k - 1, by omega⟩
      simp only [spec_DrawIsTogether.l0]
      rw [if_pos (by omega), e1, Option.bind_some]; dsimp only
      rw [if_neg (by decide), w1]
      exact e2 k (by omega)
theorem drawTog_is (l : List Int) (hb : ∀ x ∈ l, 0 ≤ x ∧ x < 256) (hn : l.length ≤ 1048576) : ∃ x r, (∀ k, l.length + 7 < k → spec_DrawIsTogether.f k l = some (x, r)) ∧ x.length ≤ 7 ∧ r.length ≤ 8 := by
  obtain ⟨h, e0, c0⟩ := new_is l hb hn
  obtain ⟨x, i1, h1, e1, _, l7, c1⟩ := any5_is l 0 h c0
  obtain ⟨r, e2, hr⟩ := drawTog_go l x l7 x.length 0 [] i1 h1 (by omega) (by simp) c1
  refine ⟨x, r, fun k hk => ?_, l7, hr⟩
  unfold spec_DrawIsTogether.f
  rw [e0 k (by omega), Option.bind_some]; dsimp only
  rw [e1 k (by omega), Option.bind_some]; dsimp only
  exact e2 k (by omega)

def isPathV (a b c d : Int) : Bool := decide (1 ≤ a ∧ a ≤ 20) && (decide (1 ≤ b ∧ b ≤ 3) && (decide (0 ≤ c ∧ c ≤ 3) && (decide (0 ≤ d ∧ d ≤ 3) && ((c == d) == (b == 2)))))
theorem isPathV_iff (a b c d : Int) : isPathV a b c d = true ↔ (1 ≤ a ∧ a ≤ 20) ∧ (1 ≤ b ∧ b ≤ 3) ∧ (0 ≤ c ∧ c ≤ 3) ∧ (0 ≤ d ∧ d ≤ 3) ∧ (c = d ↔ b = 2) := by
  unfold isPathV
  simp only [Bool.and_eq_true, decide_eq_true_eq, beq_iff_eq]
  have : ((c == d) = (b == 2)) ↔ (c = d ↔ b = 2) := by
    rw [Bool.eq_iff_iff]; simp only [beq_iff_eq]
  rw [this]

def pathV (p : S50) : Bool := isPathV p.f0 p.f1 p.f2 p.f3
/-- The path at i is one, and above the one before it. -/
def okAt (l : List S50) (i : Nat) : Bool := pathV (l.getD i z50) && (decide (i = 0) || decide ((l.getD (i - 1) z50).f0 < (l.getD i z50).f0))
def arFrom (l : List S50) : Nat → Nat → Bool | 0, _ => true | d + 1, i => okAt l i && arFrom l d (i + 1)
def areV (l : List S50) : Bool := decide (l.length ≤ 12) && arFrom l l.length 0
theorem getDI (xs : List S50) (i : Nat) (h : i < xs.length) : xs.getD i z50 = xs[i] := by
  rw [List.getD_eq_getElem?_getD, List.getElem?_eq_getElem h]; rfl
theorem wpred {i : Nat} (h : 0 < i) (hi : i ≤ 9223372036854775807) : wrap64 ((i : Int) - 1) = ((i - 1 : Nat) : Int) := by unfold wrap64; omega
theorem arFrom_iff (l : List S50) : ∀ d i, arFrom l d i = true ↔ ∀ j, i ≤ j → j < i + d → okAt l j = true := by
  intro d
  induction d with
  | zero => intro i; simp only [arFrom, true_iff]; intro j h1 h2; omega
  | succ d ih =>
    intro i
    simp only [arFrom, Bool.and_eq_true, ih]
    constructor
    · rintro ⟨h1, h2⟩ j h3 h4
      rcases Nat.eq_or_lt_of_le h3 with rfl | h5
      · exact h1
      · exact h2 j h5 (by omega)
    · intro h; exact ⟨h i (Nat.le_refl _) (by omega), fun j h3 h4 => h j (by omega) (by omega)⟩

theorem inr (a b c : Int) : impl_InRange.f a b c = some (decide (b ≤ a ∧ a ≤ c)) := by
  unfold impl_InRange.f
  by_cases h : b ≤ a
  · rw [if_pos h]; congr 1; simp only [decide_eq_decide]; omega
  · rw [if_neg h]; congr 1; symm; simp only [decide_eq_false_iff_not]; omega

/-- The four numbers are different, from 0 to 7. -/
def ILv (a b c d : Int) : Prop := (0 ≤ a ∧ a ≤ 7) ∧ (0 ≤ b ∧ b ≤ 7) ∧ (0 ≤ c ∧ c ≤ 7) ∧ (0 ≤ d ∧ d ≤ 7) ∧ a ≠ b ∧ a ≠ c ∧ a ≠ d ∧ b ≠ c ∧ b ≠ d ∧ c ≠ d
theorem il_rd (a b c d : Int) : rd [a, b, c, d] 0 = a ∧ rd [a, b, c, d] 1 = b ∧ rd [a, b, c, d] 2 = c ∧ rd [a, b, c, d] 3 = d := ⟨rfl, rfl, rfl, rfl⟩
theorem il_w (i : Int) (h0 : 0 ≤ i) (h1 : i < 4) : wrap64 (i + 1) = i + 1 := by unfold wrap64; omega
/-- What it comes to, of numbers from 0 to 7. -/
def ilW (a b c d : Int) : Bool := decide ((c - a + 8) % 8 < (b - a + 8) % 8) != decide ((d - a + 8) % 8 < (b - a + 8) % 8)
instance (a b c d : Int) : Decidable (ILv a b c d) := by unfold ILv; infer_instance
def ilV (a b c d : Int) : Bool := decide (ILv a b c d) && ilW a b c d

/-- Do paths of these kinds, from there to there, conflict? -/
def cfW (k f t k' f' t' : Int) : Bool :=
  if k = 2 then (if k' = 2 then false else (f' == f || t' == f)) else
  if k' = 2 then (f == f' || t == f') else
  if f = f' then false else if t = t' then true else ilV (2 * f) (2 * t + 1) (2 * f') (2 * t' + 1)
def cfV (a b c d a' b' c' d' : Int) : Bool := isPathV a b c d && (isPathV a' b' c' d' && cfW b c d b' c' d')
theorem il_same (a b d : Int) : ilV a b a d = false := by
  unfold ilV; rw [decide_eq_false (by unfold ILv; omega), Bool.false_and]

/-- Do these two paths conflict? -/
def cfP (p q : S50) : Bool := cfV p.f0 p.f1 p.f2 p.f3 q.f0 q.f1 q.f2 q.f3
def cfAll (k f t k' f' t' : Fin 4) : Bool :=
  if 1 ≤ k.val ∧ 1 ≤ k'.val then cfW (k.val : Int) (f.val : Int) (t.val : Int) (k'.val : Int) (f'.val : Int) (t'.val : Int) == cfW (k'.val : Int) (f'.val : Int) (t'.val : Int) (k.val : Int) (f.val : Int) (t.val : Int) && !(cfW (k.val : Int) (f.val : Int) (t.val : Int) (k.val : Int) (f.val : Int) (t.val : Int)) else true
theorem cfAll_true : ∀ k f t k' f' t' : Fin 4, cfAll k f t k' f' t' = true := by decide +kernel
theorem cfW_sym (k f t k' f' t' : Int) (h : (1 ≤ k ∧ k ≤ 3) ∧ (0 ≤ f ∧ f ≤ 3) ∧ (0 ≤ t ∧ t ≤ 3)) (h' : (1 ≤ k' ∧ k' ≤ 3) ∧ (0 ≤ f' ∧ f' ≤ 3) ∧ (0 ≤ t' ∧ t' ≤ 3)) : cfW k f t k' f' t' = cfW k' f' t' k f t ∧ cfW k f t k f t = false := by
  obtain ⟨k, rfl⟩ := Int.eq_ofNat_of_zero_le (show 0 ≤ k by omega)
  obtain ⟨f, rfl⟩ := Int.eq_ofNat_of_zero_le (show 0 ≤ f by omega)
  obtain ⟨t, rfl⟩ := Int.eq_ofNat_of_zero_le (show 0 ≤ t by omega)
  obtain ⟨k', rfl⟩ := Int.eq_ofNat_of_zero_le (show 0 ≤ k' by omega)
  obtain ⟨f', rfl⟩ := Int.eq_ofNat_of_zero_le (show 0 ≤ f' by omega)
  obtain ⟨t', rfl⟩ := Int.eq_ofNat_of_zero_le (show 0 ≤ t' by omega)
  have := cfAll_true ⟨k, by omega⟩ ⟨f, by omega⟩ ⟨t, by omega⟩ ⟨k', by omega⟩ ⟨f', by omega⟩ ⟨t', by omega⟩
  unfold cfAll at this
  rw [if_pos ⟨by simp only; omega, by simp only; omega⟩, Bool.and_eq_true] at this
  exact ⟨eq_of_beq this.1, by simpa using this.2⟩
theorem cfV_sym (a b c d a' b' c' d' : Int) : cfV a b c d a' b' c' d' = cfV a' b' c' d' a b c d := by
  unfold cfV
  cases h : isPathV a b c d with
  | false => cases isPathV a' b' c' d' <;> rfl
  | true =>
    cases h' : isPathV a' b' c' d' with
    | false => rfl
    | true =>
      obtain ⟨_, hb, hc, hd, _⟩ := (isPathV_iff a b c d).1 h
      obtain ⟨_, hb', hc', hd', _⟩ := (isPathV_iff a' b' c' d').1 h'
      rw [Bool.true_and, Bool.true_and]
      exact (cfW_sym b c d b' c' d' ⟨hb, hc, hd⟩ ⟨hb', hc', hd'⟩).1
theorem cfP_sym (p q : S50) : cfP p q = cfP q p := cfV_sym ..
theorem cfP_irr (p : S50) : cfP p p = false := by
  unfold cfP cfV
  cases h : isPathV p.f0 p.f1 p.f2 p.f3 with
  | false => rfl
  | true =>
    obtain ⟨_, hb, hc, hd, _⟩ := (isPathV_iff _ _ _ _).1 h
    rw [Bool.true_and, Bool.true_and]
    exact (cfW_sym _ _ _ _ _ _ ⟨hb, hc, hd⟩ ⟨hb, hc, hd⟩).2

/-- The place of the first path with this number. -/
def findV (l : List S50) (x : Int) : Int := impl_FindPath.go l x 0
theorem go_bd (l : List S50) (x : Int) : ∀ i : Int, 0 ≤ i → (impl_FindPath.go l x i = -1 ∧ (∀ p ∈ l, p.f0 ≠ x)) ∨ (i ≤ impl_FindPath.go l x i ∧ impl_FindPath.go l x i < i + l.length ∧ (l.getD (impl_FindPath.go l x i - i).toNat z50).f0 = x) := by
  induction l with
  | nil => intro i _; left; exact ⟨rfl, by simp⟩
  | cons p r ih =>
    intro i hi
    simp only [impl_FindPath.go]
    by_cases h : p.f0 = x
    · rw [if_pos h]; right; refine ⟨by omega, by simp only [List.length_cons]; omega, ?_⟩; simp [h]
    · rw [if_neg h]
      rcases ih (i + 1) (by omega) with ⟨h1, h2⟩ | ⟨h1, h2, h3⟩
      · left; refine ⟨h1, ?_⟩
        intro q hq
        rcases List.mem_cons.1 hq with rfl | hq
        · exact h
        · exact h2 q hq
      · right
        refine ⟨by omega, by simp only [List.length_cons]; omega, ?_⟩
        have e : (impl_FindPath.go r x (i + 1) - i).toNat = (impl_FindPath.go r x (i + 1) - (i + 1)).toNat + 1 := by omega
        rw [e]; simpa using h3
theorem findV_bd (l : List S50) (x : Int) (h : 0 ≤ findV l x) : findV l x < l.length ∧ (l.getD (findV l x).toNat z50).f0 = x := by
  rcases go_bd l x 0 (by omega) with ⟨h1, _⟩ | ⟨_, h2, h3⟩
  · unfold findV at h; omega
  · unfold findV; refine ⟨by omega, ?_⟩; simpa using h3
theorem findV_neg (l : List S50) (x : Int) (h : ¬ 0 ≤ findV l x) : ∀ p ∈ l, p.f0 ≠ x := by
  rcases go_bd l x 0 (by omega) with ⟨_, h1⟩ | ⟨h1, _, _⟩
  · exact h1
  · exact absurd h1 h
/-- The path with this number. -/
def pOf (l : List S50) (x : Int) : S50 := l.getD (findV l x).toNat z50
theorem rd_find (l : List S50) (x : Int) (h : 0 ≤ findV l x) : rd_T50 l (findV l x) = pOf l x := rfl

/-- Does p conflict with none of the e numbers from j on? -/
def frFrom (l : List S50) (p : S50) (ids : List Int) : Nat → Nat → Bool | 0, _ => true | e + 1, j => !cfP p (pOf l (ids.getD j 0)) && frFrom l p ids e (j + 1)
def tgAt (l : List S50) (ids : List Int) (i : Nat) : Bool := decide (0 ≤ findV l (ids.getD i 0)) && ((decide (i = 0) || decide (ids.getD (i - 1) 0 < ids.getD i 0)) && frFrom l (pOf l (ids.getD i 0)) ids i 0)
def tgFrom (l : List S50) (ids : List Int) : Nat → Nat → Bool | 0, _ => true | d + 1, i => tgAt l ids i && tgFrom l ids d (i + 1)
def togV (l : List S50) (ids : List Int) : Bool := areV l && tgFrom l ids ids.length 0

theorem are_ok (l : List S50) (h : areV l = true) : l.length ≤ 12 ∧ ∀ j, j < l.length → okAt l j = true := by
  unfold areV at h
  rw [Bool.and_eq_true, decide_eq_true_eq, arFrom_iff] at h
  exact ⟨h.1, fun j hj => h.2 j (Nat.zero_le _) (by omega)⟩
theorem are_lt (l : List S50) (h : areV l = true) (a : Nat) : ∀ b, a < b → b < l.length → (l.getD a z50).f0 < (l.getD b z50).f0 := by
  intro b hab
  induction hab with
  | refl =>
    intro hb
    have := (are_ok l h).2 (a + 1) hb
    unfold okAt at this
    simp only [Bool.and_eq_true, Bool.or_eq_true, decide_eq_true_eq] at this
    rcases this.2 with h0 | h0
    · omega
    · simpa using h0
  | step hm ih =>
    rename_i m
    intro hb
    have := (are_ok l h).2 (m + 1) hb
    unfold okAt at this
    simp only [Bool.and_eq_true, Bool.or_eq_true, decide_eq_true_eq] at this
    rcases this.2 with h0 | h0
    · omega
    · have h1 := ih (by omega)
      have h2 : (l.getD m z50).f0 < (l.getD (m + 1) z50).f0 := by simpa using h0
      exact Int.lt_trans h1 h2
theorem find_mem (l : List S50) (p : S50) (hp : p ∈ l) : 0 ≤ findV l p.f0 := by
  by_cases h : 0 ≤ findV l p.f0
  · exact h
  · exact absurd rfl (findV_neg l _ h p hp)
theorem pof_mem (l : List S50) (h : areV l = true) (p : S50) (hp : p ∈ l) : pOf l p.f0 = p := by
  obtain ⟨h1, h2⟩ := findV_bd l _ (find_mem l p hp)
  have h0 := find_mem l p hp
  obtain ⟨i, hi, e⟩ := List.getElem_of_mem hp
  have ei : l.getD i z50 = p := by rw [getDI l i hi]; exact e
  unfold pOf
  obtain ⟨j, hj⟩ := Int.eq_ofNat_of_zero_le h0
  rw [hj] at h1 h2 ⊢
  rw [Int.toNat_natCast] at h2 ⊢
  rcases Nat.lt_trichotomy i j with hij | hij | hij
  · have := are_lt l h i j hij (by omega); rw [ei, h2] at this; omega
  · rw [← hij]; exact ei
  · have := are_lt l h j i hij hi; rw [ei, h2] at this; omega

theorem frFrom_iff (l : List S50) (p : S50) (ids : List Int) : ∀ e j, frFrom l p ids e j = true ↔ ∀ m, j ≤ m → m < j + e → cfP p (pOf l (ids.getD m 0)) = false := by
  intro e
  induction e with
  | zero => intro j; simp only [frFrom, true_iff]; intro m h1 h2; omega
  | succ e ih =>
    intro j
    simp only [frFrom, Bool.and_eq_true, ih, Bool.not_eq_true']
    constructor
    · rintro ⟨h1, h2⟩ m h3 h4
      rcases Nat.eq_or_lt_of_le h3 with rfl | h5
      · exact h1
      · exact h2 m h5 (by omega)
    · intro h; exact ⟨h j (Nat.le_refl _) (by omega), fun m h3 h4 => h m (by omega) (by omega)⟩
theorem tgFrom_iff (l : List S50) (ids : List Int) : ∀ d i, tgFrom l ids d i = true ↔ ∀ j, i ≤ j → j < i + d → tgAt l ids j = true := by
  intro d
  induction d with
  | zero => intro i; simp only [tgFrom, true_iff]; intro j h1 h2; omega
  | succ d ih =>
    intro i
    simp only [tgFrom, Bool.and_eq_true, ih]
    constructor
    · rintro ⟨h1, h2⟩ j h3 h4
      rcases Nat.eq_or_lt_of_le h3 with rfl | h5
      · exact h1
      · exact h2 j h5 (by omega)
    · intro h; exact ⟨h i (Nat.le_refl _) (by omega), fun j h3 h4 => h j (by omega) (by omega)⟩
theorem tgAt_iff (l : List S50) (ids : List Int) (i : Nat) : tgAt l ids i = true ↔ 0 ≤ findV l (ids.getD i 0) ∧ (i = 0 ∨ ids.getD (i - 1) 0 < ids.getD i 0) ∧ ∀ m, m < i → cfP (pOf l (ids.getD i 0)) (pOf l (ids.getD m 0)) = false := by
  unfold tgAt
  simp only [Bool.and_eq_true, Bool.or_eq_true, decide_eq_true_eq, frFrom_iff]
  constructor
  · rintro ⟨h1, h2, h3⟩; exact ⟨h1, h2, fun m hm => h3 m (Nat.zero_le _) (by omega)⟩
  · rintro ⟨h1, h2, h3⟩; exact ⟨h1, h2, fun m _ hm => h3 m (by omega)⟩
theorem tog_iff (l : List S50) (ids : List Int) : togV l ids = true ↔ areV l = true ∧ ∀ j, j < ids.length → tgAt l ids j = true := by
  unfold togV
  rw [Bool.and_eq_true, tgFrom_iff]
  constructor
  · rintro ⟨h1, h2⟩; exact ⟨h1, fun j hj => h2 j (Nat.zero_le _) (by omega)⟩
  · rintro ⟨h1, h2⟩; exact ⟨h1, fun j _ hj => h2 j (by omega)⟩
theorem tog_free (l : List S50) (ids : List Int) (h : togV l ids = true) (a b : Nat) (ha : a < ids.length) (hb : b < ids.length) : cfP (pOf l (ids.getD a 0)) (pOf l (ids.getD b 0)) = false := by
  have h2 := ((tog_iff l ids).1 h).2
  rcases Nat.lt_trichotomy a b with hab | hab | hab
  · rw [cfP_sym]; exact ((tgAt_iff l ids b).1 (h2 b hb)).2.2 a hab
  · rw [hab]; exact cfP_irr _
  · exact ((tgAt_iff l ids a).1 (h2 a ha)).2.2 b hab

/-- The place before the first number that is not below x. -/
def posV (x : Int) : List Int → Nat | [] => 0 | y :: r => if y < x then posV x r + 1 else 0
def putAt (ids : List Int) (x : Int) (p : Nat) : List Int := if ids[p]? = some x then ids else ids.take p ++ x :: ids.drop p
def putV (ids : List Int) (x : Int) : List Int := putAt ids x (posV x ids)
theorem posV_le (x : Int) : ∀ ids : List Int, posV x ids ≤ ids.length
  | [] => Nat.le_refl _
  | y :: r => by
    have := posV_le x r
    simp only [posV, List.length_cons]
    split <;> omega
theorem putV_length (ids : List Int) (x : Int) : (putV ids x).length ≤ ids.length + 1 := by
  have := posV_le x ids
  unfold putV putAt
  split
  · omega
  · simp; omega
theorem posV_char (x : Int) : ∀ (ids : List Int) (p : Nat), p ≤ ids.length → (∀ a, a < p → ids.getD a 0 < x) → (p < ids.length → ¬ ids.getD p 0 < x) → posV x ids = p
  | [], p, hp, _, _ => by have : p = 0 := by simpa using hp
                          subst this; rfl
  | y :: r, 0, _, _, h2 => by
    have : ¬ y < x := by simpa using h2 (by simp)
    simp only [posV]; rw [if_neg this]
  | y :: r, p + 1, hp, h1, h2 => by
    have h0 : y < x := by simpa using h1 0 (by omega)
    simp only [posV]; rw [if_pos h0, posV_char x r p (by simpa using hp) (fun a ha => by simpa using h1 (a + 1) (by omega)) (fun hlt => by simpa using h2 (by simpa using hlt))]
/-- Ascending. -/
def Asc (ids : List Int) : Prop := ∀ a b, a < b → b < ids.length → ids.getD a 0 < ids.getD b 0
theorem mem_pos (ids : List Int) (x : Int) (ha : Asc ids) (hx : ids[posV x ids]? ≠ some x) : x ∉ ids := by
  intro hm
  obtain ⟨i, hi, he⟩ := List.getElem_of_mem hm
  have hg : ids.getD i 0 = x := by rw [List.getD_eq_getElem?_getD, List.getElem?_eq_getElem hi]; exact he
  have hp : posV x ids = i := posV_char x ids i (by omega) (fun a h => by have := ha a i h hi; omega) (fun _ => by omega)
  rw [hp, List.getElem?_eq_getElem hi, he] at hx
  exact hx rfl
theorem put_mem (ids : List Int) (x : Int) (ha : Asc ids) (hx : x ∈ ids) : putV ids x = ids := by
  unfold putV putAt
  rw [if_pos]
  by_cases h : ids[posV x ids]? = some x
  · exact h
  · exact absurd hx (mem_pos ids x ha h)
theorem put_new (ids : List Int) (x : Int) (hx : x ∉ ids) : putV ids x = ids.take (posV x ids) ++ x :: ids.drop (posV x ids) := by
  unfold putV putAt
  rw [if_neg (fun h => hx (List.mem_of_getElem? h))]
theorem tgFrom_at (l : List S50) (ids : List Int) : ∀ (d i : Nat), i + d = ids.length → tgFrom l ids d i = true → ∀ j, i ≤ j → j < ids.length → tgAt l ids j = true := by
  intro d
  induction d with
  | zero => intro i hi _ j h1 h2; omega
  | succ d ih =>
    intro i hi h j h1 h2
    simp only [tgFrom, Bool.and_eq_true] at h
    by_cases he : j = i
    · subst he; exact h.1
    · exact ih (i + 1) (by omega) h.2 j (by omega) h2
theorem togV_asc (l : List S50) (ids : List Int) (h : togV l ids = true) : Asc ids := by
  unfold togV at h
  rw [Bool.and_eq_true] at h
  have hat := tgFrom_at l ids ids.length 0 (by omega) h.2
  have step : ∀ j, 1 ≤ j → j < ids.length → ids.getD (j - 1) 0 < ids.getD j 0 := by
    intro j h1 h2
    have := hat j (by omega) h2
    simp only [tgAt, Bool.and_eq_true, Bool.or_eq_true, decide_eq_true_eq] at this
    rcases this.2.1 with h0 | h0
    · omega
    · exact h0
  intro a b hab hb
  obtain ⟨d, rfl⟩ : ∃ d, b = a + 1 + d := ⟨b - (a + 1), by omega⟩
  induction d with
  | zero => have := step (a + 1) (by omega) (by omega); simpa using this
  | succ d ih =>
    have h1 := ih (by omega) (by omega)
    have h2 := step (a + 1 + (d + 1)) (by omega) hb
    have e : a + 1 + (d + 1) - 1 = a + 1 + d := by omega
    rw [e] at h2
    omega

/-! Being together, by members -/
theorem asc_pw (ids : List Int) : Asc ids ↔ ids.Pairwise (· < ·) := by
  rw [List.pairwise_iff_getElem]
  constructor
  · intro h i j hi hj hij
    have := h i j hij hj
    rwa [List.getD_eq_getElem?_getD, List.getD_eq_getElem?_getD, List.getElem?_eq_getElem hi, List.getElem?_eq_getElem hj] at this
  · intro h i j hij hj
    have := h i j (by omega) hj hij
    rwa [List.getD_eq_getElem?_getD, List.getD_eq_getElem?_getD, List.getElem?_eq_getElem (show i < ids.length by omega), List.getElem?_eq_getElem hj]
theorem mem_getD (ids : List Int) (x : Int) (h : x ∈ ids) : ∃ i, i < ids.length ∧ ids.getD i 0 = x := by
  obtain ⟨i, hi, he⟩ := List.getElem_of_mem h
  exact ⟨i, hi, by rw [List.getD_eq_getElem?_getD, List.getElem?_eq_getElem hi]; exact he⟩
theorem getD_mem (ids : List Int) (i : Nat) (h : i < ids.length) : ids.getD i 0 ∈ ids := by
  rw [List.getD_eq_getElem?_getD, List.getElem?_eq_getElem h]; exact List.getElem_mem h
theorem tog_set (l : List S50) (ids : List Int) : togV l ids = true ↔ areV l = true ∧ Asc ids ∧ (∀ x ∈ ids, 0 ≤ findV l x) ∧ ∀ x ∈ ids, ∀ y ∈ ids, cfP (pOf l x) (pOf l y) = false := by
  constructor
  · intro h
    refine ⟨((tog_iff l ids).1 h).1, togV_asc l ids h, fun x hx => ?_, fun x hx y hy => ?_⟩
    · obtain ⟨i, hi, rfl⟩ := mem_getD ids x hx
      exact ((tgAt_iff l ids i).1 (((tog_iff l ids).1 h).2 i hi)).1
    · obtain ⟨i, hi, rfl⟩ := mem_getD ids x hx
      obtain ⟨j, hj, rfl⟩ := mem_getD ids y hy
      exact tog_free l ids h i j hi hj
  · rintro ⟨h1, h2, h3, h4⟩
    refine (tog_iff l ids).2 ⟨h1, fun j hj => (tgAt_iff l ids j).2 ⟨h3 _ (getD_mem ids j hj), ?_, fun m hm => h4 _ (getD_mem ids j hj) _ (getD_mem ids m (by omega))⟩⟩
    rcases Nat.eq_zero_or_pos j with h0 | h0
    · exact .inl h0
    · exact .inr (h2 _ _ (by omega) hj)
theorem tog_sub (l : List S50) (a b : List Int) (ha : Asc a) (hs : ∀ x ∈ a, x ∈ b) (hb : togV l b = true) : togV l a = true := by
  obtain ⟨h1, _, h3, h4⟩ := (tog_set l b).1 hb
  exact (tog_set l a).2 ⟨h1, ha, fun x hx => h3 x (hs x hx), fun x hx y hy => h4 x (hs x hx) y (hs y hy)⟩
theorem find_in (l : List S50) (x : Int) (h : 0 ≤ findV l x) : pOf l x ∈ l ∧ (pOf l x).f0 = x := by
  obtain ⟨h1, h2⟩ := findV_bd l x h
  refine ⟨?_, h2⟩
  unfold pOf
  rw [getDI l _ (by omega)]
  exact List.getElem_mem _
theorem posV_lt (x : Int) : ∀ (ids : List Int) (a : Nat), a < posV x ids → ids.getD a 0 < x
  | [], a, h => by simp [posV] at h
  | y :: r, a, h => by
    simp only [posV] at h
    split at h
    · rename_i hy
      cases a with
      | zero => simpa using hy
      | succ a => have := posV_lt x r a (by omega); simpa using this
    · omega
theorem posV_ge (x : Int) : ∀ (ids : List Int), posV x ids < ids.length → x ≤ ids.getD (posV x ids) 0
  | [], h => by simp at h
  | y :: r, h => by
    simp only [posV] at h ⊢
    split
    · rename_i hy
      rw [if_pos hy] at h
      have := posV_ge x r (by simpa using h)
      simpa using this
    · rename_i hy
      simp; omega
theorem put_mem_iff (ids : List Int) (x y : Int) : y ∈ putV ids x ↔ y = x ∨ y ∈ ids := by
  unfold putV putAt
  split
  · rename_i h
    have hx := List.mem_of_getElem? h
    exact ⟨fun hy => .inr hy, fun hy => hy.elim (fun e => e ▸ hx) id⟩
  · have e : ids = ids.take (posV x ids) ++ ids.drop (posV x ids) := (List.take_append_drop _ _).symm
    constructor
    · intro hy
      rcases List.mem_append.1 hy with hy | hy
      · exact .inr (List.mem_of_mem_take hy)
      · rcases List.mem_cons.1 hy with hy | hy
        · exact .inl hy
        · exact .inr (List.mem_of_mem_drop hy)
    · intro hy
      rcases hy with hy | hy
      · exact List.mem_append_right _ (List.mem_cons.2 (.inl hy))
      · rw [e] at hy
        rcases List.mem_append.1 hy with hy | hy
        · exact List.mem_append_left _ hy
        · exact List.mem_append_right _ (List.mem_cons_of_mem _ hy)
theorem put_asc (ids : List Int) (x : Int) (h : Asc ids) : Asc (putV ids x) := by
  by_cases hx : x ∈ ids
  · rw [put_mem ids x h hx]; exact h
  · rw [put_new ids x hx, asc_pw]
    have hp := (asc_pw ids).1 h
    have hle := posV_le x ids
    have hlt : ∀ a ∈ ids.take (posV x ids), a < x := fun a ha => by
      obtain ⟨i, hi, rfl⟩ := List.getElem_of_mem ha
      have h1 : i < posV x ids := by rw [List.length_take] at hi; omega
      have := posV_lt x ids i h1
      rw [List.getD_eq_getElem?_getD, List.getElem?_eq_getElem (show i < ids.length by omega)] at this
      rw [List.getElem_take]; exact this
    have hgt : ∀ b ∈ ids.drop (posV x ids), x < b := fun b hb => by
      obtain ⟨i, hi, rfl⟩ := List.getElem_of_mem hb
      rw [List.length_drop] at hi
      have h0 := posV_ge x ids (by omega)
      rw [List.getElem_drop]
      have hm : ids[posV x ids + i] ∈ ids := List.getElem_mem _
      have h2 : ids.getD (posV x ids) 0 ≤ ids[posV x ids + i] := by
        rcases Nat.eq_zero_or_pos i with h3 | h3
        · subst h3
          rw [List.getD_eq_getElem?_getD, List.getElem?_eq_getElem (show posV x ids < ids.length by omega)]
          exact Int.le_refl _
        · have := h (posV x ids) (posV x ids + i) (by omega) (by omega)
          rw [List.getD_eq_getElem?_getD (i := posV x ids + i), List.getElem?_eq_getElem (show posV x ids + i < ids.length by omega)] at this
          exact Int.le_of_lt this
      have h4 : x ≠ ids[posV x ids + i] := fun e => hx (e ▸ hm)
      omega
    rw [List.pairwise_append]
    refine ⟨hp.take, List.pairwise_cons.2 ⟨hgt, hp.drop⟩, fun a ha b hb => ?_⟩
    rcases List.mem_cons.1 hb with rfl | hb
    · exact hlt a ha
    · exact Int.lt_trans (hlt a ha) (hgt b hb)
/-- Two ascending lists of the same numbers. -/
theorem asc_ext : ∀ (a b : List Int), Asc a → Asc b → (∀ x, x ∈ a ↔ x ∈ b) → a = b := by
  intro a b ha hb h
  rw [asc_pw] at ha hb
  exact ((List.perm_ext_iff_of_nodup (ha.imp (fun h => by omega)) (hb.imp (fun h => by omega))).2 h).eq_of_pairwise (le := fun x y => x < y) (fun x y _ _ h1 h2 => by omega) ha hb

theorem put_fuel (n m : Nat) (h : m ≤ n + 1) : m * (m + 4) ≤ (n + 1) * (n + 5) := Nat.mul_le_mul h (by omega)

def fullV (l : List S50) (ids : List Int) (p : S50) : Bool := decide (p.f0 ∈ ids) || !togV l (putV ids p.f0)
def isFullV (l : List S50) (ids : List Int) : Bool := l.all (fullV l ids) && togV l ids

/-! The full stages, by choices of paths -/
/-- The numbers of the chosen paths. -/
def pickB : List S50 → List Bool → List Int
  | p :: l, b :: bs => if b = true then p.f0 :: pickB l bs else pickB l bs
  | _, _ => []
/-- All choices of n paths: with the first, then without. -/
def allB : Nat → List (List Bool)
  | 0 => [[]]
  | n + 1 => (allB n).map (fun b => true :: b) ++ (allB n).map (fun b => false :: b)
def isStg (l : List S50) (ids : List Int) : Bool := decide (0 < ids.length) && isFullV l ids
def allS (l : List S50) : List (List Int) := ((allB l.length).map (pickB l)).filter (isStg l)
def stagesV (l : List S50) : List (List Int) := if areV l = true then (allS l).take 40 else []
theorem mem_allB : ∀ (n : Nat) (b : List Bool), b ∈ allB n ↔ b.length = n
  | 0, b => by simp [allB]
  | n + 1, [] => by simp [allB]
  | n + 1, c :: b => by
    have ih := mem_allB n b
    simp only [allB, List.mem_append, List.mem_map, List.cons.injEq, List.length_cons]
    rw [Nat.add_right_cancel_iff, ← ih]
    constructor
    · rintro (⟨_, h, _, rfl⟩ | ⟨_, h, _, rfl⟩) <;> exact h
    · intro h
      cases c
      · exact .inr ⟨b, h, rfl, rfl⟩
      · exact .inl ⟨b, h, rfl, rfl⟩
theorem allB_pw : ∀ n : Nat, (allB n).Pairwise fun a b => ∃ c r r', a = c ++ true :: r ∧ b = c ++ false :: r'
  | 0 => by simp [allB]
  | n + 1 => by
    have ih := allB_pw n
    simp only [allB]
    rw [List.pairwise_append, List.pairwise_map, List.pairwise_map]
    refine ⟨ih.imp ?_, ih.imp ?_, ?_⟩
    · rintro a b ⟨c, r, r', rfl, rfl⟩; exact ⟨true :: c, r, r', rfl, rfl⟩
    · rintro a b ⟨c, r, r', rfl, rfl⟩; exact ⟨false :: c, r, r', rfl, rfl⟩
    · intro a ha b hb
      obtain ⟨a', _, rfl⟩ := List.mem_map.1 ha
      obtain ⟨b', _, rfl⟩ := List.mem_map.1 hb
      exact ⟨[], a', b', rfl, rfl⟩
theorem allB_nodup (n : Nat) : (allB n).Nodup := (allB_pw n).imp (by rintro a b ⟨c, r, r', rfl, rfl⟩ h; exact absurd (List.append_cancel_left h) (by simp))
theorem pickB_length : ∀ (l : List S50) (b : List Bool), (pickB l b).length ≤ l.length
  | [], _ => by simp [pickB]
  | p :: l, [] => by simp [pickB]
  | p :: l, c :: b => by
    have := pickB_length l b
    simp only [pickB]
    split <;> simp <;> omega
theorem pickB_mem (x : Int) : ∀ (l : List S50) (b : List Bool), x ∈ pickB l b ↔ ∃ i, i < l.length ∧ b.getD i false = true ∧ (l.getD i z50).f0 = x
  | [], b => by simp [pickB]
  | p :: l, [] => by simp [pickB]
  | p :: l, c :: b => by
    have ih := pickB_mem x l b
    have hs : (∃ i, i < (p :: l).length ∧ (c :: b).getD i false = true ∧ ((p :: l).getD i z50).f0 = x) ↔ (c = true ∧ p.f0 = x) ∨ ∃ i, i < l.length ∧ b.getD i false = true ∧ (l.getD i z50).f0 = x := by
      constructor
      · rintro ⟨i, h1, h2, h3⟩
        cases i with
        | zero => exact .inl ⟨by simpa using h2, by simpa using h3⟩
        | succ i => exact .inr ⟨i, by simpa using h1, by simpa using h2, by simpa using h3⟩
      · rintro (⟨h1, h2⟩ | ⟨i, h1, h2, h3⟩)
        · exact ⟨0, by simp, by simpa using h1, by simpa using h2⟩
        · exact ⟨i + 1, by simpa using h1, by simpa using h2, by simpa using h3⟩
    rw [hs]
    simp only [pickB]
    cases c with
    | true => rw [if_pos rfl, List.mem_cons, ih]; exact ⟨fun h => h.imp (fun e => ⟨rfl, e.symm⟩) id, fun h => h.imp (fun e => e.2.symm) id⟩
    | false => rw [if_neg (by decide), ih]; simp
theorem pickB_asc : ∀ (l : List S50) (b : List Bool), (l.Pairwise fun p q => p.f0 < q.f0) → (pickB l b).Pairwise (· < ·)
  | [], b, _ => by simp [pickB]
  | p :: l, [], _ => by simp [pickB]
  | p :: l, c :: b, h => by
    rw [List.pairwise_cons] at h
    have ih := pickB_asc l b h.2
    simp only [pickB]
    split
    · refine List.pairwise_cons.2 ⟨fun x hx => ?_, ih⟩
      obtain ⟨i, h1, _, h3⟩ := (pickB_mem x l b).1 hx
      rw [← h3, getDI l i h1]
      exact h.1 _ (List.getElem_mem _)
    · exact ih
theorem are_pw (l : List S50) (h : areV l = true) : l.Pairwise fun p q => p.f0 < q.f0 := by
  rw [List.pairwise_iff_getElem]
  intro i j hi hj hij
  have := are_lt l h i j hij hj
  rwa [getDI l i hi, getDI l j hj] at this
theorem pickB_append : ∀ (l l' : List S50) (b b' : List Bool), l.length = b.length → pickB (l ++ l') (b ++ b') = pickB l b ++ pickB l' b'
  | [], l', [], b', _ => by simp [pickB]
  | [], l', c :: b, b', h => by simp at h
  | p :: l, l', [], b', h => by simp at h
  | p :: l, l', c :: b, b', h => by
    have ih := pickB_append l l' b b' (by simpa using h)
    simp only [List.cons_append, pickB, ih]
    split <;> rfl
theorem pickB_false : ∀ (l : List S50) (b : List Bool), (∀ i, i < l.length → b.getD i false = false) → pickB l b = []
  | [], b, _ => by simp [pickB]
  | p :: l, [], _ => by simp [pickB]
  | p :: l, c :: b, h => by
    have hc : c = false := by simpa using h 0 (by simp)
    subst hc
    simp only [pickB]
    rw [if_neg (by decide)]
    exact pickB_false l b (fun i hi => by simpa using h (i + 1) (by simpa using hi))
/-- Chosen is just who conflicts with none that is chosen. -/
def FullB (l : List S50) (b : List Bool) : Prop := ∀ i, i < l.length → (b.getD i false = true ↔ ∀ j, j < l.length → b.getD j false = true → cfP (l.getD i z50) (l.getD j z50) = false)
theorem pof_at (l : List S50) (h : areV l = true) (i : Nat) (hi : i < l.length) : 0 ≤ findV l (l.getD i z50).f0 ∧ pOf l (l.getD i z50).f0 = l.getD i z50 := by
  have hm : l.getD i z50 ∈ l := by rw [getDI l i hi]; exact List.getElem_mem _
  exact ⟨find_mem l _ hm, pof_mem l h _ hm⟩
theorem mem_at (l : List S50) (p : S50) (h : p ∈ l) : ∃ i, i < l.length ∧ l.getD i z50 = p := by
  obtain ⟨i, hi, he⟩ := List.getElem_of_mem h
  exact ⟨i, hi, by rw [getDI l i hi]; exact he⟩
theorem at_inj (l : List S50) (h : areV l = true) (i j : Nat) (hi : i < l.length) (hj : j < l.length) (e : (l.getD i z50).f0 = (l.getD j z50).f0) : i = j := by
  rcases Nat.lt_trichotomy i j with hij | hij | hij
  · have := are_lt l h i j hij hj; omega
  · exact hij
  · have := are_lt l h j i hij hi; omega
theorem tog_pick (l : List S50) (h : areV l = true) (b : List Bool) : togV l (pickB l b) = true ↔ ∀ i j, i < l.length → j < l.length → b.getD i false = true → b.getD j false = true → cfP (l.getD i z50) (l.getD j z50) = false := by
  rw [tog_set]
  constructor
  · rintro ⟨_, _, _, h4⟩ i j hi hj bi bj
    have := h4 _ ((pickB_mem _ l b).2 ⟨i, hi, bi, rfl⟩) _ ((pickB_mem _ l b).2 ⟨j, hj, bj, rfl⟩)
    rwa [(pof_at l h i hi).2, (pof_at l h j hj).2] at this
  · intro hf
    refine ⟨h, (asc_pw _).2 (pickB_asc l b (are_pw l h)), fun x hx => ?_, fun x hx y hy => ?_⟩
    · obtain ⟨i, hi, bi, rfl⟩ := (pickB_mem _ l b).1 hx
      exact (pof_at l h i hi).1
    · obtain ⟨i, hi, bi, rfl⟩ := (pickB_mem _ l b).1 hx
      obtain ⟨j, hj, bj, rfl⟩ := (pickB_mem _ l b).1 hy
      rw [(pof_at l h i hi).2, (pof_at l h j hj).2]
      exact hf i j hi hj bi bj
theorem full_iff (l : List S50) (ids : List Int) : isFullV l ids = true ↔ togV l ids = true ∧ ∀ p ∈ l, p.f0 ∈ ids ∨ togV l (putV ids p.f0) = false := by
  unfold isFullV fullV
  rw [Bool.and_eq_true, List.all_eq_true, and_comm]
  simp
theorem full_pick (l : List S50) (h : areV l = true) (b : List Bool) : isFullV l (pickB l b) = true ↔ FullB l b := by
  rw [full_iff]
  have hasc : Asc (pickB l b) := (asc_pw _).2 (pickB_asc l b (are_pw l h))
  constructor
  · rintro ⟨ht, hp⟩ i hi
    have hf := (tog_pick l h b).1 ht
    refine ⟨fun bi j hj bj => hf i j hi hj bi bj, fun hn => ?_⟩
    rcases hp (l.getD i z50) (by rw [getDI l i hi]; exact List.getElem_mem _) with hm | hm
    · obtain ⟨j, hj, bj, e⟩ := (pickB_mem _ l b).1 hm
      rw [← at_inj l h j i hj hi e]; exact bj
    · exfalso
      have : togV l (putV (pickB l b) (l.getD i z50).f0) = true := by
        obtain ⟨_, _, h3, h4⟩ := (tog_set _ _).1 ht
        refine (tog_set _ _).2 ⟨h, put_asc _ _ hasc, fun x hx => ?_, fun x hx y hy => ?_⟩
        · rcases (put_mem_iff _ _ _).1 hx with rfl | hx
          · exact (pof_at l h i hi).1
          · exact h3 x hx
        · have hone : ∀ y ∈ pickB l b, cfP (l.getD i z50) (pOf l y) = false := fun y hy => by
            obtain ⟨j, hj, bj, rfl⟩ := (pickB_mem _ l b).1 hy
            rw [(pof_at l h j hj).2]; exact hn j hj bj
          rcases (put_mem_iff _ _ _).1 hx with rfl | hx
          · rw [(pof_at l h i hi).2]
            rcases (put_mem_iff _ _ _).1 hy with rfl | hy
            · rw [(pof_at l h i hi).2]; exact cfP_irr _
            · exact hone y hy
          · rcases (put_mem_iff _ _ _).1 hy with rfl | hy
            · rw [(pof_at l h i hi).2, cfP_sym]; exact hone x hx
            · exact h4 x hx y hy
      rw [this] at hm
      exact absurd hm (by decide)
  · intro hf
    refine ⟨(tog_pick l h b).2 (fun i j hi hj bi bj => (hf i hi).1 bi j hj bj), fun p hp => ?_⟩
    obtain ⟨i, hi, rfl⟩ := mem_at l p hp
    cases hb : b.getD i false with
    | true => exact .inl ((pickB_mem _ l b).2 ⟨i, hi, hb, rfl⟩)
    | false =>
      refine .inr ?_
      cases ht : togV l (putV (pickB l b) (l.getD i z50).f0) with
      | false => rfl
      | true =>
        exfalso
        obtain ⟨_, _, _, h4⟩ := (tog_set _ _).1 ht
        have : b.getD i false = true := (hf i hi).2 (fun j hj bj => by
          have := h4 _ ((put_mem_iff _ _ _).2 (.inl rfl)) _ ((put_mem_iff _ _ _).2 (.inr ((pickB_mem _ l b).2 ⟨j, hj, bj, rfl⟩)))
          rwa [(pof_at l h i hi).2, (pof_at l h j hj).2] at this)
        rw [this] at hb
        exact absurd hb (by decide)
/-- Of two full choices that part at a path, that with the path comes first. -/
theorem cmpV_app : ∀ (c a b : List Int), cmpV (c ++ a) (c ++ b) = cmpV a b
  | [], a, b => rfl
  | x :: c, a, b => by simp [cmpV, cmpV_app c a b]
theorem full_before (l : List S50) (h : areV l = true) (c r r' : List Bool) (h1 : (c ++ true :: r).length = l.length) (h2 : (c ++ false :: r').length = l.length) (f1 : FullB l (c ++ true :: r)) (f2 : FullB l (c ++ false :: r')) : cmpV (pickB l (c ++ true :: r)) (pickB l (c ++ false :: r')) = -1 := by
  have hc : c.length < l.length := by rw [← h1]; simp
  have el : l = l.take c.length ++ l[c.length] :: l.drop (c.length + 1) := by rw [← List.drop_eq_getElem_cons hc, List.take_append_drop]
  have key : ∀ d : List Bool, ∀ x : Bool, pickB l (c ++ x :: d) = pickB (l.take c.length) c ++ pickB (l[c.length] :: l.drop (c.length + 1)) (x :: d) := fun d x => by
    conv => lhs; rw [el]
    exact pickB_append _ _ _ _ (by rw [List.length_take]; omega)
  rw [key, key, cmpV_app]
  simp only [pickB]
  rw [if_pos trivial, if_neg (by decide)]
  cases hR : pickB (l.drop (c.length + 1)) r' with
  | nil =>
    exfalso
    have hF : (c ++ false :: r').getD c.length false = true := (f2 c.length hc).2 (fun j hj bj => by
      have hjc : j < c.length := by
        rcases Nat.lt_trichotomy j c.length with q | q | q
        · exact q
        · subst q; simp [List.getD_eq_getElem?_getD, List.getElem?_append_right] at bj
        · exfalso
          obtain ⟨e, rfl⟩ : ∃ e, j = c.length + 1 + e := ⟨j - (c.length + 1), by omega⟩
          have hb' : r'.getD e false = true := by
            rw [List.getD_eq_getElem?_getD, List.getElem?_append_right (by omega), show c.length + 1 + e - c.length = e + 1 by omega, List.getElem?_cons_succ] at bj
            rw [List.getD_eq_getElem?_getD]; exact bj
          have : (l.getD (c.length + 1 + e) z50).f0 ∈ pickB (l.drop (c.length + 1)) r' := (pickB_mem _ _ _).2 ⟨e, by rw [List.length_drop]; omega, hb', by rw [List.getD_eq_getElem?_getD, List.getElem?_drop, ← List.getD_eq_getElem?_getD]⟩
          rw [hR] at this
          exact absurd this (by simp)
      have t1 : (c ++ true :: r).getD j false = true := by
        rw [List.getD_eq_getElem?_getD, List.getElem?_append_left hjc] at bj ⊢; exact bj
      have t2 : (c ++ true :: r).getD c.length false = true := by simp [List.getD_eq_getElem?_getD]
      exact (f1 c.length hc).1 t2 j hj t1)
    simp [List.getD_eq_getElem?_getD] at hF
  | cons y R =>
    have hy : y ∈ pickB (l.drop (c.length + 1)) r' := by rw [hR]; exact List.mem_cons_self
    obtain ⟨i, hi, _, e⟩ := (pickB_mem _ _ _).1 hy
    rw [List.length_drop] at hi
    rw [List.getD_eq_getElem?_getD, List.getElem?_drop, ← List.getD_eq_getElem?_getD] at e
    have := are_lt l h c.length (c.length + 1 + i) (by omega) (by omega)
    rw [e, getDI l c.length hc] at this
    simp [cmpV, this]
theorem allS_pw (l : List S50) (h : areV l = true) : (allS l).Pairwise fun x y => cmpV x y = -1 := by
  unfold allS
  rw [List.pairwise_filter, List.pairwise_map]
  refine (allB_pw l.length).imp_of_mem ?_
  rintro a b ha hb ⟨c, r, r', rfl, rfl⟩ s1 s2
  unfold isStg at s1 s2
  rw [Bool.and_eq_true] at s1 s2
  exact full_before l h c r r' ((mem_allB _ _).1 ha) ((mem_allB _ _).1 hb) ((full_pick l h _).1 s1.2) ((full_pick l h _).1 s2.2)
theorem cmpV_flip : ∀ a b, cmpV a b = -1 → cmpV b a = 1
  | [], [], h => by simp [cmpV] at h
  | [], _ :: _, _ => rfl
  | _ :: _, [], h => by simp [cmpV] at h
  | x :: a, y :: b, h => by
    simp only [cmpV] at h ⊢
    by_cases h1 : x < y
    · rw [if_neg (by omega), if_pos h1]
    · rw [if_neg h1] at h
      by_cases h2 : y < x
      · rw [if_pos h2] at h; exact absurd h (by decide)
      · rw [if_neg h2] at h
        rw [if_neg h2, if_neg h1]; exact cmpV_flip a b h
/-- The numbers of a stage as a choice. -/
theorem pick_of : ∀ (l : List S50) (q : S50 → Bool), pickB l (l.map q) = (l.filter q).map (·.f0)
  | [], q => by simp [pickB]
  | p :: l, q => by
    simp only [List.map_cons, pickB, pick_of l q, List.filter_cons]
    split <;> rfl
theorem tog_is_pick (l : List S50) (ids : List Int) (ht : togV l ids = true) : pickB l (l.map fun p => decide (p.f0 ∈ ids)) = ids := by
  obtain ⟨h, ha, hf, _⟩ := (tog_set l ids).1 ht
  refine asc_ext _ _ ((asc_pw _).2 (pickB_asc l _ (are_pw l h))) ha (fun x => ?_)
  rw [pick_of, List.mem_map]
  constructor
  · rintro ⟨p, hp, rfl⟩
    rw [List.mem_filter, decide_eq_true_eq] at hp
    exact hp.2
  · intro hx
    obtain ⟨h1, h2⟩ := find_in l x (hf x hx)
    exact ⟨pOf l x, List.mem_filter.2 ⟨h1, by rw [h2]; exact decide_eq_true hx⟩, h2⟩
theorem allS_mem (l : List S50) (ids : List Int) : ids ∈ allS l ↔ 0 < ids.length ∧ isFullV l ids = true := by
  unfold allS isStg
  rw [List.mem_filter, List.mem_map, Bool.and_eq_true, decide_eq_true_eq]
  constructor
  · exact fun h => h.2
  · intro h
    exact ⟨⟨l.map fun p => decide (p.f0 ∈ ids), (mem_allB _ _).2 (by simp), tog_is_pick l ids ((full_iff l ids).1 h.2).1⟩, h⟩

/-! The full stages, by masks -/
def agTo (l : List S50) (p : S50) : Nat → Nat | 0 => 0 | m + 1 => if cfP p (l.getD m z50) = true then agTo l p m ||| 2 ^ m else agTo l p m
def okM (l : List S50) (s i : Nat) : Bool := s.testBit i == decide (agTo l (l.getD i z50) l.length &&& s = 0)
def fullFrom (l : List S50) (s : Nat) : Nat → Nat → Bool | 0, _ => true | d + 1, i => okM l s i && fullFrom l s d (i + 1)
def pickFrom (l : List S50) (s : Nat) : Nat → Nat → List Int | 0, _ => [] | d + 1, i => if s.testBit i = true then (l.getD i z50).f0 :: pickFrom l s d (i + 1) else pickFrom l s d (i + 1)
def maskFrom (l : List S50) : Nat → Nat → List (List Int) | 0, _ => [] | d + 1, s => if fullFrom l s l.length 0 = true then pickFrom l s l.length 0 :: maskFrom l d (s + 1) else maskFrom l d (s + 1)
theorem agTo_bit (l : List S50) (p : S50) : ∀ (m j : Nat), (agTo l p m).testBit j = (decide (j < m) && cfP p (l.getD j z50))
  | 0, j => by simp [agTo]
  | m + 1, j => by
    have ih := agTo_bit l p m j
    simp only [agTo]
    by_cases h : cfP p (l.getD m z50) = true
    · rw [if_pos h, Nat.testBit_or, ih, Nat.testBit_two_pow]
      rcases Nat.lt_trichotomy j m with q | q | q
      · rw [decide_eq_true q, decide_eq_true (show j < m + 1 by omega), decide_eq_false (show ¬ m = j by omega), Bool.or_false]
      · subst q; rw [h]; simp
      · rw [decide_eq_false (show ¬ j < m by omega), decide_eq_false (show ¬ j < m + 1 by omega), decide_eq_false (show ¬ m = j by omega)]; rfl
    · rw [if_neg h, ih]
      rcases Nat.lt_trichotomy j m with q | q | q
      · rw [decide_eq_true q, decide_eq_true (show j < m + 1 by omega)]
      · subst q; simp only [Bool.not_eq_true] at h; rw [h, Bool.and_false, Bool.and_false]
      · rw [decide_eq_false (show ¬ j < m by omega), decide_eq_false (show ¬ j < m + 1 by omega)]
theorem agTo_lt (l : List S50) (p : S50) (m : Nat) : agTo l p m < 2 ^ m := by
  refine Nat.lt_pow_two_of_testBit _ (fun j hj => ?_)
  rw [agTo_bit, decide_eq_false (by omega), Bool.false_and]
theorem and_zero (a s : Nat) : a &&& s = 0 ↔ ∀ j, a.testBit j = true → s.testBit j = false := by
  constructor
  · intro h j ha
    have : (a &&& s).testBit j = false := by rw [h]; simp
    rw [Nat.testBit_and, ha, Bool.true_and] at this
    exact this
  · intro h
    refine Nat.eq_of_testBit_eq (fun j => ?_)
    rw [Nat.testBit_and, Nat.zero_testBit]
    cases ha : a.testBit j with
    | false => rfl
    | true => rw [h j ha]; rfl
/-- A mask as a choice. -/
def bitsM (n s : Nat) : List Bool := (List.range n).map s.testBit
theorem bitsM_at (n s i : Nat) (h : i < n) : (bitsM n s).getD i false = s.testBit i := by
  unfold bitsM
  rw [List.getD_eq_getElem?_getD, List.getElem?_map, List.getElem?_range h]; rfl
theorem fullFrom_iff (l : List S50) (s : Nat) : ∀ d i, fullFrom l s d i = true ↔ ∀ j, i ≤ j → j < i + d → okM l s j = true := by
  intro d
  induction d with
  | zero => intro i; simp only [fullFrom, true_iff]; intro j h1 h2; omega
  | succ d ih =>
    intro i
    simp only [fullFrom, Bool.and_eq_true, ih]
    constructor
    · rintro ⟨h1, h2⟩ j h3 h4
      rcases Nat.eq_or_lt_of_le h3 with rfl | h5
      · exact h1
      · exact h2 j h5 (by omega)
    · intro h; exact ⟨h i (Nat.le_refl _) (by omega), fun j h3 h4 => h j (by omega) (by omega)⟩
theorem full_mask (l : List S50) (s : Nat) : fullFrom l s l.length 0 = true ↔ FullB l (bitsM l.length s) := by
  rw [fullFrom_iff]
  have key : ∀ i, i < l.length → (okM l s i = true ↔ ((bitsM l.length s).getD i false = true ↔ ∀ j, j < l.length → (bitsM l.length s).getD j false = true → cfP (l.getD i z50) (l.getD j z50) = false)) := fun i hi => by
    unfold okM
    rw [bitsM_at _ _ _ hi, beq_iff_eq]
    have h1 : (agTo l (l.getD i z50) l.length &&& s = 0) ↔ ∀ j, j < l.length → (bitsM l.length s).getD j false = true → cfP (l.getD i z50) (l.getD j z50) = false := by
      rw [and_zero]
      constructor
      · intro h j hj hb
        rw [bitsM_at _ _ _ hj] at hb
        cases hc : cfP (l.getD i z50) (l.getD j z50) with
        | false => rfl
        | true => have := h j (by rw [agTo_bit, decide_eq_true hj, hc]; rfl); rw [hb] at this; exact absurd this (by decide)
      · intro h j hj
        rw [agTo_bit, Bool.and_eq_true, decide_eq_true_eq] at hj
        cases hs : s.testBit j with
        | false => rfl
        | true => have := h j hj.1 (by rw [bitsM_at _ _ _ hj.1]; exact hs); rw [this] at hj; exact absurd hj.2 (by decide)
    rw [← h1]
    constructor
    · intro h; rw [h, decide_eq_true_eq]
    · intro h
      rw [Bool.eq_iff_iff, decide_eq_true_eq]; exact h
  constructor
  · intro h i hi; exact (key i hi).1 (h i (Nat.zero_le _) (by omega))
  · intro h i _ hi; exact (key i (by omega)).2 (h i (by omega))
theorem pick_mask (l : List S50) (s : Nat) : ∀ (d i : Nat), i + d = l.length → pickFrom l s d i = pickB (l.drop i) ((bitsM l.length s).drop i)
  | 0, i, h => by rw [List.drop_of_length_le (by omega)]; simp [pickFrom, pickB]
  | d + 1, i, h => by
    have hb : i < (bitsM l.length s).length := by simp [bitsM]; omega
    have e : (bitsM l.length s)[i] = s.testBit i := by simp [bitsM]
    rw [drop_cons l i (by omega), drop_cons (bitsM l.length s) i hb]
    simp only [pickFrom, pickB]
    rw [pick_mask l s d (i + 1) (by omega), e, getDI l i (by omega)]
theorem maskFrom_eq (l : List S50) : ∀ d s, maskFrom l d s = ((List.range' s d).filter fun s => fullFrom l s l.length 0).map fun s => pickB l (bitsM l.length s)
  | 0, s => by simp [maskFrom]
  | d + 1, s => by
    simp only [maskFrom]
    rw [maskFrom_eq l d (s + 1), List.range'_succ, List.filter_cons]
    have e := pick_mask l s l.length 0 (by omega)
    rw [List.drop_zero, List.drop_zero] at e
    split
    · rw [List.map_cons, e]
    · rfl
def numB : List Bool → Nat | [] => 0 | c :: b => (if c = true then 1 else 0) + 2 * numB b
theorem numB_lt : ∀ b : List Bool, numB b < 2 ^ b.length
  | [] => by simp [numB]
  | c :: b => by
    have := numB_lt b
    simp only [numB, List.length_cons, Nat.pow_succ]
    split <;> omega
theorem numB_bit : ∀ (b : List Bool) (i : Nat), (numB b).testBit i = b.getD i false
  | [], i => by simp [numB]
  | c :: b, 0 => by cases c <;> simp [numB, Nat.testBit_zero] <;> omega
  | c :: b, i + 1 => by
    rw [Nat.testBit_succ, show numB (c :: b) / 2 = numB b from by simp only [numB]; split <;> omega, numB_bit b i]; simp
theorem bits_perm (n : Nat) : ((List.range (2 ^ n)).map (bitsM n)).Perm (allB n) := by
  refine (List.perm_ext_iff_of_nodup ?_ (allB_nodup n)).2 (fun b => ?_)
  · refine List.pairwise_map.2 (List.nodup_range.imp_of_mem ?_)
    intro a b ha hb hab h
    rw [List.mem_range] at ha hb
    apply hab
    refine Nat.eq_of_testBit_eq (fun j => ?_)
    by_cases hj : j < n
    · rw [← bitsM_at n a j hj, ← bitsM_at n b j hj, h]
    · have hp := Nat.pow_le_pow_right (show 0 < 2 by decide) (show n ≤ j by omega)
      rw [Nat.testBit_lt_two_pow (by omega), Nat.testBit_lt_two_pow (by omega)]
  · rw [mem_allB, List.mem_map]
    constructor
    · rintro ⟨s, _, rfl⟩; simp [bitsM]
    · intro hb
      refine ⟨numB b, List.mem_range.2 (by rw [← hb]; exact numB_lt b), ?_⟩
      refine List.ext_getElem (by simp [bitsM, hb]) (fun i h1 h2 => ?_)
      have := numB_bit b i
      rw [List.getD_eq_getElem?_getD, List.getElem?_eq_getElem h2, Option.getD_some] at this
      rw [← this]; simp [bitsM]
theorem masks_perm (l : List S50) (h : areV l = true) : (allS l).Perm (maskFrom l (2 ^ l.length - 1) 1) := by
  rw [maskFrom_eq]
  unfold allS
  have h1 : ((allB l.length).map (pickB l)).Perm (((List.range (2 ^ l.length)).map (bitsM l.length)).map (pickB l)) := (bits_perm l.length).symm.map _
  refine (h1.filter _).trans ?_
  rw [List.map_map, List.filter_map]
  have e : List.range (2 ^ l.length) = 0 :: List.range' 1 (2 ^ l.length - 1) := by
    have : 0 < 2 ^ l.length := Nat.pow_pos (by decide)
    obtain ⟨m, hm⟩ : ∃ m, 2 ^ l.length = m + 1 := ⟨2 ^ l.length - 1, by omega⟩
    rw [hm, List.range_eq_range', List.range'_succ]; simp
  rw [e, List.filter_cons]
  have h0 : pickB l (bitsM l.length 0) = [] := pickB_false l _ (fun i hi => by rw [bitsM_at _ _ _ hi, Nat.zero_testBit])
  rw [if_neg (by simp only [Function.comp_apply, isStg, h0]; simp)]
  rw [show (fun s => pickB l (bitsM l.length s)) = pickB l ∘ bitsM l.length from rfl]
  refine List.Perm.of_eq (congrArg _ (List.filter_congr (fun s hs => ?_)))
  rw [List.mem_range'_1] at hs
  have hs2 : s < 2 ^ l.length := by omega
  simp only [Function.comp_apply]
  rw [Bool.eq_iff_iff, full_mask, ← full_pick l h]
  unfold isStg
  rw [Bool.and_eq_true, decide_eq_true_eq]
  refine ⟨fun q => q.2, fun q => ⟨?_, q⟩⟩
  obtain ⟨i, hi⟩ := Nat.exists_testBit_of_ne_zero (show s ≠ 0 by omega)
  have hin : i < l.length := by
    rcases Nat.lt_or_ge i l.length with q | q
    · exact q
    · have hp := Nat.pow_le_pow_right (show 0 < 2 by decide) q
      rw [Nat.testBit_lt_two_pow (by omega)] at hi; exact absurd hi (by decide)
  exact List.length_pos_of_mem ((pickB_mem _ l _).2 ⟨i, hin, by rw [bitsM_at _ _ _ hin]; exact hi, rfl⟩)
theorem masks_sorted (l : List S50) (h : areV l = true) : sortV (maskFrom l (2 ^ l.length - 1) 1) = allS l := by
  refine (sort_one _ _ (masks_perm l h) ((allS_pw l h).imp (fun {x y} q => ?_))).symm
  rw [cmpV_flip _ _ q]; decide
theorem maskFrom_length (l : List S50) : ∀ d s, (maskFrom l d s).length ≤ d
  | 0, s => by simp [maskFrom]
  | d + 1, s => by
    have := maskFrom_length l d (s + 1)
    simp only [maskFrom]
    split
    · rw [List.length_cons]; omega
    · omega

theorem iIsPath (a b c d : Int) : impl_IsPath.f a b c d = some (isPathV a b c d) := by
  unfold impl_IsPath.f isPathV
  simp only [inr, Option.bind_some]
  generalize decide (1 ≤ a ∧ a ≤ 20) = p1
  generalize decide (1 ≤ b ∧ b ≤ 3) = p2
  generalize decide (0 ≤ c ∧ c ≤ 3) = p3
  generalize decide (0 ≤ d ∧ d ≤ 3) = p4
  cases p1 <;> cases p2 <;> cases p3 <;> cases p4 <;> rfl

theorem iAre_go (l : List S50) (hn : l.length ≤ 9223372036854775807) : ∀ (d k : Nat) (i : Nat), i + d = l.length → d < k → impl_ArePaths.l0 k l l (l.length : Int) (i : Int) = some (arFrom l d i) := by
  intro d
  induction d with
  | zero =>
    intro k i hi hk
    obtain ⟨k, rfl⟩ : ∃ m, k = m + 1 := ⟨k - 1, by omega⟩
    simp only [impl_ArePaths.l0, arFrom]
    rw [if_neg (by omega)]
  | succ d ih =>
    intro k i hi hk
    obtain ⟨k, rfl⟩ : ∃ m, k = m + 1 := ⟨k - 1, by omega⟩
    simp only [impl_ArePaths.l0, arFrom, okAt]
    rw [if_pos (by omega), if_pos (by omega), if_pos (by omega), iIsPath, Option.bind_some, rdI_get _ _ (by omega), wsucc (show i < l.length by omega) hn, ih k (i + 1) (by omega) (by omega), getDI l i (by omega)]
    have hpv : isPathV (l[i]).f0 (l[i]).f1 (l[i]).f2 (l[i]).f3 = pathV l[i] := rfl
    rw [hpv]
    cases hp : pathV l[i] with
    | false => rw [if_neg (by decide), Bool.false_and, Bool.false_and]
    | true =>
      rw [if_pos rfl]
      by_cases h0 : i = 0
      · subst h0
        rw [if_neg (by omega)]; simp
      · rw [if_pos (by omega), wpred (by omega) (by omega), if_pos (by omega), if_pos (by omega), rdI_get _ _ (by omega), getDI l (i - 1) (by omega), decide_eq_false h0, Bool.false_or, Bool.true_and]
        by_cases hc : (l[i - 1]).f0 < (l[i]).f0
        · rw [if_neg (by omega), decide_eq_true hc, Bool.true_and]
        · rw [if_pos (by omega), decide_eq_false hc, Bool.false_and]
theorem iAre_eq (k : Nat) (l : List S50) (hk : l.length < k) (hn : l.length ≤ 9223372036854775807) : impl_ArePaths.f k l = some (areV l) := by
  unfold impl_ArePaths.f areV
  have := iAre_go l hn l.length k 0 (by omega) hk
  rw [Int.natCast_zero] at this
  by_cases h : l.length ≤ 12
  · rw [if_neg (by omega), decide_eq_true h, Bool.true_and]; exact this
  · rw [if_pos (by omega), decide_eq_false h, Bool.false_and]

theorem iIn_eq (a : Int) (h0 : 0 ≤ a) (h1 : a ≤ 3) : impl_InPlace.f a = some (2 * a) := by
  unfold impl_InPlace.f
  rw [inr, Option.bind_some, if_pos (by simp; omega), w64 (by omega) (by omega)]
theorem iOut_eq (a : Int) (h0 : 0 ≤ a) (h1 : a ≤ 3) : impl_OutPlace.f a = some (2 * a + 1) := by
  unfold impl_OutPlace.f
  rw [inr, Option.bind_some, if_pos (by simp; omega), w64 (x := 2 * a) (by omega) (by omega), w64 (by omega) (by omega)]

theorem il_R (k : Nat) (a b c d : Int) (l : List Int) (hl : l.length = 4) (n : Int) (i : Int) (h0 : 0 ≤ i) (h1 : i < n) (h2 : i < 4) :
    impl_Interleave.l0 (k + 1) a b c d l n i = if 0 ≤ rd l i ∧ rd l i ≤ 7 then impl_Interleave.l0 k a b c d l n (i + 1) else some false := by
  simp only [impl_Interleave.l0]; rw [if_pos h1, if_pos h0, if_pos (by omega), inr]
  simp only [Option.bind_some, decide_eq_true_eq, il_w i h0 h2]
theorem il_Rend (k : Nat) (a b c d : Int) (l : List Int) (n : Int) (i : Int) (h1 : ¬ i < n) (h : ¬ (a ≠ b ∧ a ≠ c ∧ a ≠ d ∧ b ≠ c ∧ b ≠ d ∧ c ≠ d)) :
    impl_Interleave.l0 (k + 1) a b c d l n i = some false := by
  simp only [impl_Interleave.l0]; rw [if_neg h1]
  repeat' split
  all_goals first | rfl | (exfalso; apply h; omega)
theorem il_impl_no (a b c d : Int) (h : ¬ ILv a b c d) : impl_Interleave.f 40 a b c d = some false := by
  obtain ⟨r0, r1, r2, r3⟩ := il_rd a b c d
  have hl : [a, b, c, d].length = 4 := rfl
  unfold impl_Interleave.f
  rw [Option.bind_some, hl]
  rw [il_R _ _ _ _ _ _ hl _ _ (by omega) (by omega) (by omega), Int.zero_add, r0]
  split
  · rw [il_R _ _ _ _ _ _ hl _ _ (by omega) (by omega) (by omega), show (1 : Int) + 1 = 2 from rfl, r1]
    split
    · rw [il_R _ _ _ _ _ _ hl _ _ (by omega) (by omega) (by omega), show (2 : Int) + 1 = 3 from rfl, r2]
      split
      · rw [il_R _ _ _ _ _ _ hl _ _ (by omega) (by omega) (by omega), show (3 : Int) + 1 = 4 from rfl, r3]
        split
        · exact il_Rend _ a b c d _ _ _ (by omega) (fun h' => h (by unfold ILv; omega))
        · rfl
      · rfl
    · rfl
  · rfl
def ilBothI (a b c d : Fin 8) : Bool :=
  if a ≠ b ∧ a ≠ c ∧ a ≠ d ∧ b ≠ c ∧ b ≠ d ∧ c ≠ d then impl_Interleave.f 40 (a.val : Int) (b.val : Int) (c.val : Int) (d.val : Int) == some (ilW (a.val : Int) (b.val : Int) (c.val : Int) (d.val : Int))
  else true
theorem ilBothI_all : ∀ a b c d : Fin 8, ilBothI a b c d = true := by decide +kernel
theorem il_yesI (a b c d : Int) (h : ILv a b c d) : impl_Interleave.f 40 a b c d = some (ilW a b c d) := by
  obtain ⟨⟨a0, a1⟩, ⟨b0, b1⟩, ⟨c0, c1⟩, ⟨d0, d1⟩, h1, h2, h3, h4, h5, h6⟩ := h
  obtain ⟨a, rfl⟩ := Int.eq_ofNat_of_zero_le a0
  obtain ⟨b, rfl⟩ := Int.eq_ofNat_of_zero_le b0
  obtain ⟨c, rfl⟩ := Int.eq_ofNat_of_zero_le c0
  obtain ⟨d, rfl⟩ := Int.eq_ofNat_of_zero_le d0
  have := ilBothI_all ⟨a, by omega⟩ ⟨b, by omega⟩ ⟨c, by omega⟩ ⟨d, by omega⟩
  unfold ilBothI at this
  rw [if_pos (by simp only [ne_eq, Fin.mk.injEq]; omega)] at this
  exact eq_of_beq this
theorem iIl_eq (k : Nat) (a b c d : Int) (hk : 40 ≤ k) : impl_Interleave.f k a b c d = some (ilV a b c d) := by
  refine at_rounds (fun k => impl_Interleave.mono a b c d k) hk ?_
  unfold ilV
  by_cases h : ILv a b c d
  · rw [il_yesI a b c d h, decide_eq_true h, Bool.true_and]
  · rw [il_impl_no a b c d h, decide_eq_false h, Bool.false_and]

theorem iConf_eq (k : Nat) (a b c d a' b' c' d' : Int) (hk : 41 < k) : impl_Conflict.f k a b c d a' b' c' d' = some (cfV a b c d a' b' c' d') := by
  obtain ⟨k, rfl⟩ : ∃ m, k = m + 1 := ⟨k - 1, by omega⟩
  unfold impl_Conflict.f cfV cfW
  simp only [iIsPath, Option.bind_some, impl_Conflict.j0]
  cases h1 : isPathV a b c d with
  | false => simp
  | true =>
    cases h2 : isPathV a' b' c' d' with
    | false => simp
    | true =>
      obtain ⟨_, _, hc, hd, _⟩ := (isPathV_iff a b c d).1 h1
      obtain ⟨_, _, hc', hd', _⟩ := (isPathV_iff a' b' c' d').1 h2
      simp only [if_true, Bool.true_and, Bool.false_eq_true, if_false]
      by_cases hb : b = 2
      · rw [if_pos hb, if_pos hb]
        by_cases hb' : b' = 2
        · rw [if_pos hb', if_pos (by rw [hb']; rfl), if_pos hb]
        · rw [if_neg (by rw [beq_iff_eq]; exact hb'), if_pos hb, if_neg hb']
          by_cases h : c' = c
          · rw [if_pos h, h]; simp
          · rw [if_neg h]; simp [h]
      · rw [if_neg hb, if_neg hb, if_neg hb]
        by_cases hb' : b' = 2
        · rw [if_pos hb', if_pos hb']
          by_cases h : c = c'
          · rw [if_pos h, h]; simp
          · rw [if_neg h]; simp [h]
        · rw [if_neg hb', if_neg hb', iIn_eq c hc.1 hc.2, iOut_eq d hd.1 hd.2, iIn_eq c' hc'.1 hc'.2, iOut_eq d' hd'.1 hd'.2]
          simp only [Option.bind_some]
          rw [iIl_eq k _ _ _ _ (by omega)]
          simp only [Option.bind_some]
          by_cases h : c = c'
          · rw [if_pos h, if_pos h, h, il_same]
          · rw [if_neg h, if_neg h]
            split <;> rfl

theorem iCfq (k : Nat) (p q : S50) (hk : 41 < k) : impl_Conflict.f k p.f0 p.f1 p.f2 p.f3 q.f0 q.f1 q.f2 q.f3 = some (cfP p q) := iConf_eq k _ _ _ _ _ _ _ _ hk

theorem wraps_i64 (n : Int) (h0 : 0 ≤ n) (h1 : n < 2 ^ 63) : IntKind.i64.wrap n = n := by rw [IntKind.wrap_i64]; omega
/-- or of low bits with high ones. -/
theorem or_hi (k : IntKind) (j : Nat) (hj : j ≤ k.bits) (hk : ∀ n : Int, 0 ≤ n → n < 2 ^ j → k.wrap n = n) (i : Nat)
    (x y : Int) (hx0 : 0 ≤ x) (hx : x % 2 ^ i = 0) (hx1 : x < 2 ^ j) (hy0 : 0 ≤ y) (hy : y < 2 ^ i) (hy1 : y < 2 ^ j) : Go.bits .or k y x = y + x := by
  have e := bits_join k j hj hk i x y hx0 hx hx1 hy0 hy hy1
  obtain ⟨a, rfl⟩ := Int.eq_ofNat_of_zero_le hx0
  obtain ⟨b, rfl⟩ := Int.eq_ofNat_of_zero_le hy0
  have ha : a < 2 ^ j := by exact_mod_cast hx1
  have hb : b < 2 ^ j := by exact_mod_cast hy1
  rw [(bits_nat k j hj hk a b ha hb).2] at e
  rw [(bits_nat k j hj hk b a hb ha).2, Nat.or_comm, e, Int.add_comm]
theorem and127_i64 (x : Int) (h0 : 0 ≤ x) (h1 : x < 2 ^ 63) : Go.bits .and .i64 x 127 = x % 128 := bits_mask .i64 63 (by decide) wraps_i64 7 (by decide) x h0 h1
theorem and127_u8 (x : Int) (h0 : 0 ≤ x) (h1 : x < 256) : Go.bits .and .u8 x 127 = x % 128 := bits_mask .u8 8 (by decide) wraps_u8 7 (by decide) x h0 h1
theorem or128_i64 (x : Int) (h0 : 0 ≤ x) (h1 : x < 128) : Go.bits .or .i64 x 128 = x + 128 := or_hi .i64 63 (by decide) wraps_i64 7 128 x (by decide) (by decide) (by decide) h0 h1 (by omega)
theorem or128_u8 (x : Int) (h0 : 0 ≤ x) (h1 : x < 128) : Go.bits .or .u8 x 128 = x + 128 := or_hi .u8 8 (by decide) wraps_u8 7 128 x (by decide) (by decide) (by decide) h0 h1 (by omega)

/-! The program's stages -/
theorem pow_cast (j : Nat) : ((2 : Int) ^ j) = ((2 ^ j : Nat) : Int) := by simp
theorem shl_one (j : Nat) (h : j < 62) : shl .i64 1 (j : Int) = ((2 ^ j : Nat) : Int) := by
  have hp := Nat.pow_le_pow_right (show 0 < 2 by decide) (show j ≤ 61 by omega)
  unfold shl
  rw [Int.toNat_natCast, show IntKind.i64.bits = 64 from rfl, Nat.min_eq_left (by omega), Int.one_mul, pow_cast]
  exact wraps_i64 _ (Int.natCast_nonneg _) (by omega)
theorem bit_at (s i : Nat) (hs : s < 4096) (hi : i < 62) : Go.bits .and .i64 (shr .i64 (s : Int) (i : Int)) 1 = (((if s.testBit i = true then 1 else 0 : Nat)) : Int) := by
  have hd : s / 2 ^ i < 2 ^ 63 := Nat.lt_of_le_of_lt (Nat.div_le_self _ _) (by omega)
  have e : shr .i64 (s : Int) (i : Int) = ((s / 2 ^ i : Nat) : Int) := by
    unfold shr
    rw [Int.toNat_natCast, show IntKind.i64.bits = 64 from rfl, Nat.min_eq_left (by omega), pow_cast]; rfl
  rw [e, show (1 : Int) = ((1 : Nat) : Int) from rfl, (bits_nat .i64 63 (by decide) wraps_i64 _ 1 hd (by decide)).1, Nat.and_one_is_mod, Nat.testBit_eq_decide_div_mod_eq]
  congr 1
  by_cases h : s / 2 ^ i % 2 = 1
  · rw [h]; rfl
  · rw [if_neg (by simpa using h)]; omega
/-- For each path, whom it conflicts with. -/
def agL (l : List S50) : List Int := l.map fun p => (agTo l p l.length : Int)
theorem agL_at (l : List S50) (i : Nat) (hi : i < l.length) : rd (agL l) (i : Int) = (agTo l l[i] l.length : Int) := by
  rw [rd_get _ _ (by simpa [agL] using hi)]; simp [agL]
theorem st1 (l : List S50) (hl : l.length ≤ 12) (r : List (List Int)) (F i : Nat) (hi : i < l.length) (pre post : List Int) (hp : pre.length = i)
    (H : ∀ m, F < m → impl_StagesOf.l0 m l [] (pre ++ (agTo l l[i] l.length : Int) :: post) l (l.length : Int) ((i + 1 : Nat) : Int) = some r) :
    ∀ (d j k : Nat), j + d = l.length → d + F + 60 < k → impl_StagesOf.l1 k l [] (pre ++ (agTo l l[i] j : Int) :: post) (i : Int) l (l.length : Int) (i : Int) l (l.length : Int) (j : Int) l[i].f0 l[i].f1 l[i].f2 l[i].f3 = some r := by
  intro d
  induction d with
  | zero =>
    intro j k hj hk
    obtain ⟨k, rfl⟩ : ∃ m, k = m + 1 := ⟨k - 1, by omega⟩
    obtain rfl : j = l.length := by omega
    simp only [impl_StagesOf.l1]
    rw [if_neg (by omega), wsucc hi (by omega)]
    exact H k (by omega)
  | succ d ih =>
    intro j k hj hk
    obtain ⟨k, rfl⟩ : ∃ m, k = m + 1 := ⟨k - 1, by omega⟩
    simp only [impl_StagesOf.l1]
    rw [if_pos (by omega), if_pos (by omega), if_pos (by omega), rdI_get l j (by omega), iCfq k l[i] l[j] (by omega), Option.bind_some, wsucc (show j < l.length by omega) (by omega)]
    have e : agTo l l[i] (j + 1) = if cfP l[i] l[j] = true then agTo l l[i] j ||| 2 ^ j else agTo l l[i] j := by simp only [agTo]; rw [getDI l j (by omega)]
    cases hc : cfP l[i] l[j] with
    | true =>
      rw [hc, if_pos rfl] at e
      have hb := agTo_lt l l[i] j
      have hq := Nat.pow_le_pow_right (show 0 < 2 by decide) (show j ≤ 12 by omega)
      have er : rd (pre ++ (agTo l l[i] j : Int) :: post) (i : Int) = (agTo l l[i] j : Int) := by
        rw [rd_get _ _ (by simp; omega)]; simp [← hp]
      have es : ∀ v : Int, (pre ++ (agTo l l[i] j : Int) :: post).set i v = pre ++ v :: post := fun v => by subst hp; simp
      rw [if_pos rfl, if_pos (by omega), if_pos (by simp; omega), er, shl_one j (by omega), (bits_nat .i64 63 (by decide) wraps_i64 _ (2 ^ j) (show agTo l l[i] j < 2 ^ 63 by omega) (by omega)).2, Int.toNat_natCast, es, ← e]
      exact ih (j + 1) k (by omega) (by omega)
    | false =>
      rw [hc, if_neg (by decide)] at e
      rw [if_neg (by decide), ← e]
      exact ih (j + 1) k (by omega) (by omega)
theorem st0 (l : List S50) (hl : l.length ≤ 12) (r : List (List Int)) (F : Nat) (H : ∀ m, F < m → impl_StagesOf.l2 m l [] (agL l) 1 = some r) :
    ∀ (d i k : Nat), i + d = l.length → d * 100 + F + 60 < k → impl_StagesOf.l0 k l [] ((l.take i).map (fun p => (agTo l p l.length : Int)) ++ List.replicate d 0) l (l.length : Int) (i : Int) = some r := by
  intro d
  induction d with
  | zero =>
    intro i k hi hk
    obtain ⟨k, rfl⟩ : ∃ m, k = m + 1 := ⟨k - 1, by omega⟩
    simp only [impl_StagesOf.l0]
    rw [if_neg (by omega), List.take_of_length_le (by omega), List.replicate_zero, List.append_nil]
    exact H k (by omega)
  | succ d ih =>
    intro i k hi hk
    obtain ⟨k, rfl⟩ : ∃ m, k = m + 1 := ⟨k - 1, by omega⟩
    simp only [impl_StagesOf.l0]
    rw [if_pos (by omega), if_pos (by omega), if_pos (by omega), rdI_get l i (by omega), List.replicate_succ]
    have := st1 l hl r (d * 100 + F + 60) i (by omega) ((l.take i).map (fun p => (agTo l p l.length : Int))) (List.replicate d 0) (by rw [List.length_map, List.length_take]; omega)
      (fun m hm => by
        have h2 := ih (i + 1) m (by omega) (by omega)
        rw [List.take_succ_eq_append_getElem (by omega), List.map_append, List.append_assoc] at h2
        exact h2) l.length 0 k (by omega) (by omega)
    exact this
theorem st3 (l : List S50) (hl : l.length ≤ 12) (s : Nat) (hs : s < 2 ^ l.length) (out : List (List Int)) (ho : out.length ≤ 4096) (r : List (List Int)) (F : Nat) : ∀ (d i k : Nat) (ids : List Int), i + d = l.length → ids.length ≤ i → d + F + 1 < k →
    (∀ m, F < m → impl_StagesOf.l2 m l (if fullFrom l s d i = true then out ++ [ids ++ pickFrom l s d i] else out) (agL l) ((s + 1 : Nat) : Int) = some r) →
    impl_StagesOf.l3 k l out (agL l) (s : Int) true ids l (l.length : Int) (i : Int) = some r := by
  have hq := Nat.pow_le_pow_right (show 0 < 2 by decide) hl
  intro d
  induction d with
  | zero =>
    intro i k ids hi hd hk H
    obtain ⟨k, rfl⟩ : ∃ m, k = m + 1 := ⟨k - 1, by omega⟩
    simp only [impl_StagesOf.l3]
    have := H k (by omega)
    simp only [fullFrom, pickFrom] at this
    rw [if_pos trivial, List.append_nil] at this
    rw [if_neg (by omega), if_pos trivial, if_pos (by omega), wsucc (show s < 4096 by omega) (by omega)]
    exact this
  | succ d ih =>
    intro i k ids hi hd hk H
    obtain ⟨k, rfl⟩ : ∃ m, k = m + 1 := ⟨k - 1, by omega⟩
    have hb := agTo_lt l l[i] l.length
    have e1 := bit_at s i (by omega) (by omega)
    have e2 : Go.bits .and .i64 (rd (agL l) (i : Int)) (s : Int) = ((agTo l l[i] l.length &&& s : Nat) : Int) := by
      rw [agL_at l i (by omega), (bits_nat .i64 63 (by decide) wraps_i64 _ s (show agTo l l[i] l.length < 2 ^ 63 by omega) (by omega)).1]
    have hok : okM l s i = (s.testBit i == decide (agTo l l[i] l.length &&& s = 0)) := by unfold okM; rw [getDI l i (by omega)]
    simp only [impl_StagesOf.l3]
    rw [if_pos (by omega), if_pos (by omega), if_pos (by omega), if_pos (by simp [agL]; omega), e2, wsucc (show i < l.length by omega) (by omega), wsucc (show s < 4096 by omega) (by omega), rdI_get l i (by omega)]
    cases hbit : s.testBit i with
    | true =>
      rw [hbit, if_pos rfl] at e1
      rw [hbit] at hok
      rw [e1]
      by_cases hz : agTo l l[i] l.length &&& s = 0
      · rw [decide_eq_true hz] at hok
        rw [hz, if_neg (by decide), if_pos (by decide), if_pos (by omega)]
        refine ih (i + 1) k _ (by omega) (by rw [List.length_append, List.length_singleton]; omega) (by omega) (fun m hm => ?_)
        have ef : fullFrom l s (d + 1) i = fullFrom l s d (i + 1) := by simp only [fullFrom]; rw [hok]; rfl
        have ep : pickFrom l s (d + 1) i = l[i].f0 :: pickFrom l s d (i + 1) := by simp only [pickFrom]; rw [hbit, if_pos rfl, getDI l i (by omega)]
        have := H m hm
        rw [ef, ep] at this
        simpa using this
      · rw [decide_eq_false hz] at hok
        have hq2 : (((agTo l l[i] l.length &&& s : Nat) : Int) == 0) = false := by simpa using hz
        rw [hq2, if_pos (by decide)]
        have ef : fullFrom l s (d + 1) i = false := by simp only [fullFrom]; rw [hok]; rfl
        have := H k (by omega)
        rw [ef, if_neg (by decide)] at this
        exact this
    | false =>
      rw [hbit, if_neg (by decide)] at e1
      rw [hbit] at hok
      rw [e1]
      by_cases hz : agTo l l[i] l.length &&& s = 0
      · rw [decide_eq_true hz] at hok
        rw [hz, if_pos (by decide)]
        have ef : fullFrom l s (d + 1) i = false := by simp only [fullFrom]; rw [hok]; rfl
        have := H k (by omega)
        rw [ef, if_neg (by decide)] at this
        exact this
      · rw [decide_eq_false hz] at hok
        have hq2 : (((agTo l l[i] l.length &&& s : Nat) : Int) == 0) = false := by simpa using hz
        rw [hq2, if_neg (by decide), if_neg (by decide)]
        refine ih (i + 1) k _ (by omega) (by omega) (by omega) (fun m hm => ?_)
        have ef : fullFrom l s (d + 1) i = fullFrom l s d (i + 1) := by simp only [fullFrom]; rw [hok]; rfl
        have ep : pickFrom l s (d + 1) i = pickFrom l s d (i + 1) := by simp only [pickFrom]; rw [hbit, if_neg (by decide)]
        have := H m hm
        rw [ef, ep] at this
        exact this
theorem st2 (l : List S50) (hl : l.length ≤ 12) : ∀ (d s k : Nat) (out : List (List Int)), s + d = 2 ^ l.length → out.length ≤ s → d * 20 + 20 < k → impl_StagesOf.l2 k l out (agL l) (s : Int) = some (out ++ maskFrom l d s) := by
  have hq := Nat.pow_le_pow_right (show 0 < 2 by decide) hl
  intro d
  induction d with
  | zero =>
    intro s k out hs ho hk
    obtain ⟨k, rfl⟩ : ∃ m, k = m + 1 := ⟨k - 1, by omega⟩
    simp only [impl_StagesOf.l2, maskFrom]
    rw [shl_one _ (by omega), if_neg (by omega), List.append_nil]
  | succ d ih =>
    intro s k out hs ho hk
    obtain ⟨k, rfl⟩ : ∃ m, k = m + 1 := ⟨k - 1, by omega⟩
    simp only [impl_StagesOf.l2, maskFrom]
    rw [shl_one _ (by omega), if_pos (by omega)]
    have := st3 l hl s (by omega) out (by omega) (out ++ if fullFrom l s l.length 0 = true then pickFrom l s l.length 0 :: maskFrom l d (s + 1) else maskFrom l d (s + 1)) (d * 20 + 20) l.length 0 k [] (by omega) (by simp) (by omega) (fun m hm => by
      by_cases hf : fullFrom l s l.length 0 = true
      · rw [if_pos hf, if_pos hf, ih (s + 1) m _ (by omega) (by rw [List.length_append, List.length_singleton]; omega) hm]; simp
      · rw [if_neg hf, if_neg hf, ih (s + 1) m _ (by omega) (by omega) hm])
    exact this
theorem iStages_u (k : Nat) (l : List S50) (hk : l.length + 100000 < k) (hn : l.length ≤ 1048576) : impl_StagesOf.u k l = some (if areV l = true then maskFrom l (2 ^ l.length - 1) 1 else []) := by
  unfold impl_StagesOf.u
  rw [Option.bind_some, iAre_eq k l (by omega) (by omega), Option.bind_some]
  by_cases ha : areV l = true
  · have hl : l.length ≤ 12 := by unfold areV at ha; rw [Bool.and_eq_true, decide_eq_true_eq] at ha; exact ha.1
    have hq := Nat.pow_le_pow_right (show 0 < 2 by decide) hl
    have h0 : 0 < 2 ^ l.length := Nat.pow_pos (by decide)
    rw [if_pos ha, if_pos ha, if_pos (by omega), if_pos (by omega), Int.toNat_natCast]
    have := st0 l hl (maskFrom l (2 ^ l.length - 1) 1) 90000 (fun m hm => by
      have := st2 l hl (2 ^ l.length - 1) 1 m [] (by omega) (by simp) (by omega)
      rw [List.nil_append] at this
      exact this) l.length 0 k (by omega) (by omega)
    rw [List.take_zero, List.map_nil, List.nil_append, Int.natCast_zero] at this
    exact this
  · rw [if_neg ha, if_neg ha]
theorem iStages_eq (k : Nat) (l : List S50) (hk : l.length + 100000 < k) (hn : l.length ≤ 1048576) : impl_StagesOf.f k l = some (stagesV l) := by
  unfold impl_StagesOf.f stagesV
  rw [iStages_u k l hk hn, Option.bind_some]
  by_cases ha : areV l = true
  · have hl : l.length ≤ 12 := by unfold areV at ha; rw [Bool.and_eq_true, decide_eq_true_eq] at ha; exact ha.1
    have hq := Nat.pow_le_pow_right (show 0 < 2 by decide) hl
    have hm := maskFrom_length l (2 ^ l.length - 1) 1
    rw [if_pos ha, if_pos ha, if_pos (by omega)]
    unfold finV
    rw [masks_sorted l ha]
  · rw [if_neg ha, if_neg ha, if_pos (by simp), finV_nil]

theorem allS_rows (l : List S50) : ∀ s ∈ allS l, s.length ≤ l.length := by
  intro s hs
  unfold allS at hs
  obtain ⟨b, _, rfl⟩ := List.mem_map.1 (List.mem_filter.1 hs).1
  exact pickB_length l b
theorem stagesV_rows (l : List S50) : (∀ s ∈ stagesV l, s.length ≤ 12) ∧ (stagesV l).length ≤ 40 := by
  unfold stagesV
  split
  · rename_i ha
    have hl : l.length ≤ 12 := by unfold areV at ha; rw [Bool.and_eq_true, decide_eq_true_eq] at ha; exact ha.1
    exact ⟨fun s hs => Nat.le_trans (allS_rows l s (List.mem_of_mem_take hs)) hl, by rw [List.length_take]; omega⟩
  · exact ⟨by simp, by simp⟩

def stepA (l : List S50) (out : List Int) (p : S50) : List Int := if togV l (putV out p.f0) = true then putV out p.f0 else out
theorem stepA_length (l : List S50) (out : List Int) (p : S50) : (stepA l out p).length ≤ out.length + 1 := by
  have := putV_length out p.f0
  unfold stepA
  split <;> omega
theorem foldA_length (l : List S50) : ∀ (r : List S50) (out : List Int), (r.foldl (stepA l) out).length ≤ out.length + r.length
  | [], out => Nat.le_refl _
  | p :: r, out => by
    have h1 := foldA_length l r (stepA l out p)
    have h2 := stepA_length l out p
    simp only [List.foldl_cons, List.length_cons]
    omega
def addV (l : List S50) (ids : List Int) : List Int := if togV l ids = true then l.foldl (stepA l) ids else ids
theorem addV_length (l : List S50) (ids : List Int) : (addV l ids).length ≤ ids.length + l.length := by
  unfold addV
  split
  · exact foldA_length l l ids
  · omega
theorem fuelN (n N : Nat) (h : n ≤ N) : (n + 1) * (n + 5) ≤ (N + 1) * (N + 5) := Nat.mul_le_mul (by omega) (by omega)

theorem index_go (xs : List Int) (n : Int) (hn : xs.length ≤ 9223372036854775807) : ∀ (d k : Nat) (i : Nat), i + d = xs.length → d < k →
    ∃ r, slices_Index_int_int.l0 k xs n (xs.length : Int) (i : Int) = some r ∧ (0 ≤ r ↔ n ∈ xs.drop i) := by
  intro d
  induction d with
  | zero =>
    intro k i hi hk
    obtain ⟨k, rfl⟩ : ∃ m, k = m + 1 := ⟨k - 1, by omega⟩
    simp only [slices_Index_int_int.l0]
    rw [if_neg (by omega), List.drop_of_length_le (by omega)]
    exact ⟨-1, rfl, by simp⟩
  | succ d ih =>
    intro k i hi hk
    obtain ⟨k, rfl⟩ : ∃ m, k = m + 1 := ⟨k - 1, by omega⟩
    simp only [slices_Index_int_int.l0]
    rw [if_pos (by omega), if_pos (by omega), if_pos (by omega), rd_get _ _ (by omega), wsucc (show i < xs.length by omega) hn, drop_cons xs i (by omega)]
    by_cases h : n = xs[i]
    · rw [if_pos h]; exact ⟨_, rfl, by simp only [List.mem_cons, ← h, true_or, iff_true]; omega⟩
    · rw [if_neg h]
      obtain ⟨r, hr, hiff⟩ := ih k (i + 1) (by omega) (by omega)
      exact ⟨r, hr, by rw [hiff]; simp only [List.mem_cons, h, false_or]⟩
theorem contains_eq (k : Nat) (l : List Int) (n : Int) (hk : l.length < k) (hn : l.length ≤ 9223372036854775807) : slices_Contains_int_int.f k l n = some (decide (n ∈ l)) := by
  unfold slices_Contains_int_int.f slices_Index_int_int.f
  obtain ⟨r, hr, hiff⟩ := index_go l n hn l.length k 0 (by omega) hk
  rw [Int.natCast_zero] at hr
  rw [hr, Option.bind_some]
  congr 1
  rw [decide_eq_decide]
  simpa using hiff

def coverB (rows : List (List Int)) (x : Int) : Bool := rows.any fun s => decide (x ∈ s)
theorem cov_go (M k : Nat) (x : Int) (hM : M ≤ 1099511627776) (hk : M < k) : ∀ (rows : List (List Int)) (i : Int), (∀ s ∈ rows, s.length ≤ M) → 0 ≤ i → ∃ r, impl_isCovered.go k rows x i = some r ∧ decide (0 ≤ r) = coverB rows x := by
  intro rows
  induction rows with
  | nil => intro i _ _; exact ⟨-1, rfl, rfl⟩
  | cons s r ih =>
    intro i hs hi
    have hsl := hs s List.mem_cons_self
    simp only [impl_isCovered.go]
    rw [contains_eq k s x (by omega) (by omega), Option.bind_some]
    by_cases h : x ∈ s
    · rw [if_pos (decide_eq_true h)]
      exact ⟨i, rfl, by unfold coverB; rw [List.any_cons, decide_eq_true h, decide_eq_true hi]; rfl⟩
    · rw [if_neg (by rw [decide_eq_false h]; decide)]
      obtain ⟨q, h1, h2⟩ := ih (i + 1) (fun t ht => hs t (List.mem_cons_of_mem _ ht)) (by omega)
      exact ⟨q, h1, by rw [h2]; unfold coverB; rw [List.any_cons, decide_eq_false h, Bool.false_or]⟩
theorem cov_eq (M k : Nat) (rows : List (List Int)) (x : Int) (hM : M ≤ 1099511627776) (hk : M < k) (hs : ∀ s ∈ rows, s.length ≤ M) : impl_isCovered.f k rows x = some (coverB rows x) := by
  unfold impl_isCovered.f
  obtain ⟨r, h1, h2⟩ := cov_go M k x hM hk rows 0 hs (by omega)
  rw [h1, Option.bind_some, h2]

/-- The cover that is built from left to right. -/
def stepC (l : List S50) (out : List (List Int)) (p : S50) : List (List Int) := if coverB out p.f0 = true then out else out ++ [addV l [p.f0]]
def coverV (l : List S50) : List (List Int) := if areV l = true then l.foldl (stepC l) [] else []
theorem stepC_rows (l : List S50) (out : List (List Int)) (p : S50) (M : Nat) (hM : 1 + l.length ≤ M) (h : ∀ s ∈ out, s.length ≤ M) : ∀ s ∈ stepC l out p, s.length ≤ M := by
  intro s hs
  unfold stepC at hs
  split at hs
  · exact h s hs
  · rcases List.mem_append.1 hs with hs | hs
    · exact h s hs
    · rw [List.mem_singleton] at hs; subst hs
      have := addV_length l [p.f0]
      simp at this; omega
theorem foldC_rows (l : List S50) (M : Nat) (hM : 1 + l.length ≤ M) : ∀ (r : List S50) (out : List (List Int)), (∀ s ∈ out, s.length ≤ M) → (∀ s ∈ r.foldl (stepC l) out, s.length ≤ M) ∧ (r.foldl (stepC l) out).length ≤ out.length + r.length
  | [], out, h => ⟨h, by simp⟩
  | p :: r, out, h => by
    obtain ⟨h1, h2⟩ := foldC_rows l M hM r (stepC l out p) (stepC_rows l out p M hM h)
    refine ⟨h1, ?_⟩
    have : (stepC l out p).length ≤ out.length + 1 := by unfold stepC; split <;> simp
    rw [List.foldl_cons, List.length_cons]; omega
theorem coverV_rows (l : List S50) : (∀ s ∈ coverV l, s.length ≤ 13) ∧ (coverV l).length ≤ 12 := by
  unfold coverV
  split
  · rename_i ha
    have hl : l.length ≤ 12 := by unfold areV at ha; rw [Bool.and_eq_true, decide_eq_true_eq] at ha; exact ha.1
    obtain ⟨h1, h2⟩ := foldC_rows l 13 (by omega) l [] (by simp)
    exact ⟨h1, by simp at h2; omega⟩
  · exact ⟨by simp, by simp⟩

def coversV (l : List S50) (rows : List (List Int)) : Bool := areV l && (rows.all (fun s => togV l s) && l.all fun p => coverB rows p.f0)

/-! What the law asks of the stages and of the cover -/
theorem stage_full (l : List S50) (s : List Int) (h : s ∈ stagesV l) : isFullV l s = true ∧ 0 < s.length := by
  unfold stagesV at h
  split at h
  · have := (allS_mem l s).1 (List.mem_of_mem_take h)
    exact ⟨this.2, this.1⟩
  · exact absurd h (by simp)
theorem stages_ne (l : List S50) : (stagesV l).Pairwise fun x y => x ≠ y := by
  unfold stagesV
  split
  · rename_i ha
    refine ((allS_pw l ha).imp ?_).take
    intro x y h e
    subst e
    have := cmpV_flip _ _ h
    rw [h] at this; exact absurd this (by decide)
  · exact List.Pairwise.nil
/-- What is added keeps a stage, and has what was there. -/
theorem foldA_tog (l : List S50) : ∀ (r : List S50) (out : List Int), togV l out = true → togV l (r.foldl (stepA l) out) = true ∧ (∀ x ∈ out, x ∈ r.foldl (stepA l) out) ∧ ∀ p ∈ r, p.f0 ∈ r.foldl (stepA l) out ∨ togV l (putV (r.foldl (stepA l) out) p.f0) = false
  | [], out, h => ⟨h, fun x hx => hx, fun p hp => by cases hp⟩
  | q :: r, out, h => by
    have h1 : togV l (stepA l out q) = true := by unfold stepA; split <;> assumption
    have h2 : ∀ x ∈ out, x ∈ stepA l out q := fun x hx => by
      unfold stepA
      split
      · exact (put_mem_iff _ _ _).2 (.inr hx)
      · exact hx
    obtain ⟨t1, t2, t3⟩ := foldA_tog l r (stepA l out q) h1
    rw [List.foldl_cons]
    refine ⟨t1, fun x hx => t2 x (h2 x hx), fun p hp => ?_⟩
    rcases List.mem_cons.1 hp with rfl | hp
    · by_cases hq : togV l (putV out p.f0) = true
      · refine .inl (t2 _ ?_)
        unfold stepA
        rw [if_pos hq]
        exact (put_mem_iff _ _ _).2 (.inl rfl)
      · refine .inr ?_
        cases hc : togV l (putV (r.foldl (stepA l) (stepA l out p)) p.f0) with
        | false => rfl
        | true =>
          exfalso
          apply hq
          refine tog_sub l _ _ (put_asc _ _ (togV_asc l out h)) (fun x hx => ?_) hc
          rcases (put_mem_iff _ _ _).1 hx with rfl | hx
          · exact (put_mem_iff _ _ _).2 (.inl rfl)
          · exact (put_mem_iff _ _ _).2 (.inr (t2 x (h2 x hx)))
    · exact t3 p hp
theorem add_full (l : List S50) (ids : List Int) (h : togV l ids = true) : isFullV l (addV l ids) = true := by
  obtain ⟨t1, _, t3⟩ := foldA_tog l l ids h
  unfold addV
  rw [if_pos h]
  exact (full_iff l _).2 ⟨t1, t3⟩
theorem add_has (l : List S50) (ids : List Int) : ∀ x ∈ ids, x ∈ addV l ids := by
  unfold addV
  split
  · rename_i h
    exact (foldA_tog l l ids h).2.1
  · exact fun x hx => hx
theorem one_tog (l : List S50) (h : areV l = true) (p : S50) (hp : p ∈ l) : togV l [p.f0] = true := by
  refine (tog_set l _).2 ⟨h, (asc_pw _).2 (List.pairwise_singleton _ _), fun x hx => ?_, fun x hx y hy => ?_⟩
  · rw [List.mem_singleton] at hx; subst hx; exact find_mem l p hp
  · rw [List.mem_singleton] at hx hy; subst hx; subst hy; exact cfP_irr _
theorem coverB_iff (rows : List (List Int)) (x : Int) : coverB rows x = true ↔ ∃ s ∈ rows, x ∈ s := by unfold coverB; simp
theorem covers_iff (l : List S50) (rows : List (List Int)) : coversV l rows = true ↔ areV l = true ∧ (∀ s ∈ rows, togV l s = true) ∧ ∀ p ∈ l, ∃ s ∈ rows, p.f0 ∈ s := by
  unfold coversV
  rw [Bool.and_eq_true, Bool.and_eq_true, List.all_eq_true, List.all_eq_true]
  simp only [coverB_iff]
theorem stages_cover (l : List S50) (h : areV l = true) (hn : (stagesV l).length < 40) : coversV l (stagesV l) = true := by
  refine (covers_iff _ _).2 ⟨h, fun s hs => ((full_iff l s).1 (stage_full l s hs).1).1, fun p hp => ?_⟩
  have e : stagesV l = allS l := by
    unfold stagesV at hn ⊢
    rw [if_pos h] at hn ⊢
    rw [List.length_take] at hn
    exact List.take_of_length_le (by omega)
  have hm := add_has l [p.f0] p.f0 (List.mem_singleton.2 rfl)
  exact ⟨addV l [p.f0], by rw [e]; exact (allS_mem l _).2 ⟨List.length_pos_of_mem hm, add_full l _ (one_tog l h p hp)⟩, hm⟩
theorem foldC_cov (l : List S50) (h : areV l = true) : ∀ (r : List S50) (out : List (List Int)), (∀ p ∈ r, p ∈ l) → (∀ s ∈ out, togV l s = true) → (∀ s ∈ r.foldl (stepC l) out, togV l s = true) ∧ (∀ s ∈ out, s ∈ r.foldl (stepC l) out) ∧ ∀ p ∈ r, ∃ s ∈ r.foldl (stepC l) out, p.f0 ∈ s
  | [], out, _, ho => ⟨ho, fun s hs => hs, fun p hp => by cases hp⟩
  | q :: r, out, hr, ho => by
    have hq := hr q List.mem_cons_self
    have h1 : ∀ s ∈ stepC l out q, togV l s = true := fun s hs => by
      unfold stepC at hs
      split at hs
      · exact ho s hs
      · rcases List.mem_append.1 hs with hs | hs
        · exact ho s hs
        · rw [List.mem_singleton] at hs; subst hs
          exact ((full_iff l _).1 (add_full l _ (one_tog l h q hq))).1
    have h2 : ∀ s ∈ out, s ∈ stepC l out q := fun s hs => by
      unfold stepC
      split
      · exact hs
      · exact List.mem_append_left _ hs
    have h3 : ∃ s ∈ stepC l out q, q.f0 ∈ s := by
      unfold stepC
      split
      · rename_i hc; exact (coverB_iff _ _).1 hc
      · exact ⟨_, List.mem_append_right _ (List.mem_singleton.2 rfl), add_has l [q.f0] q.f0 (List.mem_singleton.2 rfl)⟩
    obtain ⟨t1, t2, t3⟩ := foldC_cov l h r (stepC l out q) (fun p hp => hr p (List.mem_cons_of_mem _ hp)) h1
    rw [List.foldl_cons]
    refine ⟨t1, fun s hs => t2 s (h2 s hs), fun p hp => ?_⟩
    rcases List.mem_cons.1 hp with rfl | hp
    · obtain ⟨s, hs, hx⟩ := h3
      exact ⟨s, t2 s hs, hx⟩
    · exact t3 p hp
theorem cover_covers (l : List S50) : coversV l (coverV l) = areV l := by
  cases h : areV l with
  | true =>
    obtain ⟨t1, _, t3⟩ := foldC_cov l h l [] (fun p hp => hp) (by simp)
    refine (covers_iff _ _).2 ?_
    unfold coverV
    rw [if_pos h]
    exact ⟨h, t1, t3⟩
  | false => unfold coversV; rw [h]; rfl
theorem cover_length (l : List S50) : (coverV l).length ≤ l.length := by
  unfold coverV
  split
  · have := (foldC_rows l (1 + l.length) (Nat.le_refl _) l [] (by simp)).2
    simpa using this
  · simp

theorem iTog_go (l : List S50) (ids : List Int) (hl : l.length ≤ 12) (hn : ids.length ≤ 1099511627776) : ∀ (d k i : Nat), i + d = ids.length → d * (ids.length + 4) + l.length + 60 < k → (∀ j, j < i → 0 ≤ findV l (ids.getD j 0)) →
    impl_IsTogether.l0 k l ids ids (ids.length : Int) (i : Int) = some (tgFrom l ids d i) := by
  intro d
  induction d with
  | zero =>
    intro k i hi hk hf
    obtain ⟨k, rfl⟩ : ∃ m, k = m + 1 := ⟨k - 1, by omega⟩
    simp only [impl_IsTogether.l0, tgFrom]
    rw [if_neg (by omega)]
  | succ d ih =>
    intro k i hi hk hf
    rw [Nat.succ_mul] at hk
    obtain ⟨k, rfl⟩ : ∃ m, k = m + 1 + 1 := ⟨k - 2, by omega⟩
    have hg : rd ids (i : Int) = ids.getD i 0 := rd_nat _ _
    have inner : ∀ (e k j : Nat), j + e = i → e + d * (ids.length + 4) + l.length + 61 < k → 0 ≤ findV l (ids.getD i 0) →
        impl_IsTogether.l1 k l ids (findV l (ids.getD i 0)) ids (ids.length : Int) (i : Int) (ids.take i) (i : Int) (j : Int) = some (frFrom l (pOf l (ids.getD i 0)) ids e j && tgFrom l ids d (i + 1)) := by
      intro e
      induction e with
      | zero =>
        intro k j hj hk hfi
        obtain ⟨k, rfl⟩ : ∃ m, k = m + 1 := ⟨k - 1, by omega⟩
        simp only [impl_IsTogether.l1, frFrom]
        rw [if_neg (by omega), Bool.true_and, wsucc (show i < ids.length by omega) (by omega)]
        refine ih k (i + 1) (by omega) (by omega) (fun j hj => ?_)
        rcases Nat.lt_succ_iff_lt_or_eq.1 hj with h | rfl
        · exact hf j h
        · exact hfi
      | succ e ihe =>
        intro k j hj hk hfi
        obtain ⟨k, rfl⟩ : ∃ m, k = m + 1 := ⟨k - 1, by omega⟩
        have hlt : (ids.take i).length = i := by rw [List.length_take]; omega
        obtain ⟨fi, _⟩ := findV_bd l _ hfi
        obtain ⟨fj, _⟩ := findV_bd l _ (hf j (by omega))
        simp only [impl_IsTogether.l1, frFrom, impl_FindPath.f]
        have hr : rd (ids.take i) (j : Int) = ids.getD j 0 := by
          rw [rd_nat, List.getD_eq_getElem?_getD, List.getD_eq_getElem?_getD, List.getElem?_take, if_pos (by omega)]
        rw [if_pos (by omega), if_pos (by omega), if_pos (by omega), if_pos hfi, if_pos fi, Option.bind_some, hr]
        have hfj := hf j (by omega)
        have e1 : impl_FindPath.go l (ids.getD j 0) 0 = findV l (ids.getD j 0) := rfl
        rw [e1, if_pos hfj, if_pos fj, rd_find l _ hfi, rd_find l _ hfj, iCfq k _ _ (by omega), Option.bind_some, wsucc (show j < i by omega) (by omega)]
        cases hc : cfP (pOf l (ids.getD i 0)) (pOf l (ids.getD j 0)) with
        | true => rw [if_pos rfl]; rfl
        | false => rw [if_neg (by decide), ihe k (j + 1) (by omega) (by omega) hfi]; rfl
    simp only [impl_IsTogether.l0, impl_IsTogether.j1, tgFrom, tgAt, impl_FindPath.f]
    rw [if_pos (by omega), if_pos (by omega), if_pos (by omega), Option.bind_some, hg]
    have e1 : impl_FindPath.go l (ids.getD i 0) 0 = findV l (ids.getD i 0) := rfl
    have hti : (ids.take i).length = i := by rw [List.length_take]; omega
    rw [e1, Int.toNat_natCast, hti]
    by_cases hfi : 0 ≤ findV l (ids.getD i 0)
    · rw [if_neg (by omega), decide_eq_true hfi, Bool.true_and]
      have hin := inner i k 0 (by omega) (by omega) hfi
      rw [Int.natCast_zero] at hin
      by_cases h0 : i = 0
      · rw [if_neg (by omega), if_neg (by decide), if_pos (by omega), if_pos (by omega), hin, decide_eq_true h0, Bool.true_or, Bool.true_and]
      · rw [if_pos (by omega), wpred (by omega) (by omega), if_pos (by omega), if_pos (by omega), rd_nat, decide_eq_false h0, Bool.false_or]
        by_cases hc : ids.getD (i - 1) 0 < ids.getD i 0
        · rw [decide_eq_false (by omega), if_neg (by decide), if_pos (by omega), if_pos (by omega), hin, decide_eq_true hc, Bool.true_and]
        · rw [decide_eq_true (by omega), if_pos rfl, decide_eq_false hc]; rfl
    · rw [if_pos (by omega), decide_eq_false hfi]; simp
theorem iTog_eq (k : Nat) (l : List S50) (ids : List Int) (hk : ids.length * (ids.length + 4) + l.length + 60 < k) (hl : l.length ≤ 1099511627776) (hn : ids.length ≤ 1099511627776) : impl_IsTogether.f k l ids = some (togV l ids) := by
  unfold impl_IsTogether.f togV
  rw [iAre_eq k l (by omega) (by omega), Option.bind_some]
  by_cases ha : areV l = true
  · have h12 : l.length ≤ 12 := by unfold areV at ha; rw [Bool.and_eq_true, decide_eq_true_eq] at ha; exact ha.1
    have := iTog_go l ids h12 hn ids.length k 0 (by omega) hk (fun j hj => absurd hj (by omega))
    rw [Int.natCast_zero] at this
    rw [if_pos ha, ha, Bool.true_and]; exact this
  · rw [if_neg ha]; simp only [Bool.not_eq_true] at ha; rw [ha]; rfl

theorem rdR_get (xs : List (List Int)) (i : Nat) (h : i < xs.length) : rd_L2 xs (i : Int) = xs[i] := by
  unfold rd_L2; rw [Int.toNat_natCast, List.getD_eq_getElem?_getD, List.getElem?_eq_getElem h]; rfl

theorem iCov_go1 (M : Nat) (l : List S50) (rows : List (List Int)) (hM : M ≤ 1099511627776) (hl : l.length ≤ 1099511627776) (hs : ∀ s ∈ rows, s.length ≤ M) : ∀ (d k i : Nat), i + d = l.length → d + M + 1 < k →
    impl_Covers.l1 k rows l (l.length : Int) (i : Int) = some ((l.drop i).all fun p => coverB rows p.f0) := by
  intro d
  induction d with
  | zero =>
    intro k i hi hk
    obtain ⟨k, rfl⟩ : ∃ m, k = m + 1 := ⟨k - 1, by omega⟩
    simp only [impl_Covers.l1]
    rw [if_neg (by omega), List.drop_of_length_le (by omega)]; rfl
  | succ d ih =>
    intro k i hi hk
    obtain ⟨k, rfl⟩ : ∃ m, k = m + 1 := ⟨k - 1, by omega⟩
    simp only [impl_Covers.l1]
    rw [if_pos (by omega), if_pos (by omega), if_pos (by omega), rdI_get l i (by omega), cov_eq M k rows _ hM (by omega) hs, Option.bind_some, wsucc (show i < l.length by omega) (by omega), drop_cons l i (by omega), List.all_cons]
    cases hc : coverB rows l[i].f0 with
    | true => rw [if_pos rfl, ih k (i + 1) (by omega) (by omega), Bool.true_and]
    | false => rw [if_neg (by decide)]; rfl
theorem iCov_go0 (M : Nat) (l : List S50) (rows : List (List Int)) (hM : M ≤ 1099511627776) (hl : l.length ≤ 1099511627776) (hr : rows.length ≤ 1099511627776) (hs : ∀ s ∈ rows, s.length ≤ M) : ∀ (d k i : Nat), i + d = rows.length → d + M * (M + 4) + l.length + M + 61 < k →
    impl_Covers.l0 k l rows rows (rows.length : Int) (i : Int) = some ((rows.drop i).all (fun s => togV l s) && l.all fun p => coverB rows p.f0) := by
  intro d
  induction d with
  | zero =>
    intro k i hi hk
    obtain ⟨k, rfl⟩ : ∃ m, k = m + 1 := ⟨k - 1, by omega⟩
    simp only [impl_Covers.l0]
    have := iCov_go1 M l rows hM hl hs l.length k 0 (by omega) (by omega)
    rw [Int.natCast_zero, List.drop_zero] at this
    rw [if_neg (by omega), this, List.drop_of_length_le (by omega)]; rfl
  | succ d ih =>
    intro k i hi hk
    obtain ⟨k, rfl⟩ : ∃ m, k = m + 1 := ⟨k - 1, by omega⟩
    have hsi := hs rows[i] (List.getElem_mem _)
    have hq : rows[i].length * (rows[i].length + 4) ≤ M * (M + 4) := Nat.mul_le_mul hsi (by omega)
    simp only [impl_Covers.l0]
    rw [if_pos (by omega), if_pos (by omega), if_pos (by omega), rdR_get rows i (by omega), iTog_eq k l rows[i] (by omega) hl (by omega), Option.bind_some, wsucc (show i < rows.length by omega) (by omega), drop_cons rows i (by omega), List.all_cons]
    cases hc : togV l rows[i] with
    | true => rw [if_pos rfl, ih k (i + 1) (by omega) (by omega), Bool.true_and]
    | false => rw [if_neg (by decide)]; rfl
theorem iCov_eq (M k : Nat) (l : List S50) (rows : List (List Int)) (hk : rows.length + M * (M + 4) + l.length + M + 62 < k) (hM : M ≤ 1099511627776) (hl : l.length ≤ 1099511627776) (hr : rows.length ≤ 1099511627776) (hs : ∀ s ∈ rows, s.length ≤ M) : impl_Covers.f k l rows = some (coversV l rows) := by
  unfold impl_Covers.f coversV
  rw [iAre_eq k l (by omega) (by omega), Option.bind_some]
  cases ha : areV l with
  | true =>
    have := iCov_go0 M l rows hM hl hr hs rows.length k 0 (by omega) (by omega)
    rw [Int.natCast_zero, List.drop_zero] at this
    rw [if_pos rfl, this, Bool.true_and]
  | false => rw [if_neg (by decide)]; rfl

theorem mid_eq (i j : Nat) (h : i < j) (hj : j ≤ 1099511627776) : wrap64 ((IntKind.u64.wrap (wrap64 ((i : Int) + (j : Int)))) / 2) = (((i + j) / 2 : Nat) : Int) := by
  have e1 : wrap64 ((i : Int) + (j : Int)) = (i : Int) + j := by unfold wrap64; omega
  have e2 : IntKind.u64.wrap ((i : Int) + j) = (i : Int) + j := by
    show ((i : Int) + j) % 18446744073709551616 = _
    omega
  rw [e1, e2]
  unfold wrap64; omega
theorem less_eq (a b : Int) : cmp_Less_int.f a b = some (decide (a < b)) := by
  unfold cmp_Less_int.f cmp_isNaN_int.f
  simp
theorem bs_go (ids : List Int) (x : Int) (ha : Asc ids) (hn : ids.length ≤ 1099511627776) : ∀ (d k i j : Nat), j = i + d → j ≤ ids.length → d < k → (∀ a, a < i → ids.getD a 0 < x) → (∀ b, j ≤ b → b < ids.length → ¬ ids.getD b 0 < x) →
    ∃ q, slices_BinarySearch_int_int.l0 k ids x (ids.length : Int) (i : Int) (j : Int) = some ((posV x ids : Int), q) := by
  intro d
  induction d using Nat.strongRecOn with
  | ind d ih =>
    intro k i j hj hjl hk h1 h2
    obtain ⟨k, rfl⟩ : ∃ m, k = m + 1 := ⟨k - 1, by omega⟩
    simp only [slices_BinarySearch_int_int.l0]
    by_cases hd : i < j
    · have hh : (i + j) / 2 < ids.length := by omega
      have hm := mid_eq i j hd (by omega)
      have hs : wrap64 ((((i + j) / 2 : Nat) : Int) + 1) = (((i + j) / 2 + 1 : Nat) : Int) := by unfold wrap64; omega
      rw [if_pos (by omega), hm, if_pos (by omega), if_pos (by omega), rd_nat, less_eq, Option.bind_some, hs]
      by_cases hx : ids.getD ((i + j) / 2) 0 < x
      · rw [if_pos (decide_eq_true hx)]
        refine ih (j - ((i + j) / 2 + 1)) (by omega) k ((i + j) / 2 + 1) j (by omega) hjl (by omega) (fun a haa => ?_) h2
        by_cases he : a = (i + j) / 2
        · rw [he]; exact hx
        · have := ha a ((i + j) / 2) (by omega) hh; omega
      · rw [if_neg (by rw [decide_eq_false hx]; decide)]
        refine ih ((i + j) / 2 - i) (by omega) k i ((i + j) / 2) (by omega) (by omega) (by omega) h1 (fun b hb hbl => ?_)
        by_cases he : b = (i + j) / 2
        · rw [he]; exact hx
        · have := ha ((i + j) / 2) b (by omega) hbl; omega
    · obtain rfl : i = j := by omega
      have hp : posV x ids = i := posV_char x ids i hjl h1 (fun hlt => h2 i (Nat.le_refl _) hlt)
      rw [if_neg (by omega), hp]
      by_cases hlt : i < ids.length
      · rw [if_pos (by omega), if_pos (by omega), if_pos (by omega)]
        unfold slices_isNaN_int.f
        split
        · exact ⟨_, rfl⟩
        · simp
      · rw [if_neg (by omega)]; exact ⟨_, rfl⟩
theorem ins_eq (k : Nat) (ids : List Int) (x : Int) (ha : Asc ids) (hk : ids.length < k) (hn : ids.length ≤ 1099511627776) (hx : x ∉ ids) : impl_inserted.f k ids x = some (putV ids x) := by
  unfold impl_inserted.f slices_BinarySearch_int_int.f
  obtain ⟨q, h⟩ := bs_go ids x ha hn ids.length k 0 ids.length (by omega) (Nat.le_refl _) hk (fun a h => absurd h (by omega)) (fun b h1 h2 => absurd h2 (by omega))
  rw [Int.natCast_zero] at h
  have := posV_le x ids
  rw [h, Option.bind_some]
  dsimp only
  rw [if_pos ⟨by omega, by omega, by omega⟩, Int.toNat_natCast, put_new ids x hx]

theorem iAdd_go (l : List S50) (N : Nat) (hN : N ≤ 1099511627) (hl : l.length ≤ 1048576) : ∀ (d k i : Nat) (out : List Int), togV l out = true → i + d = l.length → out.length + d ≤ N → d + (N + 1) * (N + 5) + l.length + N + 70 < k →
    impl_AddToStage.l0 k l out l (l.length : Int) (i : Int) = some ((l.drop i).foldl (stepA l) out) := by
  intro d
  induction d with
  | zero =>
    intro k i out ht hi ho hk
    obtain ⟨k, rfl⟩ : ∃ m, k = m + 1 := ⟨k - 1, by omega⟩
    simp only [impl_AddToStage.l0]
    rw [if_neg (by omega), List.drop_of_length_le (by omega)]; rfl
  | succ d ih =>
    intro k i out ht hi ho hk
    obtain ⟨k, rfl⟩ : ∃ m, k = m + 1 := ⟨k - 1, by omega⟩
    have f1 := fuelN out.length N (by omega)
    have hp := putV_length out l[i].f0
    have f2 := put_fuel out.length _ hp
    have ha := togV_asc l out ht
    simp only [impl_AddToStage.l0]
    rw [if_pos (by omega), if_pos (by omega), if_pos (by omega), rdI_get l i (by omega), contains_eq k out _ (by omega) (by omega), Option.bind_some, wsucc (show i < l.length by omega) (by omega), drop_cons l i (by omega), List.foldl_cons]
    by_cases hm : l[i].f0 ∈ out
    · have e : stepA l out l[i] = out := by unfold stepA; rw [put_mem out _ ha hm, if_pos ht]
      rw [if_pos (decide_eq_true hm), e, ih k (i + 1) _ ht (by omega) (by omega) (by omega)]
    · rw [if_neg (by rw [decide_eq_false hm]; decide), ins_eq k out _ ha (by omega) (by omega) hm, Option.bind_some, iTog_eq k l _ (by omega) (by omega) (by omega), Option.bind_some]
      by_cases h : togV l (putV out l[i].f0) = true
      · have e : stepA l out l[i] = putV out l[i].f0 := by unfold stepA; rw [if_pos h]
        rw [if_pos h, e, ih k (i + 1) _ h (by omega) (by omega) (by omega)]
      · have e : stepA l out l[i] = out := by unfold stepA; rw [if_neg h]
        rw [if_neg h, e, ih k (i + 1) _ ht (by omega) (by omega) (by omega)]
theorem iAdd_eq (k : Nat) (l : List S50) (ids : List Int) (hk : (ids.length + l.length + 1) * (ids.length + l.length + 5) + 4 * l.length + ids.length + 71 < k) (hl : l.length ≤ 1048576) (hn : ids.length ≤ 1048576) : impl_AddToStage.f k l ids = some (addV l ids) := by
  have f0 := fuelN ids.length (ids.length + l.length) (by omega)
  have f00 := put_fuel ids.length ids.length (by omega)
  unfold impl_AddToStage.f addV slices_Clone_int_int.f
  rw [if_pos (by omega), Option.bind_some, iTog_eq k l ids (by omega) (by omega) (by omega), Option.bind_some]
  by_cases ht : togV l ids = true
  · have := iAdd_go l (ids.length + l.length) (by omega) hl l.length k 0 ids ht (by omega) (by omega) (by omega)
    rw [Int.natCast_zero, List.drop_zero] at this
    rw [if_pos ht, this, if_pos ht]
  · rw [if_neg ht, if_neg ht]

theorem iCover_go (l : List S50) (hl : l.length ≤ 12) : ∀ (d k i : Nat) (out : List (List Int)), i + d = l.length → d + 500 < k → (∀ s ∈ out, s.length ≤ 13) → out.length ≤ i → impl_CoverOf.l0 k l out l (l.length : Int) (i : Int) = some ((l.drop i).foldl (stepC l) out) := by
  intro d
  induction d with
  | zero =>
    intro k i out hi hk hs ho
    obtain ⟨k, rfl⟩ : ∃ m, k = m + 1 := ⟨k - 1, by omega⟩
    simp only [impl_CoverOf.l0]
    rw [if_neg (by omega), List.drop_of_length_le (by omega)]; rfl
  | succ d ih =>
    intro k i out hi hk hs ho
    obtain ⟨k, rfl⟩ : ∃ m, k = m + 1 := ⟨k - 1, by omega⟩
    have w1 : wrap64 ((i : Int) + 1) = ((i + 1 : Nat) : Int) := by unfold wrap64; omega
    have hq := Nat.mul_le_mul (show 1 + l.length + 1 ≤ 14 by omega) (show 1 + l.length + 5 ≤ 18 by omega)
    have hst := stepC_rows l out l[i] 13 (by omega) hs
    simp only [impl_CoverOf.l0]
    rw [if_pos (by omega), if_pos (by omega), if_pos (by omega), rdI_get l i (by omega), cov_eq 13 k out _ (by omega) (by omega) hs, Option.bind_some, drop_cons l i (by omega), List.foldl_cons]
    by_cases hc : coverB out l[i].f0 = true
    · have e : stepC l out l[i] = out := by unfold stepC; rw [if_pos hc]
      rw [if_pos hc, e, w1]
      exact ih k (i + 1) out (by omega) (by omega) hs (by omega)
    · have e : stepC l out l[i] = out ++ [addV l [l[i].f0]] := by unfold stepC; rw [if_neg hc]
      rw [e] at hst
      have h5 : out.length < 5864062014805 := by omega
      rw [if_neg hc, iAdd_eq k l [l[i].f0] (by rw [List.length_singleton]; omega) (by omega) (by simp), Option.bind_some, if_pos h5, e, w1]
      exact ih k (i + 1) _ (by omega) (by omega) hst (by simp; omega)
theorem iCover_eq (k : Nat) (l : List S50) (hk : l.length + 600 < k) (hn : l.length ≤ 1048576) : impl_CoverOf.f k l = some (coverV l) := by
  unfold impl_CoverOf.f coverV
  rw [Option.bind_some, iAre_eq k l (by omega) (by omega), Option.bind_some]
  by_cases ha : areV l = true
  · have hl : l.length ≤ 12 := by unfold areV at ha; rw [Bool.and_eq_true, decide_eq_true_eq] at ha; exact ha.1
    rw [if_pos ha, if_pos ha]
    have := iCover_go l hl l.length k 0 [] (by omega) (by omega) (by simp) (by simp)
    rw [Int.natCast_zero, List.drop_zero] at this
    exact this
  · rw [if_neg ha, if_neg ha]

theorem iFull_go (l : List S50) (ids : List Int) (hl : l.length ≤ 1048576) (hn : ids.length ≤ 1048576) (ha : Asc ids) : ∀ (d k i : Nat), i + d = l.length → d + (ids.length + 1) * (ids.length + 5) + l.length + ids.length + 62 < k → impl_IsFullStage.l0 k l ids l (l.length : Int) (i : Int) = some ((l.drop i).all (fullV l ids)) := by
  intro d
  induction d with
  | zero =>
    intro k i hi hk
    obtain ⟨k, rfl⟩ : ∃ m, k = m + 1 := ⟨k - 1, by omega⟩
    simp only [impl_IsFullStage.l0]
    rw [if_neg (by omega), List.drop_of_length_le (by omega)]; rfl
  | succ d ih =>
    intro k i hi hk
    obtain ⟨k, rfl⟩ : ∃ m, k = m + 1 := ⟨k - 1, by omega⟩
    have hp := putV_length ids l[i].f0
    have := put_fuel ids.length _ hp
    simp only [impl_IsFullStage.l0]
    rw [if_pos (by omega), if_pos (by omega), if_pos (by omega), rdI_get l i (by omega), contains_eq k ids _ (by omega) (by omega), Option.bind_some, wsucc (show i < l.length by omega) (by omega), ih k (i + 1) (by omega) (by omega), drop_cons l i (by omega), List.all_cons]
    by_cases hm : l[i].f0 ∈ ids
    · rw [if_pos (decide_eq_true hm)]; unfold fullV; rw [decide_eq_true hm]; rfl
    · rw [if_neg (by rw [decide_eq_false hm]; decide), ins_eq k ids _ ha (by omega) (by omega) hm, Option.bind_some, iTog_eq k l _ (by omega) (by omega) (by omega), Option.bind_some]
      have e : fullV l ids l[i] = !togV l (putV ids l[i].f0) := by unfold fullV; rw [decide_eq_false hm, Bool.false_or]
      rw [e]
      cases togV l (putV ids l[i].f0) <;> simp
theorem iFull_eq (k : Nat) (l : List S50) (ids : List Int) (hk : 2 * l.length + (ids.length + 1) * (ids.length + 5) + ids.length + 62 < k) (hl : l.length ≤ 1048576) (hn : ids.length ≤ 1048576) : impl_IsFullStage.f k l ids = some (isFullV l ids) := by
  have := put_fuel ids.length ids.length (by omega)
  unfold impl_IsFullStage.f isFullV
  rw [iTog_eq k l ids (by omega) (by omega) (by omega), Option.bind_some]
  by_cases ht : togV l ids = true
  · have := iFull_go l ids hl hn (togV_asc l ids ht) l.length k 0 (by omega) (by omega)
    rw [Int.natCast_zero, List.drop_zero] at this
    rw [if_pos ht, this, ht, Bool.and_true]
  · rw [if_neg ht]; simp only [Bool.not_eq_true] at ht; rw [ht, Bool.and_false]

theorem laws_sameInts_go (xs ys : List Int) (hl : xs.length = ys.length) (hn : xs.length ≤ 9223372036854775807) : ∀ (d k : Nat) (i : Nat), i + d = xs.length → d < k →
    laws_sameInts.l0 k xs ys (i : Int) = some (decide (xs.drop i = ys.drop i)) := by
  intro d
  induction d with
  | zero =>
    intro k i hi hk
    obtain ⟨k, rfl⟩ : ∃ m, k = m + 1 := ⟨k - 1, by omega⟩
    simp only [laws_sameInts.l0]
    rw [if_neg (by omega), List.drop_of_length_le (by omega), List.drop_of_length_le (by omega)]; rfl
  | succ d ih =>
    intro k i hi hk
    obtain ⟨k, rfl⟩ : ∃ m, k = m + 1 := ⟨k - 1, by omega⟩
    simp only [laws_sameInts.l0]
    rw [if_pos (by omega), if_pos (by omega), if_pos (by omega), wsucc (show i < xs.length by omega) hn, ih k (i + 1) (by omega) (by omega), rd_get _ _ (by omega), rd_get _ _ (by omega), drop_cons xs i (by omega), drop_cons ys i (by omega)]
    split
    · rename_i h; simp only [List.cons.injEq, h, true_and]
    · rename_i h; simp only [List.cons.injEq, h, false_and, decide_false]
theorem laws_sameInts_eq (k : Nat) (a b : List Int) (hk : a.length < k) (hn : a.length ≤ 9223372036854775807) : laws_sameInts.f k a b = some (decide (a = b)) := by
  unfold laws_sameInts.f
  by_cases h : a.length = b.length
  · rw [if_pos (by omega)]
    have := laws_sameInts_go a b h hn a.length k 0 (by omega) hk
    rw [Int.natCast_zero] at this
    rw [this]; rfl
  · rw [if_neg (by omega)]; congr 1; symm; rw [decide_eq_false_iff_not]; intro e; exact h (by rw [e])

theorem lcon_go (xs : List Int) (n : Int) (hn : xs.length ≤ 9223372036854775807) : ∀ (d k : Nat) (i : Nat), i + d = xs.length → d < k → laws_contains.l0 k xs n (i : Int) = some (decide (n ∈ xs.drop i)) := by
  intro d
  induction d with
  | zero =>
    intro k i hi hk
    obtain ⟨k, rfl⟩ : ∃ m, k = m + 1 := ⟨k - 1, by omega⟩
    simp only [laws_contains.l0]
    rw [if_neg (by omega), List.drop_of_length_le (by omega)]; simp
  | succ d ih =>
    intro k i hi hk
    obtain ⟨k, rfl⟩ : ∃ m, k = m + 1 := ⟨k - 1, by omega⟩
    simp only [laws_contains.l0]
    rw [if_pos (by omega), if_pos (by omega), rd_get _ _ (by omega), wsucc (show i < xs.length by omega) hn, ih k (i + 1) (by omega) (by omega), drop_cons xs i (by omega)]
    by_cases h : xs[i] = n
    · rw [if_pos h]; simp only [List.mem_cons, h, true_or, decide_true]
    · rw [if_neg h]; simp only [List.mem_cons, Ne.symm h, false_or]
theorem lcon_eq (k : Nat) (l : List Int) (n : Int) (hk : l.length < k) (hn : l.length ≤ 9223372036854775807) : laws_contains.f k l n = some (decide (n ∈ l)) := by
  unfold laws_contains.f
  have := lcon_go l n hn l.length k 0 (by omega) hk
  rw [Int.natCast_zero] at this
  rw [this]; rfl

theorem within_go (xs ys : List Int) (hn : xs.length ≤ 1048576) (hy : ys.length ≤ 1048576) (h : ∀ x ∈ xs, x ∈ ys) : ∀ (d k i : Nat), i + d = xs.length → d + ys.length < k → laws_within.l0 k xs ys (i : Int) = some true := by
  intro d
  induction d with
  | zero =>
    intro k i hi hk
    obtain ⟨k, rfl⟩ : ∃ m, k = m + 1 := ⟨k - 1, by omega⟩
    simp only [laws_within.l0]
    rw [if_neg (by omega)]
  | succ d ih =>
    intro k i hi hk
    obtain ⟨k, rfl⟩ : ∃ m, k = m + 1 := ⟨k - 1, by omega⟩
    simp only [laws_within.l0]
    rw [if_pos (by omega), if_pos (by omega), rd_get xs i (by omega), lcon_eq k ys _ (by omega) (by omega), Option.bind_some, if_pos (decide_eq_true (h _ (List.getElem_mem _))), wsucc (show i < xs.length by omega) (by omega), ih k (i + 1) (by omega) (by omega)]
theorem within_eq (k : Nat) (xs ys : List Int) (hk : xs.length + ys.length < k) (hn : xs.length ≤ 1048576) (hy : ys.length ≤ 1048576) (h : ∀ x ∈ xs, x ∈ ys) : laws_within.f k xs ys = some true := by
  have := within_go xs ys hn hy h xs.length k 0 (by omega) hk
  rw [Int.natCast_zero] at this
  exact this

theorem st_j2 (l : List Int) (x : List S50) (ids : List Int) (e3 : ∀ k, l.length + 7 < k → spec_DrawIsTogether.f k l = some (x, ids)) (hx : x.length ≤ 7) (hid : ids.length ≤ 8) (k : Nat) (hk : l.length + 1000 < k) : laws_FnStages.j2 k l false = some true := by
  obtain ⟨k, rfl⟩ : ∃ m, k = m + 1 := ⟨k - 1, by omega⟩
  have ha := addV_length x ids
  have h1 := Nat.mul_le_mul (show ids.length + x.length + 1 ≤ 16 by omega) (show ids.length + x.length + 5 ≤ 20 by omega)
  have h2 := Nat.mul_le_mul (show ids.length ≤ 8 by omega) (show ids.length + 4 ≤ 12 by omega)
  have h3 := Nat.mul_le_mul (show (addV x ids).length + 1 ≤ 16 by omega) (show (addV x ids).length + 5 ≤ 20 by omega)
  simp only [laws_FnStages.j2, spec_DrawAddToStage.f]
  rw [if_neg (by decide), e3 k (by omega), Option.bind_some, Option.bind_some]
  dsimp only
  rw [iAdd_eq k x ids (by omega) (by omega) (by omega), Option.bind_some, within_eq k ids _ (by omega) (by omega) (by omega) (add_has x ids), Option.bind_some, if_pos rfl, iTog_eq k x ids (by omega) (by omega) (by omega), Option.bind_some]
  by_cases ht : togV x ids = true
  · rw [if_pos ht, iFull_eq k x _ (by omega) (by omega) (by omega), Option.bind_some, add_full x ids ht]
  · rw [if_neg ht]
theorem st_j1 (l : List Int) (y : List S50) (hy : y.length ≤ 7) (K : Nat) (hK : ∀ k, K < k → laws_FnStages.j2 k l false = some true) (k : Nat) (hk : K + 1000 < k) : laws_FnStages.j1 k l y false = some true := by
  obtain ⟨k, rfl⟩ : ∃ m, k = m + 1 := ⟨k - 1, by omega⟩
  obtain ⟨c1, c2⟩ := coverV_rows y
  have c3 := cover_length y
  simp only [laws_FnStages.j1]
  rw [if_neg (by decide), iCover_eq k y (by omega) (by omega), Option.bind_some, iAre_eq k y (by omega) (by omega), Option.bind_some, iCov_eq 13 k y _ (by omega) (by omega) (by omega) (by omega) c1, Option.bind_some, cover_covers, bne_self_eq_false, if_neg (by decide), decide_eq_false (by omega)]
  exact hK k (by omega)
theorem st_l0 (l : List Int) (y : List S50) (hy : y.length ≤ 7) (K : Nat) (hK : ∀ k, K < k → laws_FnStages.j1 k l y false = some true) : ∀ (d i k : Nat), i + d = (stagesV y).length → d + K + 1000 < k → laws_FnStages.l0 k l y (stagesV y) (i : Int) = some true := by
  obtain ⟨s1, s2⟩ := stagesV_rows y
  intro d
  induction d with
  | zero =>
    intro i k hi hk
    obtain ⟨k, rfl⟩ : ∃ m, k = m + 1 := ⟨k - 1, by omega⟩
    simp only [laws_FnStages.l0]
    rw [if_neg (by omega), iAre_eq k y (by omega) (by omega), Option.bind_some, decide_eq_false (show ¬ ((stagesV y).length : Int) > 40 by omega)]
    by_cases ha : areV y = true
    · rw [if_pos ha]
      by_cases hn : (stagesV y).length < 40
      · rw [if_pos (by omega), iCov_eq 12 k y _ (by omega) (by omega) (by omega) (by omega) s1, Option.bind_some, if_pos (stages_cover y ha hn)]
        exact hK k (by omega)
      · rw [if_neg (by omega)]
        exact hK k (by omega)
    · rw [if_neg ha]
      exact hK k (by omega)
  | succ d ih =>
    intro i k hi hk
    obtain ⟨k, rfl⟩ : ∃ m, k = m + 1 := ⟨k - 1, by omega⟩
    have hm : (stagesV y)[i] ∈ stagesV y := List.getElem_mem _
    obtain ⟨f1, f2⟩ := stage_full y _ hm
    have hs := s1 _ hm
    have h1 := Nat.mul_le_mul (show (stagesV y)[i].length + 1 ≤ 13 by omega) (show (stagesV y)[i].length + 5 ≤ 17 by omega)
    simp only [laws_FnStages.l0]
    rw [if_pos (by omega), if_pos (by omega), rdR_get _ i (by omega), iFull_eq k y _ (by omega) (by omega) (by omega), Option.bind_some, if_pos f1, if_neg (by omega), wsucc (show i < (stagesV y).length by omega) (by omega)]
    by_cases h0 : i = 0
    · rw [if_neg (by omega)]
      exact ih (i + 1) k (by omega) (by omega)
    · have hm2 : (stagesV y)[i - 1] ∈ stagesV y := List.getElem_mem _
      have hs2 := s1 _ hm2
      have hne := (List.pairwise_iff_getElem.1 (stages_ne y)) (i - 1) i (by omega) (by omega) (by omega)
      rw [if_pos (by omega), wpred (by omega) (by omega), if_pos (by omega), if_pos (by omega), rdR_get _ (i - 1) (by omega), laws_sameInts_eq k _ _ (by omega) (by omega), Option.bind_some, decide_eq_false hne, if_neg (by decide)]
      exact ih (i + 1) k (by omega) (by omega)
theorem FnStages : laws_FnStages.Pure := by
  intro l _ _ hw
  have hb : ∀ x ∈ l, 0 ≤ x ∧ x < 256 := fun x hx => u8_wf (hw x hx)
  by_cases hl : l.length ≤ 1048576
  · obtain ⟨y, e2, hy⟩ := drawAre_is l hb hl
    obtain ⟨x, ids, e3, hx, hid⟩ := drawTog_is l hb hl
    refine ⟨l.length + 200000, ?_⟩
    obtain ⟨_, s2⟩ := stagesV_rows y
    have h2 : ∀ k, l.length + 1000 < k → laws_FnStages.j2 k l false = some true := fun k hk => st_j2 l x ids e3 hx hid k hk
    have h1 : ∀ k, l.length + 2000 < k → laws_FnStages.j1 k l y false = some true := fun k hk => st_j1 l y hy (l.length + 1000) h2 k (by omega)
    have h0 := st_l0 l y hy (l.length + 2000) h1 (stagesV y).length 0 (l.length + 200000) (by omega) (by omega)
    unfold laws_FnStages.f laws_big.f spec_DrawStagesOf.f
    rw [Option.bind_some, if_neg (by simp; omega), e2 _ (by omega), Option.bind_some, Option.bind_some, iStages_eq _ y (by omega) (by omega), Option.bind_some]
    rw [Int.natCast_zero] at h0
    exact h0
  · refine ⟨0, ?_⟩
    unfold laws_FnStages.f laws_big.f
    rw [Option.bind_some, if_pos (by simp; omega)]

end Go.Proofs.Ytldmhlpfkclclaa.Pure
