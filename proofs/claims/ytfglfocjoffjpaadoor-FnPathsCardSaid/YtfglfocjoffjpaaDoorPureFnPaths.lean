/- What the row of FnPaths leans on: for every slice of bytes (that fits into memory) the law answers true; no condition. -/
import Derived.Laws.BitsLemmas
import Derived.Test.YtfglfocjoffjpaaDoorQFnPathsx3
import Derived.Test.YtfglfocjoffjpaaDoorWSized
set_option linter.unusedVariables false
set_option linter.unusedSimpArgs false
namespace Go.Proofs.YtfglfocjoffjpaaDoor.PrintWords
open Go.ChangeShapes Go.WideShapes
/-- The words' own theorem, under the name by which the row asks for it. -/
theorem sized_ints {H : Type} {enc : TypeId × Value → H} {P : Program} {W : World} {base : Nat} {spare : Nat → Bool} {held : Bool} {t e : TypeId} {k : IntKind} {a : Option Addr} {len cap : Nat} {d : DataW H} {ps : List MemPlace} {ts : List TypeId} {ds : List (DataW H)} {j : Nat}
    (hsz : (DataW.weightsEach P ts ds).all (· ≤ reachBytes) = true) (ht : ts[j]? = some t) (hd : ds[j]? = some d) (hu : P.underlying t = some (.slice e)) (he : P.underlying e = some (.int k)) (hc : P.cellsOf e = 1) {B : Nat} (hB : P.bytesOf e = B)
    (h : DataW.Trod enc P W base spare held t (.slice a len cap) d ps) : len * B ≤ 140737488351232 := Go.Proofs.YtfglfocjoffjpaaDoorW.PrintWords.sized_ints hsz ht hd hu he hc hB h
end Go.Proofs.YtfglfocjoffjpaaDoor.PrintWords

namespace Go.Proofs.YtfglfocjoffjpaaDoor.Pure
open Go.RowKit Go.Proofs.YtfglfocjoffjpaaDoor.PFnPaths Go.Proofs.YtfglfocjoffjpaaDoorW.PrintWords Go.Proofs.YtfglfocjoffjpaaDoorW.PrintLast

theorem u8_wf {x : Int} (h : (Lit.int .u8 x).wf = true) : 0 ≤ x ∧ x < 256 := by
  simp [Lit.wf, IntKind.min, IntKind.max, IntKind.bits, IntKind.signed] at h
  omega
theorem i64_wf {x : Int} (h : (Lit.int .i64 x).wf = true) : -9223372036854775808 ≤ x ∧ x ≤ 9223372036854775807 := by
  simp [Lit.wf, IntKind.min, IntKind.max, IntKind.bits, IntKind.signed] at h
  omega

theorem wsucc {i n : Nat} (h : i < n) (hn : n ≤ 9223372036854775807) : wrap64 ((i : Int) + 1) = ((i + 1 : Nat) : Int) := by unfold wrap64; omega
theorem rd_nat (xs : List Int) (i : Nat) : rd xs (i : Int) = xs.getD i 0 := by unfold rd; rw [Int.toNat_natCast]
theorem rd_get (xs : List Int) (i : Nat) (h : i < xs.length) : rd xs (i : Int) = xs[i] := by
  rw [rd_nat, List.getD_eq_getElem?_getD, List.getElem?_eq_getElem h]; rfl
theorem drop_cons {α : Type} (xs : List α) (i : Nat) (h : i < xs.length) : xs.drop i = xs[i] :: xs.drop (i + 1) := (List.drop_eq_getElem_cons h)
theorem set_take {α : Type} (ys : List α) (i : Nat) (v : α) (h : i < ys.length) : (ys.set i v).take (i + 1) = ys.take i ++ [v] := by
  rw [List.take_succ_eq_append_getElem (by simpa using h)]
  rw [List.take_set, List.set_eq_of_length_le (by simp; omega)]
  simp

theorem w64 {x : Int} (h0 : -9223372036854775808 ≤ x) (h1 : x ≤ 9223372036854775807) : wrap64 x = x := by
  unfold wrap64; omega

/-! The cursor over a draw's bytes: whatever it yields, it yields. -/
theorem and255 (y : Int) : 0 ≤ Go.bits .and .i64 y 255 ∧ Go.bits .and .i64 y 255 ≤ 255 := by
  have e : Go.bits .and .i64 y 255 = IntKind.i64.wrap ((BitVec.ofInt 64 y &&& BitVec.ofInt 64 255).toNat : Int) := rfl
  have h : (BitVec.ofInt 64 y &&& BitVec.ofInt 64 255).toNat ≤ 255 := by
    rw [BitVec.toNat_and]
    exact Nat.le_trans Nat.and_le_right (by decide)
  rw [e, IntKind.wrap_i64]
  omega
structure CurOk (b : List Int) (i : Int) : Prop where
  bytes : ∀ x ∈ b, 0 ≤ x ∧ x < 256
  short : b.length ≤ 1048576
  low : 0 ≤ i
  high : i ≤ b.length
theorem new_go (l : List Int) (hn : l.length ≤ 1048576) : ∀ (d : Nat) (i : Nat) (h : Int), i + d = l.length → ∃ h', ∀ k, d < k → spec_l1New.l0 k l h (i : Int) = some (l, 0, h') := by
  intro d
  induction d with
  | zero =>
    intro i h hi
    refine ⟨h, fun k hk => ?_⟩
    obtain ⟨k, rfl⟩ : ∃ m, k = m + 1 := ⟨k - 1, by omega⟩
    simp only [spec_l1New.l0]
    rw [if_neg (by omega)]
  | succ d ih =>
    intro i h hi
    by_cases h4 : (i : Int) < 4000
    · obtain ⟨h', hh⟩ := ih (i + 1) (Go.bits .and .i64 (wrap64 ((wrap64 ((wrap64 (h * 137)) + (wrap64 (rd l i)))) + 11)) 1073741823) (by omega)
      refine ⟨h', fun k hk => ?_⟩
      obtain ⟨k, rfl⟩ : ∃ m, k = m + 1 := ⟨k - 1, by omega⟩
      simp only [spec_l1New.l0]
      rw [if_pos (by omega), if_pos h4, if_pos (by omega), wsucc (show i < l.length by omega) (by omega)]
      exact hh k (by omega)
    · refine ⟨h, fun k hk => ?_⟩
      obtain ⟨k, rfl⟩ : ∃ m, k = m + 1 := ⟨k - 1, by omega⟩
      simp only [spec_l1New.l0]
      rw [if_pos (by omega), if_neg h4]
theorem new_is (l : List Int) (hb : ∀ x ∈ l, 0 ≤ x ∧ x < 256) (hn : l.length ≤ 1048576) : ∃ h, (∀ k, l.length < k → spec_l1New.f k l = some (l, 0, h)) ∧ CurOk l 0 := by
  obtain ⟨h, hh⟩ := new_go l hn l.length 0 (wrap64 (193017 + (l.length : Int))) (by omega)
  refine ⟨h, fun k hk => ?_, ⟨hb, hn, by omega, by omega⟩⟩
  unfold spec_l1New.f
  have := hh k hk
  rw [Int.natCast_zero] at this
  exact this
theorem byte_is (b : List Int) (i h : Int) (c : CurOk b i) : ∃ x i' h', spec_l1Byte.f b i h = some (x, i', h') ∧ 0 ≤ x ∧ x ≤ 255 ∧ CurOk b i' := by
  unfold spec_l1Byte.f
  have := c.low; have := c.high; have := c.short
  by_cases hl : i < (b.length : Int)
  · rw [if_pos hl, if_pos c.low]
    refine ⟨_, _, _, rfl, (and255 _).1, (and255 _).2, ⟨c.bytes, c.short, ?_, ?_⟩⟩
    · rw [w64 (by omega) (by omega)]; omega
    · rw [w64 (by omega) (by omega)]; omega
  · rw [if_neg hl]
    exact ⟨_, _, _, rfl, (and255 _).1, (and255 _).2, c⟩

theorem below_is (b : List Int) (i h n : Int) (c : CurOk b i) (hn : n ≤ 1000000000) : ∃ x i' h', spec_l1Below.f b i h n = some (x, i', h') ∧ 0 ≤ x ∧ (1 ≤ n → x < n) ∧ (n ≤ 0 → x = 0) ∧ CurOk b i' := by
  unfold spec_l1Below.f
  by_cases h0 : n ≤ 0
  · rw [if_pos h0]; exact ⟨0, i, h, rfl, by omega, fun h => by omega, fun _ => rfl, c⟩
  · rw [if_neg h0]
    by_cases h1 : n ≤ 256
    · obtain ⟨x, i', h', e, x0, x1, c'⟩ := byte_is b i h c
      rw [if_pos h1, e, Option.bind_some, if_neg (by omega)]
      refine ⟨_, _, _, rfl, ?_, fun _ => ?_, fun h => by omega, c'⟩
      · dsimp only; rw [Int.tmod_eq_emod_of_nonneg x0]; exact Int.emod_nonneg _ (by omega)
      · dsimp only; rw [Int.tmod_eq_emod_of_nonneg x0]; exact Int.emod_lt_of_pos _ (by omega)
    · obtain ⟨x, i1, h1', e1, x0, x1, c1⟩ := byte_is b i h c
      obtain ⟨y, i2, h2', e2, y0, y1, c2⟩ := byte_is b i1 h1' c1
      obtain ⟨z, i3, h3', e3, z0, z1, c3⟩ := byte_is b i2 h2' c2
      rw [if_neg h1, e1, Option.bind_some, e2, Option.bind_some, e3, Option.bind_some, if_neg (by omega)]
      have ew : wrap64 (wrap64 (wrap64 (x * 65536) + wrap64 (y * 256)) + z) = x * 65536 + y * 256 + z := by
        rw [w64 (x := x * 65536) (by omega) (by omega), w64 (x := y * 256) (by omega) (by omega), w64 (x := x * 65536 + y * 256) (by omega) (by omega), w64 (by omega) (by omega)]
      refine ⟨_, _, _, rfl, ?_, fun _ => ?_, fun h => by omega, c3⟩
      · dsimp only; rw [ew, Int.tmod_eq_emod_of_nonneg (by omega)]; exact Int.emod_nonneg _ (by omega)
      · dsimp only; rw [ew, Int.tmod_eq_emod_of_nonneg (by omega)]; exact Int.emod_lt_of_pos _ (by omega)

theorem pick_is (b : List Int) (i h : Int) (l : List Int) (hl : 1 ≤ l.length) (hl2 : l.length ≤ 1000000000) (c : CurOk b i) : ∃ x i' h', spec_l1Int.f b i h l = some (x, i', h') ∧ x ∈ l ∧ CurOk b i' := by
  obtain ⟨x, i', h', e, x0, x1, _, c'⟩ := below_is b i h l.length c (by omega)
  have := x1 (by omega)
  unfold spec_l1Int.f
  rw [e, Option.bind_some]
  dsimp only
  rw [if_pos x0, if_pos this]
  obtain ⟨j, rfl⟩ := Int.eq_ofNat_of_zero_le x0
  refine ⟨_, _, _, rfl, ?_, c'⟩
  rw [rd_get _ _ (by omega)]; exact List.getElem_mem _

/-! A path that is drawn. -/
theorem draw4_is (b : List Int) (i h id : Int) (c : CurOk b i) : ∃ k f t i' h', spec_l4Draw.f b i h id = some (id, k, f, t, i', h') ∧ 1 ≤ k ∧ k ≤ 3 ∧ 0 ≤ f ∧ f ≤ 3 ∧ 0 ≤ t ∧ t ≤ 3 ∧ (f = t ↔ k = 2) ∧ CurOk b i' := by
  unfold spec_l4Draw.f
  obtain ⟨x, i1, h1, e1, x0, x1, _, c1⟩ := below_is b i h 3 c (by omega)
  obtain ⟨y, i2, h2, e2, y0, y1, _, c2⟩ := below_is b i1 h1 4 c1 (by omega)
  obtain ⟨z, i3, h3, e3, z0, z1, _, c3⟩ := below_is b i2 h2 3 c2 (by omega)
  have := x1 (by omega); have := y1 (by omega); have := z1 (by omega)
  have wx : wrap64 (1 + x) = 1 + x := w64 (by omega) (by omega)
  rw [e1, Option.bind_some]
  dsimp only
  rw [e2, Option.bind_some]
  dsimp only
  rw [wx]
  by_cases hx : 1 + x = 2
  · rw [if_pos hx]
    exact ⟨_, _, _, _, _, rfl, by omega, by omega, y0, by omega, y0, by omega, ⟨fun _ => hx, fun _ => rfl⟩, c2⟩
  · rw [if_neg hx, e3, Option.bind_some]
    dsimp only
    have wz : wrap64 (wrap64 (y + 1) + z) = y + 1 + z := by rw [w64 (x := y + 1) (by omega) (by omega), w64 (by omega) (by omega)]
    rw [wz, Int.tmod_eq_emod_of_nonneg (by omega)]
    refine ⟨_, _, _, _, _, rfl, by omega, by omega, y0, by omega, by omega, by omega, ⟨fun h => by omega, fun h => absurd h hx⟩, c3⟩
theorem raw4_is (b : List Int) (i h : Int) (c : CurOk b i) : ∃ x i' h', spec_l4Raw.f b i h = some (x, i', h') ∧ CurOk b i' := by
  unfold spec_l4Raw.f
  obtain ⟨x, i1, h1, e1, _, c1⟩ := pick_is b i h [(-1), 0, 4, 7, 20, 21, 9223372036854775807, (-9223372036854775808)] (by simp) (by simp) c
  rw [e1, Option.bind_some]
  exact ⟨_, _, _, rfl, c1⟩
theorem any4_is (b : List Int) (i h : Int) (c : CurOk b i) : ∃ p k f t i' h', spec_l4Any.f b i h = some (p, k, f, t, i', h') ∧ CurOk b i' := by
  unfold spec_l4Any.f
  obtain ⟨x, i1, h1, e1, x0, x1, _, c1⟩ := below_is b i h 20 c (by omega)
  rw [e1, Option.bind_some]
  dsimp only
  obtain ⟨k, f, t, i2, h2, e2, _, _, _, _, _, _, _, c2⟩ := draw4_is b i1 h1 (wrap64 (1 + x)) c1
  rw [e2, Option.bind_some]
  dsimp only
  obtain ⟨q, i3, h3, e3, _, _, _, c3⟩ := below_is b i2 h2 10 c2 (by omega)
  rw [e3, Option.bind_some]
  dsimp only
  by_cases q0 : q = 0
  · obtain ⟨y, i4, h4, e4, _, c4⟩ := pick_is b i3 h3 [0, 20, 21] (by simp) (by simp) c3
    rw [if_pos q0, e4, Option.bind_some]; exact ⟨_, _, _, _, _, _, rfl, c4⟩
  rw [if_neg q0]
  by_cases q1 : q = 1
  · obtain ⟨y, i4, h4, e4, _, c4⟩ := pick_is b i3 h3 [0, 2, 4] (by simp) (by simp) c3
    rw [if_pos q1, e4, Option.bind_some]; exact ⟨_, _, _, _, _, _, rfl, c4⟩
  rw [if_neg q1]
  obtain ⟨y, i4, h4, e4, c4⟩ := raw4_is b i3 h3 c3
  by_cases q2 : q = 2
  · rw [if_pos q2, e4, Option.bind_some]; exact ⟨_, _, _, _, _, _, rfl, c4⟩
  rw [if_neg q2]
  by_cases q3 : q = 3
  · rw [if_pos q3, e4, Option.bind_some]; exact ⟨_, _, _, _, _, _, rfl, c4⟩
  rw [if_neg q3]; exact ⟨_, _, _, _, _, _, rfl, c3⟩

def isPathV (a b c d : Int) : Bool := decide (1 ≤ a ∧ a ≤ 20) && (decide (1 ≤ b ∧ b ≤ 3) && (decide (0 ≤ c ∧ c ≤ 3) && (decide (0 ≤ d ∧ d ≤ 3) && ((c == d) == (b == 2)))))
theorem isPathV_iff (a b c d : Int) : isPathV a b c d = true ↔ (1 ≤ a ∧ a ≤ 20) ∧ (1 ≤ b ∧ b ≤ 3) ∧ (0 ≤ c ∧ c ≤ 3) ∧ (0 ≤ d ∧ d ≤ 3) ∧ (c = d ↔ b = 2) := by
  unfold isPathV
  simp only [Bool.and_eq_true, decide_eq_true_eq, beq_iff_eq]
  have : ((c == d) = (b == 2)) ↔ (c = d ↔ b = 2) := by
    rw [Bool.eq_iff_iff]; simp only [beq_iff_eq]
  rw [this]

theorem inr (a b c : Int) : impl_InRange.f a b c = some (decide (b ≤ a ∧ a ≤ c)) := by
  unfold impl_InRange.f
  by_cases h : b ≤ a
  · rw [if_pos h]; congr 1; simp only [decide_eq_decide]; omega
  · rw [if_neg h]; congr 1; symm; simp only [decide_eq_false_iff_not]; omega

theorem iIsPath (a b c d : Int) : impl_IsPath.f a b c d = some (isPathV a b c d) := by
  unfold impl_IsPath.f isPathV
  simp only [inr, Option.bind_some]
  generalize decide (1 ≤ a ∧ a ≤ 20) = p1
  generalize decide (1 ≤ b ∧ b ≤ 3) = p2
  generalize decide (0 ≤ c ∧ c ≤ 3) = p3
  generalize decide (0 ≤ d ∧ d ≤ 3) = p4
  cases p1 <;> cases p2 <;> cases p3 <;> cases p4 <;> rfl

/-- The four numbers are different, from 0 to 7. -/
def ILv (a b c d : Int) : Prop := (0 ≤ a ∧ a ≤ 7) ∧ (0 ≤ b ∧ b ≤ 7) ∧ (0 ≤ c ∧ c ≤ 7) ∧ (0 ≤ d ∧ d ≤ 7) ∧ a ≠ b ∧ a ≠ c ∧ a ≠ d ∧ b ≠ c ∧ b ≠ d ∧ c ≠ d
theorem il_rd (a b c d : Int) : rd [a, b, c, d] 0 = a ∧ rd [a, b, c, d] 1 = b ∧ rd [a, b, c, d] 2 = c ∧ rd [a, b, c, d] 3 = d := ⟨rfl, rfl, rfl, rfl⟩
theorem il_w (i : Int) (h0 : 0 ≤ i) (h1 : i < 4) : wrap64 (i + 1) = i + 1 := by unfold wrap64; omega
/-- What it comes to, of numbers from 0 to 7. -/
def ilW (a b c d : Int) : Bool := decide ((c - a + 8) % 8 < (b - a + 8) % 8) != decide ((d - a + 8) % 8 < (b - a + 8) % 8)
instance (a b c d : Int) : Decidable (ILv a b c d) := by unfold ILv; infer_instance
def ilV (a b c d : Int) : Bool := decide (ILv a b c d) && ilW a b c d

theorem il_R (k : Nat) (a b c d : Int) (l : List Int) (hl : l.length = 4) (n : Int) (i : Int) (h0 : 0 ≤ i) (h1 : i < n) (h2 : i < 4) :
    impl_Interleave.l0 (k + 1) a b c d l n i = if 0 ≤ rd l i ∧ rd l i ≤ 7 then impl_Interleave.l0 k a b c d l n (i + 1) else some false := by
  simp only [impl_Interleave.l0]; rw [if_pos h1, if_pos h0, if_pos (by omega), inr]
  simp only [Option.bind_some, decide_eq_true_eq, il_w i h0 h2]
theorem il_Rend (k : Nat) (a b c d : Int) (l : List Int) (n : Int) (i : Int) (h1 : ¬ i < n) (h : ¬ (a ≠ b ∧ a ≠ c ∧ a ≠ d ∧ b ≠ c ∧ b ≠ d ∧ c ≠ d)) :
    impl_Interleave.l0 (k + 1) a b c d l n i = some false := by
  simp only [impl_Interleave.l0]; rw [if_neg h1]
  repeat' split
  all_goals first | rfl | (exfalso; apply h; omega)
theorem il_impl_no (a b c d : Int) (h : ¬ ILv a b c d) : impl_Interleave.f 40 a b c d = some false := by
  obtain ⟨r0, r1, r2, r3⟩ := il_rd a b c d
  have hl : [a, b, c, d].length = 4 := rfl
  unfold impl_Interleave.f
  rw [Option.bind_some, hl]
  rw [il_R _ _ _ _ _ _ hl _ _ (by omega) (by omega) (by omega), Int.zero_add, r0]
  split
  · rw [il_R _ _ _ _ _ _ hl _ _ (by omega) (by omega) (by omega), show (1 : Int) + 1 = 2 from rfl, r1]
    split
    · rw [il_R _ _ _ _ _ _ hl _ _ (by omega) (by omega) (by omega), show (2 : Int) + 1 = 3 from rfl, r2]
      split
      · rw [il_R _ _ _ _ _ _ hl _ _ (by omega) (by omega) (by omega), show (3 : Int) + 1 = 4 from rfl, r3]
        split
        · exact il_Rend _ a b c d _ _ _ (by omega) (fun h' => h (by unfold ILv; omega))
        · rfl
      · rfl
    · rfl
  · rfl
def ilBothI (a b c d : Fin 8) : Bool :=
  if a ≠ b ∧ a ≠ c ∧ a ≠ d ∧ b ≠ c ∧ b ≠ d ∧ c ≠ d then impl_Interleave.f 40 (a.val : Int) (b.val : Int) (c.val : Int) (d.val : Int) == some (ilW (a.val : Int) (b.val : Int) (c.val : Int) (d.val : Int))
  else true
theorem ilBothI_all : ∀ a b c d : Fin 8, ilBothI a b c d = true := by decide +kernel
theorem il_yesI (a b c d : Int) (h : ILv a b c d) : impl_Interleave.f 40 a b c d = some (ilW a b c d) := by
  obtain ⟨⟨a0, a1⟩, ⟨b0, b1⟩, ⟨c0, c1⟩, ⟨d0, d1⟩, h1, h2, h3, h4, h5, h6⟩ := h
  obtain ⟨a, rfl⟩ := Int.eq_ofNat_of_zero_le a0
  obtain ⟨b, rfl⟩ := Int.eq_ofNat_of_zero_le b0
  obtain ⟨c, rfl⟩ := Int.eq_ofNat_of_zero_le c0
  obtain ⟨d, rfl⟩ := Int.eq_ofNat_of_zero_le d0
  have := ilBothI_all ⟨a, by omega⟩ ⟨b, by omega⟩ ⟨c, by omega⟩ ⟨d, by omega⟩
  unfold ilBothI at this
  rw [if_pos (by simp only [ne_eq, Fin.mk.injEq]; omega)] at this
  exact eq_of_beq this
theorem iIl_eq (k : Nat) (a b c d : Int) (hk : 40 ≤ k) : impl_Interleave.f k a b c d = some (ilV a b c d) := by
  refine at_rounds (fun k => impl_Interleave.mono a b c d k) hk ?_
  unfold ilV
  by_cases h : ILv a b c d
  · rw [il_yesI a b c d h, decide_eq_true h, Bool.true_and]
  · rw [il_impl_no a b c d h, decide_eq_false h, Bool.false_and]

def ilSymB (a b c d : Fin 8) : Bool :=
  let a : Int := a.val; let b : Int := b.val; let c : Int := c.val; let d : Int := d.val
  ilV a b c d == ilV b a c d && ilV a b c d == ilV a b d c && ilV a b c d == ilV c d a b
theorem ilSymB_all : ∀ a b c d : Fin 8, ilSymB a b c d = true := by decide +kernel
theorem ilV_sym (a b c d : Int) : ilV a b c d = ilV b a c d ∧ ilV a b c d = ilV a b d c ∧ ilV a b c d = ilV c d a b := by
  by_cases h : ILv a b c d
  · obtain ⟨⟨a0, a1⟩, ⟨b0, b1⟩, ⟨c0, c1⟩, ⟨d0, d1⟩, _⟩ := h
    obtain ⟨a, rfl⟩ := Int.eq_ofNat_of_zero_le a0
    obtain ⟨b, rfl⟩ := Int.eq_ofNat_of_zero_le b0
    obtain ⟨c, rfl⟩ := Int.eq_ofNat_of_zero_le c0
    obtain ⟨d, rfl⟩ := Int.eq_ofNat_of_zero_le d0
    have := ilSymB_all ⟨a, by omega⟩ ⟨b, by omega⟩ ⟨c, by omega⟩ ⟨d, by omega⟩
    unfold ilSymB at this
    simp only [Bool.and_eq_true, beq_iff_eq] at this
    exact ⟨this.1.1, this.1.2, this.2⟩
  · have n : ∀ x y u v, ¬ ILv x y u v → ilV x y u v = false := fun x y u v h => by unfold ilV; rw [decide_eq_false h, Bool.false_and]
    rw [n a b c d h, n b a c d (fun g => h (by unfold ILv at *; omega)), n a b d c (fun g => h (by unfold ILv at *; omega)), n c d a b (fun g => h (by unfold ILv at *; omega))]
    exact ⟨rfl, rfl, rfl⟩

def ptT (a b c d : Int) : Bool := if isPathV a b c d = true then (match impl_PathText.f a b c d with | some s => decide (s.size ≠ 0) | none => false) && (match impl_TurnOf.f a b c d with | some s => decide (s.size ≠ 0) && ((s.data.toList == [119, 97, 108, 107]) == (b == 2)) | none => false) else true
theorem ptT_all : ∀ (a : Fin 20) (b : Fin 3) (c d : Fin 4), ptT ((a.val : Int) + 1) ((b.val : Int) + 1) (c.val : Int) (d.val : Int) = true := by decide +kernel
theorem ba_ne (s : ByteArray) (h : s.size ≠ 0) : (s.toList != ([] : List UInt8)) = true := by
  rw [ByteArray.toList_eq, bne_iff_ne]
  intro e
  apply h
  have : s.data.toList.length = s.size := by rw [Array.length_toList]; rfl
  rw [← this, e]; rfl
theorem texts (a b c d : Int) (hp : isPathV a b c d = true) : ∃ s t, impl_PathText.f a b c d = some s ∧ impl_TurnOf.f a b c d = some t ∧ (s.toList != ([] : List UInt8)) = true ∧ (t.toList != ([] : List UInt8)) = true ∧ (t.toList == ([119, 97, 108, 107] : List UInt8)) = (b == 2) := by
  obtain ⟨⟨a0, a1⟩, ⟨b0, b1⟩, ⟨c0, c1⟩, ⟨d0, d1⟩, _⟩ := (isPathV_iff a b c d).1 hp
  obtain ⟨a', rfl⟩ := Int.eq_ofNat_of_zero_le (show 0 ≤ a by omega)
  obtain ⟨b', rfl⟩ := Int.eq_ofNat_of_zero_le (show 0 ≤ b by omega)
  obtain ⟨c, rfl⟩ := Int.eq_ofNat_of_zero_le c0
  obtain ⟨d, rfl⟩ := Int.eq_ofNat_of_zero_le d0
  have h := ptT_all ⟨a' - 1, by omega⟩ ⟨b' - 1, by omega⟩ ⟨c, by omega⟩ ⟨d, by omega⟩
  simp only at h
  rw [show ((a' - 1 : Nat) : Int) + 1 = (a' : Int) by omega, show ((b' - 1 : Nat) : Int) + 1 = (b' : Int) by omega] at h
  unfold ptT at h
  rw [if_pos hp, Bool.and_eq_true] at h
  obtain ⟨h1, h2⟩ := h
  cases e1 : impl_PathText.f a' b' c d with
  | none => rw [e1] at h1; cases h1
  | some s =>
    cases e2 : impl_TurnOf.f a' b' c d with
    | none => rw [e2] at h2; cases h2
    | some t =>
      rw [e1] at h1; rw [e2] at h2
      simp only [Bool.and_eq_true, decide_eq_true_eq, beq_iff_eq] at h1 h2
      exact ⟨s, t, rfl, rfl, ba_ne s h1, ba_ne t h2.1, by rw [ByteArray.toList_eq]; exact h2.2⟩
theorem iIn_any (a : Int) : impl_InPlace.f a = some (if 0 ≤ a ∧ a ≤ 3 then 2 * a else -1) ∧ impl_OutPlace.f a = some (if 0 ≤ a ∧ a ≤ 3 then 2 * a + 1 else -1) := by
  unfold impl_InPlace.f impl_OutPlace.f
  rw [inr, Option.bind_some, Option.bind_some]
  by_cases h : 0 ≤ a ∧ a ≤ 3
  · rw [if_pos (decide_eq_true h), if_pos (decide_eq_true h), if_pos h, if_pos h, w64 (x := 2 * a) (by omega) (by omega), w64 (by omega) (by omega)]; exact ⟨rfl, rfl⟩
  · have hd : ¬ (decide (0 ≤ a ∧ a ≤ 3) = true) := by simp only [decide_eq_true_eq]; exact h
    simp only [if_neg hd, if_neg h]; exact ⟨trivial, trivial⟩
theorem FnPaths : laws_FnPaths.Pure := by
  intro l _ _ hw
  have hb : ∀ x ∈ l, 0 ≤ x ∧ x < 256 := fun x hx => u8_wf (hw x hx)
  by_cases hl : l.length ≤ 1048576
  · obtain ⟨h, e0, c0⟩ := new_is l hb hl
    obtain ⟨a, b, c, d, i1, h1, e1, c1⟩ := any4_is l 0 h c0
    obtain ⟨p, i2, h2, e2, hp, c2⟩ := pick_is l 0 h [0, 1, 2, 3, 4, (-1)] (by simp) (by simp) c0
    obtain ⟨x, i3, h3, e3, _, _, _, c3⟩ := below_is l 0 h 8 c0 (by omega)
    obtain ⟨y, i4, h4, e4, _, _, _, c4⟩ := below_is l i3 h3 8 c3 (by omega)
    obtain ⟨u, i5, h5, e5, _, _, _, c5⟩ := below_is l i4 h4 9 c4 (by omega)
    obtain ⟨v, i6, h6, e6, _, _, _, c6⟩ := below_is l i5 h5 9 c5 (by omega)
    obtain ⟨B, hB⟩ : ∃ B, B = l.length + 100 := ⟨_, rfl⟩
    have dI : ∀ k, l.length < k → spec_DrawInterleave.f k l = some (x, y, u, wrap64 (v - 1)) := fun k hk => by
      unfold spec_DrawInterleave.f
      rw [e0 k hk, Option.bind_some]; dsimp only
      rw [e3, Option.bind_some]; dsimp only
      rw [e4, Option.bind_some]; dsimp only
      rw [e5, Option.bind_some]; dsimp only
      rw [e6, Option.bind_some]
    have dP : ∀ k, l.length < k → spec_DrawInPlace.f k l = some p := fun k hk => by
      unfold spec_DrawInPlace.f
      rw [e0 k hk, Option.bind_some]; dsimp only
      rw [e2, Option.bind_some]
    have dA : ∀ k, l.length < k → spec_DrawIsPath.f k l = some (a, b, c, d) := fun k hk => by
      unfold spec_DrawIsPath.f
      rw [e0 k hk, Option.bind_some]; dsimp only
      rw [e1, Option.bind_some]
    generalize wrap64 (v - 1) = w at dI
    have j1 : laws_FnPaths.j1 (B + 1) l false = some true := by
      obtain ⟨s1, s2, s3⟩ := ilV_sym x y u w
      simp only [laws_FnPaths.j1, Bool.false_eq_true, if_false]
      rw [dI B (by omega), Option.bind_some]; dsimp only
      rw [iIl_eq B x y u w (by omega), Option.bind_some, iIl_eq B y x u w (by omega), Option.bind_some, ← s1, beq_self_eq_true, if_pos rfl, iIl_eq B x y w u (by omega), Option.bind_some, ← s2, beq_self_eq_true, if_pos rfl, iIl_eq B u w x y (by omega), Option.bind_some, ← s3, beq_self_eq_true]
    have j0 : laws_FnPaths.j0 (B + 2) l false = some true := by
      obtain ⟨p1, p2⟩ := iIn_any p
      simp only [laws_FnPaths.j0, Bool.false_eq_true, if_false]
      rw [dP (B + 1) (by omega), Option.bind_some, p1, p2]
      simp only [Option.bind_some]
      by_cases hq : 0 ≤ p ∧ p ≤ 3
      · simp only [if_pos hq]
        have e1 : ((2 * p == (-1 : Int)) != (2 * p + 1 == -1)) = false := by rw [beq_eq_false_iff_ne.2 (by omega), beq_eq_false_iff_ne.2 (by omega)]; rfl
        rw [e1, if_neg (by decide), if_pos (by omega), w64 (by omega) (by omega), bne_self_eq_false]; exact j1
      · simp only [if_neg hq]
        rw [if_neg (by decide), if_neg (by decide)]; exact j1
    refine ⟨B + 2, ?_⟩
    unfold laws_FnPaths.f laws_big.f
    rw [Option.bind_some, if_neg (by simp; omega), dA _ (by omega), Option.bind_some]
    dsimp only
    rw [iIsPath, Option.bind_some]
    cases hp : isPathV a b c d with
    | true =>
      obtain ⟨s, t, es, et, s1, t1, t2⟩ := texts a b c d hp
      rw [es, Option.bind_some, s1, et, Option.bind_some, Option.bind_some, Option.bind_some, t1, t2]
      simp only [bne_self_eq_false, Bool.false_eq_true, if_false, Option.bind_some, if_true]
      exact j0
    | false =>
      have es : impl_PathText.f a b c d = some ⟨#[]⟩ := by unfold impl_PathText.f; rw [iIsPath, hp, Option.bind_some, if_neg (by decide)]
      have et : impl_TurnOf.f a b c d = some ⟨#[]⟩ := by unfold impl_TurnOf.f; rw [iIsPath, hp, Option.bind_some, if_neg (by decide)]
      have n1 : ((⟨#[]⟩ : ByteArray).toList != ([] : List UInt8)) = false := by rw [ByteArray.toList_eq]; rfl
      have n2 : ((⟨#[]⟩ : ByteArray).toList == ([119, 97, 108, 107] : List UInt8)) = false := by rw [ByteArray.toList_eq]; rfl
      rw [es, et]
      simp only [Option.bind_some, n1, n2, bne_self_eq_false, Bool.false_eq_true, if_false]
      exact j0
  · refine ⟨0, ?_⟩
    unfold laws_FnPaths.f laws_big.f
    rw [Option.bind_some, if_pos (by simp; omega)]

end Go.Proofs.YtfglfocjoffjpaaDoor.Pure
