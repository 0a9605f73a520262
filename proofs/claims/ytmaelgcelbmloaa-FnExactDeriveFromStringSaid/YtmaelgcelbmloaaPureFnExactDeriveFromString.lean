/- The row of FnExactDeriveFromString: for every int and every string (that fits into memory) the law answers true; no condition. -/
import Derived.Test.YtmaelgcelbmloaaQFnExactDeriveFromStringx1
set_option linter.unusedVariables false
set_option linter.unusedSimpArgs false
namespace Go.Proofs.Ytmaelgcelbmloaa.Pure
open Go.RowKit Go.Proofs.Ytmaelgcelbmloaa.PFnExactDeriveFromString Go.Proofs.YtmaelgcelbmloaaW.PrintWords Go.Proofs.YtmaelgcelbmloaaW.PrintLast

theorem wsucc {i n : Nat} (h : i < n) (hn : n ≤ 9223372036854775807) : wrap64 ((i : Int) + 1) = ((i + 1 : Nat) : Int) := by unfold wrap64; omega
theorem rd_nat (xs : List Int) (i : Nat) : rd xs (i : Int) = xs.getD i 0 := by unfold rd; rw [Int.toNat_natCast]
theorem rd_get (xs : List Int) (i : Nat) (h : i < xs.length) : rd xs (i : Int) = xs[i] := by
  rw [rd_nat, List.getD_eq_getElem?_getD, List.getElem?_eq_getElem h]; rfl
theorem drop_cons {α : Type} (xs : List α) (i : Nat) (h : i < xs.length) : xs.drop i = xs[i] :: xs.drop (i + 1) := (List.drop_eq_getElem_cons h)
theorem set_take {α : Type} (ys : List α) (i : Nat) (v : α) (h : i < ys.length) : (ys.set i v).take (i + 1) = ys.take i ++ [v] := by
  rw [List.take_succ_eq_append_getElem (by simpa using h)]
  rw [List.take_set, List.set_eq_of_length_le (by simp; omega)]
  simp

theorem u8_wf {x : Int} (h : (Lit.int .u8 x).wf = true) : 0 ≤ x ∧ x < 256 := by
  simp [Lit.wf, IntKind.min, IntKind.max, IntKind.bits, IntKind.signed] at h
  omega
theorem i64_wf {x : Int} (h : (Lit.int .i64 x).wf = true) : -9223372036854775808 ≤ x ∧ x ≤ 9223372036854775807 := by
  simp [Lit.wf, IntKind.min, IntKind.max, IntKind.bits, IntKind.signed] at h
  omega

theorem sB2I_go (xs : List Int) (hb : ∀ x ∈ xs, 0 ≤ x ∧ x < 256) (hn : xs.length ≤ 17592186044000) : ∀ (d k : Nat) (i : Nat) (out : List Int), i + d = xs.length → d < k → out.length + d < 17592186044416 →
    spec_BytesToInts.l0 k xs out (i : Int) = some (out ++ xs.drop i) := by
  intro d
  induction d with
  | zero =>
    intro k i out hi hk ho
    obtain ⟨k, rfl⟩ : ∃ m, k = m + 1 := ⟨k - 1, by omega⟩
    simp only [spec_BytesToInts.l0]
    rw [if_neg (by omega), List.drop_of_length_le (by omega), List.append_nil]
  | succ d ih =>
    intro k i out hi hk ho
    obtain ⟨k, rfl⟩ : ∃ m, k = m + 1 := ⟨k - 1, by omega⟩
    simp only [spec_BytesToInts.l0]
    obtain ⟨b0, b1⟩ := hb xs[i] (List.getElem_mem _)
    rw [if_pos (by omega), if_pos (by omega), if_pos (by omega), wsucc (show i < xs.length by omega) (by omega), rd_get _ _ (by omega), ih k (i + 1) _ (by omega) (by omega) (by simp; omega), drop_cons xs i (by omega), show wrap64 xs[i] = xs[i] from by unfold wrap64; omega, List.append_assoc]
    rfl
theorem iB2I_go (xs : List Int) (hb : ∀ x ∈ xs, 0 ≤ x ∧ x < 256) (hn : xs.length ≤ 17592186044000) : ∀ (d k : Nat) (i : Nat) (out : List Int), i + d = xs.length → d < k → out.length + d < 17592186044416 →
    impl_BytesToInts.l0 k out xs (xs.length : Int) (i : Int) = some (out ++ xs.drop i) := by
  intro d
  induction d with
  | zero =>
    intro k i out hi hk ho
    obtain ⟨k, rfl⟩ : ∃ m, k = m + 1 := ⟨k - 1, by omega⟩
    simp only [impl_BytesToInts.l0]
    rw [if_neg (by omega), List.drop_of_length_le (by omega), List.append_nil]
  | succ d ih =>
    intro k i out hi hk ho
    obtain ⟨k, rfl⟩ : ∃ m, k = m + 1 := ⟨k - 1, by omega⟩
    simp only [impl_BytesToInts.l0]
    obtain ⟨b0, b1⟩ := hb xs[i] (List.getElem_mem _)
    rw [if_pos (by omega), if_pos (by omega), if_pos (by omega), if_pos (by omega), wsucc (show i < xs.length by omega) (by omega), rd_get _ _ (by omega), ih k (i + 1) _ (by omega) (by omega) (by simp; omega), drop_cons xs i (by omega), show wrap64 xs[i] = xs[i] from by unfold wrap64; omega, List.append_assoc]
    rfl
theorem sB2I_eq (k : Nat) (l : List Int) (hb : ∀ x ∈ l, 0 ≤ x ∧ x < 256) (hk : l.length < k) (hn : l.length ≤ 17592186044000) : spec_BytesToInts.f k l = some ((l.length : Int) :: l) := by
  unfold spec_BytesToInts.f
  have := sB2I_go l hb hn l.length k 0 [(l.length : Int)] (by omega) hk (by simp; omega)
  rw [Int.natCast_zero] at this
  rw [this]; rfl
theorem iB2I_eq (k : Nat) (l : List Int) (hb : ∀ x ∈ l, 0 ≤ x ∧ x < 256) (hk : l.length < k) (hn : l.length ≤ 17592186044000) : impl_BytesToInts.f k l = some ((l.length : Int) :: l) := by
  unfold impl_BytesToInts.f
  have := iB2I_go l hb hn l.length k 0 [(l.length : Int)] (by omega) hk (by simp; omega)
  rw [Int.natCast_zero] at this
  rw [this]; rfl

theorem w64 {x : Int} (h0 : -9223372036854775808 ≤ x) (h1 : x ≤ 9223372036854775807) : wrap64 x = x := by
  unfold wrap64; omega

theorem tmod_bd (a b : Int) (hb : 1 ≤ b) : -b < Int.tmod a b ∧ Int.tmod a b < b := by
  have h1 := Int.tmod_lt_of_pos a (show 0 < b by omega)
  have h2 := Int.lt_tmod_of_pos a (show 0 < b by omega)
  exact ⟨h2, h1⟩
/-- What both come to. -/
theorem tmod_fix (a b : Int) (hb : 1 ≤ b) : (Int.tmod (Int.tmod a b + b) b) = a % b ∧ (if Int.tmod a b < 0 then Int.tmod a b + b else Int.tmod a b) = a % b := by
  obtain ⟨h1, h2⟩ := tmod_bd a b hb
  have e1 : (Int.tmod a b) % b = a % b := by
    have := Int.tmod_add_mul_tdiv a b
    conv => rhs; rw [← this]
    rw [Int.add_mul_emod_self_left]
  constructor
  · rw [Int.tmod_eq_emod_of_nonneg (by omega), Int.add_emod_right, e1]
  · split
    · rw [← e1, ← Int.add_emod_right]
      exact (Int.emod_eq_of_lt (by omega) (by omega)).symm
    · rw [← e1]; exact (Int.emod_eq_of_lt (by omega) h2).symm

/-- One more value into a hash. -/
def foldV (acc v : Int) : Int := Int.tmod (acc * 1000003 + v % 2147483647 + 13) 2147483647
def hashV (l : List Int) (acc : Int) : Int := l.foldl foldV acc
theorem foldV_bd (acc v : Int) (h0 : 0 ≤ acc) : 0 ≤ foldV acc v ∧ foldV acc v < 2147483647 := by
  unfold foldV
  rw [Int.tmod_eq_emod_of_nonneg (by omega)]; omega
theorem fold_wrap (acc v : Int) (h0 : 0 ≤ acc) (h1 : acc < 2147483647) : Int.tmod (wrap64 (wrap64 (wrap64 (acc * 1000003) + v % 2147483647) + 13)) 2147483647 = foldV acc v := by
  unfold foldV
  rw [w64 (x := acc * 1000003) (by omega) (by omega), w64 (x := acc * 1000003 + v % 2147483647) (by omega) (by omega), w64 (by omega) (by omega)]
theorem hashV_bd (l : List Int) : ∀ acc, 0 ≤ acc → acc < 2147483647 → 0 ≤ hashV l acc ∧ hashV l acc < 2147483647 := by
  induction l with
  | nil => intro acc h0 h1; exact ⟨h0, h1⟩
  | cons v l ih => intro acc h0 h1; obtain ⟨b0, b1⟩ := foldV_bd acc v h0; exact ih _ b0 b1

theorem inr (a b c : Int) : impl_InRange.f a b c = some (decide (b ≤ a ∧ a ≤ c)) := by
  unfold impl_InRange.f
  by_cases h : b ≤ a
  · rw [if_pos h]; congr 1; simp only [decide_eq_decide]; omega
  · rw [if_neg h]; congr 1; symm; simp only [decide_eq_false_iff_not]; omega

theorem iMod (a b : Int) : impl_Mod.f a b = some (if 1 ≤ b ∧ b ≤ 1000000000000 then a % b else 0) := by
  unfold impl_Mod.f
  simp only [inr, Option.bind_some, decide_eq_true_eq]
  by_cases h : 1 ≤ b ∧ b ≤ 1000000000000
  · obtain ⟨h1, h2⟩ := tmod_bd a b h.1
    rw [if_pos h, if_pos h, if_neg (by omega), ← (tmod_fix a b h.1).2]
    split
    · rw [w64 (by omega) (by omega)]
    · rfl
  · rw [if_neg h, if_neg h]

theorem iMod_M (v : Int) : impl_Mod.f v 2147483647 = some (v % 2147483647) := by rw [iMod, if_pos (by omega)]
theorem iFold (acc v : Int) (h0 : 0 ≤ acc) (h1 : acc < 2147483647) : impl_fold.f acc v = some (foldV acc v) := by
  unfold impl_fold.f
  rw [iMod_M, Option.bind_some, fold_wrap acc v h0 h1]

/-- What a keyed hash comes to. -/
def keyedV (key : Int) (l : List Int) : Int := hashV ([key] ++ l ++ [key]) 11
theorem keyedV_bd (key : Int) (l : List Int) : 0 ≤ keyedV key l ∧ keyedV key l < 2147483647 := hashV_bd _ 11 (by omega) (by omega)
theorem iKeyed_go (key : Int) (xs : List Int) (hn : xs.length ≤ 9223372036854775807) : ∀ (d k : Nat) (i : Nat) (acc : Int), i + d = xs.length → d < k → 0 ≤ acc → acc < 2147483647 →
    impl_KeyedHash.l0 k key acc xs (xs.length : Int) (i : Int) = some (foldV (hashV (xs.drop i) acc) key) := by
  intro d
  induction d with
  | zero =>
    intro k i acc hi hk h0 h1
    obtain ⟨k, rfl⟩ : ∃ m, k = m + 1 := ⟨k - 1, by omega⟩
    simp only [impl_KeyedHash.l0]
    rw [if_neg (by omega), List.drop_of_length_le (by omega), iFold acc key h0 h1]; rfl
  | succ d ih =>
    intro k i acc hi hk h0 h1
    obtain ⟨k, rfl⟩ : ∃ m, k = m + 1 := ⟨k - 1, by omega⟩
    simp only [impl_KeyedHash.l0]
    obtain ⟨b0, b1⟩ := foldV_bd acc xs[i] h0
    rw [if_pos (by omega), if_pos (by omega), if_pos (by omega), iFold acc _ h0 h1, Option.bind_some, wsucc (show i < xs.length by omega) hn, rd_get _ _ (by omega), ih k (i + 1) _ (by omega) (by omega) b0 b1, drop_cons xs i (by omega)]
    rfl
theorem iKeyed_eq (k : Nat) (key : Int) (l : List Int) (hk : l.length < k) (hn : l.length ≤ 9223372036854775807) : impl_KeyedHash.f k key l = some (keyedV key l) := by
  unfold impl_KeyedHash.f
  obtain ⟨b0, b1⟩ := foldV_bd 11 key (by omega)
  have := iKeyed_go key l hn l.length k 0 (foldV 11 key) (by omega) hk b0 b1
  rw [Int.natCast_zero] at this
  rw [iFold 11 key (by omega) (by omega), Option.bind_some, this]
  unfold keyedV hashV
  rw [List.foldl_append, List.foldl_append]; rfl

theorem bytesOf_bd (s : ByteArray) : ∀ x ∈ bytesOf s, 0 ≤ x ∧ x < 256 := by
  intro x hx
  unfold bytesOf at hx
  obtain ⟨b, _, rfl⟩ := List.mem_map.1 hx
  have := b.toNat_lt
  omega
def drvV (key : Int) (s : ByteArray) : Int := if keyedV key (((bytesOf s).length : Int) :: bytesOf s) = 0 then 1 else keyedV key (((bytesOf s).length : Int) :: bytesOf s)
theorem drvV_bd (key : Int) (s : ByteArray) : 1 ≤ drvV key s ∧ drvV key s < 2147483647 := by
  have := keyedV_bd key (((bytesOf s).length : Int) :: bytesOf s)
  unfold drvV
  split <;> omega
theorem iDrv_eq (k : Nat) (key : Int) (s : ByteArray) (hk : s.size + 1 < k) (hn : s.size ≤ 1099511627776) : impl_DeriveFromString.f k key s = some (drvV key s) := by
  have hl := bytesOf_length s
  unfold impl_DeriveFromString.f drvV
  rw [if_pos (by omega), iB2I_eq _ _ (bytesOf_bd s) (by omega) (by omega), Option.bind_some, iKeyed_eq _ key _ (by simp only [List.length_cons]; omega) (by simp only [List.length_cons]; omega), Option.bind_some]
  split <;> rfl

theorem in1 (a b c : Int) : spec_l1In.f a b c = some (decide (b ≤ a ∧ a ≤ c)) := by
  unfold spec_l1In.f
  by_cases h : a ≥ b
  · rw [if_pos h]; congr 1; simp only [decide_eq_decide]; omega
  · rw [if_neg h]; congr 1; symm; simp only [decide_eq_false_iff_not]; omega

theorem sMod (a b : Int) : spec_Mod.f a b = some (if 1 ≤ b ∧ b ≤ 1000000000000 then a % b else 0) := by
  unfold spec_Mod.f
  simp only [in1, Option.bind_some, decide_eq_true_eq]
  by_cases h : 1 ≤ b ∧ b ≤ 1000000000000
  · obtain ⟨h1, h2⟩ := tmod_bd a b h.1
    rw [if_pos h, if_pos h, if_neg (by omega), w64 (by omega) (by omega), (tmod_fix a b h.1).1]
  · rw [if_neg h, if_neg h]

theorem sMod_M (v : Int) : spec_Mod.f v 2147483647 = some (v % 2147483647) := by rw [sMod, if_pos (by omega)]
theorem sHash_go (xs : List Int) (hn : xs.length ≤ 9223372036854775807) : ∀ (d k : Nat) (i : Nat) (acc : Int), i + d = xs.length → d < k → 0 ≤ acc → acc < 2147483647 →
    spec_Hash.l0 k xs acc (i : Int) = some (hashV (xs.drop i) acc) := by
  intro d
  induction d with
  | zero =>
    intro k i acc hi hk h0 h1
    obtain ⟨k, rfl⟩ : ∃ m, k = m + 1 := ⟨k - 1, by omega⟩
    simp only [spec_Hash.l0]
    rw [if_neg (by omega), List.drop_of_length_le (by omega)]; rfl
  | succ d ih =>
    intro k i acc hi hk h0 h1
    obtain ⟨k, rfl⟩ : ∃ m, k = m + 1 := ⟨k - 1, by omega⟩
    simp only [spec_Hash.l0]
    obtain ⟨b0, b1⟩ := foldV_bd acc xs[i] h0
    rw [if_pos (by omega), if_pos (by omega), sMod_M, Option.bind_some, fold_wrap acc _ h0 h1, wsucc (show i < xs.length by omega) hn, rd_get _ _ (by omega), ih k (i + 1) _ (by omega) (by omega) b0 b1, drop_cons xs i (by omega)]
    rfl
theorem sHash_eq (k : Nat) (l : List Int) (hk : l.length < k) (hn : l.length ≤ 9223372036854775807) : spec_Hash.f k l = some (hashV l 11) := by
  unfold spec_Hash.f
  have := sHash_go l hn l.length k 0 11 (by omega) hk (by omega) (by omega)
  rw [Int.natCast_zero] at this
  rw [this]; rfl

theorem sKeyed_eq (k : Nat) (key : Int) (l : List Int) (hk : l.length + 2 < k) (hn : l.length ≤ 1099511627776) : spec_KeyedHash.f k key l = some (keyedV key l) := by
  unfold spec_KeyedHash.f
  rw [Option.bind_some, if_pos (by simp; omega), Option.bind_some, if_pos (by simp; omega), sHash_eq k _ (by simp; omega) (by simp; omega)]
  rfl

theorem FnExactDeriveFromString : laws_FnExactDeriveFromString.Pure := by
  intro key s _ hs
  refine ⟨s.size + 5, ?_⟩
  unfold laws_FnExactDeriveFromString.f
  by_cases h : (s.size : Int) > 1048576
  · rw [if_pos h]
  · have hl := bytesOf_length s
    have hb := keyedV_bd key (((bytesOf s).length : Int) :: bytesOf s)
    rw [if_neg h, iDrv_eq _ key s (by omega) (by omega)]
    unfold spec_DeriveFromString.f spec_Max.f drvV
    rw [if_pos (by omega), sB2I_eq _ _ (bytesOf_bd s) (by omega) (by omega), Option.bind_some, sKeyed_eq _ key _ (by simp only [List.length_cons]; omega) (by simp only [List.length_cons]; omega)]
    simp only [Option.bind_some]
    by_cases h0 : keyedV key (((bytesOf s).length : Int) :: bytesOf s) = 0
    · rw [if_neg (by omega), if_pos h0, Option.bind_some, if_pos rfl]
    · rw [if_neg h0]
      by_cases h1 : keyedV key (((bytesOf s).length : Int) :: bytesOf s) > 1
      · rw [if_pos h1, Option.bind_some, if_pos rfl]
      · rw [if_neg h1, Option.bind_some, if_pos (by omega)]

end Go.Proofs.Ytmaelgcelbmloaa.Pure
