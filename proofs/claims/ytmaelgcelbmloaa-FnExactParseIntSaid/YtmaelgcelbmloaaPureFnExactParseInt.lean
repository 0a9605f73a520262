/- The row of FnExactParseInt: for every string (that fits into memory) the law answers true; no condition. -/
import Derived.Test.YtmaelgcelbmloaaPFnExactParseIntx1
set_option linter.unusedVariables false
set_option linter.unusedSimpArgs false
namespace Go.Proofs.Ytmaelgcelbmloaa.Pure
open Go.RowKit Go.Proofs.Ytmaelgcelbmloaa.PFnExactParseInt Go.Proofs.YtmaelgcelbmloaaW.PrintWords Go.Proofs.YtmaelgcelbmloaaW.PrintLast

theorem in1 (a b c : Int) : spec_l1In.f a b c = some (decide (b ≤ a ∧ a ≤ c)) := by
  unfold spec_l1In.f
  by_cases h : a ≥ b
  · rw [if_pos h]; congr 1; simp only [decide_eq_decide]; omega
  · rw [if_neg h]; congr 1; symm; simp only [decide_eq_false_iff_not]; omega

theorem wsucc {i n : Nat} (h : i < n) (hn : n ≤ 9223372036854775807) : wrap64 ((i : Int) + 1) = ((i + 1 : Nat) : Int) := by unfold wrap64; omega
theorem rd_nat (xs : List Int) (i : Nat) : rd xs (i : Int) = xs.getD i 0 := by unfold rd; rw [Int.toNat_natCast]
theorem rd_get (xs : List Int) (i : Nat) (h : i < xs.length) : rd xs (i : Int) = xs[i] := by
  rw [rd_nat, List.getD_eq_getElem?_getD, List.getElem?_eq_getElem h]; rfl
theorem drop_cons {α : Type} (xs : List α) (i : Nat) (h : i < xs.length) : xs.drop i = xs[i] :: xs.drop (i + 1) := (List.drop_eq_getElem_cons h)
theorem set_take {α : Type} (ys : List α) (i : Nat) (v : α) (h : i < ys.length) : (ys.set i v).take (i + 1) = ys.take i ++ [v] := by
  rw [List.take_succ_eq_append_getElem (by simpa using h)]
  rw [List.take_set, List.set_eq_of_length_le (by simp; omega)]
  simp

theorem w64 {x : Int} (h0 : -9223372036854775808 ≤ x) (h1 : x ≤ 9223372036854775807) : wrap64 x = x := by
  unfold wrap64; omega

/-- The value of the first i digits. -/
def pv (s : ByteArray) : Nat → Int | 0 => 0 | i + 1 => 10 * pv s i + (bt s i - 48)
/-- The string from i on. -/
def sfx (s : ByteArray) (i : Nat) : ByteArray := ⟨(s.data.toList.drop i).toArray⟩
def Dig (s : ByteArray) (i : Nat) : Prop := ∀ j, j < i → 48 ≤ bt s j ∧ bt s j ≤ 57
theorem pv_bd (s : ByteArray) : ∀ i, i ≤ 13 → Dig s i → 0 ≤ pv s i ∧ pv s i < 10 ^ i := by
  intro i
  induction i with
  | zero => intro _ _; simp [pv]
  | succ i ih =>
    intro hi hd
    obtain ⟨h0, h1⟩ := ih (by omega) (fun j hj => hd j (by omega))
    obtain ⟨d0, d1⟩ := hd i (by omega)
    have hp : (10 : Int) ^ (i + 1) = 10 ^ i * 10 := Int.pow_succ ..
    simp only [pv]
    omega
theorem pv_bd13 (s : ByteArray) (i : Nat) (hi : i ≤ 13) (hd : Dig s i) : 0 ≤ pv s i ∧ pv s i < 10000000000000 := by
  obtain ⟨h0, h1⟩ := pv_bd s i hi hd
  have : (10 : Nat) ^ i ≤ 10 ^ 13 := Nat.pow_le_pow_right (by decide) hi
  have h2 : (10 : Int) ^ i = ((10 ^ i : Nat) : Int) := by simp
  rw [h2] at h1
  omega
theorem bt_nat (s : ByteArray) (i : Nat) (h : i < s.size) : bt s (i : Int) = ((s.data.toList[i]'h).toNat : Int) := by
  have e := bt_at s (i : Int) (by rw [Int.toNat_natCast]; exact h)
  rw [← e]
  simp only [Int.toNat_natCast]
  rfl
theorem sfx_cons (s : ByteArray) (i : Nat) (h : i < s.size) (h0 : 0 ≤ bt s i) : strOfNums [bt s i] ++ sfx s (i + 1) = sfx s i := by
  unfold sfx strOfNums
  rw [ByteArray.mk_append_mk]
  congr 2
  rw [List.drop_eq_getElem_cons (show i < s.data.toList.length from h), bt_nat s i h]
  simp
theorem sfx_zero (s : ByteArray) : (sfx s 0).toList = s.toList := by rw [ByteArray.toList_eq, ByteArray.toList_eq]; simp [sfx]
theorem sfx_size (s : ByteArray) (i : Nat) : (sfx s i).size ≤ s.size := by
  show (List.toArray (s.data.toList.drop i)).size ≤ s.data.size
  simp
theorem fmt_step (p c : Int) (hp : 0 ≤ p) (hp1 : p < 1000000000000000) (h0 : 48 ≤ c) (h1 : c ≤ 57) : ¬ (Int.tmod (10 * p + (c - 48)) 10 < 0) ∧ wrap64 (48 + Int.tmod (10 * p + (c - 48)) 10) % 256 = c ∧ wrap64 (Int.tdiv (10 * p + (c - 48)) 10) = p := by
  have e : Int.tmod (10 * p + (c - 48)) 10 = c - 48 := by rw [Int.tmod_eq_emod_of_nonneg (by omega)]; omega
  have f : Int.tdiv (10 * p + (c - 48)) 10 = p := by rw [Int.tdiv_eq_ediv_of_nonneg (by omega)]; omega
  rw [e, f]
  refine ⟨by omega, ?_, w64 (by omega) (by omega)⟩
  rw [w64 (by omega) (by omega)]; omega
theorem fmt_go (s : ByteArray) (hm : s.size ≤ 13) (hd : Dig s s.size) (hz : 49 ≤ bt s 0) (n : Int) (hn : 0 ≤ n) : ∀ (i k : Nat), i ≤ s.size → i < k → spec_FormatInt.l0 k n (sfx s i) (pv s i) = some (sfx s 0) := by
  intro i
  induction i with
  | zero =>
    intro k _ hk
    obtain ⟨k, rfl⟩ : ∃ m, k = m + 1 := ⟨k - 1, by omega⟩
    simp only [spec_FormatInt.l0, pv, if_true]
    rw [if_neg (by omega)]
  | succ i ih =>
    intro k hi hk
    obtain ⟨k, rfl⟩ : ∃ m, k = m + 1 := ⟨k - 1, by omega⟩
    obtain ⟨b0, b1⟩ := pv_bd13 s i (by omega) (fun j hj => hd j (by omega))
    obtain ⟨d0, d1⟩ := hd i (by omega)
    have hpos : ¬ (10 * pv s i + (bt s i - 48) = 0) := by
      cases i with
      | zero => simp only [pv]; simp at hz ⊢; omega
      | succ i =>
        have : ∀ j, 1 ≤ j → j ≤ i + 1 → 1 ≤ pv s j := by
          intro j
          induction j with
          | zero => intro h; omega
          | succ j ih2 =>
            intro _ hj
            obtain ⟨e0, e1⟩ := hd j (by omega)
            simp only [pv]
            cases j with
            | zero => simp only [pv]; simp at hz ⊢; omega
            | succ j => have := ih2 (by omega) (by omega); omega
        have := this (i + 1) (by omega) (by omega)
        omega
    obtain ⟨f1, f2, f3⟩ := fmt_step (pv s i) (bt s i) b0 (by omega) d0 d1
    simp only [spec_FormatInt.l0]
    rw [show pv s (i + 1) = 10 * pv s i + (bt s i - 48) from rfl]
    have hs := sfx_size s (i + 1)
    have h1 : (strOfNums [bt s i]).size = 1 := by rw [strOfNums_size]; rfl
    rw [if_neg hpos, if_neg f1, Option.bind_some, f2, f3, if_pos (by omega), sfx_cons s i (by omega) (by omega)]
    exact ih k (by omega) (by omega)
theorem fmt_short (s : ByteArray) (hm : s.size ≤ 13) (hd : Dig s s.size) (hz : bt s 0 = 48) (n : Int) (hn : 0 ≤ n) : ∀ (i k : Nat) (out : ByteArray), 1 ≤ i → i ≤ s.size → i < k → out.size + i ≤ s.size →
    ∃ r, spec_FormatInt.l0 k n out (pv s i) = some r ∧ r.size + 1 ≤ s.size := by
  intro i
  induction i with
  | zero => intro k out h; omega
  | succ i ih =>
    intro k out _ hi hk ho
    obtain ⟨k, rfl⟩ : ∃ m, k = m + 1 := ⟨k - 1, by omega⟩
    obtain ⟨b0, b1⟩ := pv_bd13 s i (by omega) (fun j hj => hd j (by omega))
    obtain ⟨d0, d1⟩ := hd i (by omega)
    simp only [spec_FormatInt.l0]
    rw [show pv s (i + 1) = 10 * pv s i + (bt s i - 48) from rfl]
    by_cases hpos : 10 * pv s i + (bt s i - 48) = 0
    · rw [if_pos hpos, if_neg (by omega)]
      exact ⟨out, rfl, by omega⟩
    · cases i with
      | zero => exfalso; apply hpos; simp only [pv]; simp at hz ⊢; omega
      | succ i =>
        obtain ⟨f1, f2, f3⟩ := fmt_step (pv s (i + 1)) (bt s ((i + 1 : Nat) : Int)) b0 (by omega) d0 d1
        have h1 : (strOfNums [bt s ((i + 1 : Nat) : Int)]).size = 1 := by rw [strOfNums_size]; rfl
        rw [if_neg hpos, if_neg f1, Option.bind_some, f2, f3, if_pos (by omega)]
        exact ih k _ (by omega) (by omega) (by omega) (by rw [ByteArray.size_append, h1]; omega)
/-- The decimal form of the value of digits is the digits, where no zero leads. -/
theorem fmt_eq (s : ByteArray) (h1 : 1 ≤ s.size) (hm : s.size ≤ 13) (hd : Dig s s.size) (k : Nat) (hk : 14 < k) :
    ∃ r, spec_FormatInt.f k (pv s s.size) = some r ∧ (r.toList = s.toList ↔ (s.size = 1 ∨ bt s 0 ≠ 48)) := by
  obtain ⟨b0, b1⟩ := pv_bd13 s s.size hm hd
  obtain ⟨d0, d1⟩ := hd 0 (by omega)
  have hn0 : s.toList.length = s.size := by rw [ByteArray.toList_eq]; rfl
  unfold spec_FormatInt.f
  by_cases hz : bt s 0 = 48
  · by_cases hp : pv s s.size = 0
    · rw [if_pos hp]
      refine ⟨_, rfl, ?_⟩
      by_cases h2 : s.size = 1
      · refine ⟨fun _ => Or.inl h2, fun _ => ?_⟩
        rw [ByteArray.toList_eq, ByteArray.toList_eq]
        have e := bt_nat s 0 (by omega)
        rw [Int.natCast_zero] at e
        rw [e] at hz
        have hl : s.data.toList.length = 1 := h2
        match hc : s.data.toList, hl with
        | [c], _ =>
          simp only [hc] at hz
          have : c = 48 := by
            apply UInt8.toNat_inj.1
            have : (c.toNat : Int) = 48 := hz
            show c.toNat = 48
            omega
          rw [this]
      · refine ⟨fun h => ?_, fun h => ?_⟩
        · exfalso; apply h2; have := congrArg List.length h; rw [hn0, ByteArray.toList_eq] at this; exact this.symm
        · rcases h with h | h
          · exact absurd h h2
          · exact absurd hz h
    · rw [if_neg hp]
      obtain ⟨r, hr, hr2⟩ := fmt_short s hm hd hz (pv s s.size) b0 s.size k ⟨#[]⟩ h1 (by omega) (by omega) (by show 0 + s.size ≤ s.size; omega)
      refine ⟨r, hr, fun h => ?_, fun h => ?_⟩
      · exfalso; have := congrArg List.length h; rw [hn0, ByteArray.toList_eq] at this
        have h3 : r.data.toList.length = r.size := rfl
        omega
      · rcases h with h | h
        · exfalso; apply hp; rw [h]; simp only [pv]; simp at hz ⊢; omega
        · exact absurd hz h
  · have hp : ¬ pv s s.size = 0 := by
      have : ∀ j, 1 ≤ j → j ≤ s.size → 1 ≤ pv s j := by
        intro j
        induction j with
        | zero => intro h; omega
        | succ j ih2 =>
          intro _ hj
          obtain ⟨e0, e1⟩ := hd j (by omega)
          simp only [pv]
          cases j with
          | zero => simp only [pv]; simp at d0 hz ⊢; omega
          | succ j => have := ih2 (by omega) (by omega); omega
      have := this s.size h1 (by omega)
      omega
    rw [if_neg hp]
    refine ⟨sfx s 0, ?_, fun _ => Or.inr hz, fun _ => sfx_zero s⟩
    have e : (⟨#[]⟩ : ByteArray) = sfx s s.size := by
      unfold sfx; rw [List.drop_of_length_le (by exact Nat.le_refl _)]
    rw [e]
    exact fmt_go s hm hd (by simp at d0 hz ⊢; omega) _ b0 s.size k (by omega) (by omega)
/-- What is answered from digit i on, d digits left; g: is the form the right one? -/
def resV (s : ByteArray) (g : Bool) : Nat → Nat → Int × Bool
  | 0, i => if pv s i > 1000000000000 then (0, false) else if g then (pv s i, true) else (0, false)
  | d + 1, i => if bt s i < 48 then (0, false) else if bt s i > 57 then (0, false) else resV s g d (i + 1)
theorem resV_no (s : ByteArray) : ∀ d i, resV s false d i = (0, false) := by
  intro d
  induction d with
  | zero => intro i; simp [resV]
  | succ d ih => intro i; simp only [resV, ih, ite_self]
theorem dig_wrap (p c : Int) (hp : 0 ≤ p) (hp1 : p < 10000000000000) (h0 : 48 ≤ c) (h1 : c ≤ 57) : wrap64 (wrap64 (10 * p) + (c - 48) % 256) = 10 * p + (c - 48) := by
  rw [w64 (x := 10 * p) (by omega) (by omega), Int.emod_eq_of_lt (by omega) (by omega), w64 (by omega) (by omega)]
theorem iParse_go (s : ByteArray) (hm : s.size ≤ 13) : ∀ (d k i : Nat), i + d = s.size → d < k → Dig s i → impl_ParseInt.l0 k s (pv s i) (s.size : Int) (i : Int) = some (resV s true d i) := by
  intro d
  induction d with
  | zero =>
    intro k i hi hk hd
    obtain ⟨k, rfl⟩ : ∃ m, k = m + 1 := ⟨k - 1, by omega⟩
    simp only [impl_ParseInt.l0, resV]
    rw [if_neg (by omega)]
    split <;> simp
  | succ d ih =>
    intro k i hi hk hd
    obtain ⟨k, rfl⟩ : ∃ m, k = m + 1 := ⟨k - 1, by omega⟩
    simp only [impl_ParseInt.l0, resV]
    rw [if_pos (by omega), if_pos (by omega), if_pos (by omega)]
    by_cases h1 : bt s i < 48
    · rw [if_pos h1, if_pos h1]
    · by_cases h2 : bt s i > 57
      · rw [if_neg h1, if_pos h2, if_neg h1, if_pos h2]
      · obtain ⟨b0, b1⟩ := pv_bd13 s i (by omega) hd
        rw [if_neg h1, if_neg h2, if_neg h1, if_neg h2, dig_wrap _ _ b0 b1 (by omega) (by omega), wsucc (show i < s.size by omega) (by omega)]
        exact ih k (i + 1) (by omega) (by omega) (fun j hj => by
          rcases Nat.lt_succ_iff_lt_or_eq.1 hj with h | rfl
          · exact hd j h
          · omega)
theorem sParse_go (s : ByteArray) (h1s : 1 ≤ s.size) (hm : s.size ≤ 13) : ∀ (d k i : Nat), i + d = s.size → d + 16 < k → Dig s i → spec_ParseInt.l0 k s (pv s i) (i : Int) = some (resV s (decide (s.size = 1 ∨ bt s 0 ≠ 48)) d i) := by
  intro d
  induction d with
  | zero =>
    intro k i hi hk hd
    obtain ⟨k, rfl⟩ : ∃ m, k = m + 1 := ⟨k - 1, by omega⟩
    simp only [spec_ParseInt.l0, resV]
    rw [if_neg (by omega)]
    obtain rfl : i = s.size := by omega
    split
    · rfl
    · obtain ⟨r, hr, hiff⟩ := fmt_eq s h1s hm hd k (by omega)
      rw [hr, Option.bind_some]
      by_cases hc : s.size = 1 ∨ bt s 0 ≠ 48
      · rw [if_pos (hiff.2 hc), decide_eq_true hc, if_pos rfl]
      · rw [if_neg (fun h => hc (hiff.1 h)), decide_eq_false hc]; rfl
  | succ d ih =>
    intro k i hi hk hd
    obtain ⟨k, rfl⟩ : ∃ m, k = m + 1 := ⟨k - 1, by omega⟩
    simp only [spec_ParseInt.l0, resV]
    obtain ⟨r0, r1⟩ := bt_range s i
    rw [if_pos (by omega), if_pos (by omega), w64 (x := bt s i) (by omega) (by omega), in1, Option.bind_some]
    by_cases h1 : bt s i < 48
    · rw [if_pos h1, if_neg (by simp; omega)]
    · by_cases h2 : bt s i > 57
      · rw [if_neg h1, if_pos h2, if_neg (by simp; omega)]
      · obtain ⟨b0, b1⟩ := pv_bd13 s i (by omega) hd
        rw [if_neg h1, if_neg h2, if_pos (by simp; omega), dig_wrap _ _ b0 b1 (by omega) (by omega), wsucc (show i < s.size by omega) (by omega)]
        exact ih k (i + 1) (by omega) (by omega) (fun j hj => by
          rcases Nat.lt_succ_iff_lt_or_eq.1 hj with h | rfl
          · exact hd j h
          · omega)
def parseV (s : ByteArray) : Int × Bool := if 1 ≤ s.size ∧ s.size ≤ 13 then resV s (decide (s.size = 1 ∨ bt s 0 ≠ 48)) s.size 0 else (0, false)
theorem sParse_eq (k : Nat) (s : ByteArray) (hk : 40 < k) : spec_ParseInt.f k s = some (parseV s) := by
  unfold spec_ParseInt.f parseV
  rw [in1, Option.bind_some]
  by_cases h : 1 ≤ s.size ∧ s.size ≤ 13
  · rw [if_pos (by simp; omega), if_pos h]
    have := sParse_go s h.1 h.2 s.size k 0 (by omega) (by omega) (fun j hj => absurd hj (by omega))
    rw [Int.natCast_zero] at this
    exact this
  · rw [if_neg (by simp; omega), if_neg h]
theorem iParse_eq (k : Nat) (s : ByteArray) (hk : 40 < k) : impl_ParseInt.f k s = some (parseV s) := by
  obtain ⟨k, rfl⟩ : ∃ m, k = m + 1 := ⟨k - 1, by omega⟩
  unfold impl_ParseInt.f parseV
  have hj0 : ∀ b, impl_ParseInt.j0 (k + 1) s b = if b = true then some (0, false) else impl_ParseInt.l0 k s 0 (s.size : Int) 0 := fun b => by simp only [impl_ParseInt.j0]
  by_cases h0 : s.size = 0
  · rw [if_pos (by omega), hj0, if_pos rfl, if_neg (by omega)]
  · rw [if_neg (by omega)]
    by_cases h1 : s.size > 13
    · rw [if_pos (by omega), hj0, if_pos rfl, if_neg (by omega)]
    · have go := iParse_go s (by omega) s.size k 0 (by omega) (by omega) (fun j hj => absurd hj (by omega))
      rw [Int.natCast_zero] at go
      have hb : bt s (0 : Int) = bt s ((0 : Nat) : Int) := rfl
      rw [if_neg (by omega), if_pos (show 1 ≤ s.size ∧ s.size ≤ 13 by omega)]
      by_cases h2 : s.size = 1
      · rw [if_neg (by omega), hj0, if_neg (by decide), decide_eq_true (Or.inl h2)]
        exact go
      · rw [if_pos (by omega), if_pos (by omega), hj0]
        by_cases h3 : bt s 0 = 48
        · rw [if_pos (by rw [h3]; rfl), decide_eq_false (by rintro (h | h); exact h2 h; exact h h3), resV_no]
        · rw [if_neg (by rw [beq_iff_eq]; exact h3), decide_eq_true (Or.inr h3)]
          exact go

theorem FnExactParseInt : laws_FnExactParseInt.Pure := by
  intro s _
  refine ⟨60, ?_⟩
  unfold laws_FnExactParseInt.f
  split
  · rfl
  · rw [sParse_eq 60 s (by omega), iParse_eq 60 s (by omega)]
    simp

end Go.Proofs.Ytmaelgcelbmloaa.Pure
