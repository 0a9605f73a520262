/- What the row of FnExactFormatInt leans on: for every whole number the law answers true; no condition. -/
import Derived.Test.YtfglfocjoffjpaaDoorQFnExactFormatIntx1
set_option linter.unusedVariables false
set_option linter.unusedSimpArgs false
namespace Go.Proofs.YtfglfocjoffjpaaDoor.Pure
open Go.RowKit Go.Proofs.YtfglfocjoffjpaaDoor.PFnExactFormatInt Go.Proofs.YtfglfocjoffjpaaDoorW.PrintWords Go.Proofs.YtfglfocjoffjpaaDoorW.PrintLast

theorem w64 {x : Int} (h0 : -9223372036854775808 ≤ x) (h1 : x ≤ 9223372036854775807) : wrap64 x = x := by
  unfold wrap64; omega

/-! The reference's decimal form is strconv's numeral. -/
def digsL (u : Nat) : List UInt8 := if u = 0 then [] else Lib.decDigits u
def signL (n : Int) : List UInt8 := if n < 0 then [45] else []
theorem digsL_step (u : Nat) (h : 0 < u) : digsL u = digsL (u / 10) ++ [UInt8.ofNat (48 + u % 10)] := by
  unfold digsL
  rw [if_neg (by omega), Lib.decDigits]
  by_cases h10 : u < 10
  · rw [dif_pos h10, if_pos (by omega), List.nil_append, Nat.mod_eq_of_lt h10]
  · rw [dif_neg h10, if_neg (by omega)]
theorem strOne (c : Nat) (l : List UInt8) : strOfNums [(c : Int)] ++ (⟨l.toArray⟩ : ByteArray) = ⟨(UInt8.ofNat c :: l).toArray⟩ := by
  unfold strOfNums
  rw [ByteArray.mk_append_mk]
  congr 1
theorem strOne_size (c : Int) : (strOfNums [c]).size = 1 := rfl
theorem dig10 (u : Nat) (hu : u ≤ 9223372036854775808) (g : Bool) (x : Int) (hx : x = if g = true then -(u : Int) else (u : Int)) :
    (Int.tmod x 10 < 0 → wrap64 (48 + wrap64 (-(Int.tmod x 10))) % 256 = ((48 + u % 10 : Nat) : Int)) ∧ (¬ Int.tmod x 10 < 0 → wrap64 (48 + Int.tmod x 10) % 256 = ((48 + u % 10 : Nat) : Int)) ∧
    wrap64 (Int.tdiv x 10) = if g = true then -((u / 10 : Nat) : Int) else ((u / 10 : Nat) : Int) := by
  have e1 : Int.tmod (u : Int) 10 = ((u % 10 : Nat) : Int) := by rw [Int.tmod_eq_emod_of_nonneg (by omega)]; omega
  have e2 : Int.tdiv (u : Int) 10 = ((u / 10 : Nat) : Int) := by rw [Int.tdiv_eq_ediv_of_nonneg (by omega)]; omega
  have h9 : u % 10 < 10 := Nat.mod_lt _ (by decide)
  cases g with
  | true =>
    rw [if_pos rfl] at hx
    rw [hx, Int.neg_tmod, Int.neg_tdiv, e1, e2, if_pos rfl]
    refine ⟨fun h => ?_, fun h => ?_, w64 (by omega) (by omega)⟩
    · rw [Int.neg_neg, w64 (x := ((u % 10 : Nat) : Int)) (by omega) (by omega), w64 (by omega) (by omega)]; omega
    · rw [w64 (by omega) (by omega)]; omega
  | false =>
    rw [if_neg (by decide)] at hx
    rw [hx, e1, e2, if_neg (by decide)]
    refine ⟨fun h => by omega, fun h => ?_, w64 (by omega) (by omega)⟩
    rw [w64 (by omega) (by omega)]; omega
theorem fmtI_go (n : Int) : ∀ (d k u : Nat) (x : Int) (l : List UInt8), x = (if decide (n < 0) = true then -(u : Int) else (u : Int)) → u < 10 ^ d → u ≤ 9223372036854775808 → d < k → l.length + d ≤ 60 →
    spec_FormatInt.l0 k n ⟨l.toArray⟩ x = some ⟨(signL n ++ digsL u ++ l).toArray⟩ := by
  have zero : ∀ (k : Nat) (x : Int) (l : List UInt8), x = 0 → 0 < k → l.length ≤ 60 → spec_FormatInt.l0 k n ⟨l.toArray⟩ x = some ⟨(signL n ++ digsL 0 ++ l).toArray⟩ := by
    intro k x l hx hk hl
    obtain ⟨k, rfl⟩ : ∃ m, k = m + 1 := ⟨k - 1, by omega⟩
    have hs : (⟨l.toArray⟩ : ByteArray).size = l.length := by show l.toArray.size = _; simp
    have hd0 : digsL 0 = [] := rfl
    simp only [spec_FormatInt.l0]
    rw [if_pos hx]
    unfold signL
    by_cases hn : n < 0
    · rw [if_pos hn, if_pos hn, if_pos (by omega), hd0]
      rw [show (⟨#[45]⟩ : ByteArray) = ⟨([45] : List UInt8).toArray⟩ from rfl, ByteArray.mk_append_mk]
      congr 2
    · rw [if_neg hn, if_neg hn, hd0]; rfl
  intro d
  induction d with
  | zero =>
    intro k u x l hx hu _ hk hl
    have : u = 0 := by simpa using hu
    subst this
    exact zero k x l (by rw [hx]; split <;> rfl) (by omega) (by omega)
  | succ d ih =>
    intro k u x l hx hu hu2 hk hl
    by_cases h0 : u = 0
    · subst h0
      exact zero k x l (by rw [hx]; split <;> rfl) (by omega) (by omega)
    · obtain ⟨k, rfl⟩ : ∃ m, k = m + 1 := ⟨k - 1, by omega⟩
      obtain ⟨d1, d2, d3⟩ := dig10 u hu2 (decide (n < 0)) x hx
      have hs : (⟨l.toArray⟩ : ByteArray).size = l.length := by show l.toArray.size = _; simp
      have hx0 : ¬ x = 0 := by rw [hx]; split <;> omega
      have hp : u < 10 ^ d * 10 := by rw [← Nat.pow_succ]; exact hu
      have nxt := ih k (u / 10) (wrap64 (Int.tdiv x 10)) (UInt8.ofNat (48 + u % 10) :: l) d3 (by omega) (by omega) (by omega) (by simp only [List.length_cons]; omega)
      simp only [spec_FormatInt.l0]
      rw [if_neg hx0]
      have fin : signL n ++ digsL (u / 10) ++ (UInt8.ofNat (48 + u % 10) :: l) = signL n ++ digsL u ++ l := by rw [digsL_step u (by omega)]; simp
      rw [fin] at nxt
      by_cases ht : Int.tmod x 10 < 0
      · rw [if_pos ht, Option.bind_some, d1 ht, if_pos (by rw [strOne_size]; omega), strOne]; exact nxt
      · rw [if_neg ht, Option.bind_some, d2 ht, if_pos (by rw [strOne_size]; omega), strOne]; exact nxt
theorem sFmt_eq (n : Int) (h0 : -9223372036854775808 ≤ n) (h1 : n ≤ 9223372036854775807) (k : Nat) (hk : 20 < k) : spec_FormatInt.f k n = some ⟨(Lib.itoa n).toArray⟩ := by
  unfold spec_FormatInt.f
  by_cases hn : n = 0
  · subst hn
    rw [if_pos rfl]
    have : Lib.itoa 0 = [48] := by unfold Lib.itoa; rw [if_neg (by decide), Lib.decDigits, dif_pos (by decide)]; rfl
    rw [this]
  · rw [if_neg hn]
    have := fmtI_go n 20 k n.natAbs n [] (by by_cases h : n < 0 <;> simp [h] <;> omega) (by omega) (by omega) hk (by simp)
    rw [show (⟨#[]⟩ : ByteArray) = ⟨([] : List UInt8).toArray⟩ from rfl, this]
    congr 2
    unfold Lib.itoa signL digsL
    rw [if_neg (show ¬ n.natAbs = 0 by omega)]
    by_cases h : n < 0
    · rw [if_pos h, if_pos h]; simp
    · rw [if_neg h, if_neg h, show n.natAbs = n.toNat by omega]; simp
theorem iFmt_eq (n : Int) (h0 : -9223372036854775808 ≤ n) (h1 : n ≤ 9223372036854775807) : impl_FormatInt.f n = some ⟨(Lib.itoa n).toArray⟩ := by
  unfold impl_FormatInt.f; rw [if_pos ⟨h0, h1⟩]

theorem u8_wf {x : Int} (h : (Lit.int .u8 x).wf = true) : 0 ≤ x ∧ x < 256 := by
  simp [Lit.wf, IntKind.min, IntKind.max, IntKind.bits, IntKind.signed] at h
  omega
theorem i64_wf {x : Int} (h : (Lit.int .i64 x).wf = true) : -9223372036854775808 ≤ x ∧ x ≤ 9223372036854775807 := by
  simp [Lit.wf, IntKind.min, IntKind.max, IntKind.bits, IntKind.signed] at h
  omega

theorem FnExactFormatInt : laws_FnExactFormatInt.Pure := by
  intro n hn
  have hw := i64_wf hn
  refine ⟨30, ?_⟩
  unfold laws_FnExactFormatInt.f
  rw [sFmt_eq n hw.1 hw.2 30 (by omega), Option.bind_some, iFmt_eq n hw.1 hw.2, Option.bind_some, if_pos rfl]

end Go.Proofs.YtfglfocjoffjpaaDoor.Pure
